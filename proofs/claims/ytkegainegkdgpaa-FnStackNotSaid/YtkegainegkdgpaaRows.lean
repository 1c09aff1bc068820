/-
  No cell of these rows narrows 'for every input' (looked for: loops, veiled, ifaces, maps, wideKeys, modest, calm, conditions, laid).
  DERIVED. THE GIVEN ROWS OF THIS SEAT. 10 by the template 'for every input the law returns true; each argument reads behind the call as it read before'; 0 by the template 'total and deterministic' (their statements: YtkegainegkdgpaaTotals.lean).
  GIVEN WITH THE SEED: the statements are not yours to turn. If you find one false, say at which input.
  Laid BY PROGRAM, IN A SANDBOX (cutbox-rows.mjs): the forced cells as the released guide's own fill.sh prints them over the translation 30e8cc57c9fbdc4f… (all of the seat's roots in one cut). By AI agents, Wed Nov 11 2026. No macro, syntax, notation, axiom, sorry.
-/
import Derived.Test.YtkegainegkdgpaaChecked
import GoSem.Claim
import GoSem.ClaimJoined
import GoSem.ClaimMapViews
import Derived.JoinedTies
import Derived.KernelRfl
namespace Go.Proofs.Ytkegainegkdgpaa
/- THE CELL 'sum', in the pinned program and in every row, IS THE sha256 OF THE DUMP (.gsa) THAT YtkegainegkdgpaaProg.lean LOADS. Nothing in Lean hashes anything: it is a label: what it is worth is what the hold of that sum in a sandbox is worth. -/
noncomputable def Try.pinned : Pinned := { name := "ytkegainegkdgpaa", sum := "30e8cc57c9fbdc4fe98e5625b0546759c39a4112e80a4c6efefe97a0dfb026d6", checked := Try.checked }
namespace Rows
def none {H : Type} : Left H := { results := [], args := [] }

/-- 'laws.FnStackPath': WHATEVER THE INPUT: true; the input reads as it did. -/
def fnStackPathSpec : ChangeSpec := { name := "fnStackPath", fn := fun _ => fun
  | [d] => { results := [.lit (.bool true)], args := [d] }
  | _ => none }
def fnStackPathRow : OpenClaim := { program := "ytkegainegkdgpaa", sum := "30e8cc57c9fbdc4fe98e5625b0546759c39a4112e80a4c6efefe97a0dfb026d6", func := "loop.example/linkstaterouting/laws.FnStackPath", spec := "fnStackPath", unfollowed := true, recurses := true, apart := false }
def FnStackPathSaid : Prop := fnStackPathRow.holds Try.pinned (OpenSpec.ofChange fnStackPathSpec)

/-- ITS FALSE NEIGHBOUR: 'it returns false'. Refute it at one input. -/
def fnStackPathWrong : ChangeSpec := { name := "fnStackPath", fn := fun _ => fun
  | [d] => { results := [.lit (.bool false)], args := [d] }
  | _ => none }
def FnStackPathWrongFalsely : Prop := fnStackPathRow.holds Try.pinned (OpenSpec.ofChange fnStackPathWrong)

/-- 'laws.FnStackPathFail': WHATEVER THE INPUT: true; the input reads as it did. -/
def fnStackPathFailSpec : ChangeSpec := { name := "fnStackPathFail", fn := fun _ => fun
  | [d] => { results := [.lit (.bool true)], args := [d] }
  | _ => none }
def fnStackPathFailRow : OpenClaim := { program := "ytkegainegkdgpaa", sum := "30e8cc57c9fbdc4fe98e5625b0546759c39a4112e80a4c6efefe97a0dfb026d6", func := "loop.example/linkstaterouting/laws.FnStackPathFail", spec := "fnStackPathFail", unfollowed := true, recurses := true, apart := false }
def FnStackPathFailSaid : Prop := fnStackPathFailRow.holds Try.pinned (OpenSpec.ofChange fnStackPathFailSpec)

/-- ITS FALSE NEIGHBOUR: 'it returns false'. Refute it at one input. -/
def fnStackPathFailWrong : ChangeSpec := { name := "fnStackPathFail", fn := fun _ => fun
  | [d] => { results := [.lit (.bool false)], args := [d] }
  | _ => none }
def FnStackPathFailWrongFalsely : Prop := fnStackPathFailRow.holds Try.pinned (OpenSpec.ofChange fnStackPathFailWrong)

/-- 'laws.FnStackCost': WHATEVER THE INPUT: true; the input reads as it did. -/
def fnStackCostSpec : ChangeSpec := { name := "fnStackCost", fn := fun _ => fun
  | [d] => { results := [.lit (.bool true)], args := [d] }
  | _ => none }
def fnStackCostRow : OpenClaim := { program := "ytkegainegkdgpaa", sum := "30e8cc57c9fbdc4fe98e5625b0546759c39a4112e80a4c6efefe97a0dfb026d6", func := "loop.example/linkstaterouting/laws.FnStackCost", spec := "fnStackCost", unfollowed := true, recurses := true, apart := false }
def FnStackCostSaid : Prop := fnStackCostRow.holds Try.pinned (OpenSpec.ofChange fnStackCostSpec)

/-- ITS FALSE NEIGHBOUR: 'it returns false'. Refute it at one input. -/
def fnStackCostWrong : ChangeSpec := { name := "fnStackCost", fn := fun _ => fun
  | [d] => { results := [.lit (.bool false)], args := [d] }
  | _ => none }
def FnStackCostWrongFalsely : Prop := fnStackCostRow.holds Try.pinned (OpenSpec.ofChange fnStackCostWrong)

/-- 'laws.FnStackRepeat': WHATEVER THE INPUT: true; the input reads as it did. -/
def fnStackRepeatSpec : ChangeSpec := { name := "fnStackRepeat", fn := fun _ => fun
  | [d] => { results := [.lit (.bool true)], args := [d] }
  | _ => none }
def fnStackRepeatRow : OpenClaim := { program := "ytkegainegkdgpaa", sum := "30e8cc57c9fbdc4fe98e5625b0546759c39a4112e80a4c6efefe97a0dfb026d6", func := "loop.example/linkstaterouting/laws.FnStackRepeat", spec := "fnStackRepeat", unfollowed := true, recurses := true, apart := false }
def FnStackRepeatSaid : Prop := fnStackRepeatRow.holds Try.pinned (OpenSpec.ofChange fnStackRepeatSpec)

/-- ITS FALSE NEIGHBOUR: 'it returns false'. Refute it at one input. -/
def fnStackRepeatWrong : ChangeSpec := { name := "fnStackRepeat", fn := fun _ => fun
  | [d] => { results := [.lit (.bool false)], args := [d] }
  | _ => none }
def FnStackRepeatWrongFalsely : Prop := fnStackRepeatRow.holds Try.pinned (OpenSpec.ofChange fnStackRepeatWrong)

/-- 'laws.FnExactStackUnique': WHATEVER THE INPUT: true; the input reads as it did. -/
def fnExactStackUniqueSpec : ChangeSpec := { name := "fnExactStackUnique", fn := fun _ => fun
  | [d1, d2, d3] => { results := [.lit (.bool true)], args := [d1, d2, d3] }
  | _ => none }
def fnExactStackUniqueRow : OpenClaim := { program := "ytkegainegkdgpaa", sum := "30e8cc57c9fbdc4fe98e5625b0546759c39a4112e80a4c6efefe97a0dfb026d6", func := "loop.example/linkstaterouting/laws.FnExactStackUnique", spec := "fnExactStackUnique", unfollowed := true, recurses := true, apart := false }
def FnExactStackUniqueSaid : Prop := fnExactStackUniqueRow.holds Try.pinned (OpenSpec.ofChange fnExactStackUniqueSpec)

/-- ITS FALSE NEIGHBOUR: 'it returns false'. Refute it at one input. -/
def fnExactStackUniqueWrong : ChangeSpec := { name := "fnExactStackUnique", fn := fun _ => fun
  | [d1, d2, d3] => { results := [.lit (.bool false)], args := [d1, d2, d3] }
  | _ => none }
def FnExactStackUniqueWrongFalsely : Prop := fnExactStackUniqueRow.holds Try.pinned (OpenSpec.ofChange fnExactStackUniqueWrong)

/-- 'laws.FnStackWays': WHATEVER THE INPUT: true; the input reads as it did. -/
def fnStackWaysSpec : ChangeSpec := { name := "fnStackWays", fn := fun _ => fun
  | [d] => { results := [.lit (.bool true)], args := [d] }
  | _ => none }
def fnStackWaysRow : OpenClaim := { program := "ytkegainegkdgpaa", sum := "30e8cc57c9fbdc4fe98e5625b0546759c39a4112e80a4c6efefe97a0dfb026d6", func := "loop.example/linkstaterouting/laws.FnStackWays", spec := "fnStackWays", unfollowed := true, recurses := true, apart := false }
def FnStackWaysSaid : Prop := fnStackWaysRow.holds Try.pinned (OpenSpec.ofChange fnStackWaysSpec)

/-- ITS FALSE NEIGHBOUR: 'it returns false'. Refute it at one input. -/
def fnStackWaysWrong : ChangeSpec := { name := "fnStackWays", fn := fun _ => fun
  | [d] => { results := [.lit (.bool false)], args := [d] }
  | _ => none }
def FnStackWaysWrongFalsely : Prop := fnStackWaysRow.holds Try.pinned (OpenSpec.ofChange fnStackWaysWrong)

/-- 'laws.FnStackUniqueLinks': WHATEVER THE INPUT: true; the input reads as it did. -/
def fnStackUniqueLinksSpec : ChangeSpec := { name := "fnStackUniqueLinks", fn := fun _ => fun
  | [d] => { results := [.lit (.bool true)], args := [d] }
  | _ => none }
def fnStackUniqueLinksRow : OpenClaim := { program := "ytkegainegkdgpaa", sum := "30e8cc57c9fbdc4fe98e5625b0546759c39a4112e80a4c6efefe97a0dfb026d6", func := "loop.example/linkstaterouting/laws.FnStackUniqueLinks", spec := "fnStackUniqueLinks", unfollowed := true, recurses := true, apart := false }
def FnStackUniqueLinksSaid : Prop := fnStackUniqueLinksRow.holds Try.pinned (OpenSpec.ofChange fnStackUniqueLinksSpec)

/-- ITS FALSE NEIGHBOUR: 'it returns false'. Refute it at one input. -/
def fnStackUniqueLinksWrong : ChangeSpec := { name := "fnStackUniqueLinks", fn := fun _ => fun
  | [d] => { results := [.lit (.bool false)], args := [d] }
  | _ => none }
def FnStackUniqueLinksWrongFalsely : Prop := fnStackUniqueLinksRow.holds Try.pinned (OpenSpec.ofChange fnStackUniqueLinksWrong)

/-- 'laws.FnStackCrosses': WHATEVER THE INPUT: true; the input reads as it did. -/
def fnStackCrossesSpec : ChangeSpec := { name := "fnStackCrosses", fn := fun _ => fun
  | [d] => { results := [.lit (.bool true)], args := [d] }
  | _ => none }
def fnStackCrossesRow : OpenClaim := { program := "ytkegainegkdgpaa", sum := "30e8cc57c9fbdc4fe98e5625b0546759c39a4112e80a4c6efefe97a0dfb026d6", func := "loop.example/linkstaterouting/laws.FnStackCrosses", spec := "fnStackCrosses", unfollowed := true, recurses := true, apart := false }
def FnStackCrossesSaid : Prop := fnStackCrossesRow.holds Try.pinned (OpenSpec.ofChange fnStackCrossesSpec)

/-- ITS FALSE NEIGHBOUR: 'it returns false'. Refute it at one input. -/
def fnStackCrossesWrong : ChangeSpec := { name := "fnStackCrosses", fn := fun _ => fun
  | [d] => { results := [.lit (.bool false)], args := [d] }
  | _ => none }
def FnStackCrossesWrongFalsely : Prop := fnStackCrossesRow.holds Try.pinned (OpenSpec.ofChange fnStackCrossesWrong)

/-- 'laws.FnStackUnique': WHATEVER THE INPUT: true; the input reads as it did. -/
def fnStackUniqueSpec : ChangeSpec := { name := "fnStackUnique", fn := fun _ => fun
  | [d] => { results := [.lit (.bool true)], args := [d] }
  | _ => none }
def fnStackUniqueRow : OpenClaim := { program := "ytkegainegkdgpaa", sum := "30e8cc57c9fbdc4fe98e5625b0546759c39a4112e80a4c6efefe97a0dfb026d6", func := "loop.example/linkstaterouting/laws.FnStackUnique", spec := "fnStackUnique", unfollowed := true, recurses := true, apart := false }
def FnStackUniqueSaid : Prop := fnStackUniqueRow.holds Try.pinned (OpenSpec.ofChange fnStackUniqueSpec)

/-- ITS FALSE NEIGHBOUR: 'it returns false'. Refute it at one input. -/
def fnStackUniqueWrong : ChangeSpec := { name := "fnStackUnique", fn := fun _ => fun
  | [d] => { results := [.lit (.bool false)], args := [d] }
  | _ => none }
def FnStackUniqueWrongFalsely : Prop := fnStackUniqueRow.holds Try.pinned (OpenSpec.ofChange fnStackUniqueWrong)

/-- 'laws.FnStackNot': WHATEVER THE INPUT: true; the input reads as it did. -/
def fnStackNotSpec : ChangeSpec := { name := "fnStackNot", fn := fun _ => fun
  | [d] => { results := [.lit (.bool true)], args := [d] }
  | _ => none }
def fnStackNotRow : OpenClaim := { program := "ytkegainegkdgpaa", sum := "30e8cc57c9fbdc4fe98e5625b0546759c39a4112e80a4c6efefe97a0dfb026d6", func := "loop.example/linkstaterouting/laws.FnStackNot", spec := "fnStackNot", unfollowed := true, recurses := true, apart := false }
def FnStackNotSaid : Prop := fnStackNotRow.holds Try.pinned (OpenSpec.ofChange fnStackNotSpec)

/-- ITS FALSE NEIGHBOUR: 'it returns false'. Refute it at one input. -/
def fnStackNotWrong : ChangeSpec := { name := "fnStackNot", fn := fun _ => fun
  | [d] => { results := [.lit (.bool false)], args := [d] }
  | _ => none }
def FnStackNotWrongFalsely : Prop := fnStackNotRow.holds Try.pinned (OpenSpec.ofChange fnStackNotWrong)

/- THE SECOND FORM. 'bulk': how many values and letters a reading holds, each counted each time it is reached (what is shared counts as often as it is met; a slice's spare places count too). A statement '..UptoSaid' is the law's where the arguments, and the package variables that the reading takes, are together of bulk at most 1048576: NARROWER than '..Said'. Prove '..Said' where nothing that the law and all that it calls make is longer than what came in: it says more and counts as full. Else prove '..UptoSaid'. A law counts once. -/
mutual
def uptoBulk {H : Type} : DataW H → Nat
  | .lit (.string bytes) => bytes.length + 1
  | .lit _ => 1
  | .nil => 1
  | .ptr d => uptoBulk d + 1
  | .slice elems spare => uptoBulkAll elems + uptoBulkAll spare + 1
  | .agg parts => uptoBulkAll parts + 1
  | .iface _ d => uptoBulk d + 1
  | .map entries => uptoBulkEntries entries + 1
  | .held _ => 1
def uptoBulkAll {H : Type} : List (DataW H) → Nat
  | [] => 0
  | d :: r => uptoBulk d + uptoBulkAll r
def uptoBulkEntries {H : Type} : List (Lit × DataW H) → Nat
  | [] => 0
  | x :: r => uptoBulkEntry x + uptoBulkEntries r
def uptoBulkEntry {H : Type} : Lit × DataW H → Nat
  | (.string bytes, d) => bytes.length + uptoBulk d + 1
  | (_, d) => uptoBulk d + 1
 end
def uptoSmall : (H : Type) → List (DataW H) → Bool := fun _ ds => decide (uptoBulkAll ds ≤ 1048576)
def OpenSpec.upto (s : _root_.Go.ChangeSpec) : _root_.Go.OpenSpec := { _root_.Go.OpenSpec.ofChange s with cond := some uptoSmall }

/-- 'laws.FnStackPath', WHERE WHAT IT READS IS OF BULK AT MOST 1048576: true; the input reads as it did. -/
def fnStackPathUptoRow : OpenClaim := { program := "ytkegainegkdgpaa", sum := "30e8cc57c9fbdc4fe98e5625b0546759c39a4112e80a4c6efefe97a0dfb026d6", func := "loop.example/linkstaterouting/laws.FnStackPath", spec := "fnStackPath", unfollowed := true, recurses := true, apart := false, narrowed := true }
def FnStackPathUptoSaid : Prop := fnStackPathUptoRow.holds Try.pinned (OpenSpec.upto fnStackPathSpec)

/-- 'laws.FnStackPathFail', WHERE WHAT IT READS IS OF BULK AT MOST 1048576: true; the input reads as it did. -/
def fnStackPathFailUptoRow : OpenClaim := { program := "ytkegainegkdgpaa", sum := "30e8cc57c9fbdc4fe98e5625b0546759c39a4112e80a4c6efefe97a0dfb026d6", func := "loop.example/linkstaterouting/laws.FnStackPathFail", spec := "fnStackPathFail", unfollowed := true, recurses := true, apart := false, narrowed := true }
def FnStackPathFailUptoSaid : Prop := fnStackPathFailUptoRow.holds Try.pinned (OpenSpec.upto fnStackPathFailSpec)

/-- 'laws.FnStackCost', WHERE WHAT IT READS IS OF BULK AT MOST 1048576: true; the input reads as it did. -/
def fnStackCostUptoRow : OpenClaim := { program := "ytkegainegkdgpaa", sum := "30e8cc57c9fbdc4fe98e5625b0546759c39a4112e80a4c6efefe97a0dfb026d6", func := "loop.example/linkstaterouting/laws.FnStackCost", spec := "fnStackCost", unfollowed := true, recurses := true, apart := false, narrowed := true }
def FnStackCostUptoSaid : Prop := fnStackCostUptoRow.holds Try.pinned (OpenSpec.upto fnStackCostSpec)

/-- 'laws.FnStackRepeat', WHERE WHAT IT READS IS OF BULK AT MOST 1048576: true; the input reads as it did. -/
def fnStackRepeatUptoRow : OpenClaim := { program := "ytkegainegkdgpaa", sum := "30e8cc57c9fbdc4fe98e5625b0546759c39a4112e80a4c6efefe97a0dfb026d6", func := "loop.example/linkstaterouting/laws.FnStackRepeat", spec := "fnStackRepeat", unfollowed := true, recurses := true, apart := false, narrowed := true }
def FnStackRepeatUptoSaid : Prop := fnStackRepeatUptoRow.holds Try.pinned (OpenSpec.upto fnStackRepeatSpec)

/-- 'laws.FnExactStackUnique', WHERE WHAT IT READS IS OF BULK AT MOST 1048576: true; the input reads as it did. -/
def fnExactStackUniqueUptoRow : OpenClaim := { program := "ytkegainegkdgpaa", sum := "30e8cc57c9fbdc4fe98e5625b0546759c39a4112e80a4c6efefe97a0dfb026d6", func := "loop.example/linkstaterouting/laws.FnExactStackUnique", spec := "fnExactStackUnique", unfollowed := true, recurses := true, apart := false, narrowed := true }
def FnExactStackUniqueUptoSaid : Prop := fnExactStackUniqueUptoRow.holds Try.pinned (OpenSpec.upto fnExactStackUniqueSpec)

/-- 'laws.FnStackWays', WHERE WHAT IT READS IS OF BULK AT MOST 1048576: true; the input reads as it did. -/
def fnStackWaysUptoRow : OpenClaim := { program := "ytkegainegkdgpaa", sum := "30e8cc57c9fbdc4fe98e5625b0546759c39a4112e80a4c6efefe97a0dfb026d6", func := "loop.example/linkstaterouting/laws.FnStackWays", spec := "fnStackWays", unfollowed := true, recurses := true, apart := false, narrowed := true }
def FnStackWaysUptoSaid : Prop := fnStackWaysUptoRow.holds Try.pinned (OpenSpec.upto fnStackWaysSpec)

/-- 'laws.FnStackUniqueLinks', WHERE WHAT IT READS IS OF BULK AT MOST 1048576: true; the input reads as it did. -/
def fnStackUniqueLinksUptoRow : OpenClaim := { program := "ytkegainegkdgpaa", sum := "30e8cc57c9fbdc4fe98e5625b0546759c39a4112e80a4c6efefe97a0dfb026d6", func := "loop.example/linkstaterouting/laws.FnStackUniqueLinks", spec := "fnStackUniqueLinks", unfollowed := true, recurses := true, apart := false, narrowed := true }
def FnStackUniqueLinksUptoSaid : Prop := fnStackUniqueLinksUptoRow.holds Try.pinned (OpenSpec.upto fnStackUniqueLinksSpec)

/-- 'laws.FnStackCrosses', WHERE WHAT IT READS IS OF BULK AT MOST 1048576: true; the input reads as it did. -/
def fnStackCrossesUptoRow : OpenClaim := { program := "ytkegainegkdgpaa", sum := "30e8cc57c9fbdc4fe98e5625b0546759c39a4112e80a4c6efefe97a0dfb026d6", func := "loop.example/linkstaterouting/laws.FnStackCrosses", spec := "fnStackCrosses", unfollowed := true, recurses := true, apart := false, narrowed := true }
def FnStackCrossesUptoSaid : Prop := fnStackCrossesUptoRow.holds Try.pinned (OpenSpec.upto fnStackCrossesSpec)

/-- 'laws.FnStackUnique', WHERE WHAT IT READS IS OF BULK AT MOST 1048576: true; the input reads as it did. -/
def fnStackUniqueUptoRow : OpenClaim := { program := "ytkegainegkdgpaa", sum := "30e8cc57c9fbdc4fe98e5625b0546759c39a4112e80a4c6efefe97a0dfb026d6", func := "loop.example/linkstaterouting/laws.FnStackUnique", spec := "fnStackUnique", unfollowed := true, recurses := true, apart := false, narrowed := true }
def FnStackUniqueUptoSaid : Prop := fnStackUniqueUptoRow.holds Try.pinned (OpenSpec.upto fnStackUniqueSpec)

/-- 'laws.FnStackNot', WHERE WHAT IT READS IS OF BULK AT MOST 1048576: true; the input reads as it did. -/
def fnStackNotUptoRow : OpenClaim := { program := "ytkegainegkdgpaa", sum := "30e8cc57c9fbdc4fe98e5625b0546759c39a4112e80a4c6efefe97a0dfb026d6", func := "loop.example/linkstaterouting/laws.FnStackNot", spec := "fnStackNot", unfollowed := true, recurses := true, apart := false, narrowed := true }
def FnStackNotUptoSaid : Prop := fnStackNotUptoRow.holds Try.pinned (OpenSpec.upto fnStackNotSpec)

end Rows
end Go.Proofs.Ytkegainegkdgpaa
