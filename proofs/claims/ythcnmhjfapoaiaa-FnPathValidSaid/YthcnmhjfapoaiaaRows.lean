/-
  No cell of these rows narrows 'for every input' (looked for: loops, veiled, ifaces, maps, wideKeys, modest, calm, conditions, laid).
  DERIVED. THE GIVEN ROWS OF THIS SEAT. 11 by the template 'for every input the law returns true; each argument reads behind the call as it read before'; 0 by the template 'total and deterministic' (their statements: YthcnmhjfapoaiaaTotals.lean).
  GIVEN WITH THE SEED: the statements are not yours to turn. If you find one false, say at which input.
  Laid BY PROGRAM, IN A SANDBOX (cutbox-rows.mjs): the forced cells as the released guide's own fill.sh prints them over the translation ab2425f0de5cb2a1… (all of the seat's roots in one cut). By AI agents, Wed Nov 11 2026. No macro, syntax, notation, axiom, sorry.
-/
import Derived.Test.YthcnmhjfapoaiaaChecked
import GoSem.Claim
import GoSem.ClaimJoined
import GoSem.ClaimMapViews
import Derived.JoinedTies
import Derived.KernelRfl
namespace Go.Proofs.Ythcnmhjfapoaiaa
/- THE CELL 'sum', in the pinned program and in every row, IS THE sha256 OF THE DUMP (.gsa) THAT YthcnmhjfapoaiaaProg.lean LOADS. Nothing in Lean hashes anything: it is a label: what it is worth is what the hold of that sum in a sandbox is worth. -/
noncomputable def Try.pinned : Pinned := { name := "ythcnmhjfapoaiaa", sum := "ab2425f0de5cb2a151d024e92e7d8fcd600f278b9f76646b28786225ff2e3a67", checked := Try.checked }
namespace Rows
def none {H : Type} : Left H := { results := [], args := [] }

/-- 'laws.FnExactPathValid': WHATEVER THE INPUT: true; the input reads as it did. -/
def fnExactPathValidSpec : ChangeSpec := { name := "fnExactPathValid", fn := fun _ => fun
  | [d1, d2] => { results := [.lit (.bool true)], args := [d1, d2] }
  | _ => none }
def fnExactPathValidRow : OpenClaim := { program := "ythcnmhjfapoaiaa", sum := "ab2425f0de5cb2a151d024e92e7d8fcd600f278b9f76646b28786225ff2e3a67", func := "loop.example/linkstaterouting/laws.FnExactPathValid", spec := "fnExactPathValid", unfollowed := true, recurses := true, apart := false }
def FnExactPathValidSaid : Prop := fnExactPathValidRow.holds Try.pinned (OpenSpec.ofChange fnExactPathValidSpec)

/-- ITS FALSE NEIGHBOUR: 'it returns false'. Refute it at one input. -/
def fnExactPathValidWrong : ChangeSpec := { name := "fnExactPathValid", fn := fun _ => fun
  | [d1, d2] => { results := [.lit (.bool false)], args := [d1, d2] }
  | _ => none }
def FnExactPathValidWrongFalsely : Prop := fnExactPathValidRow.holds Try.pinned (OpenSpec.ofChange fnExactPathValidWrong)

/-- 'laws.FnExactPathCost': WHATEVER THE INPUT: true; the input reads as it did. -/
def fnExactPathCostSpec : ChangeSpec := { name := "fnExactPathCost", fn := fun _ => fun
  | [d1, d2] => { results := [.lit (.bool true)], args := [d1, d2] }
  | _ => none }
def fnExactPathCostRow : OpenClaim := { program := "ythcnmhjfapoaiaa", sum := "ab2425f0de5cb2a151d024e92e7d8fcd600f278b9f76646b28786225ff2e3a67", func := "loop.example/linkstaterouting/laws.FnExactPathCost", spec := "fnExactPathCost", unfollowed := true, recurses := true, apart := false }
def FnExactPathCostSaid : Prop := fnExactPathCostRow.holds Try.pinned (OpenSpec.ofChange fnExactPathCostSpec)

/-- ITS FALSE NEIGHBOUR: 'it returns false'. Refute it at one input. -/
def fnExactPathCostWrong : ChangeSpec := { name := "fnExactPathCost", fn := fun _ => fun
  | [d1, d2] => { results := [.lit (.bool false)], args := [d1, d2] }
  | _ => none }
def FnExactPathCostWrongFalsely : Prop := fnExactPathCostRow.holds Try.pinned (OpenSpec.ofChange fnExactPathCostWrong)

/-- 'laws.FnPathValid': WHATEVER THE INPUT: true; the input reads as it did. -/
def fnPathValidSpec : ChangeSpec := { name := "fnPathValid", fn := fun _ => fun
  | [d] => { results := [.lit (.bool true)], args := [d] }
  | _ => none }
def fnPathValidRow : OpenClaim := { program := "ythcnmhjfapoaiaa", sum := "ab2425f0de5cb2a151d024e92e7d8fcd600f278b9f76646b28786225ff2e3a67", func := "loop.example/linkstaterouting/laws.FnPathValid", spec := "fnPathValid", unfollowed := true, recurses := true, apart := false }
def FnPathValidSaid : Prop := fnPathValidRow.holds Try.pinned (OpenSpec.ofChange fnPathValidSpec)

/-- ITS FALSE NEIGHBOUR: 'it returns false'. Refute it at one input. -/
def fnPathValidWrong : ChangeSpec := { name := "fnPathValid", fn := fun _ => fun
  | [d] => { results := [.lit (.bool false)], args := [d] }
  | _ => none }
def FnPathValidWrongFalsely : Prop := fnPathValidRow.holds Try.pinned (OpenSpec.ofChange fnPathValidWrong)

/-- 'laws.FnStackEnd': WHATEVER THE INPUT: true; the input reads as it did. -/
def fnStackEndSpec : ChangeSpec := { name := "fnStackEnd", fn := fun _ => fun
  | [d] => { results := [.lit (.bool true)], args := [d] }
  | _ => none }
def fnStackEndRow : OpenClaim := { program := "ythcnmhjfapoaiaa", sum := "ab2425f0de5cb2a151d024e92e7d8fcd600f278b9f76646b28786225ff2e3a67", func := "loop.example/linkstaterouting/laws.FnStackEnd", spec := "fnStackEnd", apart := false }
def FnStackEndSaid : Prop := fnStackEndRow.holds Try.pinned (OpenSpec.ofChange fnStackEndSpec)

/-- ITS FALSE NEIGHBOUR: 'it returns false'. Refute it at one input. -/
def fnStackEndWrong : ChangeSpec := { name := "fnStackEnd", fn := fun _ => fun
  | [d] => { results := [.lit (.bool false)], args := [d] }
  | _ => none }
def FnStackEndWrongFalsely : Prop := fnStackEndRow.holds Try.pinned (OpenSpec.ofChange fnStackEndWrong)

/-- 'laws.FnStackParts': WHATEVER THE INPUT: true; the input reads as it did. -/
def fnStackPartsSpec : ChangeSpec := { name := "fnStackParts", fn := fun _ => fun
  | [d1, d2] => { results := [.lit (.bool true)], args := [d1, d2] }
  | _ => none }
def fnStackPartsRow : OpenClaim := { program := "ythcnmhjfapoaiaa", sum := "ab2425f0de5cb2a151d024e92e7d8fcd600f278b9f76646b28786225ff2e3a67", func := "loop.example/linkstaterouting/laws.FnStackParts", spec := "fnStackParts", apart := false }
def FnStackPartsSaid : Prop := fnStackPartsRow.holds Try.pinned (OpenSpec.ofChange fnStackPartsSpec)

/-- ITS FALSE NEIGHBOUR: 'it returns false'. Refute it at one input. -/
def fnStackPartsWrong : ChangeSpec := { name := "fnStackParts", fn := fun _ => fun
  | [d1, d2] => { results := [.lit (.bool false)], args := [d1, d2] }
  | _ => none }
def FnStackPartsWrongFalsely : Prop := fnStackPartsRow.holds Try.pinned (OpenSpec.ofChange fnStackPartsWrong)

/-- 'laws.FnExactStackCost': WHATEVER THE INPUT: true; the input reads as it did. -/
def fnExactStackCostSpec : ChangeSpec := { name := "fnExactStackCost", fn := fun _ => fun
  | [d1, d2, d3] => { results := [.lit (.bool true)], args := [d1, d2, d3] }
  | _ => none }
def fnExactStackCostRow : OpenClaim := { program := "ythcnmhjfapoaiaa", sum := "ab2425f0de5cb2a151d024e92e7d8fcd600f278b9f76646b28786225ff2e3a67", func := "loop.example/linkstaterouting/laws.FnExactStackCost", spec := "fnExactStackCost", apart := false }
def FnExactStackCostSaid : Prop := fnExactStackCostRow.holds Try.pinned (OpenSpec.ofChange fnExactStackCostSpec)

/-- ITS FALSE NEIGHBOUR: 'it returns false'. Refute it at one input. -/
def fnExactStackCostWrong : ChangeSpec := { name := "fnExactStackCost", fn := fun _ => fun
  | [d1, d2, d3] => { results := [.lit (.bool false)], args := [d1, d2, d3] }
  | _ => none }
def FnExactStackCostWrongFalsely : Prop := fnExactStackCostRow.holds Try.pinned (OpenSpec.ofChange fnExactStackCostWrong)

/-- 'laws.FnStackBack': WHATEVER THE INPUT: true; the input reads as it did. -/
def fnStackBackSpec : ChangeSpec := { name := "fnStackBack", fn := fun _ => fun
  | [d] => { results := [.lit (.bool true)], args := [d] }
  | _ => none }
def fnStackBackRow : OpenClaim := { program := "ythcnmhjfapoaiaa", sum := "ab2425f0de5cb2a151d024e92e7d8fcd600f278b9f76646b28786225ff2e3a67", func := "loop.example/linkstaterouting/laws.FnStackBack", spec := "fnStackBack", apart := false }
def FnStackBackSaid : Prop := fnStackBackRow.holds Try.pinned (OpenSpec.ofChange fnStackBackSpec)

/-- ITS FALSE NEIGHBOUR: 'it returns false'. Refute it at one input. -/
def fnStackBackWrong : ChangeSpec := { name := "fnStackBack", fn := fun _ => fun
  | [d] => { results := [.lit (.bool false)], args := [d] }
  | _ => none }
def FnStackBackWrongFalsely : Prop := fnStackBackRow.holds Try.pinned (OpenSpec.ofChange fnStackBackWrong)

/-- 'laws.FnExactStackCrosses': WHATEVER THE INPUT: true; the input reads as it did. -/
def fnExactStackCrossesSpec : ChangeSpec := { name := "fnExactStackCrosses", fn := fun _ => fun
  | [d1, d2, d3, d4] => { results := [.lit (.bool true)], args := [d1, d2, d3, d4] }
  | _ => none }
def fnExactStackCrossesRow : OpenClaim := { program := "ythcnmhjfapoaiaa", sum := "ab2425f0de5cb2a151d024e92e7d8fcd600f278b9f76646b28786225ff2e3a67", func := "loop.example/linkstaterouting/laws.FnExactStackCrosses", spec := "fnExactStackCrosses", apart := false }
def FnExactStackCrossesSaid : Prop := fnExactStackCrossesRow.holds Try.pinned (OpenSpec.ofChange fnExactStackCrossesSpec)

/-- ITS FALSE NEIGHBOUR: 'it returns false'. Refute it at one input. -/
def fnExactStackCrossesWrong : ChangeSpec := { name := "fnExactStackCrosses", fn := fun _ => fun
  | [d1, d2, d3, d4] => { results := [.lit (.bool false)], args := [d1, d2, d3, d4] }
  | _ => none }
def FnExactStackCrossesWrongFalsely : Prop := fnExactStackCrossesRow.holds Try.pinned (OpenSpec.ofChange fnExactStackCrossesWrong)

/-- 'laws.FnStackCostLeast': WHATEVER THE INPUT: true; the input reads as it did. -/
def fnStackCostLeastSpec : ChangeSpec := { name := "fnStackCostLeast", fn := fun _ => fun
  | [d] => { results := [.lit (.bool true)], args := [d] }
  | _ => none }
def fnStackCostLeastRow : OpenClaim := { program := "ythcnmhjfapoaiaa", sum := "ab2425f0de5cb2a151d024e92e7d8fcd600f278b9f76646b28786225ff2e3a67", func := "loop.example/linkstaterouting/laws.FnStackCostLeast", spec := "fnStackCostLeast", apart := false }
def FnStackCostLeastSaid : Prop := fnStackCostLeastRow.holds Try.pinned (OpenSpec.ofChange fnStackCostLeastSpec)

/-- ITS FALSE NEIGHBOUR: 'it returns false'. Refute it at one input. -/
def fnStackCostLeastWrong : ChangeSpec := { name := "fnStackCostLeast", fn := fun _ => fun
  | [d] => { results := [.lit (.bool false)], args := [d] }
  | _ => none }
def FnStackCostLeastWrongFalsely : Prop := fnStackCostLeastRow.holds Try.pinned (OpenSpec.ofChange fnStackCostLeastWrong)

/-- 'laws.FnPathCost': WHATEVER THE INPUT: true; the input reads as it did. -/
def fnPathCostSpec : ChangeSpec := { name := "fnPathCost", fn := fun _ => fun
  | [d] => { results := [.lit (.bool true)], args := [d] }
  | _ => none }
def fnPathCostRow : OpenClaim := { program := "ythcnmhjfapoaiaa", sum := "ab2425f0de5cb2a151d024e92e7d8fcd600f278b9f76646b28786225ff2e3a67", func := "loop.example/linkstaterouting/laws.FnPathCost", spec := "fnPathCost", unfollowed := true, recurses := true, apart := false }
def FnPathCostSaid : Prop := fnPathCostRow.holds Try.pinned (OpenSpec.ofChange fnPathCostSpec)

/-- ITS FALSE NEIGHBOUR: 'it returns false'. Refute it at one input. -/
def fnPathCostWrong : ChangeSpec := { name := "fnPathCost", fn := fun _ => fun
  | [d] => { results := [.lit (.bool false)], args := [d] }
  | _ => none }
def FnPathCostWrongFalsely : Prop := fnPathCostRow.holds Try.pinned (OpenSpec.ofChange fnPathCostWrong)

/-- 'laws.FnExactStackPath': WHATEVER THE INPUT: true; the input reads as it did. -/
def fnExactStackPathSpec : ChangeSpec := { name := "fnExactStackPath", fn := fun _ => fun
  | [d1, d2, d3] => { results := [.lit (.bool true)], args := [d1, d2, d3] }
  | _ => none }
def fnExactStackPathRow : OpenClaim := { program := "ythcnmhjfapoaiaa", sum := "ab2425f0de5cb2a151d024e92e7d8fcd600f278b9f76646b28786225ff2e3a67", func := "loop.example/linkstaterouting/laws.FnExactStackPath", spec := "fnExactStackPath", unfollowed := true, recurses := true, apart := false }
def FnExactStackPathSaid : Prop := fnExactStackPathRow.holds Try.pinned (OpenSpec.ofChange fnExactStackPathSpec)

/-- ITS FALSE NEIGHBOUR: 'it returns false'. Refute it at one input. -/
def fnExactStackPathWrong : ChangeSpec := { name := "fnExactStackPath", fn := fun _ => fun
  | [d1, d2, d3] => { results := [.lit (.bool false)], args := [d1, d2, d3] }
  | _ => none }
def FnExactStackPathWrongFalsely : Prop := fnExactStackPathRow.holds Try.pinned (OpenSpec.ofChange fnExactStackPathWrong)

/- THE SECOND FORM. 'bulk': how many values and letters a reading holds, each counted each time it is reached (what is shared counts as often as it is met; a slice's spare places count too). A statement '..UptoSaid' is the law's where the arguments, and the package variables that the reading takes, are together of bulk at most 1048576: NARROWER than '..Said'. Prove '..Said' where nothing that the law and all that it calls make is longer than what came in: it says more and counts as full. Else prove '..UptoSaid'. A law counts once. -/
mutual
def uptoBulk {H : Type} : DataW H → Nat
  | .lit (.string bytes) => bytes.length + 1
  | .lit _ => 1
  | .nil => 1
  | .ptr d => uptoBulk d + 1
  | .slice elems spare => uptoBulkAll elems + uptoBulkAll spare + 1
  | .agg parts => uptoBulkAll parts + 1
  | .iface _ d => uptoBulk d + 1
  | .map entries => uptoBulkEntries entries + 1
  | .held _ => 1
def uptoBulkAll {H : Type} : List (DataW H) → Nat
  | [] => 0
  | d :: r => uptoBulk d + uptoBulkAll r
def uptoBulkEntries {H : Type} : List (Lit × DataW H) → Nat
  | [] => 0
  | x :: r => uptoBulkEntry x + uptoBulkEntries r
def uptoBulkEntry {H : Type} : Lit × DataW H → Nat
  | (.string bytes, d) => bytes.length + uptoBulk d + 1
  | (_, d) => uptoBulk d + 1
 end
def uptoSmall : (H : Type) → List (DataW H) → Bool := fun _ ds => decide (uptoBulkAll ds ≤ 1048576)
def OpenSpec.upto (s : _root_.Go.ChangeSpec) : _root_.Go.OpenSpec := { _root_.Go.OpenSpec.ofChange s with cond := some uptoSmall }

/-- 'laws.FnExactPathValid', WHERE WHAT IT READS IS OF BULK AT MOST 1048576: true; the input reads as it did. -/
def fnExactPathValidUptoRow : OpenClaim := { program := "ythcnmhjfapoaiaa", sum := "ab2425f0de5cb2a151d024e92e7d8fcd600f278b9f76646b28786225ff2e3a67", func := "loop.example/linkstaterouting/laws.FnExactPathValid", spec := "fnExactPathValid", unfollowed := true, recurses := true, apart := false, narrowed := true }
def FnExactPathValidUptoSaid : Prop := fnExactPathValidUptoRow.holds Try.pinned (OpenSpec.upto fnExactPathValidSpec)

/-- 'laws.FnExactPathCost', WHERE WHAT IT READS IS OF BULK AT MOST 1048576: true; the input reads as it did. -/
def fnExactPathCostUptoRow : OpenClaim := { program := "ythcnmhjfapoaiaa", sum := "ab2425f0de5cb2a151d024e92e7d8fcd600f278b9f76646b28786225ff2e3a67", func := "loop.example/linkstaterouting/laws.FnExactPathCost", spec := "fnExactPathCost", unfollowed := true, recurses := true, apart := false, narrowed := true }
def FnExactPathCostUptoSaid : Prop := fnExactPathCostUptoRow.holds Try.pinned (OpenSpec.upto fnExactPathCostSpec)

/-- 'laws.FnPathValid', WHERE WHAT IT READS IS OF BULK AT MOST 1048576: true; the input reads as it did. -/
def fnPathValidUptoRow : OpenClaim := { program := "ythcnmhjfapoaiaa", sum := "ab2425f0de5cb2a151d024e92e7d8fcd600f278b9f76646b28786225ff2e3a67", func := "loop.example/linkstaterouting/laws.FnPathValid", spec := "fnPathValid", unfollowed := true, recurses := true, apart := false, narrowed := true }
def FnPathValidUptoSaid : Prop := fnPathValidUptoRow.holds Try.pinned (OpenSpec.upto fnPathValidSpec)

/-- 'laws.FnStackEnd', WHERE WHAT IT READS IS OF BULK AT MOST 1048576: true; the input reads as it did. -/
def fnStackEndUptoRow : OpenClaim := { program := "ythcnmhjfapoaiaa", sum := "ab2425f0de5cb2a151d024e92e7d8fcd600f278b9f76646b28786225ff2e3a67", func := "loop.example/linkstaterouting/laws.FnStackEnd", spec := "fnStackEnd", apart := false, narrowed := true }
def FnStackEndUptoSaid : Prop := fnStackEndUptoRow.holds Try.pinned (OpenSpec.upto fnStackEndSpec)

/-- 'laws.FnStackParts', WHERE WHAT IT READS IS OF BULK AT MOST 1048576: true; the input reads as it did. -/
def fnStackPartsUptoRow : OpenClaim := { program := "ythcnmhjfapoaiaa", sum := "ab2425f0de5cb2a151d024e92e7d8fcd600f278b9f76646b28786225ff2e3a67", func := "loop.example/linkstaterouting/laws.FnStackParts", spec := "fnStackParts", apart := false, narrowed := true }
def FnStackPartsUptoSaid : Prop := fnStackPartsUptoRow.holds Try.pinned (OpenSpec.upto fnStackPartsSpec)

/-- 'laws.FnExactStackCost', WHERE WHAT IT READS IS OF BULK AT MOST 1048576: true; the input reads as it did. -/
def fnExactStackCostUptoRow : OpenClaim := { program := "ythcnmhjfapoaiaa", sum := "ab2425f0de5cb2a151d024e92e7d8fcd600f278b9f76646b28786225ff2e3a67", func := "loop.example/linkstaterouting/laws.FnExactStackCost", spec := "fnExactStackCost", apart := false, narrowed := true }
def FnExactStackCostUptoSaid : Prop := fnExactStackCostUptoRow.holds Try.pinned (OpenSpec.upto fnExactStackCostSpec)

/-- 'laws.FnStackBack', WHERE WHAT IT READS IS OF BULK AT MOST 1048576: true; the input reads as it did. -/
def fnStackBackUptoRow : OpenClaim := { program := "ythcnmhjfapoaiaa", sum := "ab2425f0de5cb2a151d024e92e7d8fcd600f278b9f76646b28786225ff2e3a67", func := "loop.example/linkstaterouting/laws.FnStackBack", spec := "fnStackBack", apart := false, narrowed := true }
def FnStackBackUptoSaid : Prop := fnStackBackUptoRow.holds Try.pinned (OpenSpec.upto fnStackBackSpec)

/-- 'laws.FnExactStackCrosses', WHERE WHAT IT READS IS OF BULK AT MOST 1048576: true; the input reads as it did. -/
def fnExactStackCrossesUptoRow : OpenClaim := { program := "ythcnmhjfapoaiaa", sum := "ab2425f0de5cb2a151d024e92e7d8fcd600f278b9f76646b28786225ff2e3a67", func := "loop.example/linkstaterouting/laws.FnExactStackCrosses", spec := "fnExactStackCrosses", apart := false, narrowed := true }
def FnExactStackCrossesUptoSaid : Prop := fnExactStackCrossesUptoRow.holds Try.pinned (OpenSpec.upto fnExactStackCrossesSpec)

/-- 'laws.FnStackCostLeast', WHERE WHAT IT READS IS OF BULK AT MOST 1048576: true; the input reads as it did. -/
def fnStackCostLeastUptoRow : OpenClaim := { program := "ythcnmhjfapoaiaa", sum := "ab2425f0de5cb2a151d024e92e7d8fcd600f278b9f76646b28786225ff2e3a67", func := "loop.example/linkstaterouting/laws.FnStackCostLeast", spec := "fnStackCostLeast", apart := false, narrowed := true }
def FnStackCostLeastUptoSaid : Prop := fnStackCostLeastUptoRow.holds Try.pinned (OpenSpec.upto fnStackCostLeastSpec)

/-- 'laws.FnPathCost', WHERE WHAT IT READS IS OF BULK AT MOST 1048576: true; the input reads as it did. -/
def fnPathCostUptoRow : OpenClaim := { program := "ythcnmhjfapoaiaa", sum := "ab2425f0de5cb2a151d024e92e7d8fcd600f278b9f76646b28786225ff2e3a67", func := "loop.example/linkstaterouting/laws.FnPathCost", spec := "fnPathCost", unfollowed := true, recurses := true, apart := false, narrowed := true }
def FnPathCostUptoSaid : Prop := fnPathCostUptoRow.holds Try.pinned (OpenSpec.upto fnPathCostSpec)

/-- 'laws.FnExactStackPath', WHERE WHAT IT READS IS OF BULK AT MOST 1048576: true; the input reads as it did. -/
def fnExactStackPathUptoRow : OpenClaim := { program := "ythcnmhjfapoaiaa", sum := "ab2425f0de5cb2a151d024e92e7d8fcd600f278b9f76646b28786225ff2e3a67", func := "loop.example/linkstaterouting/laws.FnExactStackPath", spec := "fnExactStackPath", unfollowed := true, recurses := true, apart := false, narrowed := true }
def FnExactStackPathUptoSaid : Prop := fnExactStackPathUptoRow.holds Try.pinned (OpenSpec.upto fnExactStackPathSpec)

end Rows
end Go.Proofs.Ythcnmhjfapoaiaa
