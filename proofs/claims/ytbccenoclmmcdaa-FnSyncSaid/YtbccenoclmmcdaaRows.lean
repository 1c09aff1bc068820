/-
  No cell of these rows narrows 'for every input' (looked for: loops, veiled, ifaces, maps, wideKeys, modest, calm, conditions, laid).
  DERIVED. THE GIVEN ROWS OF THIS SEAT. 10 by the template 'for every input the law returns true; each argument reads behind the call as it read before'; 0 by the template 'total and deterministic' (their statements: YtbccenoclmmcdaaTotals.lean).
  GIVEN WITH THE SEED: the statements are not yours to turn. If you find one false, say at which input.
  Laid BY PROGRAM, IN A SANDBOX (cutbox-rows.mjs): the forced cells as the released guide's own fill.sh prints them over the translation f013411701fe31d9… (all of the seat's roots in one cut). By AI agents, Wed Nov 11 2026. No macro, syntax, notation, axiom, sorry.
-/
import Derived.Test.YtbccenoclmmcdaaChecked
import GoSem.Claim
import GoSem.ClaimJoined
import GoSem.ClaimMapViews
import Derived.JoinedTies
import Derived.KernelRfl
namespace Go.Proofs.Ytbccenoclmmcdaa
/- THE CELL 'sum', in the pinned program and in every row, IS THE sha256 OF THE DUMP (.gsa) THAT YtbccenoclmmcdaaProg.lean LOADS. Nothing in Lean hashes anything: it is a label: what it is worth is what the hold of that sum in a sandbox is worth. -/
noncomputable def Try.pinned : Pinned := { name := "ytbccenoclmmcdaa", sum := "f013411701fe31d9f263c1ab4a0afc7273debcc6140f17943cb137fddcdc6469", checked := Try.checked }
namespace Rows
def none {H : Type} : Left H := { results := [], args := [] }

/-- 'laws.FnLsaPart': WHATEVER THE INPUT: true; the input reads as it did. -/
def fnLsaPartSpec : ChangeSpec := { name := "fnLsaPart", fn := fun _ => fun
  | [d1, d2] => { results := [.lit (.bool true)], args := [d1, d2] }
  | _ => none }
def fnLsaPartRow : OpenClaim := { program := "ytbccenoclmmcdaa", sum := "f013411701fe31d9f263c1ab4a0afc7273debcc6140f17943cb137fddcdc6469", func := "loop.example/linkstaterouting/laws.FnLsaPart", spec := "fnLsaPart", apart := false }
def FnLsaPartSaid : Prop := fnLsaPartRow.holds Try.pinned (OpenSpec.ofChange fnLsaPartSpec)

/-- ITS FALSE NEIGHBOUR: 'it returns false'. Refute it at one input. -/
def fnLsaPartWrong : ChangeSpec := { name := "fnLsaPart", fn := fun _ => fun
  | [d1, d2] => { results := [.lit (.bool false)], args := [d1, d2] }
  | _ => none }
def FnLsaPartWrongFalsely : Prop := fnLsaPartRow.holds Try.pinned (OpenSpec.ofChange fnLsaPartWrong)

/-- 'laws.FnExactLsaValid': WHATEVER THE INPUT: true; the input reads as it did. -/
def fnExactLsaValidSpec : ChangeSpec := { name := "fnExactLsaValid", fn := fun _ => fun
  | [d] => { results := [.lit (.bool true)], args := [d] }
  | _ => none }
def fnExactLsaValidRow : OpenClaim := { program := "ytbccenoclmmcdaa", sum := "f013411701fe31d9f263c1ab4a0afc7273debcc6140f17943cb137fddcdc6469", func := "loop.example/linkstaterouting/laws.FnExactLsaValid", spec := "fnExactLsaValid", apart := false }
def FnExactLsaValidSaid : Prop := fnExactLsaValidRow.holds Try.pinned (OpenSpec.ofChange fnExactLsaValidSpec)

/-- ITS FALSE NEIGHBOUR: 'it returns false'. Refute it at one input. -/
def fnExactLsaValidWrong : ChangeSpec := { name := "fnExactLsaValid", fn := fun _ => fun
  | [d] => { results := [.lit (.bool false)], args := [d] }
  | _ => none }
def FnExactLsaValidWrongFalsely : Prop := fnExactLsaValidRow.holds Try.pinned (OpenSpec.ofChange fnExactLsaValidWrong)

/-- 'laws.FnExactAdjacencyHello': WHATEVER THE INPUT: true; the input reads as it did. -/
def fnExactAdjacencyHelloSpec : ChangeSpec := { name := "fnExactAdjacencyHello", fn := fun _ => fun
  | [d1, d2, d3] => { results := [.lit (.bool true)], args := [d1, d2, d3] }
  | _ => none }
def fnExactAdjacencyHelloRow : OpenClaim := { program := "ytbccenoclmmcdaa", sum := "f013411701fe31d9f263c1ab4a0afc7273debcc6140f17943cb137fddcdc6469", func := "loop.example/linkstaterouting/laws.FnExactAdjacencyHello", spec := "fnExactAdjacencyHello", apart := false }
def FnExactAdjacencyHelloSaid : Prop := fnExactAdjacencyHelloRow.holds Try.pinned (OpenSpec.ofChange fnExactAdjacencyHelloSpec)

/-- ITS FALSE NEIGHBOUR: 'it returns false'. Refute it at one input. -/
def fnExactAdjacencyHelloWrong : ChangeSpec := { name := "fnExactAdjacencyHello", fn := fun _ => fun
  | [d1, d2, d3] => { results := [.lit (.bool false)], args := [d1, d2, d3] }
  | _ => none }
def FnExactAdjacencyHelloWrongFalsely : Prop := fnExactAdjacencyHelloRow.holds Try.pinned (OpenSpec.ofChange fnExactAdjacencyHelloWrong)

/-- 'laws.FnExactDbValid': WHATEVER THE INPUT: true; the input reads as it did. -/
def fnExactDbValidSpec : ChangeSpec := { name := "fnExactDbValid", fn := fun _ => fun
  | [d] => { results := [.lit (.bool true)], args := [d] }
  | _ => none }
def fnExactDbValidRow : OpenClaim := { program := "ytbccenoclmmcdaa", sum := "f013411701fe31d9f263c1ab4a0afc7273debcc6140f17943cb137fddcdc6469", func := "loop.example/linkstaterouting/laws.FnExactDbValid", spec := "fnExactDbValid", apart := false }
def FnExactDbValidSaid : Prop := fnExactDbValidRow.holds Try.pinned (OpenSpec.ofChange fnExactDbValidSpec)

/-- ITS FALSE NEIGHBOUR: 'it returns false'. Refute it at one input. -/
def fnExactDbValidWrong : ChangeSpec := { name := "fnExactDbValid", fn := fun _ => fun
  | [d] => { results := [.lit (.bool false)], args := [d] }
  | _ => none }
def FnExactDbValidWrongFalsely : Prop := fnExactDbValidRow.holds Try.pinned (OpenSpec.ofChange fnExactDbValidWrong)

/-- 'laws.FnDbMissingNone': WHATEVER THE INPUT: true; the input reads as it did. -/
def fnDbMissingNoneSpec : ChangeSpec := { name := "fnDbMissingNone", fn := fun _ => fun
  | [d] => { results := [.lit (.bool true)], args := [d] }
  | _ => none }
def fnDbMissingNoneRow : OpenClaim := { program := "ytbccenoclmmcdaa", sum := "f013411701fe31d9f263c1ab4a0afc7273debcc6140f17943cb137fddcdc6469", func := "loop.example/linkstaterouting/laws.FnDbMissingNone", spec := "fnDbMissingNone", unfollowed := true, recurses := true, apart := false }
def FnDbMissingNoneSaid : Prop := fnDbMissingNoneRow.holds Try.pinned (OpenSpec.ofChange fnDbMissingNoneSpec)

/-- ITS FALSE NEIGHBOUR: 'it returns false'. Refute it at one input. -/
def fnDbMissingNoneWrong : ChangeSpec := { name := "fnDbMissingNone", fn := fun _ => fun
  | [d] => { results := [.lit (.bool false)], args := [d] }
  | _ => none }
def FnDbMissingNoneWrongFalsely : Prop := fnDbMissingNoneRow.holds Try.pinned (OpenSpec.ofChange fnDbMissingNoneWrong)

/-- 'laws.FnSyncTwice': WHATEVER THE INPUT: true; the input reads as it did. -/
def fnSyncTwiceSpec : ChangeSpec := { name := "fnSyncTwice", fn := fun _ => fun
  | [d] => { results := [.lit (.bool true)], args := [d] }
  | _ => none }
def fnSyncTwiceRow : OpenClaim := { program := "ytbccenoclmmcdaa", sum := "f013411701fe31d9f263c1ab4a0afc7273debcc6140f17943cb137fddcdc6469", func := "loop.example/linkstaterouting/laws.FnSyncTwice", spec := "fnSyncTwice", unfollowed := true, recurses := true, apart := false }
def FnSyncTwiceSaid : Prop := fnSyncTwiceRow.holds Try.pinned (OpenSpec.ofChange fnSyncTwiceSpec)

/-- ITS FALSE NEIGHBOUR: 'it returns false'. Refute it at one input. -/
def fnSyncTwiceWrong : ChangeSpec := { name := "fnSyncTwice", fn := fun _ => fun
  | [d] => { results := [.lit (.bool false)], args := [d] }
  | _ => none }
def FnSyncTwiceWrongFalsely : Prop := fnSyncTwiceRow.holds Try.pinned (OpenSpec.ofChange fnSyncTwiceWrong)

/-- 'laws.FnDbMissingList': WHATEVER THE INPUT: true; the input reads as it did. -/
def fnDbMissingListSpec : ChangeSpec := { name := "fnDbMissingList", fn := fun _ => fun
  | [d] => { results := [.lit (.bool true)], args := [d] }
  | _ => none }
def fnDbMissingListRow : OpenClaim := { program := "ytbccenoclmmcdaa", sum := "f013411701fe31d9f263c1ab4a0afc7273debcc6140f17943cb137fddcdc6469", func := "loop.example/linkstaterouting/laws.FnDbMissingList", spec := "fnDbMissingList", unfollowed := true, recurses := true, apart := false }
def FnDbMissingListSaid : Prop := fnDbMissingListRow.holds Try.pinned (OpenSpec.ofChange fnDbMissingListSpec)

/-- ITS FALSE NEIGHBOUR: 'it returns false'. Refute it at one input. -/
def fnDbMissingListWrong : ChangeSpec := { name := "fnDbMissingList", fn := fun _ => fun
  | [d] => { results := [.lit (.bool false)], args := [d] }
  | _ => none }
def FnDbMissingListWrongFalsely : Prop := fnDbMissingListRow.holds Try.pinned (OpenSpec.ofChange fnDbMissingListWrong)

/-- 'laws.FnSync': WHATEVER THE INPUT: true; the input reads as it did. -/
def fnSyncSpec : ChangeSpec := { name := "fnSync", fn := fun _ => fun
  | [d] => { results := [.lit (.bool true)], args := [d] }
  | _ => none }
def fnSyncRow : OpenClaim := { program := "ytbccenoclmmcdaa", sum := "f013411701fe31d9f263c1ab4a0afc7273debcc6140f17943cb137fddcdc6469", func := "loop.example/linkstaterouting/laws.FnSync", spec := "fnSync", unfollowed := true, recurses := true, apart := false }
def FnSyncSaid : Prop := fnSyncRow.holds Try.pinned (OpenSpec.ofChange fnSyncSpec)

/-- ITS FALSE NEIGHBOUR: 'it returns false'. Refute it at one input. -/
def fnSyncWrong : ChangeSpec := { name := "fnSync", fn := fun _ => fun
  | [d] => { results := [.lit (.bool false)], args := [d] }
  | _ => none }
def FnSyncWrongFalsely : Prop := fnSyncRow.holds Try.pinned (OpenSpec.ofChange fnSyncWrong)

/-- 'laws.FnExactAdjacencySync': WHATEVER THE INPUT: true; the input reads as it did. -/
def fnExactAdjacencySyncSpec : ChangeSpec := { name := "fnExactAdjacencySync", fn := fun _ => fun
  | [d1, d2, d3] => { results := [.lit (.bool true)], args := [d1, d2, d3] }
  | _ => none }
def fnExactAdjacencySyncRow : OpenClaim := { program := "ytbccenoclmmcdaa", sum := "f013411701fe31d9f263c1ab4a0afc7273debcc6140f17943cb137fddcdc6469", func := "loop.example/linkstaterouting/laws.FnExactAdjacencySync", spec := "fnExactAdjacencySync", unfollowed := true, recurses := true, apart := false }
def FnExactAdjacencySyncSaid : Prop := fnExactAdjacencySyncRow.holds Try.pinned (OpenSpec.ofChange fnExactAdjacencySyncSpec)

/-- ITS FALSE NEIGHBOUR: 'it returns false'. Refute it at one input. -/
def fnExactAdjacencySyncWrong : ChangeSpec := { name := "fnExactAdjacencySync", fn := fun _ => fun
  | [d1, d2, d3] => { results := [.lit (.bool false)], args := [d1, d2, d3] }
  | _ => none }
def FnExactAdjacencySyncWrongFalsely : Prop := fnExactAdjacencySyncRow.holds Try.pinned (OpenSpec.ofChange fnExactAdjacencySyncWrong)

/-- 'laws.FnExactDbMissing': WHATEVER THE INPUT: true; the input reads as it did. -/
def fnExactDbMissingSpec : ChangeSpec := { name := "fnExactDbMissing", fn := fun _ => fun
  | [d1, d2] => { results := [.lit (.bool true)], args := [d1, d2] }
  | _ => none }
def fnExactDbMissingRow : OpenClaim := { program := "ytbccenoclmmcdaa", sum := "f013411701fe31d9f263c1ab4a0afc7273debcc6140f17943cb137fddcdc6469", func := "loop.example/linkstaterouting/laws.FnExactDbMissing", spec := "fnExactDbMissing", unfollowed := true, recurses := true, apart := false }
def FnExactDbMissingSaid : Prop := fnExactDbMissingRow.holds Try.pinned (OpenSpec.ofChange fnExactDbMissingSpec)

/-- ITS FALSE NEIGHBOUR: 'it returns false'. Refute it at one input. -/
def fnExactDbMissingWrong : ChangeSpec := { name := "fnExactDbMissing", fn := fun _ => fun
  | [d1, d2] => { results := [.lit (.bool false)], args := [d1, d2] }
  | _ => none }
def FnExactDbMissingWrongFalsely : Prop := fnExactDbMissingRow.holds Try.pinned (OpenSpec.ofChange fnExactDbMissingWrong)

/- THE SECOND FORM. 'bulk': how many values and letters a reading holds, each counted each time it is reached (what is shared counts as often as it is met; a slice's spare places count too). A statement '..UptoSaid' is the law's where the arguments, and the package variables that the reading takes, are together of bulk at most 1048576: NARROWER than '..Said'. Prove '..Said' where nothing that the law and all that it calls make is longer than what came in: it says more and counts as full. Else prove '..UptoSaid'. A law counts once. -/
mutual
def uptoBulk {H : Type} : DataW H → Nat
  | .lit (.string bytes) => bytes.length + 1
  | .lit _ => 1
  | .nil => 1
  | .ptr d => uptoBulk d + 1
  | .slice elems spare => uptoBulkAll elems + uptoBulkAll spare + 1
  | .agg parts => uptoBulkAll parts + 1
  | .iface _ d => uptoBulk d + 1
  | .map entries => uptoBulkEntries entries + 1
  | .held _ => 1
def uptoBulkAll {H : Type} : List (DataW H) → Nat
  | [] => 0
  | d :: r => uptoBulk d + uptoBulkAll r
def uptoBulkEntries {H : Type} : List (Lit × DataW H) → Nat
  | [] => 0
  | x :: r => uptoBulkEntry x + uptoBulkEntries r
def uptoBulkEntry {H : Type} : Lit × DataW H → Nat
  | (.string bytes, d) => bytes.length + uptoBulk d + 1
  | (_, d) => uptoBulk d + 1
 end
def uptoSmall : (H : Type) → List (DataW H) → Bool := fun _ ds => decide (uptoBulkAll ds ≤ 1048576)
def OpenSpec.upto (s : _root_.Go.ChangeSpec) : _root_.Go.OpenSpec := { _root_.Go.OpenSpec.ofChange s with cond := some uptoSmall }

/-- 'laws.FnLsaPart', WHERE WHAT IT READS IS OF BULK AT MOST 1048576: true; the input reads as it did. -/
def fnLsaPartUptoRow : OpenClaim := { program := "ytbccenoclmmcdaa", sum := "f013411701fe31d9f263c1ab4a0afc7273debcc6140f17943cb137fddcdc6469", func := "loop.example/linkstaterouting/laws.FnLsaPart", spec := "fnLsaPart", apart := false, narrowed := true }
def FnLsaPartUptoSaid : Prop := fnLsaPartUptoRow.holds Try.pinned (OpenSpec.upto fnLsaPartSpec)

/-- 'laws.FnExactLsaValid', WHERE WHAT IT READS IS OF BULK AT MOST 1048576: true; the input reads as it did. -/
def fnExactLsaValidUptoRow : OpenClaim := { program := "ytbccenoclmmcdaa", sum := "f013411701fe31d9f263c1ab4a0afc7273debcc6140f17943cb137fddcdc6469", func := "loop.example/linkstaterouting/laws.FnExactLsaValid", spec := "fnExactLsaValid", apart := false, narrowed := true }
def FnExactLsaValidUptoSaid : Prop := fnExactLsaValidUptoRow.holds Try.pinned (OpenSpec.upto fnExactLsaValidSpec)

/-- 'laws.FnExactAdjacencyHello', WHERE WHAT IT READS IS OF BULK AT MOST 1048576: true; the input reads as it did. -/
def fnExactAdjacencyHelloUptoRow : OpenClaim := { program := "ytbccenoclmmcdaa", sum := "f013411701fe31d9f263c1ab4a0afc7273debcc6140f17943cb137fddcdc6469", func := "loop.example/linkstaterouting/laws.FnExactAdjacencyHello", spec := "fnExactAdjacencyHello", apart := false, narrowed := true }
def FnExactAdjacencyHelloUptoSaid : Prop := fnExactAdjacencyHelloUptoRow.holds Try.pinned (OpenSpec.upto fnExactAdjacencyHelloSpec)

/-- 'laws.FnExactDbValid', WHERE WHAT IT READS IS OF BULK AT MOST 1048576: true; the input reads as it did. -/
def fnExactDbValidUptoRow : OpenClaim := { program := "ytbccenoclmmcdaa", sum := "f013411701fe31d9f263c1ab4a0afc7273debcc6140f17943cb137fddcdc6469", func := "loop.example/linkstaterouting/laws.FnExactDbValid", spec := "fnExactDbValid", apart := false, narrowed := true }
def FnExactDbValidUptoSaid : Prop := fnExactDbValidUptoRow.holds Try.pinned (OpenSpec.upto fnExactDbValidSpec)

/-- 'laws.FnDbMissingNone', WHERE WHAT IT READS IS OF BULK AT MOST 1048576: true; the input reads as it did. -/
def fnDbMissingNoneUptoRow : OpenClaim := { program := "ytbccenoclmmcdaa", sum := "f013411701fe31d9f263c1ab4a0afc7273debcc6140f17943cb137fddcdc6469", func := "loop.example/linkstaterouting/laws.FnDbMissingNone", spec := "fnDbMissingNone", unfollowed := true, recurses := true, apart := false, narrowed := true }
def FnDbMissingNoneUptoSaid : Prop := fnDbMissingNoneUptoRow.holds Try.pinned (OpenSpec.upto fnDbMissingNoneSpec)

/-- 'laws.FnSyncTwice', WHERE WHAT IT READS IS OF BULK AT MOST 1048576: true; the input reads as it did. -/
def fnSyncTwiceUptoRow : OpenClaim := { program := "ytbccenoclmmcdaa", sum := "f013411701fe31d9f263c1ab4a0afc7273debcc6140f17943cb137fddcdc6469", func := "loop.example/linkstaterouting/laws.FnSyncTwice", spec := "fnSyncTwice", unfollowed := true, recurses := true, apart := false, narrowed := true }
def FnSyncTwiceUptoSaid : Prop := fnSyncTwiceUptoRow.holds Try.pinned (OpenSpec.upto fnSyncTwiceSpec)

/-- 'laws.FnDbMissingList', WHERE WHAT IT READS IS OF BULK AT MOST 1048576: true; the input reads as it did. -/
def fnDbMissingListUptoRow : OpenClaim := { program := "ytbccenoclmmcdaa", sum := "f013411701fe31d9f263c1ab4a0afc7273debcc6140f17943cb137fddcdc6469", func := "loop.example/linkstaterouting/laws.FnDbMissingList", spec := "fnDbMissingList", unfollowed := true, recurses := true, apart := false, narrowed := true }
def FnDbMissingListUptoSaid : Prop := fnDbMissingListUptoRow.holds Try.pinned (OpenSpec.upto fnDbMissingListSpec)

/-- 'laws.FnSync', WHERE WHAT IT READS IS OF BULK AT MOST 1048576: true; the input reads as it did. -/
def fnSyncUptoRow : OpenClaim := { program := "ytbccenoclmmcdaa", sum := "f013411701fe31d9f263c1ab4a0afc7273debcc6140f17943cb137fddcdc6469", func := "loop.example/linkstaterouting/laws.FnSync", spec := "fnSync", unfollowed := true, recurses := true, apart := false, narrowed := true }
def FnSyncUptoSaid : Prop := fnSyncUptoRow.holds Try.pinned (OpenSpec.upto fnSyncSpec)

/-- 'laws.FnExactAdjacencySync', WHERE WHAT IT READS IS OF BULK AT MOST 1048576: true; the input reads as it did. -/
def fnExactAdjacencySyncUptoRow : OpenClaim := { program := "ytbccenoclmmcdaa", sum := "f013411701fe31d9f263c1ab4a0afc7273debcc6140f17943cb137fddcdc6469", func := "loop.example/linkstaterouting/laws.FnExactAdjacencySync", spec := "fnExactAdjacencySync", unfollowed := true, recurses := true, apart := false, narrowed := true }
def FnExactAdjacencySyncUptoSaid : Prop := fnExactAdjacencySyncUptoRow.holds Try.pinned (OpenSpec.upto fnExactAdjacencySyncSpec)

/-- 'laws.FnExactDbMissing', WHERE WHAT IT READS IS OF BULK AT MOST 1048576: true; the input reads as it did. -/
def fnExactDbMissingUptoRow : OpenClaim := { program := "ytbccenoclmmcdaa", sum := "f013411701fe31d9f263c1ab4a0afc7273debcc6140f17943cb137fddcdc6469", func := "loop.example/linkstaterouting/laws.FnExactDbMissing", spec := "fnExactDbMissing", unfollowed := true, recurses := true, apart := false, narrowed := true }
def FnExactDbMissingUptoSaid : Prop := fnExactDbMissingUptoRow.holds Try.pinned (OpenSpec.upto fnExactDbMissingSpec)

end Rows
end Go.Proofs.Ytbccenoclmmcdaa
