/-
  No cell of these rows narrows 'for every input' (looked for: loops, veiled, ifaces, maps, wideKeys, modest, calm, conditions, laid).
  DERIVED. THE GIVEN ROWS OF THIS SEAT. 11 by the template 'for every input the law returns true; each argument reads behind the call as it read before'; 0 by the template 'total and deterministic' (their statements: YtidcpdolcbbnjaaTotals.lean).
  GIVEN WITH THE SEED: the statements are not yours to turn. If you find one false, say at which input.
  Laid BY PROGRAM, IN A SANDBOX (cutbox-rows.mjs): the forced cells as the released guide's own fill.sh prints them over the translation e104f01229e5aca3… (all of the seat's roots in one cut). By AI agents, Wed Nov 11 2026. No macro, syntax, notation, axiom, sorry.
-/
import Derived.Test.YtidcpdolcbbnjaaChecked
import GoSem.Claim
import GoSem.ClaimJoined
import GoSem.ClaimMapViews
import Derived.JoinedTies
import Derived.KernelRfl
namespace Go.Proofs.Ytidcpdolcbbnjaa
/- THE CELL 'sum', in the pinned program and in every row, IS THE sha256 OF THE DUMP (.gsa) THAT YtidcpdolcbbnjaaProg.lean LOADS. Nothing in Lean hashes anything: it is a label: what it is worth is what the hold of that sum in a sandbox is worth. -/
noncomputable def Try.pinned : Pinned := { name := "ytidcpdolcbbnjaa", sum := "e104f01229e5aca308b7691a3308a14e0d56c18771a771f2aad378f9c04f5ba1", checked := Try.checked }
namespace Rows
def none {H : Type} : Left H := { results := [], args := [] }

/-- 'laws.FnDbPutOrder': WHATEVER THE INPUT: true; the input reads as it did. -/
def fnDbPutOrderSpec : ChangeSpec := { name := "fnDbPutOrder", fn := fun _ => fun
  | [d1, d2] => { results := [.lit (.bool true)], args := [d1, d2] }
  | _ => none }
def fnDbPutOrderRow : OpenClaim := { program := "ytidcpdolcbbnjaa", sum := "e104f01229e5aca308b7691a3308a14e0d56c18771a771f2aad378f9c04f5ba1", func := "loop.example/linkstaterouting/laws.FnDbPutOrder", spec := "fnDbPutOrder", inPlace := ["slices.overlaps[loop.example/linkstaterouting/impl.Lsa]"], unfollowed := true, recurses := true, apart := false }
def FnDbPutOrderSaid : Prop := fnDbPutOrderRow.holds Try.pinned (OpenSpec.ofChange fnDbPutOrderSpec)

/-- ITS FALSE NEIGHBOUR: 'it returns false'. Refute it at one input. -/
def fnDbPutOrderWrong : ChangeSpec := { name := "fnDbPutOrder", fn := fun _ => fun
  | [d1, d2] => { results := [.lit (.bool false)], args := [d1, d2] }
  | _ => none }
def FnDbPutOrderWrongFalsely : Prop := fnDbPutOrderRow.holds Try.pinned (OpenSpec.ofChange fnDbPutOrderWrong)

/-- 'laws.FnDbPutTwice': WHATEVER THE INPUT: true; the input reads as it did. -/
def fnDbPutTwiceSpec : ChangeSpec := { name := "fnDbPutTwice", fn := fun _ => fun
  | [d] => { results := [.lit (.bool true)], args := [d] }
  | _ => none }
def fnDbPutTwiceRow : OpenClaim := { program := "ytidcpdolcbbnjaa", sum := "e104f01229e5aca308b7691a3308a14e0d56c18771a771f2aad378f9c04f5ba1", func := "loop.example/linkstaterouting/laws.FnDbPutTwice", spec := "fnDbPutTwice", inPlace := ["slices.overlaps[loop.example/linkstaterouting/impl.Lsa]"], unfollowed := true, recurses := true, apart := false }
def FnDbPutTwiceSaid : Prop := fnDbPutTwiceRow.holds Try.pinned (OpenSpec.ofChange fnDbPutTwiceSpec)

/-- ITS FALSE NEIGHBOUR: 'it returns false'. Refute it at one input. -/
def fnDbPutTwiceWrong : ChangeSpec := { name := "fnDbPutTwice", fn := fun _ => fun
  | [d] => { results := [.lit (.bool false)], args := [d] }
  | _ => none }
def FnDbPutTwiceWrongFalsely : Prop := fnDbPutTwiceRow.holds Try.pinned (OpenSpec.ofChange fnDbPutTwiceWrong)

/-- 'laws.FnDbPut': WHATEVER THE INPUT: true; the input reads as it did. -/
def fnDbPutSpec : ChangeSpec := { name := "fnDbPut", fn := fun _ => fun
  | [d] => { results := [.lit (.bool true)], args := [d] }
  | _ => none }
def fnDbPutRow : OpenClaim := { program := "ytidcpdolcbbnjaa", sum := "e104f01229e5aca308b7691a3308a14e0d56c18771a771f2aad378f9c04f5ba1", func := "loop.example/linkstaterouting/laws.FnDbPut", spec := "fnDbPut", inPlace := ["slices.overlaps[loop.example/linkstaterouting/impl.Lsa]"], unfollowed := true, recurses := true, apart := false }
def FnDbPutSaid : Prop := fnDbPutRow.holds Try.pinned (OpenSpec.ofChange fnDbPutSpec)

/-- ITS FALSE NEIGHBOUR: 'it returns false'. Refute it at one input. -/
def fnDbPutWrong : ChangeSpec := { name := "fnDbPut", fn := fun _ => fun
  | [d] => { results := [.lit (.bool false)], args := [d] }
  | _ => none }
def FnDbPutWrongFalsely : Prop := fnDbPutRow.holds Try.pinned (OpenSpec.ofChange fnDbPutWrong)

/-- 'laws.FnDbPutCodes': WHATEVER THE INPUT: true; the input reads as it did. -/
def fnDbPutCodesSpec : ChangeSpec := { name := "fnDbPutCodes", fn := fun _ => fun
  | [d] => { results := [.lit (.bool true)], args := [d] }
  | _ => none }
def fnDbPutCodesRow : OpenClaim := { program := "ytidcpdolcbbnjaa", sum := "e104f01229e5aca308b7691a3308a14e0d56c18771a771f2aad378f9c04f5ba1", func := "loop.example/linkstaterouting/laws.FnDbPutCodes", spec := "fnDbPutCodes", inPlace := ["slices.overlaps[loop.example/linkstaterouting/impl.Lsa]"], unfollowed := true, recurses := true, apart := false }
def FnDbPutCodesSaid : Prop := fnDbPutCodesRow.holds Try.pinned (OpenSpec.ofChange fnDbPutCodesSpec)

/-- ITS FALSE NEIGHBOUR: 'it returns false'. Refute it at one input. -/
def fnDbPutCodesWrong : ChangeSpec := { name := "fnDbPutCodes", fn := fun _ => fun
  | [d] => { results := [.lit (.bool false)], args := [d] }
  | _ => none }
def FnDbPutCodesWrongFalsely : Prop := fnDbPutCodesRow.holds Try.pinned (OpenSpec.ofChange fnDbPutCodesWrong)

/-- 'laws.FnDbMergeSame': WHATEVER THE INPUT: true; the input reads as it did. -/
def fnDbMergeSameSpec : ChangeSpec := { name := "fnDbMergeSame", fn := fun _ => fun
  | [d] => { results := [.lit (.bool true)], args := [d] }
  | _ => none }
def fnDbMergeSameRow : OpenClaim := { program := "ytidcpdolcbbnjaa", sum := "e104f01229e5aca308b7691a3308a14e0d56c18771a771f2aad378f9c04f5ba1", func := "loop.example/linkstaterouting/laws.FnDbMergeSame", spec := "fnDbMergeSame", inPlace := ["slices.overlaps[loop.example/linkstaterouting/impl.Lsa]"], unfollowed := true, recurses := true, apart := false }
def FnDbMergeSameSaid : Prop := fnDbMergeSameRow.holds Try.pinned (OpenSpec.ofChange fnDbMergeSameSpec)

/-- ITS FALSE NEIGHBOUR: 'it returns false'. Refute it at one input. -/
def fnDbMergeSameWrong : ChangeSpec := { name := "fnDbMergeSame", fn := fun _ => fun
  | [d] => { results := [.lit (.bool false)], args := [d] }
  | _ => none }
def FnDbMergeSameWrongFalsely : Prop := fnDbMergeSameRow.holds Try.pinned (OpenSpec.ofChange fnDbMergeSameWrong)

/-- 'laws.FnDbMerge': WHATEVER THE INPUT: true; the input reads as it did. -/
def fnDbMergeSpec : ChangeSpec := { name := "fnDbMerge", fn := fun _ => fun
  | [d] => { results := [.lit (.bool true)], args := [d] }
  | _ => none }
def fnDbMergeRow : OpenClaim := { program := "ytidcpdolcbbnjaa", sum := "e104f01229e5aca308b7691a3308a14e0d56c18771a771f2aad378f9c04f5ba1", func := "loop.example/linkstaterouting/laws.FnDbMerge", spec := "fnDbMerge", inPlace := ["slices.overlaps[loop.example/linkstaterouting/impl.Lsa]"], unfollowed := true, recurses := true, apart := false }
def FnDbMergeSaid : Prop := fnDbMergeRow.holds Try.pinned (OpenSpec.ofChange fnDbMergeSpec)

/-- ITS FALSE NEIGHBOUR: 'it returns false'. Refute it at one input. -/
def fnDbMergeWrong : ChangeSpec := { name := "fnDbMerge", fn := fun _ => fun
  | [d] => { results := [.lit (.bool false)], args := [d] }
  | _ => none }
def FnDbMergeWrongFalsely : Prop := fnDbMergeRow.holds Try.pinned (OpenSpec.ofChange fnDbMergeWrong)

/-- 'laws.FnDbMergeBack': WHATEVER THE INPUT: true; the input reads as it did. -/
def fnDbMergeBackSpec : ChangeSpec := { name := "fnDbMergeBack", fn := fun _ => fun
  | [d] => { results := [.lit (.bool true)], args := [d] }
  | _ => none }
def fnDbMergeBackRow : OpenClaim := { program := "ytidcpdolcbbnjaa", sum := "e104f01229e5aca308b7691a3308a14e0d56c18771a771f2aad378f9c04f5ba1", func := "loop.example/linkstaterouting/laws.FnDbMergeBack", spec := "fnDbMergeBack", inPlace := ["slices.overlaps[loop.example/linkstaterouting/impl.Lsa]"], unfollowed := true, recurses := true, apart := false }
def FnDbMergeBackSaid : Prop := fnDbMergeBackRow.holds Try.pinned (OpenSpec.ofChange fnDbMergeBackSpec)

/-- ITS FALSE NEIGHBOUR: 'it returns false'. Refute it at one input. -/
def fnDbMergeBackWrong : ChangeSpec := { name := "fnDbMergeBack", fn := fun _ => fun
  | [d] => { results := [.lit (.bool false)], args := [d] }
  | _ => none }
def FnDbMergeBackWrongFalsely : Prop := fnDbMergeBackRow.holds Try.pinned (OpenSpec.ofChange fnDbMergeBackWrong)

/-- 'laws.FnDbMissing': WHATEVER THE INPUT: true; the input reads as it did. -/
def fnDbMissingSpec : ChangeSpec := { name := "fnDbMissing", fn := fun _ => fun
  | [d] => { results := [.lit (.bool true)], args := [d] }
  | _ => none }
def fnDbMissingRow : OpenClaim := { program := "ytidcpdolcbbnjaa", sum := "e104f01229e5aca308b7691a3308a14e0d56c18771a771f2aad378f9c04f5ba1", func := "loop.example/linkstaterouting/laws.FnDbMissing", spec := "fnDbMissing", inPlace := ["slices.overlaps[loop.example/linkstaterouting/impl.Lsa]"], unfollowed := true, recurses := true, apart := false }
def FnDbMissingSaid : Prop := fnDbMissingRow.holds Try.pinned (OpenSpec.ofChange fnDbMissingSpec)

/-- ITS FALSE NEIGHBOUR: 'it returns false'. Refute it at one input. -/
def fnDbMissingWrong : ChangeSpec := { name := "fnDbMissing", fn := fun _ => fun
  | [d] => { results := [.lit (.bool false)], args := [d] }
  | _ => none }
def FnDbMissingWrongFalsely : Prop := fnDbMissingRow.holds Try.pinned (OpenSpec.ofChange fnDbMissingWrong)

/-- 'laws.FnSyncMerge': WHATEVER THE INPUT: true; the input reads as it did. -/
def fnSyncMergeSpec : ChangeSpec := { name := "fnSyncMerge", fn := fun _ => fun
  | [d] => { results := [.lit (.bool true)], args := [d] }
  | _ => none }
def fnSyncMergeRow : OpenClaim := { program := "ytidcpdolcbbnjaa", sum := "e104f01229e5aca308b7691a3308a14e0d56c18771a771f2aad378f9c04f5ba1", func := "loop.example/linkstaterouting/laws.FnSyncMerge", spec := "fnSyncMerge", inPlace := ["slices.overlaps[loop.example/linkstaterouting/impl.Lsa]"], unfollowed := true, recurses := true, apart := false }
def FnSyncMergeSaid : Prop := fnSyncMergeRow.holds Try.pinned (OpenSpec.ofChange fnSyncMergeSpec)

/-- ITS FALSE NEIGHBOUR: 'it returns false'. Refute it at one input. -/
def fnSyncMergeWrong : ChangeSpec := { name := "fnSyncMerge", fn := fun _ => fun
  | [d] => { results := [.lit (.bool false)], args := [d] }
  | _ => none }
def FnSyncMergeWrongFalsely : Prop := fnSyncMergeRow.holds Try.pinned (OpenSpec.ofChange fnSyncMergeWrong)

/-- 'laws.FnExactDbPut': WHATEVER THE INPUT: true; the input reads as it did. -/
def fnExactDbPutSpec : ChangeSpec := { name := "fnExactDbPut", fn := fun _ => fun
  | [d1, d2] => { results := [.lit (.bool true)], args := [d1, d2] }
  | _ => none }
def fnExactDbPutRow : OpenClaim := { program := "ytidcpdolcbbnjaa", sum := "e104f01229e5aca308b7691a3308a14e0d56c18771a771f2aad378f9c04f5ba1", func := "loop.example/linkstaterouting/laws.FnExactDbPut", spec := "fnExactDbPut", inPlace := ["slices.overlaps[loop.example/linkstaterouting/impl.Lsa]"], unfollowed := true, recurses := true, apart := false }
def FnExactDbPutSaid : Prop := fnExactDbPutRow.holds Try.pinned (OpenSpec.ofChange fnExactDbPutSpec)

/-- ITS FALSE NEIGHBOUR: 'it returns false'. Refute it at one input. -/
def fnExactDbPutWrong : ChangeSpec := { name := "fnExactDbPut", fn := fun _ => fun
  | [d1, d2] => { results := [.lit (.bool false)], args := [d1, d2] }
  | _ => none }
def FnExactDbPutWrongFalsely : Prop := fnExactDbPutRow.holds Try.pinned (OpenSpec.ofChange fnExactDbPutWrong)

/-- 'laws.FnExactDbMerge': WHATEVER THE INPUT: true; the input reads as it did. -/
def fnExactDbMergeSpec : ChangeSpec := { name := "fnExactDbMerge", fn := fun _ => fun
  | [d1, d2] => { results := [.lit (.bool true)], args := [d1, d2] }
  | _ => none }
def fnExactDbMergeRow : OpenClaim := { program := "ytidcpdolcbbnjaa", sum := "e104f01229e5aca308b7691a3308a14e0d56c18771a771f2aad378f9c04f5ba1", func := "loop.example/linkstaterouting/laws.FnExactDbMerge", spec := "fnExactDbMerge", inPlace := ["slices.overlaps[loop.example/linkstaterouting/impl.Lsa]"], unfollowed := true, recurses := true, apart := false }
def FnExactDbMergeSaid : Prop := fnExactDbMergeRow.holds Try.pinned (OpenSpec.ofChange fnExactDbMergeSpec)

/-- ITS FALSE NEIGHBOUR: 'it returns false'. Refute it at one input. -/
def fnExactDbMergeWrong : ChangeSpec := { name := "fnExactDbMerge", fn := fun _ => fun
  | [d1, d2] => { results := [.lit (.bool false)], args := [d1, d2] }
  | _ => none }
def FnExactDbMergeWrongFalsely : Prop := fnExactDbMergeRow.holds Try.pinned (OpenSpec.ofChange fnExactDbMergeWrong)

/- THE SECOND FORM. 'bulk': how many values and letters a reading holds, each counted each time it is reached (what is shared counts as often as it is met; a slice's spare places count too). A statement '..UptoSaid' is the law's where the arguments, and the package variables that the reading takes, are together of bulk at most 1048576: NARROWER than '..Said'. Prove '..Said' where nothing that the law and all that it calls make is longer than what came in: it says more and counts as full. Else prove '..UptoSaid'. A law counts once. -/
mutual
def uptoBulk {H : Type} : DataW H → Nat
  | .lit (.string bytes) => bytes.length + 1
  | .lit _ => 1
  | .nil => 1
  | .ptr d => uptoBulk d + 1
  | .slice elems spare => uptoBulkAll elems + uptoBulkAll spare + 1
  | .agg parts => uptoBulkAll parts + 1
  | .iface _ d => uptoBulk d + 1
  | .map entries => uptoBulkEntries entries + 1
  | .held _ => 1
def uptoBulkAll {H : Type} : List (DataW H) → Nat
  | [] => 0
  | d :: r => uptoBulk d + uptoBulkAll r
def uptoBulkEntries {H : Type} : List (Lit × DataW H) → Nat
  | [] => 0
  | x :: r => uptoBulkEntry x + uptoBulkEntries r
def uptoBulkEntry {H : Type} : Lit × DataW H → Nat
  | (.string bytes, d) => bytes.length + uptoBulk d + 1
  | (_, d) => uptoBulk d + 1
 end
def uptoSmall : (H : Type) → List (DataW H) → Bool := fun _ ds => decide (uptoBulkAll ds ≤ 1048576)
def OpenSpec.upto (s : _root_.Go.ChangeSpec) : _root_.Go.OpenSpec := { _root_.Go.OpenSpec.ofChange s with cond := some uptoSmall }

/-- 'laws.FnDbPutOrder', WHERE WHAT IT READS IS OF BULK AT MOST 1048576: true; the input reads as it did. -/
def fnDbPutOrderUptoRow : OpenClaim := { program := "ytidcpdolcbbnjaa", sum := "e104f01229e5aca308b7691a3308a14e0d56c18771a771f2aad378f9c04f5ba1", func := "loop.example/linkstaterouting/laws.FnDbPutOrder", spec := "fnDbPutOrder", inPlace := ["slices.overlaps[loop.example/linkstaterouting/impl.Lsa]"], unfollowed := true, recurses := true, apart := false, narrowed := true }
def FnDbPutOrderUptoSaid : Prop := fnDbPutOrderUptoRow.holds Try.pinned (OpenSpec.upto fnDbPutOrderSpec)

/-- 'laws.FnDbPutTwice', WHERE WHAT IT READS IS OF BULK AT MOST 1048576: true; the input reads as it did. -/
def fnDbPutTwiceUptoRow : OpenClaim := { program := "ytidcpdolcbbnjaa", sum := "e104f01229e5aca308b7691a3308a14e0d56c18771a771f2aad378f9c04f5ba1", func := "loop.example/linkstaterouting/laws.FnDbPutTwice", spec := "fnDbPutTwice", inPlace := ["slices.overlaps[loop.example/linkstaterouting/impl.Lsa]"], unfollowed := true, recurses := true, apart := false, narrowed := true }
def FnDbPutTwiceUptoSaid : Prop := fnDbPutTwiceUptoRow.holds Try.pinned (OpenSpec.upto fnDbPutTwiceSpec)

/-- 'laws.FnDbPut', WHERE WHAT IT READS IS OF BULK AT MOST 1048576: true; the input reads as it did. -/
def fnDbPutUptoRow : OpenClaim := { program := "ytidcpdolcbbnjaa", sum := "e104f01229e5aca308b7691a3308a14e0d56c18771a771f2aad378f9c04f5ba1", func := "loop.example/linkstaterouting/laws.FnDbPut", spec := "fnDbPut", inPlace := ["slices.overlaps[loop.example/linkstaterouting/impl.Lsa]"], unfollowed := true, recurses := true, apart := false, narrowed := true }
def FnDbPutUptoSaid : Prop := fnDbPutUptoRow.holds Try.pinned (OpenSpec.upto fnDbPutSpec)

/-- 'laws.FnDbPutCodes', WHERE WHAT IT READS IS OF BULK AT MOST 1048576: true; the input reads as it did. -/
def fnDbPutCodesUptoRow : OpenClaim := { program := "ytidcpdolcbbnjaa", sum := "e104f01229e5aca308b7691a3308a14e0d56c18771a771f2aad378f9c04f5ba1", func := "loop.example/linkstaterouting/laws.FnDbPutCodes", spec := "fnDbPutCodes", inPlace := ["slices.overlaps[loop.example/linkstaterouting/impl.Lsa]"], unfollowed := true, recurses := true, apart := false, narrowed := true }
def FnDbPutCodesUptoSaid : Prop := fnDbPutCodesUptoRow.holds Try.pinned (OpenSpec.upto fnDbPutCodesSpec)

/-- 'laws.FnDbMergeSame', WHERE WHAT IT READS IS OF BULK AT MOST 1048576: true; the input reads as it did. -/
def fnDbMergeSameUptoRow : OpenClaim := { program := "ytidcpdolcbbnjaa", sum := "e104f01229e5aca308b7691a3308a14e0d56c18771a771f2aad378f9c04f5ba1", func := "loop.example/linkstaterouting/laws.FnDbMergeSame", spec := "fnDbMergeSame", inPlace := ["slices.overlaps[loop.example/linkstaterouting/impl.Lsa]"], unfollowed := true, recurses := true, apart := false, narrowed := true }
def FnDbMergeSameUptoSaid : Prop := fnDbMergeSameUptoRow.holds Try.pinned (OpenSpec.upto fnDbMergeSameSpec)

/-- 'laws.FnDbMerge', WHERE WHAT IT READS IS OF BULK AT MOST 1048576: true; the input reads as it did. -/
def fnDbMergeUptoRow : OpenClaim := { program := "ytidcpdolcbbnjaa", sum := "e104f01229e5aca308b7691a3308a14e0d56c18771a771f2aad378f9c04f5ba1", func := "loop.example/linkstaterouting/laws.FnDbMerge", spec := "fnDbMerge", inPlace := ["slices.overlaps[loop.example/linkstaterouting/impl.Lsa]"], unfollowed := true, recurses := true, apart := false, narrowed := true }
def FnDbMergeUptoSaid : Prop := fnDbMergeUptoRow.holds Try.pinned (OpenSpec.upto fnDbMergeSpec)

/-- 'laws.FnDbMergeBack', WHERE WHAT IT READS IS OF BULK AT MOST 1048576: true; the input reads as it did. -/
def fnDbMergeBackUptoRow : OpenClaim := { program := "ytidcpdolcbbnjaa", sum := "e104f01229e5aca308b7691a3308a14e0d56c18771a771f2aad378f9c04f5ba1", func := "loop.example/linkstaterouting/laws.FnDbMergeBack", spec := "fnDbMergeBack", inPlace := ["slices.overlaps[loop.example/linkstaterouting/impl.Lsa]"], unfollowed := true, recurses := true, apart := false, narrowed := true }
def FnDbMergeBackUptoSaid : Prop := fnDbMergeBackUptoRow.holds Try.pinned (OpenSpec.upto fnDbMergeBackSpec)

/-- 'laws.FnDbMissing', WHERE WHAT IT READS IS OF BULK AT MOST 1048576: true; the input reads as it did. -/
def fnDbMissingUptoRow : OpenClaim := { program := "ytidcpdolcbbnjaa", sum := "e104f01229e5aca308b7691a3308a14e0d56c18771a771f2aad378f9c04f5ba1", func := "loop.example/linkstaterouting/laws.FnDbMissing", spec := "fnDbMissing", inPlace := ["slices.overlaps[loop.example/linkstaterouting/impl.Lsa]"], unfollowed := true, recurses := true, apart := false, narrowed := true }
def FnDbMissingUptoSaid : Prop := fnDbMissingUptoRow.holds Try.pinned (OpenSpec.upto fnDbMissingSpec)

/-- 'laws.FnSyncMerge', WHERE WHAT IT READS IS OF BULK AT MOST 1048576: true; the input reads as it did. -/
def fnSyncMergeUptoRow : OpenClaim := { program := "ytidcpdolcbbnjaa", sum := "e104f01229e5aca308b7691a3308a14e0d56c18771a771f2aad378f9c04f5ba1", func := "loop.example/linkstaterouting/laws.FnSyncMerge", spec := "fnSyncMerge", inPlace := ["slices.overlaps[loop.example/linkstaterouting/impl.Lsa]"], unfollowed := true, recurses := true, apart := false, narrowed := true }
def FnSyncMergeUptoSaid : Prop := fnSyncMergeUptoRow.holds Try.pinned (OpenSpec.upto fnSyncMergeSpec)

/-- 'laws.FnExactDbPut', WHERE WHAT IT READS IS OF BULK AT MOST 1048576: true; the input reads as it did. -/
def fnExactDbPutUptoRow : OpenClaim := { program := "ytidcpdolcbbnjaa", sum := "e104f01229e5aca308b7691a3308a14e0d56c18771a771f2aad378f9c04f5ba1", func := "loop.example/linkstaterouting/laws.FnExactDbPut", spec := "fnExactDbPut", inPlace := ["slices.overlaps[loop.example/linkstaterouting/impl.Lsa]"], unfollowed := true, recurses := true, apart := false, narrowed := true }
def FnExactDbPutUptoSaid : Prop := fnExactDbPutUptoRow.holds Try.pinned (OpenSpec.upto fnExactDbPutSpec)

/-- 'laws.FnExactDbMerge', WHERE WHAT IT READS IS OF BULK AT MOST 1048576: true; the input reads as it did. -/
def fnExactDbMergeUptoRow : OpenClaim := { program := "ytidcpdolcbbnjaa", sum := "e104f01229e5aca308b7691a3308a14e0d56c18771a771f2aad378f9c04f5ba1", func := "loop.example/linkstaterouting/laws.FnExactDbMerge", spec := "fnExactDbMerge", inPlace := ["slices.overlaps[loop.example/linkstaterouting/impl.Lsa]"], unfollowed := true, recurses := true, apart := false, narrowed := true }
def FnExactDbMergeUptoSaid : Prop := fnExactDbMergeUptoRow.holds Try.pinned (OpenSpec.upto fnExactDbMergeSpec)

end Rows
end Go.Proofs.Ytidcpdolcbbnjaa
