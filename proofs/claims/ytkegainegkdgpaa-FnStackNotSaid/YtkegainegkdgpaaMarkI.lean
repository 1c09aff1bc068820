/- Marks: every element of a result is written over, and read back: lists of integers. -/
import Derived.Test.YtkegainegkdgpaaMdI
namespace Go.Proofs.Ytkegainegkdgpaa
set_option linter.unusedSimpArgs false
set_option linter.unusedVariables false
open Go.RowKit
def markI (k : Int) (n : Nat) : List Int := (List.range n).map fun (i : Nat) => k + (i : Int)
theorem markI_len (k : Int) (n : Nat) : (markI k n).length = n := by simp [markI]
theorem markI_snoc (k : Int) (n : Nat) : markI k (n + 1) = markI k n ++ [k + (n : Int)] := by simp [markI, List.range_succ]
theorem markI_at {k : Int} {n i : Nat} (h : i < n) : (markI k n)[i]? = some (k + (i : Int)) := by simp [markI, h]
def markE (k : Int) (n : Nat) : List (Int × Int) := (List.range n).map fun (i : Nat) => (k + 2 * (i : Int), k + 2 * (i : Int) + 1)
theorem markE_len (k : Int) (n : Nat) : (markE k n).length = n := by simp [markE]
theorem markE_snoc (k : Int) (n : Nat) : markE k (n + 1) = markE k n ++ [(k + 2 * (n : Int), k + 2 * (n : Int) + 1)] := by simp [markE, List.range_succ]
theorem markE_at {k : Int} {n i : Nat} (h : i < n) : (markE k n)[i]? = some (k + 2 * (i : Int), k + 2 * (i : Int) + 1) := by simp [markE, h]
def MarkIntsPost (w : World) (lo hi : Nat) (v : Value) (n : Nat) (k : Int) (e : Ending) (w' : World) : Prop :=
  e = .returned (.int .i64 (k + n)) ∧ OwnR w' lo hi 3 1 v n ((markI k n).map (Value.int .i64)) ∧ w.grownBy w' v.ownBlock
end Go.Proofs.Ytkegainegkdgpaa
