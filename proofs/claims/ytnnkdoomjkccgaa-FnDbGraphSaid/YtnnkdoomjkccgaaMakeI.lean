/- What a call that makes a list of integers leaves behind. · Copies of lists of integers in new memory: toIntS. · Marks: every element of a result is written over, and read back: lists of integers. -/
import Derived.Test.YtnnkdoomjkccgaaBase
import Derived.Test.YtnnkdoomjkccgaaApp
import Derived.Test.YtnnkdoomjkccgaaOwn2
import Derived.Laws.MakeOwn
namespace Go.Proofs.Ytnnkdoomjkccgaa
set_option linter.unusedSimpArgs false
set_option linter.unusedVariables false
open Go.RowKit
theorem infoI : (Try.prog.info? 3).map (fun i => (i.zero, i.size, i.bytes)) = some (some (.int .i64 0), 1, 8) := by kernel_rfl
def MadeInts (w : World) (xs : List Int) (e : Ending) (w' : World) : Prop := ∃ v, e = .returned v ∧ OwnR w' w.heap.size w'.heap.size 3 1 v xs.length (xs.map (Value.int .i64)) ∧ Below w.heap.size w w'
def MadePairs (w : World) (t : TypeId) (es : List (Int × Int)) (e : Ending) (w' : World) : Prop := ∃ v, e = .returned v ∧ OwnR w' w.heap.size w'.heap.size t 2 v es.length (cells2 es) ∧ Below w.heap.size w w'
/-- What is left of a budget. -/
def leftOf (n left : Int) : Int := if n ≤ left then left - n else -1
end Go.Proofs.Ytnnkdoomjkccgaa
namespace Go.Proofs.Ytnnkdoomjkccgaa
set_option linter.unusedSimpArgs false
set_option linter.unusedVariables false
open Go.RowKit
theorem filled_made {w : World} {base g n size : Nat} {t : TypeId} {xs : List Value} (h : w.ownsRow base t size (.slice (some ⟨g, 0, none⟩) n n) n xs) : Filled w g t (n * size) [] := by
  rcases h.2 with ⟨h0, _⟩ | ⟨g', cap, cur, h0, _, h2, _, _, h5, _⟩
  · simp at h0
  · simp only [Value.slice.injEq, Option.some.injEq, Addr.mk.injEq] at h0
    obtain ⟨⟨rfl, _⟩, _, rfl⟩ := h0
    exact ⟨cur, h2, h5, by simp, by simp⟩
theorem below_none {w w' : World} (h : w.grownBy w' none) : Below w.heap.size w w' := ⟨h.os, h.tape, h.output, h.size, fun i hi => h.block i hi (by simp)⟩
end Go.Proofs.Ytnnkdoomjkccgaa
namespace Go.Proofs.Ytnnkdoomjkccgaa
set_option linter.unusedSimpArgs false
set_option linter.unusedVariables false
open Go.RowKit
def markI (k : Int) (n : Nat) : List Int := (List.range n).map fun (i : Nat) => k + (i : Int)
theorem markI_len (k : Int) (n : Nat) : (markI k n).length = n := by simp [markI]
theorem markI_snoc (k : Int) (n : Nat) : markI k (n + 1) = markI k n ++ [k + (n : Int)] := by simp [markI, List.range_succ]
theorem markI_at {k : Int} {n i : Nat} (h : i < n) : (markI k n)[i]? = some (k + (i : Int)) := by simp [markI, h]
def markE (k : Int) (n : Nat) : List (Int × Int) := (List.range n).map fun (i : Nat) => (k + 2 * (i : Int), k + 2 * (i : Int) + 1)
theorem markE_len (k : Int) (n : Nat) : (markE k n).length = n := by simp [markE]
theorem markE_snoc (k : Int) (n : Nat) : markE k (n + 1) = markE k n ++ [(k + 2 * (n : Int), k + 2 * (n : Int) + 1)] := by simp [markE, List.range_succ]
theorem markE_at {k : Int} {n i : Nat} (h : i < n) : (markE k n)[i]? = some (k + 2 * (i : Int), k + 2 * (i : Int) + 1) := by simp [markE, h]
def MarkIntsPost (w : World) (lo hi : Nat) (v : Value) (n : Nat) (k : Int) (e : Ending) (w' : World) : Prop :=
  e = .returned (.int .i64 (k + n)) ∧ OwnR w' lo hi 3 1 v n ((markI k n).map (Value.int .i64)) ∧ w.grownBy w' v.ownBlock
end Go.Proofs.Ytnnkdoomjkccgaa
