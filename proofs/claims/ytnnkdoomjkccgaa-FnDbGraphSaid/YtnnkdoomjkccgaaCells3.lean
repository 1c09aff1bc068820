/- Rows of three fields: cells, reading, marks. No program in sight. -/
import Derived.Test.YtnnkdoomjkccgaaOwn2
namespace Go.Proofs.Ytnnkdoomjkccgaa
set_option linter.unusedSimpArgs false
set_option linter.unusedVariables false
open Go.RowKit

def cells3 (es : List (Int × Int × Int)) : List Value := es.flatMap fun e => [.int .i64 e.1, .int .i64 e.2.1, .int .i64 e.2.2]
theorem cells3_len (es : List (Int × Int × Int)) : (cells3 es).length = es.length * 3 := by
  induction es with
  | nil => rfl
  | cons e es ih => simp [cells3] at *; omega
theorem cells3_snoc (es : List (Int × Int × Int)) (x y z : Int) : cells3 (es ++ [(x, y, z)]) = ((cells3 es ++ [.int .i64 x]) ++ [.int .i64 y]) ++ [.int .i64 z] := by simp [cells3]
theorem cells3_at {es : List (Int × Int × Int)} {k : Nat} {x y z : Int} (h : es[k]? = some (x, y, z)) : (cells3 es)[k * 3]? = some (.int .i64 x) ∧ (cells3 es)[k * 3 + 1]? = some (.int .i64 y) ∧ (cells3 es)[k * 3 + 2]? = some (.int .i64 z) := by
  induction es generalizing k with
  | nil => simp at h
  | cons e es ih =>
    cases k with
    | zero => simp at h; subst h; exact ⟨rfl, rfl, rfl⟩
    | succ k =>
      simp at h
      have := ih h
      have e2 : (k + 1) * 3 = (k * 3) + 1 + 1 + 1 := by omega
      have c : cells3 (e :: es) = .int .i64 e.1 :: .int .i64 e.2.1 :: .int .i64 e.2.2 :: cells3 es := rfl
      rw [c, e2]
      simpa using this
theorem take_succ3 {es : List (Int × Int × Int)} {k : Nat} {x y z : Int} (h : es[k]? = some (x, y, z)) : cells3 (es.take (k + 1)) = ((cells3 (es.take k) ++ [.int .i64 x]) ++ [.int .i64 y]) ++ [.int .i64 z] := by
  have hk := (List.getElem?_eq_some_iff.1 h)
  obtain ⟨hl, he⟩ := hk
  rw [List.take_succ_eq_append_getElem hl, he, cells3_snoc]
theorem triples_of_owns {w : World} {base : Nat} {e : TypeId} {v : Value} {es : List (Int × Int × Int)} (h : w.ownsRow base e 3 v es.length (cells3 es)) : TriplesAt w v es := by
  obtain ⟨_, h⟩ := h
  rcases h with ⟨rfl, h0⟩ | ⟨g, cap, cur, rfl, _, hg, hn, hm, hs, ht⟩
  · refine ⟨none, 0, 0, 0, by rw [h0], by omega, by unfold maxLen; omega, fun h => by omega, fun k x y z hk => ?_⟩
    have := (List.getElem?_eq_some_iff.1 hk).1
    omega
  · refine ⟨_, cap, g, 0, rfl, hn, hm, fun _ => rfl, fun k x y z hk => ?_⟩
    have hl := (List.getElem?_eq_some_iff.1 hk).1
    obtain ⟨c0, c1, c2⟩ := cells3_at hk
    rw [← ht, List.getElem?_take, if_pos (by omega)] at c0 c1 c2
    refine ⟨?_, ?_, ?_⟩
    · simp only [World.cell?]; rw [hg]; simpa using c0
    · simp only [World.cell?]; rw [hg]; simpa using c1
    · simp only [World.cell?]; rw [hg]; simpa using c2
theorem own_triples {w : World} {lo hi : Nat} {t : TypeId} {v : Value} {es : List (Int × Int × Int)} (h : OwnR w lo hi t 3 v es.length (cells3 es)) : TriplesAt w v es := triples_of_owns h.1
def MadeTriples (w : World) (t : TypeId) (es : List (Int × Int × Int)) (e : Ending) (w' : World) : Prop := ∃ v, e = .returned v ∧ OwnR w' w.heap.size w'.heap.size t 3 v es.length (cells3 es) ∧ Below w.heap.size w w'
/-- The marks of n rows of three. -/
def markT (k : Int) (n : Nat) : List (Int × Int × Int) := (List.range n).map fun (i : Nat) => (k + 3 * (i : Int), k + 3 * (i : Int) + 1, k + 3 * (i : Int) + 1 + 1)
theorem markT_len (k : Int) (n : Nat) : (markT k n).length = n := by simp [markT]
theorem markT_snoc (k : Int) (n : Nat) : markT k (n + 1) = markT k n ++ [(k + 3 * (n : Int), k + 3 * (n : Int) + 1, k + 3 * (n : Int) + 1 + 1)] := by simp [markT, List.range_succ]
end Go.Proofs.Ytnnkdoomjkccgaa
