/- Rows that the call itself makes, filled cell by cell; databases in memory; eqB. No program in sight. -/
import Derived.Test.YthcnmhjfapoaiaaPre
import Derived.Deep.OwnRows
namespace Go.Proofs.Ythcnmhjfapoaiaa
set_option linter.unusedSimpArgs false
set_option linter.unusedVariables false
open Go.RowKit

def eqB {α : Type} [DecidableEq α] (a b : α) : Bool := decide (a = b)
theorem eqB_self {α : Type} [DecidableEq α] (a : α) : eqB a a = true := by simp [eqB]

/-- Block b is a row of n cells, none frozen, whose first cells are xs. -/
def Filled (w : World) (b : Nat) (t : TypeId) (n : Nat) (xs : List Value) : Prop := ∃ cur, w.heap[b]? = some (.cells cur t (0, 0)) ∧ cur.size = n ∧ xs.length ≤ n ∧ cur.toList.take xs.length = xs
theorem filled_new (w : World) (c : Array Value) (t : TypeId) (n : Nat) (hc : c.size = n) : Filled (w.alloc (.cells c t)) w.heap.size t n [] := ⟨c, heap_alloc_new w _, hc, by simp, by simp⟩
theorem Filled.lt {w : World} {b : Nat} {t : TypeId} {n : Nat} {xs : List Value} (h : Filled w b t n xs) : b < w.heap.size := let ⟨_, h, _⟩ := h; (Array.getElem?_eq_some_iff.1 h).1
theorem Filled.cell {w : World} {b : Nat} {t : TypeId} {n : Nat} {xs : List Value} (h : Filled w b t n xs) (i : Nat) (hi : i < n) : ∃ u, w.cell? ⟨b, i, none⟩ = some u := by
  obtain ⟨cur, hc, hs, _, _⟩ := h
  refine ⟨cur[i]'(by omega), ?_⟩
  simp only [World.cell?]
  rw [hc]
  simp [Array.getElem?_eq_getElem (show i < cur.size by omega)]
theorem Filled.frozen {w : World} {b : Nat} {t : TypeId} {n : Nat} {xs : List Value} (h : Filled w b t n xs) (i : Nat) : w.frozen? ⟨b, i, none⟩ = false := by
  obtain ⟨cur, hc, _⟩ := h
  simp only [World.frozen?]
  rw [hc]
  simp
theorem Filled.block {w w' : World} {b : Nat} {t : TypeId} {n : Nat} {xs : List Value} (h : Filled w b t n xs) (hb : w'.heap[b]? = w.heap[b]?) : Filled w' b t n xs := let ⟨cur, h1, h2⟩ := h; ⟨cur, hb.trans h1, h2⟩
theorem Filled.alloc {w : World} {b : Nat} {t : TypeId} {n : Nat} {xs : List Value} (h : Filled w b t n xs) (o : Obj) : Filled (w.alloc o) b t n xs := h.block (Below.heap_alloc w o b h.lt)
theorem Filled.drewN {w : World} {b : Nat} {t : TypeId} {n : Nat} {xs : List Value} (h : Filled w b t n xs) (k : Nat) : Filled (w.drewN k) b t n xs := h
theorem Filled.below {w w' : World} {b B : Nat} {t : TypeId} {n : Nat} {xs : List Value} (h : Filled w b t n xs) (hb : Below B w w') (hB : b < B) : Filled w' b t n xs := h.block (hb.block b hB)
theorem Filled.set {w : World} {b i : Nat} {t : TypeId} {n : Nat} {xs : List Value} (h : Filled w b t n xs) (hi : i = xs.length) (hn : i < n) (v : Value) : Filled (w.setCell ⟨b, i, none⟩ v) b t n (xs ++ [v]) := by
  subst hi
  obtain ⟨cur, h1, h2, h3, h4⟩ := h
  refine ⟨cur.setIfInBounds xs.length v, ?_, by simpa using h2, by simp; omega, ?_⟩
  · show (w.setCell ⟨b, xs.length, none⟩ v).heap[b]? = _
    simp only [World.setCell, Array.getElem?_modify]
    rw [h1]
    simp
  · apply List.ext_getElem?
    intro j
    simp only [List.length_append, List.length_singleton, List.getElem?_take, Array.getElem?_toList, Array.getElem?_setIfInBounds, List.getElem?_append]
    have h5 : ∀ j, j < xs.length → cur[j]? = xs[j]? := by
      intro j hj
      have := congrArg (fun l : List Value => l[j]?) h4
      simpa [List.getElem?_take, hj] using this
    by_cases h6 : j < xs.length
    · have : ¬ xs.length = j := by omega
      simp [h6, this, h5 j h6, show j < xs.length + 1 by omega]
    · by_cases h7 : j = xs.length
      · subst h7
        simp [show xs.length < cur.size by omega]
      · have h8 : ¬ j < xs.length + 1 := by omega
        have h9 : j - xs.length ≠ 0 := by omega
        simp [h6, h8]
        omega
theorem Filled.owns {w : World} {b base : Nat} {t : TypeId} {n size : Nat} {xs : List Value} (h : Filled w b t (n * size) xs) (hx : xs.length = n * size) (hb : base ≤ b) (hn : n ≤ maxLen) : w.ownsRow base t size (.slice (some ⟨b, 0, none⟩) n n) n xs := by
  obtain ⟨cur, h1, h2, h3, h4⟩ := h
  exact ⟨hx, .inr ⟨b, n, cur, rfl, hb, h1, Nat.le_refl _, hn, h2, by rw [← hx]; exact h4⟩⟩

/-- The cells of a list of pairs. -/
def cells2 (es : List (Int × Int)) : List Value := es.flatMap fun e => [.int .i64 e.1, .int .i64 e.2]
theorem cells2_len (es : List (Int × Int)) : (cells2 es).length = es.length * 2 := by
  induction es with
  | nil => rfl
  | cons e es ih => simp [cells2] at *; omega
theorem cells2_snoc (es : List (Int × Int)) (x y : Int) : cells2 (es ++ [(x, y)]) = (cells2 es ++ [.int .i64 x]) ++ [.int .i64 y] := by simp [cells2]
theorem cells2_at {es : List (Int × Int)} {k : Nat} {x y : Int} (h : es[k]? = some (x, y)) : (cells2 es)[k * 2]? = some (.int .i64 x) ∧ (cells2 es)[k * 2 + 1]? = some (.int .i64 y) := by
  induction es generalizing k with
  | nil => simp at h
  | cons e es ih =>
    cases k with
    | zero => simp at h; subst h; exact ⟨rfl, rfl⟩
    | succ k =>
      simp at h
      have := ih h
      have e2 : (k + 1) * 2 = (k * 2) + 1 + 1 := by omega
      have c : cells2 (e :: es) = .int .i64 e.1 :: .int .i64 e.2 :: cells2 es := rfl
      rw [c, e2]
      simpa using this
theorem take_succ2 {es : List (Int × Int)} {k : Nat} {x y : Int} (h : es[k]? = some (x, y)) : cells2 (es.take (k + 1)) = (cells2 (es.take k) ++ [.int .i64 x]) ++ [.int .i64 y] := by
  have hk := (List.getElem?_eq_some_iff.1 h)
  obtain ⟨hl, he⟩ := hk
  rw [List.take_succ_eq_append_getElem hl, he, cells2_snoc]
theorem pairs_of_owns {w : World} {base : Nat} {e : TypeId} {v : Value} {es : List (Int × Int)} (h : w.ownsRow base e 2 v es.length (cells2 es)) : PairsAt w v es := by
  obtain ⟨_, h⟩ := h
  rcases h with ⟨rfl, h0⟩ | ⟨g, cap, cur, rfl, _, hg, hn, hm, hs, ht⟩
  · refine ⟨none, 0, 0, 0, by rw [h0], by omega, by unfold maxLen; omega, fun h => by omega, fun k x y hk => ?_⟩
    have := (List.getElem?_eq_some_iff.1 hk).1
    omega
  · refine ⟨_, cap, g, 0, rfl, hn, hm, fun _ => rfl, fun k x y hk => ?_⟩
    have hl := (List.getElem?_eq_some_iff.1 hk).1
    obtain ⟨c0, c1⟩ := cells2_at hk
    rw [← ht, List.getElem?_take, if_pos (by omega)] at c0 c1
    constructor
    · simp only [World.cell?]; rw [hg]; simpa using c0
    · simp only [World.cell?]; rw [hg]; simpa using c1
theorem PairsAt.form {w : World} {v : Value} {es : List (Int × Int)} (h : PairsAt w v es) : ∃ a n cap, v = .slice a n cap := let ⟨a, cap, _, _, hv, _⟩ := h; ⟨a, _, cap, hv⟩
theorem LsasAt.form {w : World} {v : Value} {db : List LsaD} (h : LsasAt w v db) : ∃ a n cap, v = .slice a n cap := let ⟨a, cap, _, _, hv, _⟩ := h; ⟨a, _, cap, hv⟩
end Go.Proofs.Ythcnmhjfapoaiaa
