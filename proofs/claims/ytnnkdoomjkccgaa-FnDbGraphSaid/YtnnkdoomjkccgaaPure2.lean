/- Plain lemmas on announcements and lists of them. No program in sight. -/
import Derived.Test.YtnnkdoomjkccgaaGrAll
namespace Go.Proofs.Ytnnkdoomjkccgaa
set_option linter.unusedSimpArgs false
set_option linter.unusedVariables false

theorem asc_of_next {f : Nat → Int} {n : Nat} (h : ∀ k, 0 < k → k < n → f (k - 1) < f k) : ∀ i j, i < j → j < n → f i < f j := by
  intro i j hij
  induction j with
  | zero => omega
  | succ j ih =>
    intro hj
    have h1 := h (j + 1) (by omega) hj
    simp only [Nat.add_sub_cancel] at h1
    by_cases he : i = j
    · subst he; exact h1
    · exact Int.lt_trans (ih (by omega) (by omega)) h1
theorem getD_pair {es : List (Int × Int)} {k : Nat} {x y : Int} (h : es[k]? = some (x, y)) : es.getD k (0, 0) = (x, y) := by rw [List.getD_eq_getElem?_getD, h]; rfl
theorem lsaOk_iff {o s : Int} {es : List (Int × Int)} : lsaOk o s es = true ↔ inB o 0 7 = true ∧ inB s 1 99 = true ∧
    (∀ (k : Nat) (x y : Int), es[k]? = some (x, y) → inB x 0 7 = true ∧ x ≠ o ∧ inB y 1 20 = true) ∧ (∀ (i j : Nat) (x y x' y' : Int), i < j → es[i]? = some (x, y) → es[j]? = some (x', y') → x < x') := by
  unfold lsaOk
  simp only [Bool.and_eq_true, all_iff]
  constructor
  · rintro ⟨⟨h1, h2⟩, h3⟩
    have hk : ∀ k x y, es[k]? = some (x, y) → inB x 0 7 = true ∧ x ≠ o ∧ inB y 1 20 = true ∧ (0 < k → (es.getD (k - 1) (0, 0)).1 < x) := by
      intro k x y hxy
      have := h3 k (List.getElem?_eq_some_iff.1 hxy).1
      rw [endOk_at hxy] at this
      simp only [Bool.and_eq_true, Bool.not_eq_true', Bool.or_eq_true, beq_iff_eq, beq_eq_false_iff_ne, decide_eq_false_iff_not] at this
      exact ⟨this.1.1.1, this.1.1.2, this.1.2, fun h0 => by rcases this.2 with h | h <;> omega⟩
    refine ⟨h1, h2, fun k x y hxy => ⟨(hk k x y hxy).1, (hk k x y hxy).2.1, (hk k x y hxy).2.2.1⟩, fun i j x y x' y' hij hi hj => ?_⟩
    have := asc_of_next (f := fun k => (es.getD k (0, 0)).1) (n := es.length) (fun k h0 hkl => by
      obtain ⟨⟨a, b⟩, hab⟩ := at_lt (l := es) (n := es.length) rfl hkl
      have := (hk k a b hab).2.2.2 h0
      simp only [getD_pair hab]
      exact this) i j hij (List.getElem?_eq_some_iff.1 hj).1
    simp only [getD_pair hi, getD_pair hj] at this
    exact this
  · rintro ⟨h1, h2, h3, h4⟩
    refine ⟨⟨h1, h2⟩, fun k hk => ?_⟩
    obtain ⟨⟨x, y⟩, hxy⟩ := at_lt (l := es) (n := es.length) rfl hk
    rw [endOk_at hxy]
    obtain ⟨a1, a2, a3⟩ := h3 k x y hxy
    simp only [Bool.and_eq_true, Bool.not_eq_true', Bool.or_eq_true, beq_iff_eq, beq_eq_false_iff_ne, decide_eq_false_iff_not]
    refine ⟨⟨⟨a1, a2⟩, a3⟩, ?_⟩
    by_cases h0 : k = 0
    · exact .inl h0
    · right
      obtain ⟨⟨a, b⟩, hab⟩ := at_lt (l := es) (n := es.length) rfl (k := k - 1) (by omega)
      rw [getD_pair hab]
      have := h4 (k - 1) k a b x y (by omega) hab hxy
      simp only
      omega
theorem erase_at {α : Type} (l : List α) (k i : Nat) : (l.take k ++ l.drop (k + 1))[i]? = if i < k then l[i]? else l[i + 1]? := by
  rw [← List.eraseIdx_eq_take_drop_succ, List.getElem?_eraseIdx]
theorem lsaOk_part {o s : Int} {es : List (Int × Int)} (h : lsaOk o s es = true) (k : Nat) : lsaOk o s (es.take k ++ es.drop (k + 1)) = true := by
  rw [lsaOk_iff] at h ⊢
  obtain ⟨h1, h2, h3, h4⟩ := h
  refine ⟨h1, h2, fun i x y hi => ?_, fun i j x y x' y' hij hi hj => ?_⟩
  · rw [erase_at] at hi
    split at hi <;> exact h3 _ _ _ hi
  · rw [erase_at] at hi hj
    split at hi <;> split at hj
    · exact h4 _ _ _ _ _ _ hij hi hj
    · exact h4 _ _ _ _ _ _ (by omega) hi hj
    · omega
    · exact h4 _ _ _ _ _ _ (by omega) hi hj
theorem lsaOk_self (o s c : Int) : lsaOk o s [(o, c)] = false := by
  rw [Bool.eq_false_iff]
  intro h
  rw [lsaOk_iff] at h
  exact (h.2.2.1 0 o c rfl).2.1 rfl
end Go.Proofs.Ytnnkdoomjkccgaa
