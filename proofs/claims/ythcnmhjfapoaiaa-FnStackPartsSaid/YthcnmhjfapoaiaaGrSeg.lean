/- Walks that are the only shortest ones; paths split into such walks and single links; the greedy split is a least one. No program in sight. -/
import Derived.Test.YthcnmhjfapoaiaaGrTh
namespace Go.Proofs.Ythcnmhjfapoaiaa
set_option linter.unusedSimpArgs false
set_option linter.unusedVariables false

/-- No other walk to the same end costs as little. -/
def Uq (c : Cst) (a : Int) (p : List Int) : Prop := ∀ q, isW c a q (lastN a p) → wc c a q ≤ wc c a p → q = p
theorem isW_end {c : Cst} {a b : Int} {p : List Int} (h : isW c a p b) : isW c a p (lastN a p) := by rw [isW_last h]; exact h
theorem Uq.left {c : Cst} {a b : Int} {p q : List Int} (hw : isW c a (p ++ q) b) (h : Uq c a (p ++ q)) : Uq c a p := fun r hr hle => by
  have e := isW_last hr
  obtain ⟨h1, h2⟩ := isW_append.1 (isW_end hw)
  have := h (r ++ q) (isW_append.2 (by rw [e]; exact ⟨hr, h2⟩)) (by rw [wc_append, wc_append, e]; omega)
  exact List.append_cancel_right this
theorem Uq.right {c : Cst} {a b : Int} {p q : List Int} (hw : isW c a (p ++ q) b) (h : Uq c a (p ++ q)) : Uq c (lastN a p) q := fun r hr hle => by
  obtain ⟨h1, h2⟩ := isW_append.1 (isW_end hw)
  have e : lastN a (p ++ q) = lastN (lastN a p) q := lastN_append p q a
  have := h (p ++ r) (isW_append.2 ⟨h1, by rw [e]; exact hr⟩) (by rw [wc_append, wc_append]; omega)
  exact List.append_cancel_left this
theorem Uq.rv {N : Nat} {c : Cst} (hc : CstOk N c) {a b : Int} {p : List Int} (hw : isW c a p b) (h : Uq c a p) : Uq c (lastN a p) (rv a p) := fun q hq hle => by
  rw [rv_last] at hq
  obtain ⟨h1, h2⟩ := rv_walk hc hq
  obtain ⟨h3, h4⟩ := rv_walk hc (isW_end hw)
  have := h (Go.Proofs.Ythcnmhjfapoaiaa.rv (lastN a p) q) h1 (by omega)
  have e := rv_rv q (lastN a p)
  rw [isW_last hq, this] at e
  exact e.symm
def onlyB (N : Nat) (c : Cst) (D : Int → Int → Int) (a : Int) (p : List Int) : Bool := decide (wc c a p = D a (lastN a p)) && decide (cnt N c (D (lastN a p)) (lastN a p) N a = 1)
theorem only_iff {N : Nat} {c : Cst} {D : Int → Int → Int} (hc : CstOk N c) (hD : Dst N c D) {a b : Int} {p : List Int} (ha : nd N a) (hw : isW c a p b) : onlyB N c D a p = true ↔ Uq c a p := by
  have e := isW_last hw
  have hb := (isW_nd hc ha hw).1
  have l := hD.least a b p ha hw
  have hs := Dst.symm hc hD hb ha
  unfold onlyB
  rw [e, Bool.and_eq_true, decide_eq_true_iff, decide_eq_true_iff, cnt_one hc hD hb N a ha (by rw [hs]; exact l.1) (rk_le _ _ _)]
  unfold Uq
  rw [e]
  constructor
  · rintro ⟨h1, h2⟩ q hq hle
    have l2 := hD.least a b q ha hq
    exact h2 q p ⟨hq, by rw [hs]; omega⟩ ⟨hw, by rw [hs]; omega⟩
  · intro h
    obtain ⟨r, r1, r2⟩ := hD.walk a b ha hb l.1
    have hr := h r r1 (by omega)
    subst hr
    exact ⟨r2, fun p' q' hp' hq' => by rw [h p' hp'.1 (by rw [hp'.2, hs]; omega), h q' hq'.1 (by rw [hq'.2, hs]; omega)]⟩

/-- Segments one behind the other: each a single link or the only shortest walk. -/
def Sg (c : Cst) : Int → List (List Int) → Prop
  | _, [] => True
  | a, s :: ss => s ≠ [] ∧ (s.length = 1 ∨ Uq c a s) ∧ Sg c (lastN a s) ss
theorem sg_suffix {c : Cst} : ∀ {ss : List (List Int)} {a b : Int} {x y : List Int}, Sg c a ss → ss.flatten = x ++ y → isW c a (x ++ y) b → ∃ ss', ss'.flatten = y ∧ Sg c (lastN a x) ss' ∧ ss'.length ≤ ss.length
  | [], a, b, x, y, _, he, _ => by
    have : x = [] ∧ y = [] := by simpa using he.symm
    exact ⟨[], by simp [this.2], trivial, Nat.le_refl _⟩
  | s :: ss, a, b, x, y, ⟨h1, h2, h3⟩, he, hw => by
    rw [List.flatten_cons] at he
    rcases List.append_eq_append_iff.1 he with ⟨x', hx, hy⟩ | ⟨s', hs, hy⟩
    · subst hx
      rw [List.append_assoc] at hw
      obtain ⟨ss', a1, a2, a3⟩ := sg_suffix (ss := ss) (x := x') (y := y) h3 hy (isW_append.1 hw).2
      exact ⟨ss', a1, by rw [lastN_append]; exact a2, by simp; omega⟩
    · subst hs
      by_cases hn : s' = []
      · subst hn
        exact ⟨ss, by simpa using hy.symm, by simpa using h3, by simp⟩
      · refine ⟨s' :: ss, by rw [List.flatten_cons]; exact hy.symm, ⟨hn, ?_, ?_⟩, by simp⟩
        · rcases h2 with h2 | h2
          · have : 0 < s'.length := List.length_pos_iff.2 hn
            rw [List.length_append] at h2
            exact .inl (by omega)
          · rw [hy, ← List.append_assoc] at hw
            exact .inr (Uq.right (isW_append.1 hw).1 h2)
        · rw [← lastN_append]; exact h3
theorem sg_prefix {c : Cst} : ∀ {ss : List (List Int)} {a b : Int} {x y : List Int}, Sg c a ss → ss.flatten = x ++ y → isW c a (x ++ y) b → ∃ ss', ss'.flatten = x ∧ Sg c a ss' ∧ ss'.length ≤ ss.length
  | [], a, b, x, y, _, he, _ => by
    have : x = [] ∧ y = [] := by simpa using he.symm
    exact ⟨[], by simp [this.1], trivial, Nat.le_refl _⟩
  | s :: ss, a, b, x, y, ⟨h1, h2, h3⟩, he, hw => by
    rw [List.flatten_cons] at he
    rcases List.append_eq_append_iff.1 he with ⟨x', hx, hy⟩ | ⟨s', hs, hy⟩
    · subst hx
      rw [List.append_assoc] at hw
      obtain ⟨ss', a1, a2, a3⟩ := sg_prefix (ss := ss) (x := x') (y := y) h3 hy (isW_append.1 hw).2
      exact ⟨s :: ss', by rw [List.flatten_cons, a1], ⟨h1, h2, a2⟩, by simp; omega⟩
    · subst hs
      by_cases hn : x = []
      · exact ⟨[], by simp [hn], trivial, by simp⟩
      · refine ⟨[x], by simp, ⟨hn, ?_, trivial⟩, by simp⟩
        rcases h2 with h2 | h2
        · have : 0 < x.length := List.length_pos_iff.2 hn
          rw [List.length_append] at h2
          exact .inl (by omega)
        · rw [hy, ← List.append_assoc] at hw
          exact .inr (Uq.left (isW_append.1 hw).1 h2)
theorem sg_join {c : Cst} : ∀ {ss tt : List (List Int)} {a : Int}, Sg c a ss → Sg c (lastN a ss.flatten) tt → Sg c a (ss ++ tt)
  | [], _, _, _, h => h
  | s :: ss, tt, a, ⟨h1, h2, h3⟩, h => ⟨h1, h2, sg_join h3 (by rw [List.flatten_cons, lastN_append] at h; exact h)⟩
theorem rv_append : ∀ (p q : List Int) (a : Int), rv a (p ++ q) = rv (lastN a p) q ++ rv a p
  | [], q, a => by simp [rv, lastN]
  | x :: p, q, a => by
    show rv x (p ++ q) ++ [a] = rv (lastN x p) q ++ (rv x p ++ [a])
    rw [rv_append p q x, List.append_assoc]
theorem sg_rv {N : Nat} {c : Cst} (hc : CstOk N c) : ∀ {ss : List (List Int)} {a b : Int}, Sg c a ss → isW c a ss.flatten b → ∃ ss', ss'.flatten = rv a ss.flatten ∧ Sg c b ss' ∧ ss'.length = ss.length
  | [], a, b, _, _ => ⟨[], rfl, trivial, rfl⟩
  | s :: ss, a, b, ⟨h1, h2, h3⟩, hw => by
    rw [List.flatten_cons] at hw
    obtain ⟨w1, w2⟩ := isW_append.1 hw
    obtain ⟨ss', a1, a2, a3⟩ := sg_rv hc h3 w2
    have e := isW_last w2
    refine ⟨ss' ++ [rv a s], ?_, sg_join a2 ⟨?_, ?_, trivial⟩, by simp [a3]⟩
    · rw [List.flatten_append, a1, show (s :: ss).flatten = s ++ ss.flatten from rfl, rv_append]; simp
    · intro h
      have := rv_len s a
      rw [h] at this
      exact h1 (List.eq_nil_of_length_eq_zero this.symm)
    · rw [a1, ← e, rv_last]
      rcases h2 with h2 | h2
      · exact .inl (by rw [rv_len]; exact h2)
      · exact .inr (Uq.rv hc w1 h2)

/-- The greatest number from 1 to k that passes, or 0. -/
def bestK (f : Nat → Bool) : Nat → Nat
  | 0 => 0
  | k + 1 => if f (k + 1) then k + 1 else bestK f k
theorem bestK_le (f : Nat → Bool) : ∀ k, bestK f k ≤ k
  | 0 => Nat.le_refl _
  | k + 1 => by unfold bestK; split; exact Nat.le_refl _; have := bestK_le f k; omega
theorem bestK_ok (f : Nat → Bool) : ∀ k, 0 < bestK f k → f (bestK f k) = true
  | 0, h => by simp [bestK] at h
  | k + 1, h => by
    unfold bestK at h ⊢
    split
    · assumption
    · rename_i hf; rw [if_neg hf] at h; exact bestK_ok f k h
theorem bestK_ge {f : Nat → Bool} : ∀ {k j : Nat}, 0 < j → j ≤ k → f j = true → j ≤ bestK f k
  | 0, j, h1, h2, _ => by omega
  | k + 1, j, h1, h2, h => by
    unfold bestK
    split
    · exact h2
    · rename_i hf
      by_cases e : j = k + 1
      · subst e; exact absurd h hf
      · exact bestK_ge h1 (by omega) h
/-- The labels of a path: for each the greatest part that is an only shortest walk, else one link. -/
def comp (N : Nat) (c : Cst) (D : Int → Int → Int) (lk : Int → Int → Int) : Nat → Int → List Int → List (Int × Int)
  | 0, _, _ => []
  | _ + 1, _, [] => []
  | f + 1, a, x :: p =>
    let k := bestK (fun k => onlyB N c D a ((x :: p).take k)) (p.length + 1)
    if 0 < k then (1, lastN a ((x :: p).take k)) :: comp N c D lk f (lastN a ((x :: p).take k)) ((x :: p).drop k)
    else (2, lk a x) :: comp N c D lk f x p
section
variable {N : Nat} {c : Cst} {D : Int → Int → Int} (hc : CstOk N c) (hD : Dst N c D) (lk : Int → Int → Int)
include hc hD
theorem comp_sg : ∀ (f : Nat) (a b : Int) (p : List Int), p.length ≤ f → nd N a → isW c a p b → ∃ ss, ss.flatten = p ∧ Sg c a ss ∧ ss.length = (comp N c D lk f a p).length
  | 0, a, b, p, h, _, _ => by
    have : p = [] := List.eq_nil_of_length_eq_zero (by omega)
    subst this
    exact ⟨[], rfl, trivial, rfl⟩
  | f + 1, a, b, [], _, _, _ => ⟨[], rfl, trivial, rfl⟩
  | f + 1, a, b, x :: p, h, ha, hw => by
    unfold comp
    simp only
    split
    · rename_i hk
      obtain ⟨k, hkk⟩ : ∃ k, bestK (fun k => onlyB N c D a ((x :: p).take k)) (p.length + 1) = k := ⟨_, rfl⟩
      have hle := bestK_le (fun k => onlyB N c D a ((x :: p).take k)) (p.length + 1)
      have hok := bestK_ok _ _ hk
      rw [hkk] at hk hle hok ⊢
      have hsp : (x :: p).take k ++ (x :: p).drop k = x :: p := List.take_append_drop _ _
      rw [← hsp] at hw
      obtain ⟨w1, w2⟩ := isW_append.1 hw
      obtain ⟨ss, a1, a2, a3⟩ := comp_sg f _ b ((x :: p).drop k) (by simp only [List.length_drop, List.length_cons] at *; omega) (isW_nd hc ha w1).1 w2
      refine ⟨(x :: p).take k :: ss, by rw [List.flatten_cons, a1, hsp], ⟨?_, .inr ((only_iff hc hD ha w1).1 hok), a2⟩, by simp [a3]⟩
      intro e
      have := congrArg List.length e
      simp only [List.length_take, List.length_cons, List.length_nil] at this
      omega
    · obtain ⟨ss, a1, a2, a3⟩ := comp_sg f x b p (by simpa using h) (hc.node a x hw.1).2 hw.2
      exact ⟨[x] :: ss, by rw [List.flatten_cons, a1]; rfl, ⟨by simp, .inl rfl, a2⟩, by simp [a3]⟩
theorem comp_min : ∀ (f : Nat) (a b : Int) (p : List Int), p.length ≤ f → nd N a → isW c a p b → ∀ ss, ss.flatten = p → Sg c a ss → (comp N c D lk f a p).length ≤ ss.length
  | 0, a, b, p, h, _, _, _, _, _ => by simp [comp]
  | f + 1, a, b, [], _, _, _, _, _, _ => by simp [comp]
  | f + 1, a, b, x :: p, h, ha, hw, [], he, _ => by simp at he
  | f + 1, a, b, x :: p, h, ha, hw, s :: ss, he, ⟨h1, h2, h3⟩ => by
    rw [List.flatten_cons] at he
    have hsl : 0 < s.length := List.length_pos_iff.2 h1
    have hse : s = (x :: p).take s.length := by rw [← he]; simp
    have hsr : ss.flatten = (x :: p).drop s.length := by rw [← he]; simp
    have hsle : s.length ≤ p.length + 1 := by have := congrArg List.length he; simp at this; omega
    have hsp : ∀ k, (x :: p).take k ++ (x :: p).drop k = x :: p := fun k => List.take_append_drop _ _
    have hw1 := hw
    rw [← hsp s.length] at hw1
    obtain ⟨w1, w2⟩ := isW_append.1 hw1
    rw [← hse] at w1
    have w2' : isW c (lastN a s) ((x :: p).drop s.length) b := by have := w2; rw [← hse] at this; exact this
    -- what stands behind a later cut
    have later : ∀ k, s.length ≤ k → ∃ ss', ss'.flatten = (x :: p).drop k ∧ Sg c (lastN a ((x :: p).take k)) ss' ∧ ss'.length ≤ ss.length := fun k hk => by
      have e1 : (x :: p).drop s.length = ((x :: p).drop s.length).take (k - s.length) ++ (x :: p).drop k := by
        have := (List.take_append_drop (k - s.length) ((x :: p).drop s.length)).symm
        rw [List.drop_drop, show s.length + (k - s.length) = k by omega] at this
        exact this
      obtain ⟨ss', b1, b2, b3⟩ := sg_suffix (x := ((x :: p).drop s.length).take (k - s.length)) (y := (x :: p).drop k) (b := b) h3 (by rw [hsr]; exact e1) (by rw [← e1]; exact w2')
      refine ⟨ss', b1, ?_, b3⟩
      rw [← lastN_append] at b2
      have e2 : s ++ ((x :: p).drop s.length).take (k - s.length) = (x :: p).take k := by
        have : (x :: p).take k = (x :: p).take (s.length + (k - s.length)) := by rw [show s.length + (k - s.length) = k by omega]
        rw [this, List.take_add, ← hse]
      rw [e2] at b2
      exact b2
    unfold comp
    simp only
    split
    · rename_i hk
      obtain ⟨k, hkk⟩ : ∃ k, bestK (fun k => onlyB N c D a ((x :: p).take k)) (p.length + 1) = k := ⟨_, rfl⟩
      have hsk : s.length ≤ k := by
        rcases h2 with h2 | h2
        · omega
        · rw [← hkk]
          exact bestK_ge hsl hsle (by rw [← hse]; exact (only_iff hc hD ha w1).2 h2)
      have hle := bestK_le (fun k => onlyB N c D a ((x :: p).take k)) (p.length + 1)
      rw [hkk] at hk hle ⊢
      obtain ⟨ss', b1, b2, b3⟩ := later k hsk
      have hw3 := hw
      rw [← hsp k] at hw3
      obtain ⟨v1, v2⟩ := isW_append.1 hw3
      have := comp_min f _ b ((x :: p).drop k) (by simp only [List.length_drop, List.length_cons] at *; omega) (isW_nd hc ha v1).1 v2 ss' b1 b2
      simp only [List.length_cons]; omega
    · rename_i hk
      have hs1 : s.length = 1 := by
        rcases h2 with h2 | h2
        · exact h2
        · have := bestK_ge (f := fun k => onlyB N c D a ((x :: p).take k)) hsl hsle (by rw [← hse]; exact (only_iff hc hD ha w1).2 h2)
          omega
      obtain ⟨ss', b1, b2, b3⟩ := later 1 (by omega)
      have := comp_min f x b p (by simpa using h) (hc.node a x hw.1).2 hw.2 ss' (by simpa using b1) (by simpa [lastN] using b2)
      simp only [List.length_cons]; omega
end
end Go.Proofs.Ythcnmhjfapoaiaa
