/- A stack label by label: what the k-th label adds. No program in sight. -/
import Derived.Test.YthcnmhjfapoaiaaGrCr
namespace Go.Proofs.Ythcnmhjfapoaiaa
set_option linter.unusedSimpArgs false
set_option linter.unusedVariables false

structure StkAt (n : Int) (ls : List LinkD) (a : Int) (s : List LabelD) (q : List Int) (k : Nat) (l : LabelD) (x y : Int) : Prop where
  at_ : (a :: q)[k]? = some x
  next : q[k]? = some y
  hop : hopTo n ls x l = some y
  ndx : nd n.toNat x
  ndy : nd n.toNat y
  cost : stkCost n ls a (s.take (k + 1)) = stkCost n ls a (s.take k) + costStep n ls x l
  path : stkPath n ls a (s.take (k + 1)) = stkPath n ls a (s.take k) ++ segL n ls x l
  cross : ∀ j, crossS n ls j a (s.take (k + 1)) = (crossS n ls j a (s.take k) || (decide (l.1 = 2 ∧ l.2 = j) || (decide (l.1 = 1) && usedB n ls x y j)))
  uniq : uniqS n ls a (s.take (k + 1)) = (uniqS n ls a (s.take k) && (!decide (l.1 = 1) || decide (cntG n ls x y = 1)))
theorem stk_at {n : Int} {ls : List LinkD} (h : GOk n ls) : ∀ {s : List LabelD} {a : Int} {q : List Int} {k : Nat} {l : LabelD}, nd n.toNat a → stkL n ls a s = some q → s[k]? = some l → ∃ x y, StkAt n ls a s q k l x y
  | [], a, q, k, l, ha, hq, hl => by simp at hl
  | l0 :: s, a, q, k, l, ha, hq, hl => by
    unfold stkL at hq
    split at hq
    · cases hq
    · rename_i b hb
      split at hq
      · cases hq
      · rename_i q' hq'
        injection hq with hq
        subst hq
        have hbn := hop_nd h ha hb
        have hnx := nextN_of hb
        cases k with
        | zero =>
          simp at hl
          subst hl
          refine ⟨a, b, rfl, rfl, hb, ha, hbn, ?_, ?_, fun j => ?_, ?_⟩
          · simp [stkCost]
          · simp [stkPath]
          · simp [crossS, hnx]
          · simp [uniqS, hnx]
        | succ k =>
          simp at hl
          obtain ⟨x, y, h1⟩ := stk_at h hbn hq' hl
          refine ⟨x, y, by simpa using h1.at_, by simpa using h1.next, h1.hop, h1.ndx, h1.ndy, ?_, ?_, fun j => ?_, ?_⟩
          · simp only [List.take_succ_cons, stkCost, hnx]
            rw [h1.cost, Int.add_assoc]
          · simp only [List.take_succ_cons, stkPath, hnx]
            rw [h1.path, List.append_assoc]
          · simp only [List.take_succ_cons, crossS, hnx]
            simp only [h1.cross j, Bool.or_assoc]
          · simp only [List.take_succ_cons, uniqS, hnx]
            rw [h1.uniq, Bool.and_assoc]
theorem step_bnd {n : Int} {ls : List LinkD} (h : GOk n ls) {a b : Int} {l : LabelD} (ha : nd n.toNat a) (hh : hopTo n ls a l = some b) : 0 ≤ costStep n ls a l ∧ costStep n ls a l ≤ 4480 := by
  have hn := nextN_of hh
  refine ⟨(seg_walk h ha hh).2.2, ?_⟩
  unfold costStep
  rw [hn]
  rcases hop_cases h hh with ⟨h1, h2, h3, h4⟩ | ⟨i, k, h1, h2, h3, h4, h5, _, h7⟩
  · rw [if_pos h1]
    exact (distG_bnd h.fits h.n8 h.len ha h3).2
  · rw [if_neg (by omega)]
    have e : ls.getD l.2.toNat (0, 0, 0) = k := by rw [show l.2.toNat = i by omega]; exact getD_of h3
    rw [e]
    have := h.link i k h3
    omega
theorem stkCost_bnd {n : Int} {ls : List LinkD} (h : GOk n ls) : ∀ {s : List LabelD} {a : Int} {q : List Int}, nd n.toNat a → stkL n ls a s = some q → 0 ≤ stkCost n ls a s ∧ stkCost n ls a s ≤ 4480 * s.length
  | [], a, q, ha, hq => by simp [stkCost]
  | l0 :: s, a, q, ha, hq => by
    unfold stkL at hq
    split at hq
    · cases hq
    · rename_i b hb
      split at hq
      · cases hq
      · rename_i q' hq'
        have hbn := hop_nd h ha hb
        have h1 := step_bnd h ha hb
        have h2 := stkCost_bnd h hbn hq'
        unfold stkCost
        rw [nextN_of hb]
        simp only [List.length_cons]
        push_cast
        omega
theorem stk_take {n : Int} {ls : List LinkD} : ∀ {s : List LabelD} {a : Int} {q : List Int} (k : Nat), stkL n ls a s = some q → stkL n ls a (s.take k) = some (q.take k)
  | [], a, q, k, hq => by
    simp only [stkL, Option.some.injEq] at hq
    subst hq
    simp [stkL]
  | l0 :: s, a, q, 0, hq => by simp [stkL]
  | l0 :: s, a, q, k + 1, hq => by
    unfold stkL at hq
    split at hq
    · cases hq
    · rename_i b hb
      split at hq
      · cases hq
      · rename_i q' hq'
        injection hq with hq
        subst hq
        simp only [List.take_succ_cons, stkL, hb, stk_take k hq']
theorem stkK_bnd {n : Int} {ls : List LinkD} (h : GOk n ls) {s : List LabelD} {a : Int} {q : List Int} (ha : nd n.toNat a) (hq : stkL n ls a s = some q) (h8 : s.length ≤ 8) (k : Nat) : 0 ≤ stkCost n ls a (s.take k) ∧ stkCost n ls a (s.take k) ≤ 35840 := by
  have := stkCost_bnd h ha (stk_take k hq)
  have hl : (s.take k).length ≤ 8 := by rw [List.length_take]; omega
  omega
end Go.Proofs.Ythcnmhjfapoaiaa
