/- What the laws on packets' paths need, in plain terms. -/
import Derived.Test.YtoebefpmfgkpoaaLawG
namespace Go.Proofs.Ytoebefpmfgkpoaa
set_option linter.unusedSimpArgs false
set_option linter.unusedVariables false

theorem stkPV_no {n : Int} {ls : List LinkD} {a : Int} {s : List LabelD} (h : stkOf n ls a s = none) : stkPV n ls a s = [] := by unfold stkPV; rw [h]
/-- A packet's path. -/
structure PathF (n : Int) (ls : List LinkD) (a : Int) (s : List LabelD) (q P : List Int) : Prop where
  pv : stkPV n ls a s = a :: P
  eq : stkPath n ls a s = P
  walk : isW (cstL ls) a P (lastN a q)
  len : P.length ≤ 64
  cost : wc (cstL ls) a P = stkCost n ls a s
  pos : 0 ≤ stkCost n ls a s
  last : lastN a P = lastN a q
theorem stkPV_yes {n : Int} {ls : List LinkD} {a : Int} {s : List LabelD} {q : List Int} (h : stkOf n ls a s = some q) : ∃ P, PathF n ls a s q P := by
  have hF := stkOf_some h
  obtain ⟨w1, w2, w3, w4, w5⟩ := stk_walk hF.ok hF.nd hF.run
  refine ⟨stkPath n ls a s, ⟨by unfold stkPV; rw [h], rfl, w1, ?_, w2, w3, isW_last w1⟩⟩
  have := stkPath_len n ls hF.ok.n8 s a
  have := hF.len
  omega
theorem walk_link {n : Int} {ls : List LinkD} (h : GOk n ls) : ∀ {p : List Int} {a b : Int} {k : Nat} {x y : Int}, isW (cstL ls) a p b → (a :: p)[k]? = some x → (a :: p)[k + 1]? = some y → ∃ (i : Nat) (l : LinkD), lkOf ls x y = i ∧ ls[i]? = some l ∧ linkAt x y l = true ∧ cstL ls x y = l.2.2
  | [], _, _, k, _, _, _, _, hy => by simp at hy
  | z :: p, a, b, 0, x, y, hw, hx, hy => by
    simp at hx hy
    subst hx
    subst hy
    rcases lk_cases ls a z with ⟨_, h2, _⟩ | ⟨i, l, h1, h2, h3, h4⟩
    · have := hw.1; omega
    · exact ⟨i, l, h1, h2, h3, h4⟩
  | z :: p, a, b, k + 1, x, y, hw, hx, hy => walk_link h (p := p) (a := z) (k := k) hw.2 (by simpa using hx) (by simpa using hy)
/-- Two nodes of a path, one behind the other: at J - 1 and J. -/
theorem link_at {n : Int} {ls : List LinkD} (h : GOk n ls) {p : List Int} {a b : Int} {J : Int} (hw : isW (cstL ls) a p b) (h1 : 1 ≤ J) (h2 : J < ((a :: p).length : Int)) :
    ∃ (x y : Int) (i : Nat) (l : LinkD), (a :: p)[J.toNat - 1]? = some x ∧ (a :: p)[J.toNat]? = some y ∧ lkOf ls x y = i ∧ ls[i]? = some l ∧ linkAt x y l = true ∧ cstL ls x y = l.2.2 := by
  obtain ⟨x, hx⟩ := at_lt (l := a :: p) (n := (a :: p).length) rfl (k := J.toNat - 1) (by omega)
  obtain ⟨y, hy⟩ := at_lt (l := a :: p) (n := (a :: p).length) rfl (k := J.toNat) (by omega)
  obtain ⟨i, l, q⟩ := walk_link h hw hx (show (a :: p)[J.toNat - 1 + 1]? = some y by rw [show J.toNat - 1 + 1 = J.toNat by omega]; exact hy)
  exact ⟨x, y, i, l, hx, hy, q⟩
theorem onP_at {ls : List LinkD} {j : Nat} : ∀ {p : List Int} {a : Int} {k : Nat} {x y : Int}, (a :: p)[k]? = some x → (a :: p)[k + 1]? = some y → lkOf ls x y = j → onP ls j a p = true
  | [], _, k, _, _, _, hy, _ => by simp at hy
  | z :: p, a, 0, x, y, hx, hy, hl => by
    simp at hx hy
    subst hx
    subst hy
    simp [onP, hl]
  | z :: p, a, k + 1, x, y, hx, hy, hl => by
    have := onP_at (p := p) (a := z) (k := k) (by simpa using hx) (by simpa using hy) hl
    simp [onP, this]
theorem onP_snoc {ls : List LinkD} {j k : Nat} {p : List Int} {a x y : Int} (hx : (a :: p)[k]? = some x) (hy : (a :: p)[k + 1]? = some y) : onP ls j a (p.take (k + 1)) = (onP ls j a (p.take k) || decide (lkOf ls x y = j)) := by
  have hy' : p[k]? = some y := by simpa using hy
  obtain ⟨h1, h2⟩ := List.getElem?_eq_some_iff.1 hy'
  rw [List.take_succ_eq_append_getElem h1, h2, onP_append]
  have e : lastN a (p.take k) = x := by
    have h3 := lastN_get (a := a) (q := p.take k)
    rw [List.length_take, Nat.min_eq_left (by omega)] at h3
    rw [h3, List.getD_eq_getElem?_getD]
    have h4 : (a :: p.take k)[k]? = (a :: p)[k]? := by
      rw [show a :: p.take k = (a :: p).take (k + 1) from rfl, List.getElem?_take, if_pos (by omega)]
    rw [h4, hx]; rfl
  rw [e]
  simp [onP]
/-- A label of the packet's end behind its labels. -/
theorem stk_repeat {n : Int} {ls : List LinkD} {a : Int} {s : List LabelD} {q : List Int} (h : stkOf n ls a s = some q) (h8 : s.length < 8) :
    stkOf n ls a (s ++ [(1, lastN a q)]) = some (q ++ [lastN a q]) ∧ stkPV n ls a (s ++ [(1, lastN a q)]) = stkPV n ls a s ∧ stkCost n ls a (s ++ [(1, lastN a q)]) = stkCost n ls a s := by
  have hF := stkOf_some h
  obtain ⟨z, hz⟩ : ∃ z, lastN a q = z := ⟨_, rfl⟩
  have hzn : nd n.toNat z := by rw [← hz]; exact hF.last
  have hzi := hF.ok.nN.1 hzn
  have hd : distG n ls z z = 0 := Dst.self hF.ok.fits.ok hF.ok.dst hzn
  have hh : hopTo n ls z (1, z) = some z := hop_1 (inB_iff.2 (by omega)) (by omega)
  have hi := hF.ok.nN.1 hF.nd
  have hg : (gOk n ls && inB a 0 (n - 1)) = true := by rw [gOk_iff.2 hF.ok, inB_iff.2 (by omega)]; rfl
  rw [hz]
  have hr : stkL n ls a (s ++ [(1, z)]) = some (q ++ [z]) := by
    rw [stkL_append, hF.run]
    simp [stkL, hz, hh]
  have h1 : stkOf n ls a (s ++ [(1, z)]) = some (q ++ [z]) := by rw [stkOf_ok hg (by simp; omega)]; exact hr
  obtain ⟨x, y, hA⟩ := stk_at hF.ok hF.nd hr (k := s.length) (l := (1, z)) (by simp)
  have hx : x = z := by
    have h2 := hA.at_
    have h3 := lastN_at a q
    rw [hF.qlen] at h3
    have h4 : (a :: (q ++ [z]))[s.length]? = (a :: q)[s.length]? := by
      rw [show a :: (q ++ [z]) = (a :: q) ++ [z] from rfl, List.getElem?_append_left (by simp [hF.qlen])]
    rw [h4, h3] at h2
    rw [← hz]; exact (Option.some.inj h2).symm
  subst hx
  have e1 : (s ++ [((1 : Int), x)]).take (s.length + 1) = s ++ [(1, x)] := List.take_of_length_le (by simp)
  have e2 : (s ++ [((1 : Int), x)]).take s.length = s := by simp
  have hsg : segL n ls x (1, x) = [] := by
    unfold segL
    rw [if_pos rfl, nextN_of hh]
    exact sp_end hF.ok.n1
  have hco : costStep n ls x (1, x) = 0 := by unfold costStep; rw [if_pos rfl, nextN_of hh, hd]
  have hp := hA.path
  have hc := hA.cost
  rw [e1, e2, hsg, List.append_nil] at hp
  rw [e1, e2, hco, Int.add_zero] at hc
  refine ⟨h1, ?_, hc⟩
  unfold stkPV
  rw [h1, h]
  simp only [hp]
/-- The links of a path as labels. -/
def lnkS (ls : List LinkD) : Int → List Int → List LabelD
  | _, [] => []
  | a, x :: p => (2, lkOf ls a x) :: lnkS ls x p
theorem lnkS_len (ls : List LinkD) : ∀ (p : List Int) (a : Int), (lnkS ls a p).length = p.length
  | [], _ => rfl
  | x :: p, a => by simp [lnkS, lnkS_len ls p x]
theorem lnkS_at (ls : List LinkD) : ∀ {p : List Int} {a : Int} {k : Nat} {x y : Int}, (a :: p)[k]? = some x → (a :: p)[k + 1]? = some y → lnkS ls a (p.take (k + 1)) = lnkS ls a (p.take k) ++ [(2, lkOf ls x y)]
  | [], _, k, _, _, _, hy => by simp at hy
  | z :: p, a, 0, x, y, hx, hy => by
    simp at hx hy
    subst hx
    subst hy
    simp [lnkS]
  | z :: p, a, k + 1, x, y, hx, hy => by
    have := lnkS_at ls (p := p) (a := z) (k := k) (by simpa using hx) (by simpa using hy)
    simp only [List.take_succ_cons, lnkS, this, List.cons_append]
theorem lnkS_run {n : Int} {ls : List LinkD} (h : GOk n ls) : ∀ {p : List Int} {a b : Int}, isW (cstL ls) a p b → stkL n ls a (lnkS ls a p) = some p ∧ uniqS n ls a (lnkS ls a p) = true
  | [], _, _, _ => ⟨rfl, rfl⟩
  | x :: p, a, b, hw => by
    rcases lk_cases ls a x with ⟨_, h2, _⟩ | ⟨i, l, h1, h2, h3, h4⟩
    · have := hw.1; omega
    · have hl := h.link i l h2
      have h5 := linkAt_iff.1 h3
      have ho : otherEnd l a = some x := (otherEnd_iff (by omega)).2 (by
        rcases Int.lt_or_le a x with h6 | h6
        · left; omega
        · right; omega)
      have hh : hopTo n ls a (2, lkOf ls a x) = some x := by rw [h1, hop_2 h2]; exact ho
      obtain ⟨r1, r2⟩ := lnkS_run h hw.2
      refine ⟨by simp only [lnkS, stkL, hh, r1], ?_⟩
      simp only [lnkS, uniqS, nextN_of hh, r2]
      simp
theorem isW_take {c : Cst} {p : List Int} {a b : Int} (k : Nat) (h : isW c a p b) : isW c a (p.take k) (lastN a (p.take k)) := by
  rw [← List.take_append_drop k p, isW_append] at h
  exact h.1
end Go.Proofs.Ytoebefpmfgkpoaa
