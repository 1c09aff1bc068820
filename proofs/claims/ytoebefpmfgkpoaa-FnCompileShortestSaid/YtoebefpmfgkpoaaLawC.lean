/- Compiling a path, step by step, in plain terms. -/
import Derived.Test.YtoebefpmfgkpoaaCost
namespace Go.Proofs.Ytoebefpmfgkpoaa
set_option linter.unusedSimpArgs false
set_option linter.unusedVariables false

theorem drop_at {l : List Int} {t : Nat} {x : Int} (h : l[t]? = some x) : l.drop t = x :: l.drop (t + 1) := by
  obtain ⟨h1, h2⟩ := List.getElem?_eq_some_iff.1 h
  rw [List.drop_eq_getElem_cons h1, h2]
theorem cut_at {l : List Int} {t e : Nat} {x : Int} (h : l[t]? = some x) : (l.drop t).take (e + 1) = x :: (l.drop (t + 1)).take e := by rw [drop_at h]; rfl
theorem last_at {L : List Int} {t e : Nat} {x y : Int} (hx : L[t]? = some x) (hy : L[t + e]? = some y) : lastN x ((L.drop (t + 1)).take e) = y := by
  have hl := (List.getElem?_eq_some_iff.1 hy).1
  have h := lastN_get (a := x) (q := (L.drop (t + 1)).take e)
  have hlen : ((L.drop (t + 1)).take e).length = e := by rw [List.length_take, List.length_drop]; omega
  rw [h, hlen, ← cut_at hx, List.getD_eq_getElem?_getD, List.getElem?_take, if_pos (by omega), List.getElem?_drop, hy]
  rfl
/-- What holds from a node of a valid path on. -/
theorem path_from {n : Int} {ls : List LinkD} {L : List Int} {t : Nat} {x : Int} (h : pathOk n ls L = true) (hx : L[t]? = some x) :
    GOk n ls ∧ nd n.toNat x ∧ isW (cstL ls) x (L.drop (t + 1)) (lastN x (L.drop (t + 1))) ∧ (L.drop (t + 1)).length ≤ 8 := by
  obtain ⟨hg, a, p, rfl, h1, h2, h3⟩ := path_iff.1 h
  have hl := (List.getElem?_eq_some_iff.1 hx).1
  have e : (a :: p).drop (t + 1) = p.drop t := rfl
  rw [e]
  have hxl : lastN a (p.take t) = x := by
    have h4 := lastN_get (a := a) (q := p.take t)
    have hlen : (p.take t).length = t := by rw [List.length_take]; simp at hl; omega
    rw [h4, hlen, show a :: p.take t = (a :: p).take (t + 1) from rfl, List.getD_eq_getElem?_getD, List.getElem?_take, if_pos (by omega), hx]
    rfl
  have h5 := h3
  rw [← List.take_append_drop t p] at h5
  obtain ⟨w1, w2⟩ := isW_append.1 h5
  rw [hxl] at w1 w2
  have hw := isW_last w2
  refine ⟨hg, (isW_nd hg.fits.ok h2 w1).1, by rw [hw]; exact w2, by rw [List.length_drop]; omega⟩
theorem isW_takeC {c : Cst} {p : List Int} {a b : Int} (k : Nat) (h : isW c a p b) : isW c a (p.take k) (lastN a (p.take k)) := by
  rw [← List.take_append_drop k p, isW_append] at h
  exact h.1
theorem path_sub {n : Int} {ls : List LinkD} {L : List Int} {t : Nat} {x : Int} (h : pathOk n ls L = true) (hx : L[t]? = some x) (e : Nat) : pathOk n ls (x :: (L.drop (t + 1)).take e) = true := by
  obtain ⟨hg, h1, h2, h3⟩ := path_from h hx
  exact path_iff.2 ⟨hg, x, _, rfl, by rw [List.length_take]; omega, h1, isW_takeC e h2⟩
theorem comp_yes {n : Int} {ls : List LinkD} {x : Int} {r : List Int} {e : Nat} (h1 : 1 ≤ e) (he : e ≤ r.length) (hb : bestK (fun k => onlyG n ls x (r.take k)) r.length = e) :
    compG n ls x r = (1, lastN x (r.take e)) :: compG n ls (lastN x (r.take e)) (r.drop e) := by
  cases r with
  | nil => simp at he; omega
  | cons y r =>
    have hb' : bestK (fun k => onlyB n.toNat (cstL ls) (distG n ls) x ((y :: r).take k)) (r.length + 1) = e := hb
    unfold compG
    rw [List.length_cons, comp_cons, hb', if_pos (by omega)]
    congr 1
    exact comp_fuel _ _ _ _ (by rw [List.length_drop, List.length_cons]; omega) (Nat.le_refl _)
theorem comp_no {n : Int} {ls : List LinkD} {x y : Int} {r : List Int} (hb : bestK (fun k => onlyG n ls x ((y :: r).take k)) (r.length + 1) = 0) : compG n ls x (y :: r) = (2, lkOf ls x y) :: compG n ls y r := by
  have hb' : bestK (fun k => onlyB n.toNat (cstL ls) (distG n ls) x ((y :: r).take k)) (r.length + 1) = 0 := hb
  unfold compG
  rw [List.length_cons, comp_cons, hb', if_neg (by omega)]
theorem comp_nil (n : Int) (ls : List LinkD) (x : Int) : compG n ls x [] = [] := rfl
/-- Is the part of e links from the t-th node on the only shortest one? -/
def segB (n : Int) (ls : List LinkD) (L : List Int) (t e : Nat) : Bool := onlyG n ls (L.getD t 0) ((L.drop (t + 1)).take e)
theorem segB_at {n : Int} {ls : List LinkD} {L : List Int} {t e : Nat} {x : Int} (hx : L[t]? = some x) : segB n ls L t e = onlyG n ls x ((L.drop (t + 1)).take e) := by unfold segB; rw [getD_of hx]
/-- The labels from the t-th node on. -/
def compT (n : Int) (ls : List LinkD) (L : List Int) (t : Nat) : List LabelD := compG n ls (L.getD t 0) (L.drop (t + 1))
theorem compT_yes {n : Int} {ls : List LinkD} {L : List Int} {t e : Nat} {y : Int} (h1 : 1 ≤ e) (hy : L[t + e]? = some y) (hb : bestK (segB n ls L t) (L.length - 1 - t) = e) : compT n ls L t = (1, y) :: compT n ls L (t + e) := by
  have hl := (List.getElem?_eq_some_iff.1 hy).1
  obtain ⟨x, hx⟩ := at_lt (l := L) (n := L.length) rfl (k := t) (by omega)
  have hlast := last_at hx hy
  have hlen : (L.drop (t + 1)).length = L.length - 1 - t := by rw [List.length_drop]; omega
  unfold compT
  rw [getD_of hx, getD_of hy, comp_yes (e := e) h1 (by omega) (by rw [hlen, ← hb]; congr 1; funext k; exact (segB_at hx).symm), hlast, List.drop_drop]
  rw [show t + 1 + e = t + e + 1 by omega]
theorem compT_no {n : Int} {ls : List LinkD} {L : List Int} {t : Nat} {x y : Int} (hx : L[t]? = some x) (hy : L[t + 1]? = some y) (hb : bestK (segB n ls L t) (L.length - 1 - t) = 0) : compT n ls L t = (2, lkOf ls x y) :: compT n ls L (t + 1) := by
  have hl := (List.getElem?_eq_some_iff.1 hy).1
  have hd := drop_at hy
  have hlen : (L.drop (t + 1 + 1)).length + 1 = L.length - 1 - t := by rw [List.length_drop]; omega
  unfold compT
  rw [getD_of hx, getD_of hy, hd]
  exact comp_no (by
    rw [hlen, ← hb]
    congr 1
    funext k
    rw [segB_at hx, hd])
theorem compT_end {n : Int} {ls : List LinkD} {L : List Int} {t : Nat} (h : L.length ≤ t + 1) : compT n ls L t = [] := by
  unfold compT
  rw [List.drop_eq_nil_of_le (by omega)]
  rfl
theorem compT_zero {n : Int} {ls : List LinkD} {a : Int} {p : List Int} : compT n ls (a :: p) 0 = compG n ls a p := rfl
theorem segB_less {n : Int} {ls : List LinkD} {L : List Int} {t : Nat} {x : Int} (h : pathOk n ls L = true) (hx : L[t]? = some x) : ∀ j, 1 ≤ j → j + 1 ≤ L.length - 1 - t → segB n ls L t (j + 1) = true → segB n ls L t j = true := fun j h1 h2 h3 => by
  obtain ⟨hg, hn, hw, _⟩ := path_from h hx
  rw [segB_at hx] at h3 ⊢
  exact only_less hg hn hw j h1 (by rw [List.length_drop]; omega) h3
/-- Whether a path is the only shortest one: as the program asks. -/
theorem only_eq {n : Int} {ls : List LinkD} {x y : Int} {q : List Int} (h : pathOk n ls (x :: q) = true) (hy : lastN x q = y) : onlyG n ls x q = (decide (costD n ls (x :: q) = distG n ls x y) && decide (cntG n ls x y = 1)) := by
  subst hy
  rw [costD_ok h]
  have h1 : pcostK ls (x :: q) ((x :: q).length - 1) = wc (cstL ls) x q := pcost_wc ls q x
  rw [h1]
  rfl
end Go.Proofs.Ytoebefpmfgkpoaa
