/- What the laws on compiled stacks need, in plain terms. · What the laws on compiled stacks share. -/
import Derived.Test.YtoebefpmfgkpoaaLawC
import Derived.Test.YtoebefpmfgkpoaaLawH
import Derived.Test.YtoebefpmfgkpoaaUniqI
import Derived.Test.YtoebefpmfgkpoaaCompS
import Derived.Test.YtoebefpmfgkpoaaLwH
namespace Go.Proofs.Ytoebefpmfgkpoaa
set_option linter.unusedSimpArgs false
set_option linter.unusedVariables false

/-- A compiled stack leads exactly over the path. -/
structure CompF (n : Int) (ls : List LinkD) (a : Int) (p : List Int) (q : List Int) : Prop where
  ok : GOk n ls
  nd : nd n.toNat a
  walk : isW (cstL ls) a p (lastN a p)
  len : p.length ≤ 8
  run : stkOf n ls a (compG n ls a p) = some q
  path : stkPV n ls a (compG n ls a p) = a :: p
  unq : unqV n ls a (compG n ls a p) = true
  cost : stkCost n ls a (compG n ls a p) = costD n ls (a :: p)
  few : (compG n ls a p).length ≤ p.length
theorem comp_facts {n : Int} {ls : List LinkD} {a : Int} {p : List Int} (h : pathOk n ls (a :: p) = true) : ∃ q, CompF n ls a p q := by
  obtain ⟨a', p', e, hg, h1, h2, h3, h4⟩ := pathOk_iff h
  injection e with e1 e2
  subst e1
  subst e2
  obtain ⟨q, c1, c2, c3, c4⟩ := compG_stk hg h2 h3
  have hi := hg.nN.1 h2
  have hgb : (gOk n ls && inB a 0 (n - 1)) = true := by rw [gOk_iff.2 hg, inB_iff.2 (by omega)]; rfl
  have hr : stkOf n ls a (compG n ls a p) = some q := by rw [stkOf_ok hgb (by omega)]; exact c1
  exact ⟨q, hg, h2, h3, h1, hr, by unfold stkPV; rw [hr]; simp only [c2], by rw [unqV_some hr]; exact c3, by rw [compG_cost hg h2 h3, h4], c4⟩
theorem pathOk_cons {n : Int} {ls : List LinkD} {L : List Int} (h : pathOk n ls L = true) : ∃ a p, L = a :: p := by
  obtain ⟨a, p, e, _⟩ := pathOk_iff h
  exact ⟨a, p, e⟩
/-- The way back: as many labels. -/
theorem comp_rev {n : Int} {ls : List LinkD} {a : Int} {p : List Int} (h : pathOk n ls (a :: p) = true) : ∃ b r, (a :: p).reverse = b :: r ∧ pathOk n ls (b :: r) = true ∧ (compG n ls b r).length = (compG n ls a p).length := by
  obtain ⟨q, hF⟩ := comp_facts h
  refine ⟨lastN a p, rv a p, rv_reverse p a, ?_, compG_rv hF.ok hF.nd hF.walk⟩
  rw [← rv_reverse p a]
  exact (path_rev h).1
/-- Two parts. -/
theorem comp_two {n : Int} {ls : List LinkD} {a x : Int} {p : List Int} {k : Nat} (h : pathOk n ls (a :: p) = true) (hx : (a :: p)[k]? = some x) :
    (a :: p).take (k + 1) = a :: p.take k ∧ (a :: p).drop k = x :: p.drop k ∧ pathOk n ls (a :: p.take k) = true ∧ pathOk n ls (x :: p.drop k) = true ∧
    (compG n ls a p).length ≤ (compG n ls a (p.take k)).length + (compG n ls x (p.drop k)).length ∧ (compG n ls a (p.take k)).length ≤ (compG n ls a p).length ∧ (compG n ls x (p.drop k)).length ≤ (compG n ls a p).length := by
  obtain ⟨q, hF⟩ := comp_facts h
  have hl := (List.getElem?_eq_some_iff.1 hx).1
  have hxl : lastN a (p.take k) = x := by
    have h4 := lastN_get (a := a) (q := p.take k)
    have hlen : (p.take k).length = k := by rw [List.length_take]; simp at hl; omega
    rw [h4, hlen, show a :: p.take k = (a :: p).take (k + 1) from rfl, List.getD_eq_getElem?_getD, List.getElem?_take, if_pos (by omega), hx]
    rfl
  have hw := hF.walk
  have hp : p = p.take k ++ p.drop k := (List.take_append_drop k p).symm
  have h1 := compG_parts (p := p.take k) (q := p.drop k) hF.ok hF.nd (b := lastN a p) (by rw [← hp]; exact hw)
  rw [← hp, hxl] at h1
  have s1 := path_sub (t := 0) (x := a) h rfl k
  have s2 := path_sub h hx (p.drop k).length
  have e : (a :: p).drop (k + 1) = p.drop k := rfl
  rw [e, List.take_length] at s2
  exact ⟨rfl, by rw [drop_at hx, e], s1, s2, h1.1, h1.2.1, h1.2.2⟩
end Go.Proofs.Ytoebefpmfgkpoaa
namespace Go.Proofs.Ytoebefpmfgkpoaa
set_option linter.unusedSimpArgs false
set_option linter.unusedVariables false
open Go.RowKit

theorem neqLabel (W : World) (s a s' a' : Int) : (binOp .neq 56 (.agg #[.int .i64 s, .int .i64 a]) (.agg #[.int .i64 s', .int .i64 a'])).run Try.prog W = .ok (.bool (!(s == s' && a == a'))) W := by
  have u3 := Try.underlying3
  have a3 := Try.isAgg3
  have z3 := Try.sizeOf3
  have hS : Try.prog.underlying 56 = some (.struct (Try.prog.fieldsOf 56)) := by kernel_rfl
  have hp : Try.prog.stoodInHeld 56 = false := by kernel_rfl
  rw [run_neq_struct, show (10000 : Nat) = 9999 + 1 from rfl, run_equalIn_agg W 9999 56 _ _ hS hp]
  simp only [Program.fieldsOf, Try.underlying56]
  go_simp
  by_cases h1 : s = s' <;> by_cases h2 : a = a' <;> simp [h1, h2]
set_option maxHeartbeats 1000000 in
theorem sameLabels_any (xs ys : List (Int × Int)) (v u : Value) (w : World) (hv : PairsAt w v xs) (hu : PairsAt w u ys) :
    Calls Try.prog 14 #[v, u] w fun e w' => e = .returned (.bool (eqB xs ys)) ∧ Below w.heap.size w w' := by
  obtain ⟨a, cap, b, off, rfl, hcap, hmax, ha, hc⟩ := hv
  obtain ⟨a2, cap2, b2, off2, rfl, hcap2, hmax2, ha2, hc2⟩ := hu
  unfold maxLen at hmax hmax2
  obtain ⟨n, hn⟩ : ∃ n, n = xs.length := ⟨_, rfl⟩
  obtain ⟨n2, hn2⟩ : ∃ n2, n2 = ys.length := ⟨_, rfl⟩
  rw [← hn] at hcap ha ⊢
  rw [← hn2] at hcap2 ha2 ⊢
  have HN := Lib.hid hn; clear hn
  have HC := Lib.hid hc; clear hc
  have HA := Lib.hid ha; clear ha
  have HN2 := Lib.hid hn2; clear hn2
  have HC2 := Lib.hid hc2; clear hc2
  have HA2 := Lib.hid ha2; clear ha2
  by_cases hl : n = n2
  rotate_left
  · have hlb : ((n:Int) != (n2:Int)) = true := by simp; omega
    have hlb2 : ((n:Int) == (n2:Int)) = false := by simp; omega
    have HL := Lib.hid hl; clear hl
    go_enter Try.func14, Try.ntmps14
    go_wp2
    go_ret
    exact ⟨ret_bool (by have h1 := HN.out; have h2 := HN2.out; have : xs ≠ ys := fun e => HL.out (by rw [h1, h2, e]); simp [eqB, this]), (by with_reducible (repeat (first | (refine below_drewN ?_ _) | (refine Below.drew ?_) | (refine below_alloc ?_ (by first | omega | (simp; done) | (simp; omega)) _) | (refine Below.setCell ?_ (by first | omega | (simp; done) | (simp; omega)) _) | exact Below.refl _ _ | assumption | (refine below_call ?_ (by first | omega | (simp; done) | (simp; omega)) (by assumption)))))⟩
  subst hl
  have hlb : ((n:Int) != (n:Int)) = false := by simp
  have hlb2 : ((n:Int) == (n:Int)) = true := by simp
  go_enter Try.func14, Try.ntmps14
  go_wp2
  go_loopw [5] (fun i wr => ∃ k : Nat, k ≤ n ∧ i = .int .i64 k ∧ Hid (∀ j, j < k → xs[j]? = ys[j]?) ∧ Below w.heap.size w wr)
    (fun i _ => n - (intOf i).toNat)
  case atStart => exact ⟨0, Nat.zero_le _, rfl, Lib.hid (fun j hj => by omega), Below.refl _ _⟩
  case round =>
    obtain ⟨k, hk, rfl, HI, HB⟩ := hrel
    by_cases hkn : k < n
    · obtain ⟨⟨x, y⟩, hxy⟩ := at_lt HN.out hkn
      obtain ⟨⟨x2, y2⟩, hxy2⟩ := at_lt HN2.out hkn
      have ha := HA.out (by omega)
      have ha2 := HA2.out (by omega)
      subst ha ha2
      obtain ⟨d0, d1⟩ := HC.out k x y hxy
      obtain ⟨d2, d3⟩ := HC2.out k x2 y2 hxy2
      have e0 := cell_below HB d0 (cell_lt d0)
      have e1 := cell_below HB d1 (cell_lt d0)
      have e2 := cell_below HB d2 (cell_lt d2)
      have e3 := cell_below HB d3 (cell_lt d2)
      have HX := Lib.hid hxy
      have HX2 := Lib.hid hxy2
      have hkI : (k:Int) < (n:Int) := by omega
      clear hxy hxy2 d0 d1 d2 d3
      have hne := fun W => neqLabel W x y x2 y2
      rcases Bool.eq_false_or_eq_true (x == x2 && y == y2) with hq | hq
      all_goals
        rw [hq] at hne
        have HQ := Lib.hid hq
        go_wp2_with fail
        go_quiet (fail)
        go_wp2_with fail
      · go_roundw
        case rel =>
          refine ⟨k + 1, by omega, by go_num, Lib.hid (fun j hj => ?_), below_drewN HB _⟩
          rcases Nat.lt_or_ge j k with h1 | h1
          · exact HI.out j h1
          · obtain rfl : j = k := by omega
            have := HQ.out
            simp at this
            rw [HX.out, HX2.out, this.1, this.2]
        case measure => simp [intOf]; omega
      · go_ret
        refine ⟨ret_bool ?_, below_drewN HB _⟩
        have : xs ≠ ys := fun e => by
          have h1 := HX.out; have h2 := HX2.out
          rw [e] at h1
          rw [h1] at h2
          injection h2 with h2
          simp only [Prod.mk.injEq] at h2
          have := HQ.out
          rw [h2.1, h2.2] at this
          simp at this
        simp [eqB, this]
    · go_wp2
      go_ret
      refine ⟨ret_bool ?_, HB⟩
      have : xs = ys := by
        apply List.ext_getElem?
        intro j
        by_cases hj : j < n
        · exact HI.out j (by omega)
        · rw [List.getElem?_eq_none (by have := HN.out; omega), List.getElem?_eq_none (by have := HN2.out; omega)]
      simp [eqB, this]
theorem sameLabels_self {s : List (Int × Int)} {v u : Value} {w : World} (hv : PairsAt w v s) (hu : PairsAt w u s) : Calls Try.prog 14 #[v, u] w fun e w' => e = .returned (.bool true) ∧ Below w.heap.size w w' := by
  have h := sameLabels_any s s v u w hv hu
  rw [show eqB s s = true by simp [eqB]] at h
  exact h
/-- What StackCompile gives: no labels for an invalid path. -/
def compO (n : Int) (ls : List LinkD) (L : List Int) : List LabelD := if pathOk n ls L = true then compT n ls L 0 else []
theorem compO_no {n : Int} {ls : List LinkD} {L : List Int} (h : pathOk n ls L = false) : compO n ls L = [] := if_neg (by simp [h])
theorem compO_yes {n : Int} {ls : List LinkD} {a : Int} {p : List Int} (h : pathOk n ls (a :: p) = true) : compO n ls (a :: p) = compG n ls a p := by rw [compO, if_pos h]; rfl
theorem pairs_nil (w : World) (A : Option Addr) : PairsAt w (.slice A 0 0) [] := by
  rcases A with _ | ⟨b, o, s⟩
  · exact ⟨none, 0, 0, 0, rfl, Nat.le_refl _, by unfold maxLen; omega, fun h => by simp at h, fun k x y h => by simp at h⟩
  · exact ⟨_, 0, 0, 0, rfl, Nat.le_refl _, by unfold maxLen; omega, fun h => by simp at h, fun k x y h => by simp at h⟩
theorem CompPost.any {w w' : World} {n : Int} {ls : List LinkD} {L : List Int} {e : Ending} {q : Bool} {O : List LabelD} (hq : pathOk n ls L = q) (hO : compO n ls L = O) (h : CompPost w n ls L e w') : ∃ o c, e = .returned (.tuple #[.slice o O.length c, .bool q]) ∧ PairsAt w' (.slice o O.length c) O ∧ Below w.heap.size w w' := by
  subst hq
  subst hO
  rcases hp : pathOk n ls L with _ | _
  · obtain ⟨A, rfl, _⟩ := h.no hp
    rw [compO_no hp]
    exact ⟨A, 0, rfl, pairs_nil _ _, h.below⟩
  · obtain ⟨v, rfl, ho⟩ := h.yes hp
    rw [show compO n ls L = compT n ls L 0 from if_pos hp]
    obtain ⟨o, c, rfl⟩ := own_slice ho.1
    exact ⟨o, c, rfl, pairs_of_owns ho.1, h.below⟩
theorem CompPost.made {w w' : World} {n : Int} {ls : List LinkD} {L : List Int} {e : Ending} {q : Bool} {O : List LabelD} (hq : pathOk n ls L = q) (hO : compO n ls L = O) (h : CompPost w n ls L e w') : ∃ v, e = .returned (.tuple #[v, .bool q]) ∧ OwnR w' w.heap.size w'.heap.size 56 2 v O.length (cells2 O) ∧ Below w.heap.size w w' := by
  subst hq
  subst hO
  rcases hp : pathOk n ls L with _ | _
  · obtain ⟨A, rfl, ho⟩ := h.no hp
    rw [compO_no hp]
    exact ⟨_, rfl, ho, h.below⟩
  · obtain ⟨v, rfl, ho⟩ := h.yes hp
    rw [show compO n ls L = compT n ls L 0 from if_pos hp]
    exact ⟨v, rfl, ho, h.below⟩
theorem iComp {n : Int} {ls : List LinkD} {L : List Int} {v u : Value} {w : World} {q : Bool} {O : List LabelD} (hq : pathOk n ls L = q) (hO : compO n ls L = O) (hv : TriplesAt w v ls) (hu : IntsAt w u L) :
    Calls Try.prog 12 #[.agg #[.int .i64 n, v], u] w fun e w' => ∃ o c, e = .returned (.tuple #[.slice o O.length c, .bool q]) ∧ PairsAt w' (.slice o O.length c) O ∧ Below w.heap.size w w' :=
  (iCompile n ls L v u w hv hu).mono fun _ _ h => h.any hq hO
theorem sComp {n : Int} {ls : List LinkD} {L : List Int} {v u : Value} {w : World} {q : Bool} {O : List LabelD} (hq : pathOk n ls L = q) (hO : compO n ls L = O) (hv : TriplesAt w v ls) (hu : IntsAt w u L) :
    Calls Try.prog 13 #[.agg #[.int .i64 n, v], u] w fun e w' => ∃ o c, e = .returned (.tuple #[.slice o O.length c, .bool q]) ∧ PairsAt w' (.slice o O.length c) O ∧ Below w.heap.size w w' :=
  (sCompile n ls L v u w hv hu).mono fun _ _ h => h.any hq hO
/-- LwP, and labels in a slice. -/
structure LwC (w : World) (R : Nat) (n : Int) (u : Value) (ls : List LinkD) (x : Value) (p : List Int) (o : Value) (O : List LabelD) (W : World) : Prop where
  st : LwP w R n u ls x p W
  out : PairsAt W o O
theorem LwC.below {w : World} {R : Nat} {n : Int} {u : Value} {ls : List LinkD} {x : Value} {p : List Int} {o : Value} {O : List LabelD} {W W' : World} (h : LwC w R n u ls x p o O W) (hb : Below W.heap.size W W') : LwC w R n u ls x p o O W' :=
  ⟨h.st.below hb, h.out.below hb (Nat.le_refl _)⟩
theorem LwC.drew {w : World} {R : Nat} {n : Int} {u : Value} {ls : List LinkD} {x : Value} {p : List Int} {o : Value} {O : List LabelD} {W : World} (h : LwC w R n u ls x p o O W) : LwC w R n u ls x p o O W.drew := h.below (Below.refl _ _).drew
end Go.Proofs.Ytoebefpmfgkpoaa
