/- FnExactStackUnique: for every argument the call returns true, and the arguments read afterwards as before. No condition (mkgx.py). -/
import Derived.Test.YtkegainegkdgpaaUniqI
import Derived.Test.YtkegainegkdgpaaGG
import Derived.Test.YtkegainegkdgpaaGLab
import Derived.Test.YtkegainegkdgpaaRows
import Derived.Test.YtkegainegkdgpaaOpen
import Derived.ProofKit
import Derived.OpenShut
import Derived.ShutString
import Derived.ChangeOld
import Derived.Lib.SmallJoins
namespace Go.Proofs.Ytkegainegkdgpaa.lawFnExactStackUnique
set_option linter.unusedSimpArgs false
set_option linter.unusedVariables false
open Go.ChangeShapes Go.WideShapes Go.ChangeAt Go.RowKit Go.Joins
set_option maxRecDepth 100000 in
set_option maxHeartbeats 4000000 in
theorem walk (n : Int) (v : Value) (ls : List LinkD) (a0 : Int) (u : Value) (st : List LabelD) (w : World) (h : TriplesAt w v ls) (h2 : PairsAt w u st) :
    Calls Try.prog 7 #[.agg #[.int .i64 n, v], .int .i64 a0, u] w fun e w' => e = .returned (.bool true) ∧ Below w.heap.size w w' := by
  have H := Lib.hid h; have H2 := Lib.hid h2
  obtain ⟨va, vn, vc, rfl⟩ := h.form
  obtain ⟨ua, un, uc, rfl⟩ := h2.form
  clear h h2
  by_cases hl : (ls.length : Int) ≤ 1048576
  rotate_left
  · have hr : leftOf (ls.length : Int) 1048576 = -1 := by unfold leftOf; rw [if_neg hl]
    have HR := Lib.hid hr
    clear hl hr
    go_enter Try.func7, Try.ntmps7
    go_wp2_with (go_at_call 24; refine (szGraph n ls _ 1048576 _ (H.out.below (by with_reducible (repeat (first | (refine below_drewN ?_ _) | (refine Below.drew ?_) | (refine below_alloc ?_ (by first | omega | (simp; done) | (simp; omega)) _) | (refine Below.setCell ?_ (by first | omega | (simp; done) | (simp; omega)) _) | exact Below.refl _ _ | assumption | (refine below_call ?_ (by first | omega | (simp; done) | (simp; omega)) (by assumption))))) (Nat.le_refl _)) (by omega) (by omega)).mono ?_; rw [HR.out]; rintro e w1 ⟨rfl, hb1⟩)
    go_ret
    exact ⟨rfl, (by with_reducible (repeat (first | (refine below_drewN ?_ _) | (refine Below.drew ?_) | (refine below_alloc ?_ (by first | omega | (simp; done) | (simp; omega)) _) | (refine Below.setCell ?_ (by first | omega | (simp; done) | (simp; omega)) _) | exact Below.refl _ _ | assumption | (refine below_call ?_ (by first | omega | (simp; done) | (simp; omega)) (by assumption)))))⟩
  have h1 : Hid (ls.length ≤ 1048576) := Lib.hid (by omega)
  obtain ⟨r, hr, hr0, hr1⟩ : ∃ r, leftOf (ls.length : Int) 1048576 = r ∧ 0 ≤ r ∧ r ≤ 1048576 := ⟨_, rfl, by unfold leftOf; rw [if_pos hl]; omega, by unfold leftOf; rw [if_pos hl]; omega⟩
  have HR := Lib.hid hr
  clear hl hr
  go_enter Try.func7, Try.ntmps7
  go_wp2_with fail
  refine (szGraph n ls _ 1048576 _ (H.out.below (by with_reducible (repeat (first | (refine below_drewN ?_ _) | (refine Below.drew ?_) | (refine below_alloc ?_ (by first | omega | (simp; done) | (simp; omega)) _) | (refine Below.setCell ?_ (by first | omega | (simp; done) | (simp; omega)) _) | exact Below.refl _ _ | assumption | (refine below_call ?_ (by first | omega | (simp; done) | (simp; omega)) (by assumption))))) (Nat.le_refl _)) (by omega) (by omega)).mono ?_
  rw [HR.out]
  rintro e w1 ⟨rfl, hb⟩
  have A := Lib.hid (Box.call (b := w.heap.size) (c := #[.int .i64 n, .slice va vn vc]) (t := 43) hb (by with_reducible (repeat (first | (refine box_at _ _ _ ?_; first | rfl | (simp; done)) | apply Box.alloc | apply Box.drewN | apply Box.drew))))
  obtain ⟨A_0, A_1, A_2, A_3, A_4⟩ := box2 A.out
  have BW := Lib.hid (below_call (B := w.heap.size) (a := w) (by with_reducible (repeat (first | (refine below_drewN ?_ _) | (refine Below.drew ?_) | (refine below_alloc ?_ (by first | omega | (simp; done) | (simp; omega)) _) | (refine Below.setCell ?_ (by first | omega | (simp; done) | (simp; omega)) _) | exact Below.refl _ _ | assumption | (refine below_call ?_ (by first | omega | (simp; done) | (simp; omega)) (by assumption))))) (Nat.le_refl _) hb)
  clear hb
  by_cases hl : (st.length : Int) ≤ r
  rotate_left
  · have hr : leftOf (st.length : Int) r = -1 := by unfold leftOf; rw [if_neg hl]
    have HR2 := Lib.hid hr
    clear hl hr
    go_wp2_with fail
    refine (szLabelS st _ r _ (H2.out.below (by have hB := BW.out; exact (by with_reducible (repeat (first | (refine below_drewN ?_ _) | (refine Below.drew ?_) | (refine below_alloc ?_ (by first | omega | (simp; done) | (simp; omega)) _) | (refine Below.setCell ?_ (by first | omega | (simp; done) | (simp; omega)) _) | exact Below.refl _ _ | assumption | (refine below_call ?_ (by first | omega | (simp; done) | (simp; omega)) (by assumption)))))) (Nat.le_refl _)) hr0 hr1).mono ?_
    rw [show (if (st.length : Int) ≤ r then r - st.length else -1) = _ from HR2.out]
    rintro e w2 ⟨rfl, rfl⟩
    go_wp2_with fail
    go_ret
    exact ⟨rfl, BW.out⟩
  have h3 : Hid (st.length ≤ 1048576) := Lib.hid (by omega)
  obtain ⟨r2, hr2, hr20⟩ : ∃ r2, leftOf (st.length : Int) r = r2 ∧ 0 ≤ r2 := ⟨_, rfl, by unfold leftOf; rw [if_pos hl]; omega⟩
  have HR2 := Lib.hid hr2
  clear hl hr2
  obtain ⟨q, hq⟩ : ∃ q, unqV n ls a0 st = q := ⟨_, rfl⟩
  have HQ := Lib.hid hq
  have hqq : (q != q) = false := by simp
  clear hq
  go_wp2_with fail
  refine (szLabelS st _ r _ (H2.out.below (by have hB := BW.out; exact (by with_reducible (repeat (first | (refine below_drewN ?_ _) | (refine Below.drew ?_) | (refine below_alloc ?_ (by first | omega | (simp; done) | (simp; omega)) _) | (refine Below.setCell ?_ (by first | omega | (simp; done) | (simp; omega)) _) | exact Below.refl _ _ | assumption | (refine below_call ?_ (by first | omega | (simp; done) | (simp; omega)) (by assumption)))))) (Nat.le_refl _)) hr0 hr1).mono ?_
  rw [show (if (st.length : Int) ≤ r then r - st.length else -1) = _ from HR2.out]
  rintro e w2 ⟨rfl, rfl⟩
  go_wp2_with fail
  refine (toGraph n ls _ _ (H.out.below (by have hB := BW.out; exact (by with_reducible (repeat (first | (refine below_drewN ?_ _) | (refine Below.drew ?_) | (refine below_alloc ?_ (by first | omega | (simp; done) | (simp; omega)) _) | (refine Below.setCell ?_ (by first | omega | (simp; done) | (simp; omega)) _) | exact Below.refl _ _ | assumption | (refine below_call ?_ (by first | omega | (simp; done) | (simp; omega)) (by assumption)))))) (Nat.le_refl _)) h1.out).mono ?_
  rintro e w2 ⟨v2, rfl, hO, hb⟩
  have kk := Lib.hid (below_call (B := w1.heap.size) (a := w1) (by with_reducible (repeat (first | (refine below_drewN ?_ _) | (refine Below.drew ?_) | (refine below_alloc ?_ (by first | omega | (simp; done) | (simp; omega)) _) | (refine Below.setCell ?_ (by first | omega | (simp; done) | (simp; omega)) _) | exact Below.refl _ _ | assumption | (refine below_call ?_ (by first | omega | (simp; done) | (simp; omega)) (by assumption))))) (Nat.le_refl _) hb)
  replace BW := Lib.hid (BW.out.trans (kk.out.mono BW.out.size))
  replace A := Lib.hid (A.out.below kk.out A.out.lt)
  clear A_0 A_1 A_2 A_3 A_4
  obtain ⟨A_0, A_1, A_2, A_3, A_4⟩ := box2 A.out
  have X2 := Lib.hid (own_triples hO)
  obtain ⟨a2, c2, rfl⟩ := own_slice hO.1
  clear hO hb kk
  go_wp2_with fail
  refine (toLabelS st _ _ (H2.out.below (by have hB := BW.out; exact (by with_reducible (repeat (first | (refine below_drewN ?_ _) | (refine Below.drew ?_) | (refine below_alloc ?_ (by first | omega | (simp; done) | (simp; omega)) _) | (refine Below.setCell ?_ (by first | omega | (simp; done) | (simp; omega)) _) | exact Below.refl _ _ | assumption | (refine below_call ?_ (by first | omega | (simp; done) | (simp; omega)) (by assumption)))))) (Nat.le_refl _)) h3.out).mono ?_
  rintro e w3 ⟨v3, rfl, hO, hb⟩
  have kk := Lib.hid (below_call (B := w2.heap.size) (a := w2) (by with_reducible (repeat (first | (refine below_drewN ?_ _) | (refine Below.drew ?_) | (refine below_alloc ?_ (by first | omega | (simp; done) | (simp; omega)) _) | (refine Below.setCell ?_ (by first | omega | (simp; done) | (simp; omega)) _) | exact Below.refl _ _ | assumption | (refine below_call ?_ (by first | omega | (simp; done) | (simp; omega)) (by assumption))))) (Nat.le_refl _) hb)
  replace BW := Lib.hid (BW.out.trans (kk.out.mono BW.out.size))
  replace A := Lib.hid (A.out.below kk.out A.out.lt)
  clear A_0 A_1 A_2 A_3 A_4
  obtain ⟨A_0, A_1, A_2, A_3, A_4⟩ := box2 A.out
  replace X2 := Lib.hid (X2.out.below kk.out (Nat.le_refl _))
  have X3 := Lib.hid (own_pairs hO)
  obtain ⟨a3, c3, rfl⟩ := own_slice hO.1
  clear hO hb kk
  go_wp2_with fail
  refine (sStackUnique n ls a0 st _ _ _ (X2.out.below (by with_reducible (repeat (first | exact Below.refl _ _ | (refine below_drewN ?_ _) | (refine Below.drew ?_) | (refine below_alloc ?_ (by first | omega | (simp; done) | (simp; omega)) _)))) (Nat.le_refl _)) (X3.out.below (by with_reducible (repeat (first | exact Below.refl _ _ | (refine below_drewN ?_ _) | (refine Below.drew ?_) | (refine below_alloc ?_ (by first | omega | (simp; done) | (simp; omega)) _)))) (Nat.le_refl _))).mono ?_
  rw [HQ.out]
  rintro e w4 ⟨rfl, hb⟩
  have kk := Lib.hid (below_call (B := w3.heap.size) (a := w3) (by with_reducible (repeat (first | (refine below_drewN ?_ _) | (refine Below.drew ?_) | (refine below_alloc ?_ (by first | omega | (simp; done) | (simp; omega)) _) | (refine Below.setCell ?_ (by first | omega | (simp; done) | (simp; omega)) _) | exact Below.refl _ _ | assumption | (refine below_call ?_ (by first | omega | (simp; done) | (simp; omega)) (by assumption))))) (Nat.le_refl _) hb)
  replace BW := Lib.hid (BW.out.trans (kk.out.mono BW.out.size))
  replace A := Lib.hid (A.out.below kk.out A.out.lt)
  clear A_0 A_1 A_2 A_3 A_4
  obtain ⟨A_0, A_1, A_2, A_3, A_4⟩ := box2 A.out
  replace X2 := Lib.hid (X2.out.below kk.out (Nat.le_refl _))
  replace X3 := Lib.hid (X3.out.below kk.out (Nat.le_refl _))
  clear hb kk
  go_wp2_with fail
  refine (toGraph n ls _ _ (H.out.below (by have hB := BW.out; exact (by with_reducible (repeat (first | (refine below_drewN ?_ _) | (refine Below.drew ?_) | (refine below_alloc ?_ (by first | omega | (simp; done) | (simp; omega)) _) | (refine Below.setCell ?_ (by first | omega | (simp; done) | (simp; omega)) _) | exact Below.refl _ _ | assumption | (refine below_call ?_ (by first | omega | (simp; done) | (simp; omega)) (by assumption)))))) (Nat.le_refl _)) h1.out).mono ?_
  rintro e w5 ⟨v5, rfl, hO, hb⟩
  have kk := Lib.hid (below_call (B := w4.heap.size) (a := w4) (by with_reducible (repeat (first | (refine below_drewN ?_ _) | (refine Below.drew ?_) | (refine below_alloc ?_ (by first | omega | (simp; done) | (simp; omega)) _) | (refine Below.setCell ?_ (by first | omega | (simp; done) | (simp; omega)) _) | exact Below.refl _ _ | assumption | (refine below_call ?_ (by first | omega | (simp; done) | (simp; omega)) (by assumption))))) (Nat.le_refl _) hb)
  replace BW := Lib.hid (BW.out.trans (kk.out.mono BW.out.size))
  replace A := Lib.hid (A.out.below kk.out A.out.lt)
  clear A_0 A_1 A_2 A_3 A_4
  obtain ⟨A_0, A_1, A_2, A_3, A_4⟩ := box2 A.out
  have X5 := Lib.hid (own_triples hO)
  obtain ⟨a5, c5, rfl⟩ := own_slice hO.1
  clear hO hb kk
  go_wp2_with fail
  refine (toLabelS st _ _ (H2.out.below (by have hB := BW.out; exact (by with_reducible (repeat (first | (refine below_drewN ?_ _) | (refine Below.drew ?_) | (refine below_alloc ?_ (by first | omega | (simp; done) | (simp; omega)) _) | (refine Below.setCell ?_ (by first | omega | (simp; done) | (simp; omega)) _) | exact Below.refl _ _ | assumption | (refine below_call ?_ (by first | omega | (simp; done) | (simp; omega)) (by assumption)))))) (Nat.le_refl _)) h3.out).mono ?_
  rintro e w6 ⟨v6, rfl, hO, hb⟩
  have kk := Lib.hid (below_call (B := w5.heap.size) (a := w5) (by with_reducible (repeat (first | (refine below_drewN ?_ _) | (refine Below.drew ?_) | (refine below_alloc ?_ (by first | omega | (simp; done) | (simp; omega)) _) | (refine Below.setCell ?_ (by first | omega | (simp; done) | (simp; omega)) _) | exact Below.refl _ _ | assumption | (refine below_call ?_ (by first | omega | (simp; done) | (simp; omega)) (by assumption))))) (Nat.le_refl _) hb)
  replace BW := Lib.hid (BW.out.trans (kk.out.mono BW.out.size))
  replace A := Lib.hid (A.out.below kk.out A.out.lt)
  clear A_0 A_1 A_2 A_3 A_4
  obtain ⟨A_0, A_1, A_2, A_3, A_4⟩ := box2 A.out
  replace X5 := Lib.hid (X5.out.below kk.out (Nat.le_refl _))
  have C := Lib.hid (Box.call (b := w5.heap.size) (c := #[.int .i64 n, .slice a5 ls.length c5]) (t := 25) hb (by with_reducible (repeat (first | (refine box_at _ _ _ ?_; first | rfl | (simp; done)) | apply Box.alloc | apply Box.drewN | apply Box.drew))))
  obtain ⟨C_0, C_1, C_2, C_3, C_4⟩ := box2 C.out
  have X6 := Lib.hid (own_pairs hO)
  obtain ⟨a6, c6, rfl⟩ := own_slice hO.1
  clear hO hb kk
  go_wp2_with fail
  refine (iStackUnique n ls a0 st _ _ _ (X5.out.below (by with_reducible (repeat (first | exact Below.refl _ _ | (refine below_drewN ?_ _) | (refine Below.drew ?_) | (refine below_alloc ?_ (by first | omega | (simp; done) | (simp; omega)) _)))) (Nat.le_refl _)) (X6.out.below (by with_reducible (repeat (first | exact Below.refl _ _ | (refine below_drewN ?_ _) | (refine Below.drew ?_) | (refine below_alloc ?_ (by first | omega | (simp; done) | (simp; omega)) _)))) (Nat.le_refl _))).mono ?_
  rw [HQ.out]
  rintro e w7 ⟨rfl, hb⟩
  have kk := Lib.hid (below_call (B := w6.heap.size) (a := w6) (by with_reducible (repeat (first | (refine below_drewN ?_ _) | (refine Below.drew ?_) | (refine below_alloc ?_ (by first | omega | (simp; done) | (simp; omega)) _) | (refine Below.setCell ?_ (by first | omega | (simp; done) | (simp; omega)) _) | exact Below.refl _ _ | assumption | (refine below_call ?_ (by first | omega | (simp; done) | (simp; omega)) (by assumption))))) (Nat.le_refl _) hb)
  replace BW := Lib.hid (BW.out.trans (kk.out.mono BW.out.size))
  replace A := Lib.hid (A.out.below kk.out A.out.lt)
  clear A_0 A_1 A_2 A_3 A_4
  obtain ⟨A_0, A_1, A_2, A_3, A_4⟩ := box2 A.out
  replace X5 := Lib.hid (X5.out.below kk.out (Nat.le_refl _))
  replace C := Lib.hid (C.out.below kk.out C.out.lt)
  clear C_0 C_1 C_2 C_3 C_4
  obtain ⟨C_0, C_1, C_2, C_3, C_4⟩ := box2 C.out
  replace X6 := Lib.hid (X6.out.below kk.out (Nat.le_refl _))
  clear hb kk
  go_wp2_with fail
  have BWD := Lib.hid BW.out.drew
  go_region_with (first | (go_at_call 27; refine (toGraph n ls _ _ (H.out.below BWD.out (Nat.le_refl _)) h1.out).mono ?_; rintro e w8 ⟨v8, rfl, hO, hb⟩; have kk := Lib.hid (below_call (B := w7.heap.size) (a := w7) (by with_reducible (repeat (first | (refine below_drewN ?_ _) | (refine Below.drew ?_) | (refine below_alloc ?_ (by first | omega | (simp; done) | (simp; omega)) _) | (refine Below.setCell ?_ (by first | omega | (simp; done) | (simp; omega)) _) | exact Below.refl _ _ | assumption | (refine below_call ?_ (by first | omega | (simp; done) | (simp; omega)) (by assumption))))) (Nat.le_refl _) hb); replace BW := Lib.hid (BW.out.trans (kk.out.mono BW.out.size)); replace A := Lib.hid (A.out.below kk.out A.out.lt); clear A_0 A_1 A_2 A_3 A_4; obtain ⟨A_0, A_1, A_2, A_3, A_4⟩ := box2 A.out; replace X5 := Lib.hid (X5.out.below kk.out (Nat.le_refl _)); replace C := Lib.hid (C.out.below kk.out C.out.lt); clear C_0 C_1 C_2 C_3 C_4; obtain ⟨C_0, C_1, C_2, C_3, C_4⟩ := box2 C.out; replace X6 := Lib.hid (X6.out.below kk.out (Nat.le_refl _)); have X8 := Lib.hid (own_triples hO); obtain ⟨a8, c8, rfl⟩ := own_slice hO.1; clear hO; clear hb kk) | (go_at_call 30; refine (eqGraph n n ls ls _ _ _ (X5.out.below (by with_reducible (repeat (first | exact Below.refl _ _ | (refine below_drewN ?_ _) | (refine Below.drew ?_) | (refine below_alloc ?_ (by first | omega | (simp; done) | (simp; omega)) _)))) (Nat.le_refl _)) (X8.out.below (by with_reducible (repeat (first | exact Below.refl _ _ | (refine below_drewN ?_ _) | (refine Below.drew ?_) | (refine below_alloc ?_ (by first | omega | (simp; done) | (simp; omega)) _)))) (Nat.le_refl _))).mono ?_; rw [eqB_self]; rintro e w9 ⟨rfl, hb⟩; have kk := Lib.hid (below_call (B := w8.heap.size) (a := w8) (by with_reducible (repeat (first | (refine below_drewN ?_ _) | (refine Below.drew ?_) | (refine below_alloc ?_ (by first | omega | (simp; done) | (simp; omega)) _) | (refine Below.setCell ?_ (by first | omega | (simp; done) | (simp; omega)) _) | exact Below.refl _ _ | assumption | (refine below_call ?_ (by first | omega | (simp; done) | (simp; omega)) (by assumption))))) (Nat.le_refl _) hb); replace BW := Lib.hid (BW.out.trans (kk.out.mono BW.out.size)); replace A := Lib.hid (A.out.below kk.out A.out.lt); clear A_0 A_1 A_2 A_3 A_4; obtain ⟨A_0, A_1, A_2, A_3, A_4⟩ := box2 A.out; replace X5 := Lib.hid (X5.out.below kk.out (Nat.le_refl _)); replace C := Lib.hid (C.out.below kk.out C.out.lt); clear C_0 C_1 C_2 C_3 C_4; obtain ⟨C_0, C_1, C_2, C_3, C_4⟩ := box2 C.out; replace X6 := Lib.hid (X6.out.below kk.out (Nat.le_refl _)); replace X8 := Lib.hid (X8.out.below kk.out (Nat.le_refl _)); clear hb kk))
  all_goals
    have F := (And.intro BW.out (And.intro A.out (And.intro X5.out (And.intro C.out (And.intro X6.out X8.out)))))
    clear BW A A_0 A_1 A_2 A_3 A_4 X5 C C_0 C_1 C_2 C_3 C_4 X6 X8 BWD
    revert F
    revert w8 a8 c8 w9
    refine ?K9
  intro w8 a8 c8 w9 F
  obtain ⟨FBW, FA, FX5, FC, FX6, FX8⟩ := F
  have BW := Lib.hid FBW
  have A := Lib.hid FA
  obtain ⟨A_0, A_1, A_2, A_3, A_4⟩ := box2 A.out
  have X5 := Lib.hid FX5
  have C := Lib.hid FC
  obtain ⟨C_0, C_1, C_2, C_3, C_4⟩ := box2 C.out
  have X6 := Lib.hid FX6
  have X8 := Lib.hid FX8
  clear FBW FA FX5 FC FX6 FX8
  go_wp2_with fail
  refine (toLabelS st _ _ (H2.out.below (by have hB := BW.out; exact (by with_reducible (repeat (first | (refine below_drewN ?_ _) | (refine Below.drew ?_) | (refine below_alloc ?_ (by first | omega | (simp; done) | (simp; omega)) _) | (refine Below.setCell ?_ (by first | omega | (simp; done) | (simp; omega)) _) | exact Below.refl _ _ | assumption | (refine below_call ?_ (by first | omega | (simp; done) | (simp; omega)) (by assumption)))))) (Nat.le_refl _)) h3.out).mono ?_
  rintro e w10 ⟨v10, rfl, hO, hb⟩
  have kk := Lib.hid (below_call (B := w9.heap.size) (a := w9) (by with_reducible (repeat (first | (refine below_drewN ?_ _) | (refine Below.drew ?_) | (refine below_alloc ?_ (by first | omega | (simp; done) | (simp; omega)) _) | (refine Below.setCell ?_ (by first | omega | (simp; done) | (simp; omega)) _) | exact Below.refl _ _ | assumption | (refine below_call ?_ (by first | omega | (simp; done) | (simp; omega)) (by assumption))))) (Nat.le_refl _) hb)
  replace BW := Lib.hid (BW.out.trans (kk.out.mono BW.out.size))
  replace A := Lib.hid (A.out.below kk.out A.out.lt)
  clear A_0 A_1 A_2 A_3 A_4
  obtain ⟨A_0, A_1, A_2, A_3, A_4⟩ := box2 A.out
  replace X6 := Lib.hid (X6.out.below kk.out (Nat.le_refl _))
  have X10 := Lib.hid (own_pairs hO)
  obtain ⟨a10, c10, rfl⟩ := own_slice hO.1
  clear hO hb kk
  go_wp2_with fail
  refine (eqLabelS st st _ _ _ (X6.out.below (by with_reducible (repeat (first | exact Below.refl _ _ | (refine below_drewN ?_ _) | (refine Below.drew ?_) | (refine below_alloc ?_ (by first | omega | (simp; done) | (simp; omega)) _)))) (Nat.le_refl _)) (X10.out.below (by with_reducible (repeat (first | exact Below.refl _ _ | (refine below_drewN ?_ _) | (refine Below.drew ?_) | (refine below_alloc ?_ (by first | omega | (simp; done) | (simp; omega)) _)))) (Nat.le_refl _))).mono ?_
  rw [eqB_self]
  rintro e w11 ⟨rfl, hb⟩
  have kk := Lib.hid (below_call (B := w10.heap.size) (a := w10) (by with_reducible (repeat (first | (refine below_drewN ?_ _) | (refine Below.drew ?_) | (refine below_alloc ?_ (by first | omega | (simp; done) | (simp; omega)) _) | (refine Below.setCell ?_ (by first | omega | (simp; done) | (simp; omega)) _) | exact Below.refl _ _ | assumption | (refine below_call ?_ (by first | omega | (simp; done) | (simp; omega)) (by assumption))))) (Nat.le_refl _) hb)
  replace BW := Lib.hid (BW.out.trans (kk.out.mono BW.out.size))
  replace A := Lib.hid (A.out.below kk.out A.out.lt)
  clear A_0 A_1 A_2 A_3 A_4
  obtain ⟨A_0, A_1, A_2, A_3, A_4⟩ := box2 A.out
  replace X6 := Lib.hid (X6.out.below kk.out (Nat.le_refl _))
  replace X10 := Lib.hid (X10.out.below kk.out (Nat.le_refl _))
  clear hb kk
  go_wp2_with fail
  go_ret
  exact ⟨rfl, BW.out⟩
theorem own : ownKnob Try.prog.godebug = none := by kernel_rfl
theorem laidOut : laidOutB Try.prog = true := by kernel_rfl
set_option maxRecDepth 100000 in
theorem lifted (os : Os) (started : os.Started) (H : Type) (enc : TypeId × Value → H) :
    ReturnsInHanded {} Try.checked os 7 .any (Rows.fnExactStackUniqueSpec.pre6 enc Try.prog Try.f7 Rows.fnExactStackUniqueRow.domain false) (Rows.fnExactStackUniqueSpec.post enc Try.prog Try.f7 false true false false) := by
  refine returnsInHanded_of_change (C := Try.checked) own started (by kernel_rfl) Try.func7
    (ChangeSpec.witness6 (enc := enc) (C := Try.checked) false ⟨#[], #[.agg #[.int .i64 0, .slice none 0 0], .int .i64 0, .slice none 0 0], []⟩ 8 (by kernel_rfl) (by kernel_rfl) (by kernel_rfl) (by kernel_rfl)) ?_
  intro W base args ds gs before hval0 hW hcnd _
  have hval : ∀ (j : Nat) t v, Try.f7.params[j]? = some t → args[j]? = some v → Value.okWide Try.prog W .any base t v := hval0
  have hW' := hW
  obtain ⟨p, q, hA0, hV, rfl, hfz, hnd⟩ := hW
  have hA : DataW.TrodAll enc Try.prog W 0 (fun _ => true) true Try.f7.params.toList args.toList ds p := hA0
  rw [Try.params7] at hA hval
  obtain ⟨v0, vs0, d0, ds0, p0, q0, hargs, rfl, rfl, h0, r0⟩ := trodAll_cons hA
  obtain ⟨v1, vs1, d1, ds1, p1, q1, rfl, rfl, rfl, h1, r1⟩ := trodAll_cons r0
  obtain ⟨v2, vs2, d2, ds2, p2, q2, rfl, rfl, rfl, h2, r2⟩ := trodAll_cons r1
  obtain ⟨rfl, rfl, rfl⟩ := trodAll_nil r2
  obtain rfl : args = #[v0, v1, v2] := by cases args; simp_all
  obtain ⟨rfl, rfl⟩ := trodVars_none hV
  have k0 := h0
  have lt0 : ∀ x ∈ p0, x.block < W.heap.size := by obtain ⟨m, hm⟩ := k0; exact DataW.trod_lt m _ _ _ hm
  obtain ⟨n0, u0, ls0, rfl, w0⟩ := graph_of_trod (G := 43) (K := 95) Try.underlying43 (by kernel_rfl) (by kernel_rfl) Try.underlying3 Try.underlying41 Try.underlying95 (by kernel_rfl) (by kernel_rfl) Try.underlying3 Try.underlying3 Try.underlying3 (hval 0 43 v0 rfl rfl) h0
  have k1 := h1
  have lt1 : ∀ x ∈ p1, x.block < W.heap.size := by obtain ⟨m, hm⟩ := k1; exact DataW.trod_lt m _ _ _ hm
  obtain ⟨x1, rfl, rfl, rfl, w1⟩ := open_int Try.underlying3 (hval 1 3 v1 rfl rfl) h1
  have k2 := h2
  have lt2 : ∀ x ∈ p2, x.block < W.heap.size := by obtain ⟨m, hm⟩ := k2; exact DataW.trod_lt m _ _ _ hm
  obtain ⟨ll2, w2⟩ := pairsAt_of_trod (T := 44) (E := 74) Try.underlying44 Try.underlying74 (by kernel_rfl) (by kernel_rfl) Try.underlying3 Try.underlying3 (hval 2 44 v2 rfl rfl) h2
  clear hA0 hval0
  refine (walk n0 u0 ls0 x1 v2 ll2 W w0 w2).mono fun e W' ⟨he, bel⟩ => ?_
  subst he
  exact ⟨_, rfl, _, _, _, [], _, [], hW', trodAll_mk1 (shut_bool Try.underlying4 _), (trodAll_cons_mk (Below.trod laidOut (by kernel_rfl) (of_decide_eq_true (by kernel_rfl)) k0 bel lt0) (trodAll_cons_mk (shut_int Try.underlying3 w1) (trodAll_cons_mk (Below.trod laidOut (by kernel_rfl) (of_decide_eq_true (by kernel_rfl)) k2 bel lt2) trodAll_mk0))), rfl, bel.frame _, fun h => by cases h⟩
theorem over : Rows.fnExactStackUniqueRow.holds Try.pinned (OpenSpec.ofChange Rows.fnExactStackUniqueSpec) :=
  OpenClaim.holds_of_wide 7 Try.f7 rfl rfl rfl rfl rfl rfl rfl ⟨rfl, rfl, rfl, rfl, rfl⟩ rfl rfl rfl rfl rfl (by kernel_rfl) Try.func7 (by kernel_rfl)
    (of_decide_eq_true (by kernel_rfl)) (by unfold Func.isWrapper; first | (rw [if_pos (by decide +kernel)]; kernel_rfl) | (rw [if_neg (by decide +kernel)]; exact ⟨rfl, rfl⟩))
    (fun os started H enc _ => lifted os started H enc)
end Go.Proofs.Ytkegainegkdgpaa.lawFnExactStackUnique
namespace Go.Proofs.Ytkegainegkdgpaa
set_option linter.unusedSimpArgs false
set_option linter.unusedVariables false
/-- The statement. -/
theorem FnExactStackUnique_proved : Rows.FnExactStackUniqueSaid := lawFnExactStackUnique.over
#print axioms FnExactStackUnique_proved
end Go.Proofs.Ytkegainegkdgpaa
