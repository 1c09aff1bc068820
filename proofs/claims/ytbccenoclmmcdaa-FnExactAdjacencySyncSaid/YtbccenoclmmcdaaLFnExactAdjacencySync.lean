/- FnExactAdjacencySync: for every argument the call returns true, and the arguments read afterwards as before. No condition. -/
import Derived.Test.YtbccenoclmmcdaaSync
import Derived.Test.YtbccenoclmmcdaaEq
import Derived.Test.YtbccenoclmmcdaaMake2
import Derived.Test.YtbccenoclmmcdaaRows
import Derived.Test.YtbccenoclmmcdaaOpen
import Derived.ProofKit
import Derived.OpenShut
import Derived.ShutString
import Derived.ChangeOld
import Derived.Lib.SmallJoins
namespace Go.Proofs.Ytbccenoclmmcdaa.lawFnExactAdjacencySync
open Go.ChangeShapes Go.WideShapes Go.ChangeAt Go.RowKit Go.Joins
set_option maxHeartbeats 2000000 in
theorem walk (s a : Int) (v : Value) (db : List LsaD) (u : Value) (ob : List LsaD) (w : World) (h : LsasAt w v db) (h2 : LsasAt w u ob) :
    Calls Try.prog 11 #[.agg #[.int .i64 s, .int .i64 a], v, u] w fun e w' => e = .returned (.bool true) ∧ Below w.heap.size w w' := by
  have H := Lib.hid h; have H2 := Lib.hid h2
  obtain ⟨va, vn, vc, rfl⟩ := h.form
  obtain ⟨ua, un, uc, rfl⟩ := h2.form
  clear h h2
  by_cases hl : (db.length : Int) + totalL db ≤ 1048576
  rotate_left
  · have hr : leftOf ((db.length : Int) + totalL db) 1048576 = -1 := by unfold leftOf; rw [if_neg hl]
    have HR := Lib.hid hr
    clear hl hr
    go_enter Try.func11, Try.ntmps11
    go_wp2_with fail
    refine (szLsaS db _ 1048576 _ (H.out.below (by with_reducible (repeat (first | (refine below_drewN ?_ _) | (refine Below.drew ?_) | (refine below_alloc ?_ (by first | omega | (simp; done) | (simp; omega)) _) | (refine Below.setCell ?_ (by first | omega | (simp; done) | (simp; omega)) _) | exact Below.refl _ _ | assumption | (refine below_call ?_ (by first | omega | (simp; done) | (simp; omega)) (by assumption))))) (Nat.le_refl _)) (by omega) (by omega)).mono ?_
    rw [HR.out]
    rintro e w1 ⟨rfl, hb1⟩
    have hB := below_call (B := w.heap.size) (a := w) (by with_reducible (repeat (first | (refine below_drewN ?_ _) | (refine Below.drew ?_) | (refine below_alloc ?_ (by first | omega | (simp; done) | (simp; omega)) _) | (refine Below.setCell ?_ (by first | omega | (simp; done) | (simp; omega)) _) | exact Below.refl _ _ | assumption | (refine below_call ?_ (by first | omega | (simp; done) | (simp; omega)) (by assumption))))) (Nat.le_refl _) hb1
    go_wp2_with fail
    go_ret
    exact ⟨rfl, hB⟩
  have z1 : Hid (db.length ≤ 1048576) := Lib.hid (by omega)
  have z2 : Hid (totalL db ≤ 1048576) := Lib.hid (by omega)
  obtain ⟨r, hr, hr0, hr1⟩ : ∃ r, leftOf ((db.length : Int) + totalL db) 1048576 = r ∧ 0 ≤ r ∧ r ≤ 1048576 := ⟨_, rfl, by unfold leftOf; rw [if_pos hl]; omega, by unfold leftOf; rw [if_pos hl]; omega⟩
  have HR := Lib.hid hr
  clear hl hr
  by_cases hl : (ob.length : Int) + totalL ob ≤ r
  rotate_left
  · have hr : leftOf ((ob.length : Int) + totalL ob) r = -1 := by unfold leftOf; rw [if_neg hl]
    have HR2 := Lib.hid hr
    clear hl hr
    go_enter Try.func11, Try.ntmps11
    go_wp2_with fail
    refine (szLsaS db _ 1048576 _ (H.out.below (by with_reducible (repeat (first | (refine below_drewN ?_ _) | (refine Below.drew ?_) | (refine below_alloc ?_ (by first | omega | (simp; done) | (simp; omega)) _) | (refine Below.setCell ?_ (by first | omega | (simp; done) | (simp; omega)) _) | exact Below.refl _ _ | assumption | (refine below_call ?_ (by first | omega | (simp; done) | (simp; omega)) (by assumption))))) (Nat.le_refl _)) (by omega) (by omega)).mono ?_
    rw [HR.out]
    rintro e w1 ⟨rfl, hb1⟩
    have B1 := Lib.hid (below_call (B := w.heap.size) (a := w) (by with_reducible (repeat (first | (refine below_drewN ?_ _) | (refine Below.drew ?_) | (refine below_alloc ?_ (by first | omega | (simp; done) | (simp; omega)) _) | (refine Below.setCell ?_ (by first | omega | (simp; done) | (simp; omega)) _) | exact Below.refl _ _ | assumption | (refine below_call ?_ (by first | omega | (simp; done) | (simp; omega)) (by assumption))))) (Nat.le_refl _) hb1)
    clear hb1
    go_wp2_with fail
    refine (szLsaS ob _ r _ (H2.out.below B1.out (Nat.le_refl _)) hr0 hr1).mono ?_
    rw [HR2.out]
    rintro e w2 ⟨rfl, hb2⟩
    have hB := B1.out.trans (hb2.mono B1.out.size)
    go_wp2_with fail
    go_ret
    exact ⟨rfl, hB⟩
  have z3 : Hid (ob.length ≤ 1048576) := Lib.hid (by omega)
  have z4 : Hid (totalL ob ≤ 1048576) := Lib.hid (by omega)
  obtain ⟨r2, hr, hr2⟩ : ∃ r2, leftOf ((ob.length : Int) + totalL ob) r = r2 ∧ 0 ≤ r2 := ⟨_, rfl, by unfold leftOf; rw [if_pos hl]; omega⟩
  have HR2 := Lib.hid hr
  clear hl hr
  obtain ⟨⟨p, q⟩, hpq⟩ : ∃ p, syncOf s a db ob = p := ⟨_, rfl⟩
  have HPQ := Lib.hid hpq
  clear hpq
  go_enter Try.func11, Try.ntmps11
  go_wp2_with fail
  refine (szLsaS db _ 1048576 _ (H.out.below (by with_reducible (repeat (first | (refine below_drewN ?_ _) | (refine Below.drew ?_) | (refine below_alloc ?_ (by first | omega | (simp; done) | (simp; omega)) _) | (refine Below.setCell ?_ (by first | omega | (simp; done) | (simp; omega)) _) | exact Below.refl _ _ | assumption | (refine below_call ?_ (by first | omega | (simp; done) | (simp; omega)) (by assumption))))) (Nat.le_refl _)) (by omega) (by omega)).mono ?_
  rw [HR.out]
  rintro e w1 ⟨rfl, hb1⟩
  have BW := Lib.hid (Below.refl w.heap.size w)
  have kk := Lib.hid (below_call (B := w.heap.size) (a := w) (by with_reducible (repeat (first | (refine below_drewN ?_ _) | (refine Below.drew ?_) | (refine below_alloc ?_ (by first | omega | (simp; done) | (simp; omega)) _) | (refine Below.setCell ?_ (by first | omega | (simp; done) | (simp; omega)) _) | exact Below.refl _ _ | assumption | (refine below_call ?_ (by first | omega | (simp; done) | (simp; omega)) (by assumption))))) (Nat.le_refl _) hb1)
  replace BW := Lib.hid (BW.out.trans (kk.out.mono BW.out.size))
  have A := Lib.hid (Box.call (b := w.heap.size) (c := #[.int .i64 s, .int .i64 a]) (t := 39) hb1 (by with_reducible (repeat (first | (refine box_at _ _ _ ?_; first | rfl | (simp; done)) | apply Box.alloc | apply Box.drewN | apply Box.drew))))
  obtain ⟨A_0, A_1, A_2, A_3, A_4⟩ := box2 A.out
  clear hb1 kk
  go_wp2_with fail
  refine (szLsaS ob _ r _ (H2.out.below BW.out (Nat.le_refl _)) hr0 hr1).mono ?_
  rw [HR2.out]
  rintro e w2 ⟨rfl, hb2⟩
  have kk := Lib.hid (below_call (B := w1.heap.size) (a := w1) (by with_reducible (repeat (first | (refine below_drewN ?_ _) | (refine Below.drew ?_) | (refine below_alloc ?_ (by first | omega | (simp; done) | (simp; omega)) _) | (refine Below.setCell ?_ (by first | omega | (simp; done) | (simp; omega)) _) | exact Below.refl _ _ | assumption | (refine below_call ?_ (by first | omega | (simp; done) | (simp; omega)) (by assumption))))) (Nat.le_refl _) hb2)
  replace BW := Lib.hid (BW.out.trans (kk.out.mono BW.out.size))
  replace A := Lib.hid (A.out.below kk.out A.out.lt)
  clear A_0 A_1 A_2 A_3 A_4
  obtain ⟨A_0, A_1, A_2, A_3, A_4⟩ := box2 A.out
  clear hb2 kk
  go_wp2_with (go_at_call 20; refine (toAdj _ _ _).mono ?_; rintro e w' ⟨rfl, rfl⟩)
  refine (toLsaS db _ _ (H.out.below (by have hB := BW.out; exact (by with_reducible (repeat (first | (refine below_drewN ?_ _) | (refine Below.drew ?_) | (refine below_alloc ?_ (by first | omega | (simp; done) | (simp; omega)) _) | (refine Below.setCell ?_ (by first | omega | (simp; done) | (simp; omega)) _) | exact Below.refl _ _ | assumption | (refine below_call ?_ (by first | omega | (simp; done) | (simp; omega)) (by assumption)))))) (Nat.le_refl _)) z1.out z2.out).mono ?_
  rintro e w3 ⟨v3, us3, rfl, hO3, hb3⟩
  have kk := Lib.hid (below_call (B := w2.heap.size) (a := w2) (by with_reducible (repeat (first | (refine below_drewN ?_ _) | (refine Below.drew ?_) | (refine below_alloc ?_ (by first | omega | (simp; done) | (simp; omega)) _) | (refine Below.setCell ?_ (by first | omega | (simp; done) | (simp; omega)) _) | exact Below.refl _ _ | assumption | (refine below_call ?_ (by first | omega | (simp; done) | (simp; omega)) (by assumption))))) (Nat.le_refl _) hb3)
  replace BW := Lib.hid (BW.out.trans (kk.out.mono BW.out.size))
  replace A := Lib.hid (A.out.below kk.out A.out.lt)
  clear A_0 A_1 A_2 A_3 A_4
  obtain ⟨A_0, A_1, A_2, A_3, A_4⟩ := box2 A.out
  have X3 := Lib.hid hO3.at_
  obtain ⟨a3, n3, c3, rfl⟩ := X3.out.form
  clear hb3 hO3 kk
  go_wp2_with fail
  refine (toLsaS ob _ _ (H2.out.below BW.out (Nat.le_refl _)) z3.out z4.out).mono ?_
  rintro e w4 ⟨v4, us4, rfl, hO4, hb4⟩
  have kk := Lib.hid (below_call (B := w3.heap.size) (a := w3) (by with_reducible (repeat (first | (refine below_drewN ?_ _) | (refine Below.drew ?_) | (refine below_alloc ?_ (by first | omega | (simp; done) | (simp; omega)) _) | (refine Below.setCell ?_ (by first | omega | (simp; done) | (simp; omega)) _) | exact Below.refl _ _ | assumption | (refine below_call ?_ (by first | omega | (simp; done) | (simp; omega)) (by assumption))))) (Nat.le_refl _) hb4)
  replace BW := Lib.hid (BW.out.trans (kk.out.mono BW.out.size))
  replace A := Lib.hid (A.out.below kk.out A.out.lt)
  clear A_0 A_1 A_2 A_3 A_4
  obtain ⟨A_0, A_1, A_2, A_3, A_4⟩ := box2 A.out
  replace X3 := Lib.hid (X3.out.below kk.out (Nat.le_refl _))
  have X4 := Lib.hid hO4.at_
  obtain ⟨a4, n4, c4, rfl⟩ := X4.out.form
  clear hb4 hO4 kk
  go_wp2_with fail
  refine (sSync s a db ob _ _ _ X3.out X4.out).mono ?_
  rw [HPQ.out]
  rintro e w5 ⟨rfl, hb5⟩
  have kk := Lib.hid (below_call (B := w4.heap.size) (a := w4) (by with_reducible (repeat (first | (refine below_drewN ?_ _) | (refine Below.drew ?_) | (refine below_alloc ?_ (by first | omega | (simp; done) | (simp; omega)) _) | (refine Below.setCell ?_ (by first | omega | (simp; done) | (simp; omega)) _) | exact Below.refl _ _ | assumption | (refine below_call ?_ (by first | omega | (simp; done) | (simp; omega)) (by assumption))))) (Nat.le_refl _) hb5)
  replace BW := Lib.hid (BW.out.trans (kk.out.mono BW.out.size))
  replace A := Lib.hid (A.out.below kk.out A.out.lt)
  clear A_0 A_1 A_2 A_3 A_4
  obtain ⟨A_0, A_1, A_2, A_3, A_4⟩ := box2 A.out
  clear hb5 kk X3 X4
  go_wp2_with fail
  refine (toLsaS db _ _ (H.out.below (by have hB := BW.out; exact (by with_reducible (repeat (first | (refine below_drewN ?_ _) | (refine Below.drew ?_) | (refine below_alloc ?_ (by first | omega | (simp; done) | (simp; omega)) _) | (refine Below.setCell ?_ (by first | omega | (simp; done) | (simp; omega)) _) | exact Below.refl _ _ | assumption | (refine below_call ?_ (by first | omega | (simp; done) | (simp; omega)) (by assumption)))))) (Nat.le_refl _)) z1.out z2.out).mono ?_
  rintro e w6 ⟨v6, us6, rfl, hO6, hb6⟩
  have kk := Lib.hid (below_call (B := w5.heap.size) (a := w5) (by with_reducible (repeat (first | (refine below_drewN ?_ _) | (refine Below.drew ?_) | (refine below_alloc ?_ (by first | omega | (simp; done) | (simp; omega)) _) | (refine Below.setCell ?_ (by first | omega | (simp; done) | (simp; omega)) _) | exact Below.refl _ _ | assumption | (refine below_call ?_ (by first | omega | (simp; done) | (simp; omega)) (by assumption))))) (Nat.le_refl _) hb6)
  replace BW := Lib.hid (BW.out.trans (kk.out.mono BW.out.size))
  replace A := Lib.hid (A.out.below kk.out A.out.lt)
  clear A_0 A_1 A_2 A_3 A_4
  obtain ⟨A_0, A_1, A_2, A_3, A_4⟩ := box2 A.out
  have Z := Lib.hid (Box.call (b := w5.heap.size) (c := #[.int .i64 p, .int .i64 q]) (t := 41) hb6 (by with_reducible (repeat (first | (refine box_at _ _ _ ?_; first | rfl | (simp; done)) | apply Box.alloc | apply Box.drewN | apply Box.drew))))
  obtain ⟨Z_0, Z_1, Z_2, Z_3, Z_4⟩ := box2 Z.out
  have X6 := Lib.hid hO6.at_
  obtain ⟨a6, n6, c6, rfl⟩ := X6.out.form
  clear hb6 hO6 kk
  go_wp2_with fail
  refine (toLsaS ob _ _ (H2.out.below BW.out (Nat.le_refl _)) z3.out z4.out).mono ?_
  rintro e w7 ⟨v7, us7, rfl, hO7, hb7⟩
  have kk := Lib.hid (below_call (B := w6.heap.size) (a := w6) (by with_reducible (repeat (first | (refine below_drewN ?_ _) | (refine Below.drew ?_) | (refine below_alloc ?_ (by first | omega | (simp; done) | (simp; omega)) _) | (refine Below.setCell ?_ (by first | omega | (simp; done) | (simp; omega)) _) | exact Below.refl _ _ | assumption | (refine below_call ?_ (by first | omega | (simp; done) | (simp; omega)) (by assumption))))) (Nat.le_refl _) hb7)
  replace BW := Lib.hid (BW.out.trans (kk.out.mono BW.out.size))
  replace A := Lib.hid (A.out.below kk.out A.out.lt)
  clear A_0 A_1 A_2 A_3 A_4
  obtain ⟨A_0, A_1, A_2, A_3, A_4⟩ := box2 A.out
  replace Z := Lib.hid (Z.out.below kk.out Z.out.lt)
  clear Z_0 Z_1 Z_2 Z_3 Z_4
  obtain ⟨Z_0, Z_1, Z_2, Z_3, Z_4⟩ := box2 Z.out
  replace X6 := Lib.hid (X6.out.below kk.out (Nat.le_refl _))
  have X7 := Lib.hid hO7.at_
  obtain ⟨a7, n7, c7, rfl⟩ := X7.out.form
  clear hb7 hO7 kk
  go_wp2_with (go_at_call 20; refine (toAdj _ _ _).mono ?_; rintro e w' ⟨rfl, rfl⟩)
  refine (iSync s a db ob _ _ _ (X6.out.below (by with_reducible (repeat (first | (refine below_drewN ?_ _) | (refine Below.drew ?_) | (refine below_alloc ?_ (by first | omega | (simp; done) | (simp; omega)) _) | (refine Below.setCell ?_ (by first | omega | (simp; done) | (simp; omega)) _) | exact Below.refl _ _ | assumption | (refine below_call ?_ (by first | omega | (simp; done) | (simp; omega)) (by assumption))))) (Nat.le_refl _)) (X7.out.below (by with_reducible (repeat (first | (refine below_drewN ?_ _) | (refine Below.drew ?_) | (refine below_alloc ?_ (by first | omega | (simp; done) | (simp; omega)) _) | (refine Below.setCell ?_ (by first | omega | (simp; done) | (simp; omega)) _) | exact Below.refl _ _ | assumption | (refine below_call ?_ (by first | omega | (simp; done) | (simp; omega)) (by assumption))))) (Nat.le_refl _))).mono ?_
  rw [HPQ.out]
  rintro e w8 ⟨rfl, hb8⟩
  have kk := Lib.hid (below_call (B := w7.heap.size) (a := w7) (by with_reducible (repeat (first | (refine below_drewN ?_ _) | (refine Below.drew ?_) | (refine below_alloc ?_ (by first | omega | (simp; done) | (simp; omega)) _) | (refine Below.setCell ?_ (by first | omega | (simp; done) | (simp; omega)) _) | exact Below.refl _ _ | assumption | (refine below_call ?_ (by first | omega | (simp; done) | (simp; omega)) (by assumption))))) (Nat.le_refl _) hb8)
  replace BW := Lib.hid (BW.out.trans (kk.out.mono BW.out.size))
  replace Z := Lib.hid (Z.out.below kk.out Z.out.lt)
  clear Z_0 Z_1 Z_2 Z_3 Z_4
  obtain ⟨Z_0, Z_1, Z_2, Z_3, Z_4⟩ := box2 Z.out
  replace X6 := Lib.hid (X6.out.below kk.out (Nat.le_refl _))
  replace X7 := Lib.hid (X7.out.below kk.out (Nat.le_refl _))
  clear hb8 kk
  have hpp : (p == p && q == q) = true := by simp
  go_wp2_with (go_at_call 23; refine (eqAdj _ _ _ _ _).mono ?_; rw [hpp]; rintro e w' ⟨rfl, rfl⟩)
  refine (toLsaS db _ _ (H.out.below (by have hB := BW.out; exact (by with_reducible (repeat (first | (refine below_drewN ?_ _) | (refine Below.drew ?_) | (refine below_alloc ?_ (by first | omega | (simp; done) | (simp; omega)) _) | (refine Below.setCell ?_ (by first | omega | (simp; done) | (simp; omega)) _) | exact Below.refl _ _ | assumption | (refine below_call ?_ (by first | omega | (simp; done) | (simp; omega)) (by assumption)))))) (Nat.le_refl _)) z1.out z2.out).mono ?_
  rintro e w9 ⟨v9, us9, rfl, hO9, hb9⟩
  have kk := Lib.hid (below_call (B := w8.heap.size) (a := w8) (by with_reducible (repeat (first | (refine below_drewN ?_ _) | (refine Below.drew ?_) | (refine below_alloc ?_ (by first | omega | (simp; done) | (simp; omega)) _) | (refine Below.setCell ?_ (by first | omega | (simp; done) | (simp; omega)) _) | exact Below.refl _ _ | assumption | (refine below_call ?_ (by first | omega | (simp; done) | (simp; omega)) (by assumption))))) (Nat.le_refl _) hb9)
  replace BW := Lib.hid (BW.out.trans (kk.out.mono BW.out.size))
  replace X6 := Lib.hid (X6.out.below kk.out (Nat.le_refl _))
  replace X7 := Lib.hid (X7.out.below kk.out (Nat.le_refl _))
  have X9 := Lib.hid hO9.at_
  obtain ⟨a9, n9, c9, rfl⟩ := X9.out.form
  clear hb9 hO9 kk
  go_wp2_with fail
  refine (eqLsaS db db _ _ _ X6.out X9.out).mono ?_
  rw [eqB_self]
  rintro e w10 ⟨rfl, hb10⟩
  have kk := Lib.hid (below_call (B := w9.heap.size) (a := w9) (by with_reducible (repeat (first | (refine below_drewN ?_ _) | (refine Below.drew ?_) | (refine below_alloc ?_ (by first | omega | (simp; done) | (simp; omega)) _) | (refine Below.setCell ?_ (by first | omega | (simp; done) | (simp; omega)) _) | exact Below.refl _ _ | assumption | (refine below_call ?_ (by first | omega | (simp; done) | (simp; omega)) (by assumption))))) (Nat.le_refl _) hb10)
  replace BW := Lib.hid (BW.out.trans (kk.out.mono BW.out.size))
  replace X7 := Lib.hid (X7.out.below kk.out (Nat.le_refl _))
  clear hb10 kk X6 X9
  go_wp2_with fail
  refine (toLsaS ob _ _ (H2.out.below BW.out (Nat.le_refl _)) z3.out z4.out).mono ?_
  rintro e w11 ⟨v11, us11, rfl, hO11, hb11⟩
  have kk := Lib.hid (below_call (B := w10.heap.size) (a := w10) (by with_reducible (repeat (first | (refine below_drewN ?_ _) | (refine Below.drew ?_) | (refine below_alloc ?_ (by first | omega | (simp; done) | (simp; omega)) _) | (refine Below.setCell ?_ (by first | omega | (simp; done) | (simp; omega)) _) | exact Below.refl _ _ | assumption | (refine below_call ?_ (by first | omega | (simp; done) | (simp; omega)) (by assumption))))) (Nat.le_refl _) hb11)
  replace BW := Lib.hid (BW.out.trans (kk.out.mono BW.out.size))
  replace X7 := Lib.hid (X7.out.below kk.out (Nat.le_refl _))
  have X11 := Lib.hid hO11.at_
  clear hb11 hO11 kk
  go_wp2_with fail
  refine (eqLsaS ob ob _ _ _ X7.out X11.out).mono ?_
  rw [eqB_self]
  rintro e w12 ⟨rfl, hb12⟩
  have kk := Lib.hid (below_call (B := w11.heap.size) (a := w11) (by with_reducible (repeat (first | (refine below_drewN ?_ _) | (refine Below.drew ?_) | (refine below_alloc ?_ (by first | omega | (simp; done) | (simp; omega)) _) | (refine Below.setCell ?_ (by first | omega | (simp; done) | (simp; omega)) _) | exact Below.refl _ _ | assumption | (refine below_call ?_ (by first | omega | (simp; done) | (simp; omega)) (by assumption))))) (Nat.le_refl _) hb12)
  replace BW := Lib.hid (BW.out.trans (kk.out.mono BW.out.size))
  clear hb12 kk
  go_wp2_with fail
  go_ret
  exact ⟨rfl, BW.out⟩
theorem own : ownKnob Try.prog.godebug = none := by kernel_rfl
theorem laidOut : laidOutB Try.prog = true := by kernel_rfl
set_option maxRecDepth 100000 in
theorem lifted (os : Os) (started : os.Started) (H : Type) (enc : TypeId × Value → H) :
    ReturnsInHanded {} Try.checked os 11 .any (Rows.fnExactAdjacencySyncSpec.pre6 enc Try.prog Try.f11 Rows.fnExactAdjacencySyncRow.domain false) (Rows.fnExactAdjacencySyncSpec.post enc Try.prog Try.f11 false true false false) := by
  refine returnsInHanded_of_change (C := Try.checked) own started (by kernel_rfl) Try.func11
    (ChangeSpec.witness6 (enc := enc) (C := Try.checked) false ⟨#[], #[.agg #[.int .i64 0, .int .i64 0], .slice none 0 0, .slice none 0 0], []⟩ 8 (by kernel_rfl) (by kernel_rfl) (by kernel_rfl) (by kernel_rfl)) ?_
  intro W base args ds gs before hval0 hW hcnd _
  have hval : ∀ (j : Nat) t v, Try.f11.params[j]? = some t → args[j]? = some v → Value.okWide Try.prog W .any base t v := hval0
  have hW' := hW
  obtain ⟨p, q, hA0, hV, rfl, hfz, hnd⟩ := hW
  have hA : DataW.TrodAll enc Try.prog W 0 (fun _ => true) true Try.f11.params.toList args.toList ds p := hA0
  rw [Try.params11] at hA hval
  obtain ⟨v0, vs0, d0, ds0, p0, q0, hargs, rfl, rfl, h0, r0⟩ := trodAll_cons hA
  obtain ⟨v1, vs1, d1, ds1, p1, q1, rfl, rfl, rfl, h1, r1⟩ := trodAll_cons r0
  obtain ⟨v2, vs2, d2, ds2, p2, q2, rfl, rfl, rfl, h2, r2⟩ := trodAll_cons r1
  obtain ⟨rfl, rfl, rfl⟩ := trodAll_nil r2
  obtain rfl : args = #[v0, v1, v2] := by cases args; simp_all
  obtain ⟨rfl, rfl⟩ := trodVars_none hV
  have k0 := h0
  have lt0 : ∀ x ∈ p0, x.block < W.heap.size := by obtain ⟨m, hm⟩ := k0; exact DataW.trod_lt m _ _ _ hm
  obtain ⟨s0, a0, rfl⟩ := adj_of_trod (T := 39) Try.underlying39 (by kernel_rfl) (by kernel_rfl) Try.underlying3 Try.underlying3 (hval 0 39 v0 rfl rfl) h0
  have k1 := h1
  have lt1 : ∀ x ∈ p1, x.block < W.heap.size := by obtain ⟨m, hm⟩ := k1; exact DataW.trod_lt m _ _ _ hm
  obtain ⟨db1, w1⟩ := lsas_of_trod (T := 49) (L := 33) (E := 87) Try.underlying49 Try.underlying33 (by kernel_rfl) (by kernel_rfl) Try.underlying3 Try.underlying3 Try.underlying31 Try.underlying87 (by kernel_rfl) (by kernel_rfl) Try.underlying3 Try.underlying3 (hval 1 49 v1 rfl rfl) h1
  have k2 := h2
  have lt2 : ∀ x ∈ p2, x.block < W.heap.size := by obtain ⟨m, hm⟩ := k2; exact DataW.trod_lt m _ _ _ hm
  obtain ⟨db2, w2⟩ := lsas_of_trod (T := 49) (L := 33) (E := 87) Try.underlying49 Try.underlying33 (by kernel_rfl) (by kernel_rfl) Try.underlying3 Try.underlying3 Try.underlying31 Try.underlying87 (by kernel_rfl) (by kernel_rfl) Try.underlying3 Try.underlying3 (hval 2 49 v2 rfl rfl) h2
  clear hA0 hval0
  refine (walk s0 a0 v1 db1 v2 db2 W w1 w2).mono fun e W' ⟨he, bel⟩ => ?_
  subst he
  exact ⟨_, rfl, _, _, _, [], _, [], hW', trodAll_mk1 (shut_bool Try.underlying4 _), (trodAll_cons_mk (Below.trod laidOut (by kernel_rfl) (of_decide_eq_true (by kernel_rfl)) k0 bel lt0) (trodAll_cons_mk (Below.trod laidOut (by kernel_rfl) (of_decide_eq_true (by kernel_rfl)) k1 bel lt1) (trodAll_cons_mk (Below.trod laidOut (by kernel_rfl) (of_decide_eq_true (by kernel_rfl)) k2 bel lt2) trodAll_mk0))), rfl, bel.frame _, fun h => by cases h⟩
theorem over : Rows.fnExactAdjacencySyncRow.holds Try.pinned (OpenSpec.ofChange Rows.fnExactAdjacencySyncSpec) :=
  OpenClaim.holds_of_wide 11 Try.f11 rfl rfl rfl rfl rfl rfl rfl ⟨rfl, rfl, rfl, rfl, rfl⟩ rfl rfl rfl rfl rfl (by kernel_rfl) Try.func11 (by kernel_rfl)
    (of_decide_eq_true (by kernel_rfl)) (by unfold Func.isWrapper; first | (rw [if_pos (by decide +kernel)]; kernel_rfl) | (rw [if_neg (by decide +kernel)]; exact ⟨rfl, rfl⟩))
    (fun os started H enc _ => lifted os started H enc)
end Go.Proofs.Ytbccenoclmmcdaa.lawFnExactAdjacencySync
namespace Go.Proofs.Ytbccenoclmmcdaa
/-- The statement. -/
theorem FnExactAdjacencySync_proved : Rows.FnExactAdjacencySyncSaid := lawFnExactAdjacencySync.over
#print axioms FnExactAdjacencySync_proved
end Go.Proofs.Ytbccenoclmmcdaa
