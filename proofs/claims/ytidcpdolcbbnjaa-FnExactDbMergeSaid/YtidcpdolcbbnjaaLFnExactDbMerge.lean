/- FnExactDbMerge: for every argument the call returns true, and the arguments read afterwards as before. No condition. -/
import Derived.Test.YtidcpdolcbbnjaaMarkOne
import Derived.Test.YtidcpdolcbbnjaaEq
import Derived.Test.YtidcpdolcbbnjaaMake2
import Derived.Test.YtidcpdolcbbnjaaRows
import Derived.Test.YtidcpdolcbbnjaaOpen
import Derived.ProofKit
import Derived.OpenShut
import Derived.ShutString
import Derived.ChangeOld
import Derived.Lib.SmallJoins
namespace Go.Proofs.Ytidcpdolcbbnjaa.lawFnExactDbMerge
open Go.ChangeShapes Go.WideShapes Go.ChangeAt Go.RowKit Go.Joins
set_option maxRecDepth 100000 in
set_option maxHeartbeats 8000000 in
theorem walk (v : Value) (db : List LsaD) (u : Value) (ob : List LsaD) (w : World) (h : LsasAt w v db) (h2 : LsasAt w u ob) :
    Calls Try.prog 13 #[v, u] w fun e w' => e = .returned (.bool true) ∧ Below w.heap.size w w' := by
  have H := Lib.hid h; have H2 := Lib.hid h2
  obtain ⟨va, vn, vc, rfl⟩ := h.form
  obtain ⟨ua, un, uc, rfl⟩ := h2.form
  clear h h2
  by_cases hl : (db.length : Int) + totalL db ≤ 1048576
  rotate_left
  · have hr : leftOf ((db.length : Int) + totalL db) 1048576 = -1 := by unfold leftOf; rw [if_neg hl]
    have HR := Lib.hid hr
    clear hl hr
    go_enter Try.func13, Try.ntmps13
    go_wp2_with fail
    refine (szLsaS db _ 1048576 _ H.out (by omega) (by omega)).mono ?_
    rw [HR.out]
    rintro e w1 ⟨rfl, hb1⟩
    have hB := hb1
    go_wp2_with fail
    go_ret
    exact ⟨rfl, hB⟩
  have z1 : Hid (db.length ≤ 1048576) := Lib.hid (by omega)
  have z2 : Hid (totalL db ≤ 1048576) := Lib.hid (by omega)
  obtain ⟨r, hr, hr0, hr1⟩ : ∃ r, leftOf ((db.length : Int) + totalL db) 1048576 = r ∧ 0 ≤ r ∧ r ≤ 1048576 := ⟨_, rfl, by unfold leftOf; rw [if_pos hl]; omega, by unfold leftOf; rw [if_pos hl]; omega⟩
  have HR := Lib.hid hr
  clear hl hr
  by_cases hl : (ob.length : Int) + totalL ob ≤ r
  rotate_left
  · have hr : leftOf ((ob.length : Int) + totalL ob) r = -1 := by unfold leftOf; rw [if_neg hl]
    have HR2 := Lib.hid hr
    clear hl hr
    go_enter Try.func13, Try.ntmps13
    go_wp2_with fail
    refine (szLsaS db _ 1048576 _ H.out (by omega) (by omega)).mono ?_
    rw [HR.out]
    rintro e w1 ⟨rfl, hb1⟩
    have B1 := Lib.hid hb1
    clear hb1
    go_wp2_with fail
    refine (szLsaS ob _ r _ (H2.out.below B1.out (Nat.le_refl _)) hr0 hr1).mono ?_
    rw [HR2.out]
    rintro e w2 ⟨rfl, hb2⟩
    have hB := B1.out.trans (hb2.mono B1.out.size)
    go_wp2_with fail
    go_ret
    exact ⟨rfl, hB⟩
  have z3 : Hid (ob.length ≤ 1048576) := Lib.hid (by omega)
  have z4 : Hid (totalL ob ≤ 1048576) := Lib.hid (by omega)
  obtain ⟨r2, hr, hr2⟩ : ∃ r2, leftOf ((ob.length : Int) + totalL ob) r = r2 ∧ 0 ≤ r2 := ⟨_, rfl, by unfold leftOf; rw [if_pos hl]; omega⟩
  have HR2 := Lib.hid hr
  clear hl hr
  obtain ⟨⟨p, c⟩, hp⟩ : ∃ p, mergeOf db ob = p := ⟨_, rfl⟩
  have hpl : endK 1 p ≤ 1000 := endK_ok (by have := mergeOf_ok_or db ob; rw [hp] at this; exact this)
  have HP := Lib.hid hp
  have hk0 : 0 ≤ endK 1 db ∧ endK 1 db ≤ 10000000 := by have := z1.out; have := z2.out; rw [endK_eq]; omega
  obtain ⟨k1, hk1⟩ : ∃ k, endK 1 db = k := ⟨_, rfl⟩
  rw [hk1] at hk0
  obtain ⟨hk10, hk11⟩ := hk0
  have hk2 : 0 ≤ endK k1 ob ∧ endK k1 ob ≤ 100000000 := by have := z3.out; have := z4.out; rw [endK_eq]; omega
  obtain ⟨k2, hk2e⟩ : ∃ k, endK k1 ob = k := ⟨_, rfl⟩
  rw [hk2e] at hk2
  obtain ⟨hk20, hk21⟩ := hk2
  obtain ⟨k3, hk3⟩ : ∃ k, endK 1 p = k := ⟨_, rfl⟩
  have hk30 : 0 ≤ k3 := by rw [← hk3]; have := endK_le p 1; omega
  rw [hk3] at hpl
  have HK1 := Lib.hid hk1; have HK2 := Lib.hid hk2e; have HK3 := Lib.hid hk3
  have hcc : (c != c) = false := by simp
  have hkk : (k3 != k3) = false := by simp
  clear hp hk1 hk2e hk3
  go_enter Try.func13, Try.ntmps13
  go_wp2_with fail
  refine (szLsaS db _ 1048576 _ H.out (by omega) (by omega)).mono ?_
  rw [HR.out]
  rintro e w1 ⟨rfl, hb1⟩
  have BW := Lib.hid hb1
  have sw := hb1.size
  clear hb1
  go_wp2_with fail
  refine (szLsaS ob _ r _ (H2.out.below BW.out (Nat.le_refl _)) hr0 hr1).mono ?_
  rw [HR2.out]
  rintro e w2 ⟨rfl, hb⟩
  have kk := Lib.hid (below_call (B := w1.heap.size) (a := w1) (by with_reducible (repeat (first | (refine below_drewN ?_ _) | (refine Below.drew ?_) | (refine below_alloc ?_ (by first | omega | (simp; done) | (simp; omega)) _) | (refine Below.setCell ?_ (by first | omega | (simp; done) | (simp; omega)) _) | exact Below.refl _ _ | assumption | (refine below_call ?_ (by first | omega | (simp; done) | (simp; omega)) (by assumption))))) (Nat.le_refl _) hb)
  replace BW := Lib.hid (BW.out.trans (kk.out.mono BW.out.size))
  have s2 := kk.out.size
  clear hb kk
  go_wp2_with fail
  refine (toLsaS db _ _ (H.out.below BW.out (Nat.le_refl _)) z1.out z2.out).mono ?_
  rintro e w3 ⟨v3, us3, rfl, hO, hb⟩
  have kk := Lib.hid (below_call (B := w2.heap.size) (a := w2) (by with_reducible (repeat (first | (refine below_drewN ?_ _) | (refine Below.drew ?_) | (refine below_alloc ?_ (by first | omega | (simp; done) | (simp; omega)) _) | (refine Below.setCell ?_ (by first | omega | (simp; done) | (simp; omega)) _) | exact Below.refl _ _ | assumption | (refine below_call ?_ (by first | omega | (simp; done) | (simp; omega)) (by assumption))))) (Nat.le_refl _) hb)
  replace BW := Lib.hid (BW.out.trans (kk.out.mono BW.out.size))
  have s3 := kk.out.size
  have X3 := Lib.hid hO.at_
  obtain ⟨a3, n3, c3, rfl⟩ := X3.out.form
  clear hO
  clear hb kk
  go_wp2_with fail
  refine (toLsaS ob _ _ (H2.out.below BW.out (Nat.le_refl _)) z3.out z4.out).mono ?_
  rintro e w4 ⟨v4, us4, rfl, hO, hb⟩
  have kk := Lib.hid (below_call (B := w3.heap.size) (a := w3) (by with_reducible (repeat (first | (refine below_drewN ?_ _) | (refine Below.drew ?_) | (refine below_alloc ?_ (by first | omega | (simp; done) | (simp; omega)) _) | (refine Below.setCell ?_ (by first | omega | (simp; done) | (simp; omega)) _) | exact Below.refl _ _ | assumption | (refine below_call ?_ (by first | omega | (simp; done) | (simp; omega)) (by assumption))))) (Nat.le_refl _) hb)
  replace BW := Lib.hid (BW.out.trans (kk.out.mono BW.out.size))
  replace X3 := Lib.hid (X3.out.below kk.out (Nat.le_refl _))
  have s4 := kk.out.size
  have X4 := Lib.hid hO.at_
  obtain ⟨a4, n4, c4, rfl⟩ := X4.out.form
  clear hO
  clear hb kk
  go_wp2_with fail
  refine (sDbMerge db ob _ _ _ X3.out X4.out).mono ?_
  rw [HP.out]
  rintro e w5 ⟨v5, us5, rfl, hO, hb⟩
  have kk := Lib.hid (below_call (B := w4.heap.size) (a := w4) (by with_reducible (repeat (first | (refine below_drewN ?_ _) | (refine Below.drew ?_) | (refine below_alloc ?_ (by first | omega | (simp; done) | (simp; omega)) _) | (refine Below.setCell ?_ (by first | omega | (simp; done) | (simp; omega)) _) | exact Below.refl _ _ | assumption | (refine below_call ?_ (by first | omega | (simp; done) | (simp; omega)) (by assumption))))) (Nat.le_refl _) hb)
  replace BW := Lib.hid (BW.out.trans (kk.out.mono BW.out.size))
  replace X3 := Lib.hid (X3.out.below kk.out (Nat.le_refl _))
  replace X4 := Lib.hid (X4.out.below kk.out (Nat.le_refl _))
  have s5 := kk.out.size
  simp only at hO
  have O5 := Lib.hid hO
  obtain ⟨a5, n5, c5, rfl⟩ := O5.out.at_.form
  clear hO
  clear hb kk
  clear X3 X4
  go_wp2_with fail
  refine (toLsaS db _ _ (H.out.below BW.out (Nat.le_refl _)) z1.out z2.out).mono ?_
  rintro e w6 ⟨v6, us6, rfl, hO, hb⟩
  have kk := Lib.hid (below_call (B := w5.heap.size) (a := w5) (by with_reducible (repeat (first | (refine below_drewN ?_ _) | (refine Below.drew ?_) | (refine below_alloc ?_ (by first | omega | (simp; done) | (simp; omega)) _) | (refine Below.setCell ?_ (by first | omega | (simp; done) | (simp; omega)) _) | exact Below.refl _ _ | assumption | (refine below_call ?_ (by first | omega | (simp; done) | (simp; omega)) (by assumption))))) (Nat.le_refl _) hb)
  replace BW := Lib.hid (BW.out.trans (kk.out.mono BW.out.size))
  replace O5 := Lib.hid (O5.out.below kk.out (by omega))
  have s6 := kk.out.size
  have L6 := Lib.hid hO
  obtain ⟨a6, n6, c6, rfl⟩ := L6.out.at_.form
  clear hO
  clear hb kk
  go_wp2_with fail
  refine (toLsaS ob _ _ (H2.out.below BW.out (Nat.le_refl _)) z3.out z4.out).mono ?_
  rintro e w7 ⟨v7, us7, rfl, hO, hb⟩
  have kk := Lib.hid (below_call (B := w6.heap.size) (a := w6) (by with_reducible (repeat (first | (refine below_drewN ?_ _) | (refine Below.drew ?_) | (refine below_alloc ?_ (by first | omega | (simp; done) | (simp; omega)) _) | (refine Below.setCell ?_ (by first | omega | (simp; done) | (simp; omega)) _) | exact Below.refl _ _ | assumption | (refine below_call ?_ (by first | omega | (simp; done) | (simp; omega)) (by assumption))))) (Nat.le_refl _) hb)
  replace BW := Lib.hid (BW.out.trans (kk.out.mono BW.out.size))
  replace O5 := Lib.hid (O5.out.below kk.out (by omega))
  replace L6 := Lib.hid (L6.out.below kk.out (by omega))
  have s7 := kk.out.size
  have L7 := Lib.hid hO
  obtain ⟨a7, n7, c7, rfl⟩ := L7.out.at_.form
  clear hO
  clear hb kk
  go_wp2_with fail
  refine (iDbMerge db ob _ _ _ L6.out.at_ L7.out.at_).mono ?_
  rw [HP.out]
  rintro e w8 ⟨v8, us8, rfl, hO, hb⟩
  have kk := Lib.hid (below_call (B := w7.heap.size) (a := w7) (by with_reducible (repeat (first | (refine below_drewN ?_ _) | (refine Below.drew ?_) | (refine below_alloc ?_ (by first | omega | (simp; done) | (simp; omega)) _) | (refine Below.setCell ?_ (by first | omega | (simp; done) | (simp; omega)) _) | exact Below.refl _ _ | assumption | (refine below_call ?_ (by first | omega | (simp; done) | (simp; omega)) (by assumption))))) (Nat.le_refl _) hb)
  replace BW := Lib.hid (BW.out.trans (kk.out.mono BW.out.size))
  replace O5 := Lib.hid (O5.out.below kk.out (by omega))
  replace L6 := Lib.hid (L6.out.below kk.out (by omega))
  replace L7 := Lib.hid (L7.out.below kk.out (by omega))
  have s8 := kk.out.size
  simp only at hO
  have O8 := Lib.hid hO
  obtain ⟨a8, n8, c8, rfl⟩ := O8.out.at_.form
  clear hO
  clear hb kk
  go_wp2_with fail
  refine (eqLsaS p p _ _ _ O8.out.at_ O5.out.at_).mono ?_
  rw [eqB_self]
  rintro e w9 ⟨rfl, hb⟩
  have kk := Lib.hid (below_call (B := w8.heap.size) (a := w8) (by with_reducible (repeat (first | (refine below_drewN ?_ _) | (refine Below.drew ?_) | (refine below_alloc ?_ (by first | omega | (simp; done) | (simp; omega)) _) | (refine Below.setCell ?_ (by first | omega | (simp; done) | (simp; omega)) _) | exact Below.refl _ _ | assumption | (refine below_call ?_ (by first | omega | (simp; done) | (simp; omega)) (by assumption))))) (Nat.le_refl _) hb)
  replace BW := Lib.hid (BW.out.trans (kk.out.mono BW.out.size))
  replace O5 := Lib.hid (O5.out.below kk.out (by omega))
  replace L6 := Lib.hid (L6.out.below kk.out (by omega))
  replace L7 := Lib.hid (L7.out.below kk.out (by omega))
  replace O8 := Lib.hid (O8.out.below kk.out (by omega))
  have s9 := kk.out.size
  clear hb kk
  go_wp2_with fail
  refine (toLsaS db _ _ (H.out.below BW.out (Nat.le_refl _)) z1.out z2.out).mono ?_
  rintro e w10 ⟨v10, us10, rfl, hO, hb⟩
  have kk := Lib.hid (below_call (B := w9.heap.size) (a := w9) (by with_reducible (repeat (first | (refine below_drewN ?_ _) | (refine Below.drew ?_) | (refine below_alloc ?_ (by first | omega | (simp; done) | (simp; omega)) _) | (refine Below.setCell ?_ (by first | omega | (simp; done) | (simp; omega)) _) | exact Below.refl _ _ | assumption | (refine below_call ?_ (by first | omega | (simp; done) | (simp; omega)) (by assumption))))) (Nat.le_refl _) hb)
  replace BW := Lib.hid (BW.out.trans (kk.out.mono BW.out.size))
  replace O5 := Lib.hid (O5.out.below kk.out (by omega))
  replace L6 := Lib.hid (L6.out.below kk.out (by omega))
  replace L7 := Lib.hid (L7.out.below kk.out (by omega))
  replace O8 := Lib.hid (O8.out.below kk.out (by omega))
  have s10 := kk.out.size
  have X10 := Lib.hid hO.at_
  obtain ⟨a10, n10, c10, rfl⟩ := X10.out.form
  clear hO
  clear hb kk
  go_wp2_with fail
  refine (eqLsaS db db _ _ _ L6.out.at_ X10.out).mono ?_
  rw [eqB_self]
  rintro e w11 ⟨rfl, hb⟩
  have kk := Lib.hid (below_call (B := w10.heap.size) (a := w10) (by with_reducible (repeat (first | (refine below_drewN ?_ _) | (refine Below.drew ?_) | (refine below_alloc ?_ (by first | omega | (simp; done) | (simp; omega)) _) | (refine Below.setCell ?_ (by first | omega | (simp; done) | (simp; omega)) _) | exact Below.refl _ _ | assumption | (refine below_call ?_ (by first | omega | (simp; done) | (simp; omega)) (by assumption))))) (Nat.le_refl _) hb)
  replace BW := Lib.hid (BW.out.trans (kk.out.mono BW.out.size))
  replace O5 := Lib.hid (O5.out.below kk.out (by omega))
  replace L6 := Lib.hid (L6.out.below kk.out (by omega))
  replace L7 := Lib.hid (L7.out.below kk.out (by omega))
  replace O8 := Lib.hid (O8.out.below kk.out (by omega))
  replace X10 := Lib.hid (X10.out.below kk.out (Nat.le_refl _))
  have s11 := kk.out.size
  clear hb kk
  clear X10
  go_wp2_with fail
  refine (toLsaS ob _ _ (H2.out.below BW.out (Nat.le_refl _)) z3.out z4.out).mono ?_
  rintro e w12 ⟨v12, us12, rfl, hO, hb⟩
  have kk := Lib.hid (below_call (B := w11.heap.size) (a := w11) (by with_reducible (repeat (first | (refine below_drewN ?_ _) | (refine Below.drew ?_) | (refine below_alloc ?_ (by first | omega | (simp; done) | (simp; omega)) _) | (refine Below.setCell ?_ (by first | omega | (simp; done) | (simp; omega)) _) | exact Below.refl _ _ | assumption | (refine below_call ?_ (by first | omega | (simp; done) | (simp; omega)) (by assumption))))) (Nat.le_refl _) hb)
  replace BW := Lib.hid (BW.out.trans (kk.out.mono BW.out.size))
  replace O5 := Lib.hid (O5.out.below kk.out (by omega))
  replace L6 := Lib.hid (L6.out.below kk.out (by omega))
  replace L7 := Lib.hid (L7.out.below kk.out (by omega))
  replace O8 := Lib.hid (O8.out.below kk.out (by omega))
  have s12 := kk.out.size
  have X12 := Lib.hid hO.at_
  obtain ⟨a12, n12, c12, rfl⟩ := X12.out.form
  clear hO
  clear hb kk
  go_wp2_with fail
  refine (eqLsaS ob ob _ _ _ L7.out.at_ X12.out).mono ?_
  rw [eqB_self]
  rintro e w13 ⟨rfl, hb⟩
  have kk := Lib.hid (below_call (B := w12.heap.size) (a := w12) (by with_reducible (repeat (first | (refine below_drewN ?_ _) | (refine Below.drew ?_) | (refine below_alloc ?_ (by first | omega | (simp; done) | (simp; omega)) _) | (refine Below.setCell ?_ (by first | omega | (simp; done) | (simp; omega)) _) | exact Below.refl _ _ | assumption | (refine below_call ?_ (by first | omega | (simp; done) | (simp; omega)) (by assumption))))) (Nat.le_refl _) hb)
  replace BW := Lib.hid (BW.out.trans (kk.out.mono BW.out.size))
  replace O5 := Lib.hid (O5.out.below kk.out (by omega))
  replace L6 := Lib.hid (L6.out.below kk.out (by omega))
  replace L7 := Lib.hid (L7.out.below kk.out (by omega))
  replace O8 := Lib.hid (O8.out.below kk.out (by omega))
  replace X12 := Lib.hid (X12.out.below kk.out (Nat.le_refl _))
  have s13 := kk.out.size
  clear hb kk
  clear X12
  go_wp2_with fail
  refine (markLsaS_any _ _ _ db us6 1 _ L6.out (by omega) (by rw [HK1.out]; omega)).mono ?_
  unfold MarkLsPost
  rw [HK1.out]
  rintro e w14 ⟨rfl, _, hb⟩
  have hbw14 := BW.out.size
  have s14 := hb.size
  replace BW := Lib.hid (BW.out.trans (hb.below (B := w.heap.size) (by omega) hbw14))
  replace O5 := Lib.hid (O5.out.btw hb (.inl (by omega)))
  replace L7 := Lib.hid (L7.out.btw hb (.inr (by omega)))
  replace O8 := Lib.hid (O8.out.btw hb (.inr (by omega)))
  clear hb L6
  go_wp2_with fail
  refine (markLsaS_any _ _ _ ob us7 k1 _ L7.out (by omega) (by rw [HK2.out]; omega)).mono ?_
  unfold MarkLsPost
  rw [HK2.out]
  rintro e w15 ⟨rfl, _, hb⟩
  have hbw15 := BW.out.size
  have s15 := hb.size
  replace BW := Lib.hid (BW.out.trans (hb.below (B := w.heap.size) (by omega) hbw15))
  replace O5 := Lib.hid (O5.out.btw hb (.inl (by omega)))
  replace O8 := Lib.hid (O8.out.btw hb (.inr (by omega)))
  clear hb L7
  go_wp2_with fail
  refine (eqLsaS p p _ _ _ O8.out.at_ O5.out.at_).mono ?_
  rw [eqB_self]
  rintro e w16 ⟨rfl, hb⟩
  have kk := Lib.hid (below_call (B := w15.heap.size) (a := w15) (by with_reducible (repeat (first | (refine below_drewN ?_ _) | (refine Below.drew ?_) | (refine below_alloc ?_ (by first | omega | (simp; done) | (simp; omega)) _) | (refine Below.setCell ?_ (by first | omega | (simp; done) | (simp; omega)) _) | exact Below.refl _ _ | assumption | (refine below_call ?_ (by first | omega | (simp; done) | (simp; omega)) (by assumption))))) (Nat.le_refl _) hb)
  replace BW := Lib.hid (BW.out.trans (kk.out.mono BW.out.size))
  replace O5 := Lib.hid (O5.out.below kk.out (by omega))
  replace O8 := Lib.hid (O8.out.below kk.out (by omega))
  have s16 := kk.out.size
  clear hb kk
  go_wp2_with fail
  refine (markLsaS_any _ _ _ p us8 1 _ O8.out (by omega) (by rw [HK3.out]; omega)).mono ?_
  unfold MarkLsPost
  rw [HK3.out]
  rintro e w17 ⟨rfl, hM, hb⟩
  have hbw17 := BW.out.size
  have s17 := hb.size
  replace BW := Lib.hid (BW.out.trans (hb.below (B := w.heap.size) (by omega) hbw17))
  replace O5 := Lib.hid (O5.out.btw hb (.inl (by omega)))
  have M := Lib.hid hM
  clear hM
  clear hb O8
  go_wp2_with fail
  refine (heldLsaS_any p _ 1 _ M.out.at_ (by omega) (by rw [HK3.out]; omega)).mono ?_
  rw [HK3.out]
  rintro e w' ⟨rfl, rfl⟩
  go_wp2_with fail
  refine (toLsaS db _ _ (H.out.below BW.out (Nat.le_refl _)) z1.out z2.out).mono ?_
  rintro e w18 ⟨v18, us18, rfl, hO, hb⟩
  have kk := Lib.hid (below_call (B := w17.heap.size) (a := w17) (by with_reducible (repeat (first | (refine below_drewN ?_ _) | (refine Below.drew ?_) | (refine below_alloc ?_ (by first | omega | (simp; done) | (simp; omega)) _) | (refine Below.setCell ?_ (by first | omega | (simp; done) | (simp; omega)) _) | exact Below.refl _ _ | assumption | (refine below_call ?_ (by first | omega | (simp; done) | (simp; omega)) (by assumption))))) (Nat.le_refl _) hb)
  replace BW := Lib.hid (BW.out.trans (kk.out.mono BW.out.size))
  replace O5 := Lib.hid (O5.out.below kk.out (by omega))
  replace M := Lib.hid (M.out.below kk.out (by omega))
  have s18 := kk.out.size
  have X18 := Lib.hid hO.at_
  obtain ⟨a18, n18, c18, rfl⟩ := X18.out.form
  clear hO
  clear hb kk
  go_wp2_with fail
  refine (toLsaS ob _ _ (H2.out.below BW.out (Nat.le_refl _)) z3.out z4.out).mono ?_
  rintro e w19 ⟨v19, us19, rfl, hO, hb⟩
  have kk := Lib.hid (below_call (B := w18.heap.size) (a := w18) (by with_reducible (repeat (first | (refine below_drewN ?_ _) | (refine Below.drew ?_) | (refine below_alloc ?_ (by first | omega | (simp; done) | (simp; omega)) _) | (refine Below.setCell ?_ (by first | omega | (simp; done) | (simp; omega)) _) | exact Below.refl _ _ | assumption | (refine below_call ?_ (by first | omega | (simp; done) | (simp; omega)) (by assumption))))) (Nat.le_refl _) hb)
  replace BW := Lib.hid (BW.out.trans (kk.out.mono BW.out.size))
  replace O5 := Lib.hid (O5.out.below kk.out (by omega))
  replace M := Lib.hid (M.out.below kk.out (by omega))
  replace X18 := Lib.hid (X18.out.below kk.out (Nat.le_refl _))
  have s19 := kk.out.size
  have X19 := Lib.hid hO.at_
  obtain ⟨a19, n19, c19, rfl⟩ := X19.out.form
  clear hO
  clear hb kk
  go_wp2_with fail
  refine (iDbMerge db ob _ _ _ X18.out X19.out).mono ?_
  rw [HP.out]
  rintro e w20 ⟨v20, us20, rfl, hO, hb⟩
  have kk := Lib.hid (below_call (B := w19.heap.size) (a := w19) (by with_reducible (repeat (first | (refine below_drewN ?_ _) | (refine Below.drew ?_) | (refine below_alloc ?_ (by first | omega | (simp; done) | (simp; omega)) _) | (refine Below.setCell ?_ (by first | omega | (simp; done) | (simp; omega)) _) | exact Below.refl _ _ | assumption | (refine below_call ?_ (by first | omega | (simp; done) | (simp; omega)) (by assumption))))) (Nat.le_refl _) hb)
  replace BW := Lib.hid (BW.out.trans (kk.out.mono BW.out.size))
  replace O5 := Lib.hid (O5.out.below kk.out (by omega))
  replace M := Lib.hid (M.out.below kk.out (by omega))
  replace X18 := Lib.hid (X18.out.below kk.out (Nat.le_refl _))
  replace X19 := Lib.hid (X19.out.below kk.out (Nat.le_refl _))
  have s20 := kk.out.size
  simp only at hO
  have O20 := Lib.hid hO
  obtain ⟨a20, n20, c20, rfl⟩ := O20.out.at_.form
  clear hO
  clear hb kk
  clear X18 X19
  go_wp2_with fail
  refine (eqLsaS p p _ _ _ O20.out.at_ O5.out.at_).mono ?_
  rw [eqB_self]
  rintro e w21 ⟨rfl, hb⟩
  have kk := Lib.hid (below_call (B := w20.heap.size) (a := w20) (by with_reducible (repeat (first | (refine below_drewN ?_ _) | (refine Below.drew ?_) | (refine below_alloc ?_ (by first | omega | (simp; done) | (simp; omega)) _) | (refine Below.setCell ?_ (by first | omega | (simp; done) | (simp; omega)) _) | exact Below.refl _ _ | assumption | (refine below_call ?_ (by first | omega | (simp; done) | (simp; omega)) (by assumption))))) (Nat.le_refl _) hb)
  replace BW := Lib.hid (BW.out.trans (kk.out.mono BW.out.size))
  replace O5 := Lib.hid (O5.out.below kk.out (by omega))
  replace M := Lib.hid (M.out.below kk.out (by omega))
  replace O20 := Lib.hid (O20.out.below kk.out (by omega))
  have s21 := kk.out.size
  clear hb kk
  go_wp2_with fail
  refine (heldLsaS_any p _ 1 _ M.out.at_ (by omega) (by rw [HK3.out]; omega)).mono ?_
  rw [HK3.out]
  rintro e w' ⟨rfl, rfl⟩
  go_wp2_with fail
  go_ret
  exact ⟨rfl, BW.out⟩
theorem own : ownKnob Try.prog.godebug = none := by kernel_rfl
theorem laidOut : laidOutB Try.prog = true := by kernel_rfl
set_option maxRecDepth 100000 in
theorem lifted (os : Os) (started : os.Started) (H : Type) (enc : TypeId × Value → H) :
    ReturnsInHanded {} Try.checked os 13 .any (Rows.fnExactDbMergeSpec.pre6 enc Try.prog Try.f13 Rows.fnExactDbMergeRow.domain false) (Rows.fnExactDbMergeSpec.post enc Try.prog Try.f13 false true false false) := by
  refine returnsInHanded_of_change (C := Try.checked) own started (by kernel_rfl) Try.func13
    (ChangeSpec.witness6 (enc := enc) (C := Try.checked) false ⟨#[], #[.slice none 0 0, .slice none 0 0], []⟩ 8 (by kernel_rfl) (by kernel_rfl) (by kernel_rfl) (by kernel_rfl)) ?_
  intro W base args ds gs before hval0 hW hcnd _
  have hval : ∀ (j : Nat) t v, Try.f13.params[j]? = some t → args[j]? = some v → Value.okWide Try.prog W .any base t v := hval0
  have hW' := hW
  obtain ⟨p, q, hA0, hV, rfl, hfz, hnd⟩ := hW
  have hA : DataW.TrodAll enc Try.prog W 0 (fun _ => true) true Try.f13.params.toList args.toList ds p := hA0
  rw [Try.params13] at hA hval
  obtain ⟨v0, vs0, d0, ds0, p0, q0, hargs, rfl, rfl, h0, r0⟩ := trodAll_cons hA
  obtain ⟨v1, vs1, d1, ds1, p1, q1, rfl, rfl, rfl, h1, r1⟩ := trodAll_cons r0
  obtain ⟨rfl, rfl, rfl⟩ := trodAll_nil r1
  obtain rfl : args = #[v0, v1] := by cases args; simp_all
  obtain ⟨rfl, rfl⟩ := trodVars_none hV
  have k0 := h0
  have lt0 : ∀ x ∈ p0, x.block < W.heap.size := by obtain ⟨m, hm⟩ := k0; exact DataW.trod_lt m _ _ _ hm
  obtain ⟨db0, w0⟩ := lsas_of_trod (T := 50) (L := 53) (E := 85) Try.underlying50 Try.underlying53 (by kernel_rfl) (by kernel_rfl) Try.underlying3 Try.underlying3 Try.underlying51 Try.underlying85 (by kernel_rfl) (by kernel_rfl) Try.underlying3 Try.underlying3 (hval 0 50 v0 rfl rfl) h0
  have k1 := h1
  have lt1 : ∀ x ∈ p1, x.block < W.heap.size := by obtain ⟨m, hm⟩ := k1; exact DataW.trod_lt m _ _ _ hm
  obtain ⟨db1, w1⟩ := lsas_of_trod (T := 50) (L := 53) (E := 85) Try.underlying50 Try.underlying53 (by kernel_rfl) (by kernel_rfl) Try.underlying3 Try.underlying3 Try.underlying51 Try.underlying85 (by kernel_rfl) (by kernel_rfl) Try.underlying3 Try.underlying3 (hval 1 50 v1 rfl rfl) h1
  clear hA0 hval0
  refine (walk v0 db0 v1 db1 W w0 w1).mono fun e W' ⟨he, bel⟩ => ?_
  subst he
  exact ⟨_, rfl, _, _, _, [], _, [], hW', trodAll_mk1 (shut_bool Try.underlying4 _), (trodAll_cons_mk (Below.trod laidOut (by kernel_rfl) (of_decide_eq_true (by kernel_rfl)) k0 bel lt0) (trodAll_cons_mk (Below.trod laidOut (by kernel_rfl) (of_decide_eq_true (by kernel_rfl)) k1 bel lt1) trodAll_mk0)), rfl, bel.frame _, fun h => by cases h⟩
theorem over : Rows.fnExactDbMergeRow.holds Try.pinned (OpenSpec.ofChange Rows.fnExactDbMergeSpec) :=
  OpenClaim.holds_of_wide 13 Try.f13 rfl rfl rfl rfl rfl rfl rfl ⟨rfl, rfl, rfl, rfl, rfl⟩ rfl rfl rfl rfl rfl (by kernel_rfl) Try.func13 (by kernel_rfl)
    (of_decide_eq_true (by kernel_rfl)) (by unfold Func.isWrapper; first | (rw [if_pos (by decide +kernel)]; kernel_rfl) | (rw [if_neg (by decide +kernel)]; exact ⟨rfl, rfl⟩))
    (fun os started H enc _ => lifted os started H enc)
end Go.Proofs.Ytidcpdolcbbnjaa.lawFnExactDbMerge
namespace Go.Proofs.Ytidcpdolcbbnjaa
/-- The statement. -/
theorem FnExactDbMerge_proved : Rows.FnExactDbMergeSaid := lawFnExactDbMerge.over
#print axioms FnExactDbMerge_proved
end Go.Proofs.Ytidcpdolcbbnjaa
