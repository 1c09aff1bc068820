/- FnExactDbMissing: for every argument the call returns true, and the arguments read afterwards as before. No condition. -/
import Derived.Test.YtbccenoclmmcdaaMiss2
import Derived.Test.YtbccenoclmmcdaaEq
import Derived.Test.YtbccenoclmmcdaaMake2
import Derived.Test.YtbccenoclmmcdaaMarkL
import Derived.Test.YtbccenoclmmcdaaRows
import Derived.Test.YtbccenoclmmcdaaOpen
import Derived.ProofKit
import Derived.OpenShut
import Derived.ShutString
import Derived.ChangeOld
import Derived.Lib.SmallJoins
namespace Go.Proofs.Ytbccenoclmmcdaa.lawFnExactDbMissing
open Go.ChangeShapes Go.WideShapes Go.ChangeAt Go.RowKit Go.Joins
theorem endK_eq : ∀ (db : List LsaD) (k : Int), endK k db = k + 2 * db.length + 2 * totalL db
  | [], k => by simp [endK, totalL]
  | d :: db, k => by simp only [endK, endK_eq db, totalL, List.length_cons]; push_cast; omega
theorem missOf_len (db other : List LsaD) : (missOf db other).length ≤ other.length := by
  unfold missOf
  split
  · have := missD_len db other other.length
    rwa [List.take_of_length_le (Nat.le_refl _)] at this
  · simp
set_option maxRecDepth 100000 in
set_option maxHeartbeats 4000000 in
theorem walk (v : Value) (db : List LsaD) (u : Value) (ob : List LsaD) (w : World) (h : LsasAt w v db) (h2 : LsasAt w u ob) :
    Calls Try.prog 12 #[v, u] w fun e w' => e = .returned (.bool true) ∧ Below w.heap.size w w' := by
  have H := Lib.hid h; have H2 := Lib.hid h2
  obtain ⟨va, vn, vc, rfl⟩ := h.form
  obtain ⟨ua, un, uc, rfl⟩ := h2.form
  clear h h2
  by_cases hl : (db.length : Int) + totalL db ≤ 1048576
  rotate_left
  · have hr : leftOf ((db.length : Int) + totalL db) 1048576 = -1 := by unfold leftOf; rw [if_neg hl]
    have HR := Lib.hid hr
    clear hl hr
    go_enter Try.func12, Try.ntmps12
    go_wp2_with fail
    refine (szLsaS db _ 1048576 _ H.out (by omega) (by omega)).mono ?_
    rw [HR.out]
    rintro e w1 ⟨rfl, hb1⟩
    have hB := hb1
    go_wp2_with fail
    go_ret
    exact ⟨rfl, hB⟩
  have z1 : Hid (db.length ≤ 1048576) := Lib.hid (by omega)
  have z2 : Hid (totalL db ≤ 1048576) := Lib.hid (by omega)
  obtain ⟨r, hr, hr0, hr1⟩ : ∃ r, leftOf ((db.length : Int) + totalL db) 1048576 = r ∧ 0 ≤ r ∧ r ≤ 1048576 := ⟨_, rfl, by unfold leftOf; rw [if_pos hl]; omega, by unfold leftOf; rw [if_pos hl]; omega⟩
  have HR := Lib.hid hr
  clear hl hr
  by_cases hl : (ob.length : Int) + totalL ob ≤ r
  rotate_left
  · have hr : leftOf ((ob.length : Int) + totalL ob) r = -1 := by unfold leftOf; rw [if_neg hl]
    have HR2 := Lib.hid hr
    clear hl hr
    go_enter Try.func12, Try.ntmps12
    go_wp2_with fail
    refine (szLsaS db _ 1048576 _ H.out (by omega) (by omega)).mono ?_
    rw [HR.out]
    rintro e w1 ⟨rfl, hb1⟩
    have B1 := Lib.hid hb1
    clear hb1
    go_wp2_with fail
    refine (szLsaS ob _ r _ (H2.out.below B1.out (Nat.le_refl _)) hr0 hr1).mono ?_
    rw [HR2.out]
    rintro e w2 ⟨rfl, hb2⟩
    have hB := B1.out.trans (hb2.mono B1.out.size)
    go_wp2_with fail
    go_ret
    exact ⟨rfl, hB⟩
  have z3 : Hid (ob.length ≤ 1048576) := Lib.hid (by omega)
  have z4 : Hid (totalL ob ≤ 1048576) := Lib.hid (by omega)
  obtain ⟨r2, hr, hr2⟩ : ∃ r2, leftOf ((ob.length : Int) + totalL ob) r = r2 ∧ 0 ≤ r2 := ⟨_, rfl, by unfold leftOf; rw [if_pos hl]; omega⟩
  have HR2 := Lib.hid hr
  clear hl hr
  obtain ⟨p, hp⟩ : ∃ p, missOf db ob = p := ⟨_, rfl⟩
  have hpl : p.length ≤ 1048576 := by rw [← hp]; exact Nat.le_trans (missOf_len _ _) z3.out
  have HP := Lib.hid hp; have HPL := Lib.hid hpl
  have hk0 : 0 ≤ endK 1 db ∧ endK 1 db ≤ 10000000 := by have := z1.out; have := z2.out; rw [endK_eq]; omega
  obtain ⟨k1, hk1⟩ : ∃ k, endK 1 db = k := ⟨_, rfl⟩
  rw [hk1] at hk0
  obtain ⟨hk10, hk11⟩ := hk0
  have hk2 : 0 ≤ endK k1 ob ∧ endK k1 ob ≤ 100000000 := by have := z3.out; have := z4.out; rw [endK_eq]; omega
  obtain ⟨k2, hk3⟩ : ∃ k, endK k1 ob = k := ⟨_, rfl⟩
  rw [hk3] at hk2
  obtain ⟨hk20, hk21⟩ := hk2
  have HK1 := Lib.hid hk1; have HK2 := Lib.hid hk3
  clear hp hpl hk1 hk3
  go_enter Try.func12, Try.ntmps12
  go_wp2_with fail
  refine (szLsaS db _ 1048576 _ H.out (by omega) (by omega)).mono ?_
  rw [HR.out]
  rintro e w1 ⟨rfl, hb1⟩
  have BW := Lib.hid hb1
  clear hb1
  go_wp2_with fail
  refine (szLsaS ob _ r _ (H2.out.below BW.out (Nat.le_refl _)) hr0 hr1).mono ?_
  rw [HR2.out]
  rintro e w2 ⟨rfl, hb2⟩
  have kk := Lib.hid (below_call (B := w1.heap.size) (a := w1) (by with_reducible (repeat (first | (refine below_drewN ?_ _) | (refine Below.drew ?_) | (refine below_alloc ?_ (by first | omega | (simp; done) | (simp; omega)) _) | (refine Below.setCell ?_ (by first | omega | (simp; done) | (simp; omega)) _) | exact Below.refl _ _ | assumption | (refine below_call ?_ (by first | omega | (simp; done) | (simp; omega)) (by assumption))))) (Nat.le_refl _) hb2)
  replace BW := Lib.hid (BW.out.trans (kk.out.mono BW.out.size))
  clear hb2 kk
  go_wp2_with fail
  refine (toLsaS db _ _ (H.out.below BW.out (Nat.le_refl _)) z1.out z2.out).mono ?_
  rintro e w3 ⟨v3, us3, rfl, hO, hb⟩
  have kk := Lib.hid (below_call (B := w2.heap.size) (a := w2) (by with_reducible (repeat (first | (refine below_drewN ?_ _) | (refine Below.drew ?_) | (refine below_alloc ?_ (by first | omega | (simp; done) | (simp; omega)) _) | (refine Below.setCell ?_ (by first | omega | (simp; done) | (simp; omega)) _) | exact Below.refl _ _ | assumption | (refine below_call ?_ (by first | omega | (simp; done) | (simp; omega)) (by assumption))))) (Nat.le_refl _) hb)
  replace BW := Lib.hid (BW.out.trans (kk.out.mono BW.out.size))
  have s3 := kk.out.size
  have X3 := Lib.hid hO.at_
  clear hO
  obtain ⟨a3, n3, c3, rfl⟩ := X3.out.form
  clear hb kk
  go_wp2_with fail
  refine (toLsaS ob _ _ (H2.out.below BW.out (Nat.le_refl _)) z3.out z4.out).mono ?_
  rintro e w4 ⟨v4, us4, rfl, hO, hb⟩
  have kk := Lib.hid (below_call (B := w3.heap.size) (a := w3) (by with_reducible (repeat (first | (refine below_drewN ?_ _) | (refine Below.drew ?_) | (refine below_alloc ?_ (by first | omega | (simp; done) | (simp; omega)) _) | (refine Below.setCell ?_ (by first | omega | (simp; done) | (simp; omega)) _) | exact Below.refl _ _ | assumption | (refine below_call ?_ (by first | omega | (simp; done) | (simp; omega)) (by assumption))))) (Nat.le_refl _) hb)
  replace BW := Lib.hid (BW.out.trans (kk.out.mono BW.out.size))
  replace X3 := Lib.hid (X3.out.below kk.out (Nat.le_refl _))
  have s4 := kk.out.size
  have X4 := Lib.hid hO.at_
  clear hO
  obtain ⟨a4, n4, c4, rfl⟩ := X4.out.form
  clear hb kk
  go_wp2_with fail
  refine (sDbMissing db ob _ _ _ X3.out X4.out).mono ?_
  rw [HP.out]
  rintro e w5 ⟨v5, rfl, hO, hb⟩
  have kk := Lib.hid (below_call (B := w4.heap.size) (a := w4) (by with_reducible (repeat (first | (refine below_drewN ?_ _) | (refine Below.drew ?_) | (refine below_alloc ?_ (by first | omega | (simp; done) | (simp; omega)) _) | (refine Below.setCell ?_ (by first | omega | (simp; done) | (simp; omega)) _) | exact Below.refl _ _ | assumption | (refine below_call ?_ (by first | omega | (simp; done) | (simp; omega)) (by assumption))))) (Nat.le_refl _) hb)
  replace BW := Lib.hid (BW.out.trans (kk.out.mono BW.out.size))
  have s5 := kk.out.size
  have sw5 := BW.out.size
  have O5 := Lib.hid hO
  clear hO X3 X4
  obtain ⟨a5, c5, rfl⟩ := own_slice O5.out.1
  clear hb kk
  go_wp2_with fail
  refine (toLsaS db _ _ (H.out.below BW.out (Nat.le_refl _)) z1.out z2.out).mono ?_
  rintro e w6 ⟨v6, us6, rfl, hO, hb⟩
  have kk := Lib.hid (below_call (B := w5.heap.size) (a := w5) (by with_reducible (repeat (first | (refine below_drewN ?_ _) | (refine Below.drew ?_) | (refine below_alloc ?_ (by first | omega | (simp; done) | (simp; omega)) _) | (refine Below.setCell ?_ (by first | omega | (simp; done) | (simp; omega)) _) | exact Below.refl _ _ | assumption | (refine below_call ?_ (by first | omega | (simp; done) | (simp; omega)) (by assumption))))) (Nat.le_refl _) hb)
  replace BW := Lib.hid (BW.out.trans (kk.out.mono BW.out.size))
  replace O5 := Lib.hid (O5.out.below kk.out (Nat.le_refl _))
  have s6 := kk.out.size
  have L6 := Lib.hid hO
  clear hO
  obtain ⟨a6, n6, c6, rfl⟩ := L6.out.at_.form
  clear hb kk
  go_wp2_with fail
  refine (toLsaS ob _ _ (H2.out.below BW.out (Nat.le_refl _)) z3.out z4.out).mono ?_
  rintro e w7 ⟨v7, us7, rfl, hO, hb⟩
  have kk := Lib.hid (below_call (B := w6.heap.size) (a := w6) (by with_reducible (repeat (first | (refine below_drewN ?_ _) | (refine Below.drew ?_) | (refine below_alloc ?_ (by first | omega | (simp; done) | (simp; omega)) _) | (refine Below.setCell ?_ (by first | omega | (simp; done) | (simp; omega)) _) | exact Below.refl _ _ | assumption | (refine below_call ?_ (by first | omega | (simp; done) | (simp; omega)) (by assumption))))) (Nat.le_refl _) hb)
  replace BW := Lib.hid (BW.out.trans (kk.out.mono BW.out.size))
  replace O5 := Lib.hid (O5.out.below kk.out (by omega))
  replace L6 := Lib.hid (L6.out.below kk.out (Nat.le_refl _))
  have s7 := kk.out.size
  have L7 := Lib.hid hO
  clear hO
  obtain ⟨a7, n7, c7, rfl⟩ := L7.out.at_.form
  clear hb kk
  go_wp2_with fail
  refine (iDbMissing db ob _ _ _ L6.out.at_ L7.out.at_).mono ?_
  rw [HP.out]
  rintro e w8 ⟨v8, rfl, hO, hb⟩
  have kk := Lib.hid (below_call (B := w7.heap.size) (a := w7) (by with_reducible (repeat (first | (refine below_drewN ?_ _) | (refine Below.drew ?_) | (refine below_alloc ?_ (by first | omega | (simp; done) | (simp; omega)) _) | (refine Below.setCell ?_ (by first | omega | (simp; done) | (simp; omega)) _) | exact Below.refl _ _ | assumption | (refine below_call ?_ (by first | omega | (simp; done) | (simp; omega)) (by assumption))))) (Nat.le_refl _) hb)
  replace BW := Lib.hid (BW.out.trans (kk.out.mono BW.out.size))
  replace O5 := Lib.hid (O5.out.below kk.out (by omega))
  replace L6 := Lib.hid (L6.out.below kk.out (by omega))
  replace L7 := Lib.hid (L7.out.below kk.out (Nat.le_refl _))
  have s8 := kk.out.size
  have O8 := Lib.hid hO
  clear hO
  obtain ⟨a8, c8, rfl⟩ := own_slice O8.out.1
  clear hb kk
  go_wp2_with fail
  refine (eqIntS p p _ _ _ (own_ints O8.out) (own_ints O5.out)).mono ?_
  rw [eqB_self]
  rintro e w9 ⟨rfl, hb⟩
  have kk := Lib.hid (below_call (B := w8.heap.size) (a := w8) (by with_reducible (repeat (first | (refine below_drewN ?_ _) | (refine Below.drew ?_) | (refine below_alloc ?_ (by first | omega | (simp; done) | (simp; omega)) _) | (refine Below.setCell ?_ (by first | omega | (simp; done) | (simp; omega)) _) | exact Below.refl _ _ | assumption | (refine below_call ?_ (by first | omega | (simp; done) | (simp; omega)) (by assumption))))) (Nat.le_refl _) hb)
  replace BW := Lib.hid (BW.out.trans (kk.out.mono BW.out.size))
  replace O5 := Lib.hid (O5.out.below kk.out (by omega))
  replace L6 := Lib.hid (L6.out.below kk.out (by omega))
  replace L7 := Lib.hid (L7.out.below kk.out (by omega))
  replace O8 := Lib.hid (O8.out.below kk.out (by omega))
  have s9 := kk.out.size
  clear hb kk
  go_wp2_with fail
  refine (toLsaS db _ _ (H.out.below BW.out (Nat.le_refl _)) z1.out z2.out).mono ?_
  rintro e w10 ⟨v10, us10, rfl, hO, hb⟩
  have kk := Lib.hid (below_call (B := w9.heap.size) (a := w9) (by with_reducible (repeat (first | (refine below_drewN ?_ _) | (refine Below.drew ?_) | (refine below_alloc ?_ (by first | omega | (simp; done) | (simp; omega)) _) | (refine Below.setCell ?_ (by first | omega | (simp; done) | (simp; omega)) _) | exact Below.refl _ _ | assumption | (refine below_call ?_ (by first | omega | (simp; done) | (simp; omega)) (by assumption))))) (Nat.le_refl _) hb)
  replace BW := Lib.hid (BW.out.trans (kk.out.mono BW.out.size))
  replace O5 := Lib.hid (O5.out.below kk.out (by omega))
  replace L6 := Lib.hid (L6.out.below kk.out (by omega))
  replace L7 := Lib.hid (L7.out.below kk.out (by omega))
  replace O8 := Lib.hid (O8.out.below kk.out (by omega))
  have s10 := kk.out.size
  have X10 := Lib.hid hO.at_
  clear hO
  obtain ⟨a10, n10, c10, rfl⟩ := X10.out.form
  clear hb kk
  go_wp2_with fail
  refine (eqLsaS db db _ _ _ L6.out.at_ X10.out).mono ?_
  rw [eqB_self]
  rintro e w11 ⟨rfl, hb⟩
  have kk := Lib.hid (below_call (B := w10.heap.size) (a := w10) (by with_reducible (repeat (first | (refine below_drewN ?_ _) | (refine Below.drew ?_) | (refine below_alloc ?_ (by first | omega | (simp; done) | (simp; omega)) _) | (refine Below.setCell ?_ (by first | omega | (simp; done) | (simp; omega)) _) | exact Below.refl _ _ | assumption | (refine below_call ?_ (by first | omega | (simp; done) | (simp; omega)) (by assumption))))) (Nat.le_refl _) hb)
  replace BW := Lib.hid (BW.out.trans (kk.out.mono BW.out.size))
  replace O5 := Lib.hid (O5.out.below kk.out (by omega))
  replace L6 := Lib.hid (L6.out.below kk.out (by omega))
  replace L7 := Lib.hid (L7.out.below kk.out (by omega))
  replace O8 := Lib.hid (O8.out.below kk.out (by omega))
  have s11 := kk.out.size
  clear X10
  clear hb kk
  go_wp2_with fail
  refine (toLsaS ob _ _ (H2.out.below BW.out (Nat.le_refl _)) z3.out z4.out).mono ?_
  rintro e w12 ⟨v12, us12, rfl, hO, hb⟩
  have kk := Lib.hid (below_call (B := w11.heap.size) (a := w11) (by with_reducible (repeat (first | (refine below_drewN ?_ _) | (refine Below.drew ?_) | (refine below_alloc ?_ (by first | omega | (simp; done) | (simp; omega)) _) | (refine Below.setCell ?_ (by first | omega | (simp; done) | (simp; omega)) _) | exact Below.refl _ _ | assumption | (refine below_call ?_ (by first | omega | (simp; done) | (simp; omega)) (by assumption))))) (Nat.le_refl _) hb)
  replace BW := Lib.hid (BW.out.trans (kk.out.mono BW.out.size))
  replace O5 := Lib.hid (O5.out.below kk.out (by omega))
  replace L6 := Lib.hid (L6.out.below kk.out (by omega))
  replace L7 := Lib.hid (L7.out.below kk.out (by omega))
  replace O8 := Lib.hid (O8.out.below kk.out (by omega))
  have s12 := kk.out.size
  have X12 := Lib.hid hO.at_
  clear hO
  obtain ⟨a12, n12, c12, rfl⟩ := X12.out.form
  clear hb kk
  go_wp2_with fail
  refine (eqLsaS ob ob _ _ _ L7.out.at_ X12.out).mono ?_
  rw [eqB_self]
  rintro e w13 ⟨rfl, hb⟩
  have kk := Lib.hid (below_call (B := w12.heap.size) (a := w12) (by with_reducible (repeat (first | (refine below_drewN ?_ _) | (refine Below.drew ?_) | (refine below_alloc ?_ (by first | omega | (simp; done) | (simp; omega)) _) | (refine Below.setCell ?_ (by first | omega | (simp; done) | (simp; omega)) _) | exact Below.refl _ _ | assumption | (refine below_call ?_ (by first | omega | (simp; done) | (simp; omega)) (by assumption))))) (Nat.le_refl _) hb)
  replace BW := Lib.hid (BW.out.trans (kk.out.mono BW.out.size))
  replace O5 := Lib.hid (O5.out.below kk.out (by omega))
  replace L6 := Lib.hid (L6.out.below kk.out (by omega))
  replace L7 := Lib.hid (L7.out.below kk.out (by omega))
  replace O8 := Lib.hid (O8.out.below kk.out (by omega))
  have s13 := kk.out.size
  clear X12
  clear hb kk
  go_wp2_with fail
  refine (markLsaS_any _ _ _ db us6 1 _ L6.out (by omega) (by rw [HK1.out]; omega)).mono ?_
  unfold MarkLsPost
  rw [HK1.out]
  rintro e w14 ⟨rfl, _, hb⟩
  have hbw := BW.out.size
  have hbs := hb.size
  replace BW := Lib.hid (BW.out.trans (hb.below (B := w.heap.size) (by omega) hbw))
  replace O5 := Lib.hid (O5.out.btw hb (.inl (by omega)))
  replace L7 := Lib.hid (L7.out.btw hb (.inr (by omega)))
  replace O8 := Lib.hid (O8.out.btw hb (.inr (by omega)))
  clear hb L6
  go_wp2_with fail
  refine (markLsaS_any _ _ _ ob us7 k1 _ L7.out (by omega) (by rw [HK2.out]; omega)).mono ?_
  unfold MarkLsPost
  rw [HK2.out]
  rintro e w15 ⟨rfl, _, hb⟩
  have hbw2 := BW.out.size
  have hbs2 := hb.size
  replace BW := Lib.hid (BW.out.trans (hb.below (B := w.heap.size) (by omega) hbw2))
  replace O5 := Lib.hid (O5.out.btw hb (.inl (by omega)))
  replace O8 := Lib.hid (O8.out.btw hb (.inr (by omega)))
  clear hb L7
  go_wp2_with fail
  refine (eqIntS p p _ _ _ (own_ints O8.out) (own_ints O5.out)).mono ?_
  rw [eqB_self]
  rintro e w16 ⟨rfl, hb⟩
  have kk := Lib.hid (below_call (B := w15.heap.size) (a := w15) (by with_reducible (repeat (first | (refine below_drewN ?_ _) | (refine Below.drew ?_) | (refine below_alloc ?_ (by first | omega | (simp; done) | (simp; omega)) _) | (refine Below.setCell ?_ (by first | omega | (simp; done) | (simp; omega)) _) | exact Below.refl _ _ | assumption | (refine below_call ?_ (by first | omega | (simp; done) | (simp; omega)) (by assumption))))) (Nat.le_refl _) hb)
  replace BW := Lib.hid (BW.out.trans (kk.out.mono BW.out.size))
  replace O5 := Lib.hid (O5.out.below kk.out (by omega))
  replace O8 := Lib.hid (O8.out.below kk.out (by omega))
  have s16 := kk.out.size
  clear hb kk
  go_wp2_with fail
  refine (markIntS_any _ _ _ p.length _ 1 _ O8.out (by omega) (by have := HPL.out; omega)).mono ?_
  rintro e w17 ⟨rfl, hO, hg⟩
  have hb := Btw.grown (lo := w7.heap.size) (hi := w8.heap.size) hg (fun g hg' => by have := O8.out.lt g hg'; omega)
  have hbw3 := BW.out.size
  have hbs3 := hb.size
  replace BW := Lib.hid (BW.out.trans (hb.below (B := w.heap.size) (by omega) hbw3))
  replace O5 := Lib.hid (O5.out.btw hb (.inl (by omega)))
  have M := Lib.hid (show OwnR w17 w7.heap.size w8.heap.size 3 1 (.slice a8 p.length c8) (markI 1 p.length).length ((markI 1 p.length).map (Value.int .i64)) by rw [markI_len]; exact hO)
  clear hb hO hg O8
  have hq0 : (0:Int) ≤ 1 + p.length := by omega
  have hqq : ((1 + (p.length : Int)) != (1 + (p.length : Int))) = false := by simp
  go_wp2_with fail
  refine (heldIntS_any p.length _ 1 _ (own_ints M.out) (by omega) (by have := HPL.out; omega)).mono ?_
  rintro e w' ⟨rfl, rfl⟩
  go_wp2_with fail
  refine (toLsaS db _ _ (H.out.below BW.out (Nat.le_refl _)) z1.out z2.out).mono ?_
  rintro e w18 ⟨v18, us18, rfl, hO, hb⟩
  have kk := Lib.hid (below_call (B := w17.heap.size) (a := w17) (by with_reducible (repeat (first | (refine below_drewN ?_ _) | (refine Below.drew ?_) | (refine below_alloc ?_ (by first | omega | (simp; done) | (simp; omega)) _) | (refine Below.setCell ?_ (by first | omega | (simp; done) | (simp; omega)) _) | exact Below.refl _ _ | assumption | (refine below_call ?_ (by first | omega | (simp; done) | (simp; omega)) (by assumption))))) (Nat.le_refl _) hb)
  replace BW := Lib.hid (BW.out.trans (kk.out.mono BW.out.size))
  replace O5 := Lib.hid (O5.out.below kk.out (by omega))
  replace M := Lib.hid (M.out.below kk.out (by omega))
  have s18 := kk.out.size
  have X18 := Lib.hid hO.at_
  clear hO
  obtain ⟨a18, n18, c18, rfl⟩ := X18.out.form
  clear hb kk
  go_wp2_with fail
  refine (toLsaS ob _ _ (H2.out.below BW.out (Nat.le_refl _)) z3.out z4.out).mono ?_
  rintro e w19 ⟨v19, us19, rfl, hO, hb⟩
  have kk := Lib.hid (below_call (B := w18.heap.size) (a := w18) (by with_reducible (repeat (first | (refine below_drewN ?_ _) | (refine Below.drew ?_) | (refine below_alloc ?_ (by first | omega | (simp; done) | (simp; omega)) _) | (refine Below.setCell ?_ (by first | omega | (simp; done) | (simp; omega)) _) | exact Below.refl _ _ | assumption | (refine below_call ?_ (by first | omega | (simp; done) | (simp; omega)) (by assumption))))) (Nat.le_refl _) hb)
  replace BW := Lib.hid (BW.out.trans (kk.out.mono BW.out.size))
  replace O5 := Lib.hid (O5.out.below kk.out (by omega))
  replace M := Lib.hid (M.out.below kk.out (by omega))
  replace X18 := Lib.hid (X18.out.below kk.out (Nat.le_refl _))
  have s19 := kk.out.size
  have X19 := Lib.hid hO.at_
  clear hO
  obtain ⟨a19, n19, c19, rfl⟩ := X19.out.form
  clear hb kk
  go_wp2_with fail
  refine (iDbMissing db ob _ _ _ X18.out X19.out).mono ?_
  rw [HP.out]
  rintro e w20 ⟨v20, rfl, hO, hb⟩
  have kk := Lib.hid (below_call (B := w19.heap.size) (a := w19) (by with_reducible (repeat (first | (refine below_drewN ?_ _) | (refine Below.drew ?_) | (refine below_alloc ?_ (by first | omega | (simp; done) | (simp; omega)) _) | (refine Below.setCell ?_ (by first | omega | (simp; done) | (simp; omega)) _) | exact Below.refl _ _ | assumption | (refine below_call ?_ (by first | omega | (simp; done) | (simp; omega)) (by assumption))))) (Nat.le_refl _) hb)
  replace BW := Lib.hid (BW.out.trans (kk.out.mono BW.out.size))
  replace O5 := Lib.hid (O5.out.below kk.out (by omega))
  replace M := Lib.hid (M.out.below kk.out (by omega))
  have s20 := kk.out.size
  have O20 := Lib.hid hO
  clear hO X18 X19
  obtain ⟨a20, c20, rfl⟩ := own_slice O20.out.1
  clear hb kk
  go_wp2_with fail
  refine (eqIntS p p _ _ _ (own_ints O20.out) (own_ints O5.out)).mono ?_
  rw [eqB_self]
  rintro e w21 ⟨rfl, hb⟩
  have kk := Lib.hid (below_call (B := w20.heap.size) (a := w20) (by with_reducible (repeat (first | (refine below_drewN ?_ _) | (refine Below.drew ?_) | (refine below_alloc ?_ (by first | omega | (simp; done) | (simp; omega)) _) | (refine Below.setCell ?_ (by first | omega | (simp; done) | (simp; omega)) _) | exact Below.refl _ _ | assumption | (refine below_call ?_ (by first | omega | (simp; done) | (simp; omega)) (by assumption))))) (Nat.le_refl _) hb)
  replace BW := Lib.hid (BW.out.trans (kk.out.mono BW.out.size))
  replace M := Lib.hid (M.out.below kk.out (by omega))
  have s21 := kk.out.size
  clear hb kk
  go_wp2_with fail
  refine (heldIntS_any p.length _ 1 _ (own_ints M.out) (by omega) (by have := HPL.out; omega)).mono ?_
  rintro e w' ⟨rfl, rfl⟩
  go_wp2_with fail
  go_ret
  exact ⟨rfl, BW.out⟩
theorem own : ownKnob Try.prog.godebug = none := by kernel_rfl
theorem laidOut : laidOutB Try.prog = true := by kernel_rfl
set_option maxRecDepth 100000 in
theorem lifted (os : Os) (started : os.Started) (H : Type) (enc : TypeId × Value → H) :
    ReturnsInHanded {} Try.checked os 12 .any (Rows.fnExactDbMissingSpec.pre6 enc Try.prog Try.f12 Rows.fnExactDbMissingRow.domain false) (Rows.fnExactDbMissingSpec.post enc Try.prog Try.f12 false true false false) := by
  refine returnsInHanded_of_change (C := Try.checked) own started (by kernel_rfl) Try.func12
    (ChangeSpec.witness6 (enc := enc) (C := Try.checked) false ⟨#[], #[.slice none 0 0, .slice none 0 0], []⟩ 8 (by kernel_rfl) (by kernel_rfl) (by kernel_rfl) (by kernel_rfl)) ?_
  intro W base args ds gs before hval0 hW hcnd _
  have hval : ∀ (j : Nat) t v, Try.f12.params[j]? = some t → args[j]? = some v → Value.okWide Try.prog W .any base t v := hval0
  have hW' := hW
  obtain ⟨p, q, hA0, hV, rfl, hfz, hnd⟩ := hW
  have hA : DataW.TrodAll enc Try.prog W 0 (fun _ => true) true Try.f12.params.toList args.toList ds p := hA0
  rw [Try.params12] at hA hval
  obtain ⟨v0, vs0, d0, ds0, p0, q0, hargs, rfl, rfl, h0, r0⟩ := trodAll_cons hA
  obtain ⟨v1, vs1, d1, ds1, p1, q1, rfl, rfl, rfl, h1, r1⟩ := trodAll_cons r0
  obtain ⟨rfl, rfl, rfl⟩ := trodAll_nil r1
  obtain rfl : args = #[v0, v1] := by cases args; simp_all
  obtain ⟨rfl, rfl⟩ := trodVars_none hV
  have k0 := h0
  have lt0 : ∀ x ∈ p0, x.block < W.heap.size := by obtain ⟨m, hm⟩ := k0; exact DataW.trod_lt m _ _ _ hm
  obtain ⟨db0, w0⟩ := lsas_of_trod (T := 49) (L := 33) (E := 87) Try.underlying49 Try.underlying33 (by kernel_rfl) (by kernel_rfl) Try.underlying3 Try.underlying3 Try.underlying31 Try.underlying87 (by kernel_rfl) (by kernel_rfl) Try.underlying3 Try.underlying3 (hval 0 49 v0 rfl rfl) h0
  have k1 := h1
  have lt1 : ∀ x ∈ p1, x.block < W.heap.size := by obtain ⟨m, hm⟩ := k1; exact DataW.trod_lt m _ _ _ hm
  obtain ⟨db1, w1⟩ := lsas_of_trod (T := 49) (L := 33) (E := 87) Try.underlying49 Try.underlying33 (by kernel_rfl) (by kernel_rfl) Try.underlying3 Try.underlying3 Try.underlying31 Try.underlying87 (by kernel_rfl) (by kernel_rfl) Try.underlying3 Try.underlying3 (hval 1 49 v1 rfl rfl) h1
  clear hA0 hval0
  refine (walk v0 db0 v1 db1 W w0 w1).mono fun e W' ⟨he, bel⟩ => ?_
  subst he
  exact ⟨_, rfl, _, _, _, [], _, [], hW', trodAll_mk1 (shut_bool Try.underlying4 _), (trodAll_cons_mk (Below.trod laidOut (by kernel_rfl) (of_decide_eq_true (by kernel_rfl)) k0 bel lt0) (trodAll_cons_mk (Below.trod laidOut (by kernel_rfl) (of_decide_eq_true (by kernel_rfl)) k1 bel lt1) trodAll_mk0)), rfl, bel.frame _, fun h => by cases h⟩
theorem over : Rows.fnExactDbMissingRow.holds Try.pinned (OpenSpec.ofChange Rows.fnExactDbMissingSpec) :=
  OpenClaim.holds_of_wide 12 Try.f12 rfl rfl rfl rfl rfl rfl rfl ⟨rfl, rfl, rfl, rfl, rfl⟩ rfl rfl rfl rfl rfl (by kernel_rfl) Try.func12 (by kernel_rfl)
    (of_decide_eq_true (by kernel_rfl)) (by unfold Func.isWrapper; first | (rw [if_pos (by decide +kernel)]; kernel_rfl) | (rw [if_neg (by decide +kernel)]; exact ⟨rfl, rfl⟩))
    (fun os started H enc _ => lifted os started H enc)
end Go.Proofs.Ytbccenoclmmcdaa.lawFnExactDbMissing
namespace Go.Proofs.Ytbccenoclmmcdaa
/-- The statement. -/
theorem FnExactDbMissing_proved : Rows.FnExactDbMissingSaid := lawFnExactDbMissing.over
#print axioms FnExactDbMissing_proved
end Go.Proofs.Ytbccenoclmmcdaa
