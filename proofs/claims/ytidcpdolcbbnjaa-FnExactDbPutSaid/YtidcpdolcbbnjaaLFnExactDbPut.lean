/- FnExactDbPut: for every argument the call returns true, and the arguments read afterwards as before. No condition. -/
import Derived.Test.YtidcpdolcbbnjaaMarkOne
import Derived.Test.YtidcpdolcbbnjaaEq
import Derived.Test.YtidcpdolcbbnjaaMake2
import Derived.Test.YtidcpdolcbbnjaaRows
import Derived.Test.YtidcpdolcbbnjaaOpen
import Derived.ProofKit
import Derived.OpenShut
import Derived.ShutString
import Derived.ChangeOld
import Derived.Lib.SmallJoins
namespace Go.Proofs.Ytidcpdolcbbnjaa.lawFnExactDbPut
open Go.ChangeShapes Go.WideShapes Go.ChangeAt Go.RowKit Go.Joins
set_option maxRecDepth 100000 in
set_option maxHeartbeats 8000000 in
theorem walk (v : Value) (db : List LsaD) (o s : Int) (u : Value) (es : List (Int × Int)) (w : World) (h : LsasAt w v db) (h2 : PairsAt w u es) :
    Calls Try.prog 12 #[v, .agg #[.int .i64 o, .int .i64 s, u]] w fun e w' => e = .returned (.bool true) ∧ Below w.heap.size w w' := by
  have H := Lib.hid h; have H2 := Lib.hid h2
  obtain ⟨va, vn, vc, rfl⟩ := h.form
  obtain ⟨ua, un, uc, rfl⟩ := h2.form
  clear h h2
  have BW := Lib.hid (Below.refl w.heap.size w)
  by_cases hl : (db.length : Int) + totalL db ≤ 1048576
  rotate_left
  · have hr : leftOf ((db.length : Int) + totalL db) 1048576 = -1 := by unfold leftOf; rw [if_neg hl]
    have HR := Lib.hid hr
    clear hl hr
    go_enter Try.func12, Try.ntmps12
    go_wp2_with fail
    refine (szLsaS db _ 1048576 _ (H.out.below (by with_reducible (repeat (first | (refine below_drewN ?_ _) | (refine Below.drew ?_) | (refine below_alloc ?_ (by first | omega | (simp; done) | (simp; omega)) _) | (refine Below.setCell ?_ (by first | omega | (simp; done) | (simp; omega)) _) | exact Below.refl _ _ | assumption | (refine below_call ?_ (by first | omega | (simp; done) | (simp; omega)) (by assumption))))) (Nat.le_refl _)) (by omega) (by omega)).mono ?_
    rw [HR.out]
    rintro e w1 ⟨rfl, hb1⟩
    have hB := below_call (B := w.heap.size) (a := w) (by with_reducible (repeat (first | (refine below_drewN ?_ _) | (refine Below.drew ?_) | (refine below_alloc ?_ (by first | omega | (simp; done) | (simp; omega)) _) | (refine Below.setCell ?_ (by first | omega | (simp; done) | (simp; omega)) _) | exact Below.refl _ _ | assumption | (refine below_call ?_ (by first | omega | (simp; done) | (simp; omega)) (by assumption))))) (Nat.le_refl _) hb1
    go_wp2_with fail
    go_ret
    exact ⟨rfl, hB⟩
  have z1 : Hid (db.length ≤ 1048576) := Lib.hid (by omega)
  have z2 : Hid (totalL db ≤ 1048576) := Lib.hid (by omega)
  obtain ⟨r, hr, hr0, hr1⟩ : ∃ r, leftOf ((db.length : Int) + totalL db) 1048576 = r ∧ 0 ≤ r ∧ r ≤ 1048576 := ⟨_, rfl, by unfold leftOf; rw [if_pos hl]; omega, by unfold leftOf; rw [if_pos hl]; omega⟩
  have HR := Lib.hid hr
  clear hl hr
  by_cases hl : (es.length : Int) ≤ r
  rotate_left
  · have hr : leftOf (es.length : Int) r = -1 := by unfold leftOf; rw [if_neg hl]
    have HR2 := Lib.hid hr
    clear hl hr
    go_enter Try.func12, Try.ntmps12
    go_wp2_with fail
    refine (szLsaS db _ 1048576 _ (H.out.below (by with_reducible (repeat (first | (refine below_drewN ?_ _) | (refine Below.drew ?_) | (refine below_alloc ?_ (by first | omega | (simp; done) | (simp; omega)) _) | (refine Below.setCell ?_ (by first | omega | (simp; done) | (simp; omega)) _) | exact Below.refl _ _ | assumption | (refine below_call ?_ (by first | omega | (simp; done) | (simp; omega)) (by assumption))))) (Nat.le_refl _)) (by omega) (by omega)).mono ?_
    rw [HR.out]
    rintro e w1 ⟨rfl, hb⟩
    have kk := Lib.hid (below_call (B := w.heap.size) (a := w) (by with_reducible (repeat (first | (refine below_drewN ?_ _) | (refine Below.drew ?_) | (refine below_alloc ?_ (by first | omega | (simp; done) | (simp; omega)) _) | (refine Below.setCell ?_ (by first | omega | (simp; done) | (simp; omega)) _) | exact Below.refl _ _ | assumption | (refine below_call ?_ (by first | omega | (simp; done) | (simp; omega)) (by assumption))))) (Nat.le_refl _) hb)
    replace BW := Lib.hid (BW.out.trans (kk.out.mono BW.out.size))
    have A := Lib.hid (Box.call (b := w.heap.size) (c := #[.int .i64 o, .int .i64 s, .slice ua un uc]) (t := 53) hb (by with_reducible (repeat (first | (refine box_at _ _ _ ?_; first | rfl | (simp; done)) | apply Box.alloc | apply Box.drewN | apply Box.drew))))
    obtain ⟨A_0, A_1, A_2, A_3, A_4, A_5, A_6⟩ := box3 A.out
    clear hb kk
    go_wp2_with fail
    refine (szLsa o s es _ r _ (H2.out.below BW.out (Nat.le_refl _)) hr0 hr1).mono ?_
    rw [HR2.out]
    rintro e w2 ⟨rfl, hb⟩
    have kk := Lib.hid (below_call (B := w1.heap.size) (a := w1) (by with_reducible (repeat (first | (refine below_drewN ?_ _) | (refine Below.drew ?_) | (refine below_alloc ?_ (by first | omega | (simp; done) | (simp; omega)) _) | (refine Below.setCell ?_ (by first | omega | (simp; done) | (simp; omega)) _) | exact Below.refl _ _ | assumption | (refine below_call ?_ (by first | omega | (simp; done) | (simp; omega)) (by assumption))))) (Nat.le_refl _) hb)
    replace BW := Lib.hid (BW.out.trans (kk.out.mono BW.out.size))
    go_wp2_with fail
    go_ret
    exact ⟨rfl, BW.out⟩
  have z3 : Hid (es.length ≤ 1048576) := Lib.hid (by omega)
  obtain ⟨r2, hr, hr2⟩ : ∃ r2, leftOf (es.length : Int) r = r2 ∧ 0 ≤ r2 := ⟨_, rfl, by unfold leftOf; rw [if_pos hl]; omega⟩
  have HR2 := Lib.hid hr
  clear hl hr
  obtain ⟨⟨p, c⟩, hp⟩ : ∃ p, putOf db (o, s, es) = p := ⟨_, rfl⟩
  have hpl : endK 1 p ≤ 1000 := endK_ok (by have := putOf_ok_or db (o, s, es); rw [hp] at this; exact this)
  have HP := Lib.hid hp
  have hk0 : 0 ≤ endK 1 db ∧ endK 1 db ≤ 10000000 := by have := z1.out; have := z2.out; rw [endK_eq]; omega
  obtain ⟨k1, hk1⟩ : ∃ k, endK 1 db = k := ⟨_, rfl⟩
  rw [hk1] at hk0
  obtain ⟨hk10, hk11⟩ := hk0
  obtain ⟨k3, hk3⟩ : ∃ k, endK 1 p = k := ⟨_, rfl⟩
  have hk30 : 0 ≤ k3 := by rw [← hk3]; have := endK_le p 1; omega
  rw [hk3] at hpl
  have HK1 := Lib.hid hk1; have HK3 := Lib.hid hk3
  have hcc : (c != c) = false := by simp
  have hkk : (k3 != k3) = false := by simp
  have hk4 : 0 ≤ k1 + 2 * (es.length : Int) := by omega
  clear hp hk1 hk3
  go_enter Try.func12, Try.ntmps12
  go_wp2_with fail
  refine (szLsaS db _ 1048576 _ (H.out.below (by with_reducible (repeat (first | (refine below_drewN ?_ _) | (refine Below.drew ?_) | (refine below_alloc ?_ (by first | omega | (simp; done) | (simp; omega)) _) | (refine Below.setCell ?_ (by first | omega | (simp; done) | (simp; omega)) _) | exact Below.refl _ _ | assumption | (refine below_call ?_ (by first | omega | (simp; done) | (simp; omega)) (by assumption))))) (Nat.le_refl _)) (by omega) (by omega)).mono ?_
  rw [HR.out]
  rintro e w1 ⟨rfl, hb⟩
  have kk := Lib.hid (below_call (B := w.heap.size) (a := w) (by with_reducible (repeat (first | (refine below_drewN ?_ _) | (refine Below.drew ?_) | (refine below_alloc ?_ (by first | omega | (simp; done) | (simp; omega)) _) | (refine Below.setCell ?_ (by first | omega | (simp; done) | (simp; omega)) _) | exact Below.refl _ _ | assumption | (refine below_call ?_ (by first | omega | (simp; done) | (simp; omega)) (by assumption))))) (Nat.le_refl _) hb)
  replace BW := Lib.hid (BW.out.trans (kk.out.mono BW.out.size))
  have A := Lib.hid (Box.call (b := w.heap.size) (c := #[.int .i64 o, .int .i64 s, .slice ua un uc]) (t := 53) hb (by with_reducible (repeat (first | (refine box_at _ _ _ ?_; first | rfl | (simp; done)) | apply Box.alloc | apply Box.drewN | apply Box.drew))))
  obtain ⟨A_0, A_1, A_2, A_3, A_4, A_5, A_6⟩ := box3 A.out
  clear hb kk
  have sw := BW.out.size
  have sA : w.heap.size < w1.heap.size := A.out.lt
  go_wp2_with fail
  refine (szLsa o s es _ r _ (H2.out.below BW.out (Nat.le_refl _)) hr0 hr1).mono ?_
  rw [HR2.out]
  rintro e w2 ⟨rfl, hb⟩
  have kk := Lib.hid (below_call (B := w1.heap.size) (a := w1) (by with_reducible (repeat (first | (refine below_drewN ?_ _) | (refine Below.drew ?_) | (refine below_alloc ?_ (by first | omega | (simp; done) | (simp; omega)) _) | (refine Below.setCell ?_ (by first | omega | (simp; done) | (simp; omega)) _) | exact Below.refl _ _ | assumption | (refine below_call ?_ (by first | omega | (simp; done) | (simp; omega)) (by assumption))))) (Nat.le_refl _) hb)
  replace BW := Lib.hid (BW.out.trans (kk.out.mono BW.out.size))
  replace A := Lib.hid (A.out.below kk.out A.out.lt)
  clear A_0 A_1 A_2 A_3 A_4 A_5 A_6
  obtain ⟨A_0, A_1, A_2, A_3, A_4, A_5, A_6⟩ := box3 A.out
  have s2 := kk.out.size
  clear hb kk
  go_wp2_with fail
  have BWD := Lib.hid BW.out.drew
  go_region_with (first | (go_at_call 33; refine (toLsaS db _ _ (H.out.below BWD.out (Nat.le_refl _)) z1.out z2.out).mono ?_; rintro e w3 ⟨v3, us3, rfl, hO, hb⟩; have kk := Lib.hid (below_call (B := w2.heap.size) (a := w2) (by with_reducible (repeat (first | (refine below_drewN ?_ _) | (refine Below.drew ?_) | (refine below_alloc ?_ (by first | omega | (simp; done) | (simp; omega)) _) | (refine Below.setCell ?_ (by first | omega | (simp; done) | (simp; omega)) _) | exact Below.refl _ _ | assumption | (refine below_call ?_ (by first | omega | (simp; done) | (simp; omega)) (by assumption))))) (Nat.le_refl _) hb); replace BW := Lib.hid (BW.out.trans (kk.out.mono BW.out.size)); replace A := Lib.hid (A.out.below kk.out A.out.lt); clear A_0 A_1 A_2 A_3 A_4 A_5 A_6; obtain ⟨A_0, A_1, A_2, A_3, A_4, A_5, A_6⟩ := box3 A.out; have s3 := kk.out.size; have X3 := Lib.hid hO.at_; obtain ⟨a3, n3, c3, rfl⟩ := X3.out.form; clear hO us3; clear hb kk) | (go_at_call 34; refine (toLsa o s es _ _ (H2.out.below BW.out (Nat.le_refl _)) z3.out).mono ?_; rintro e w4 ⟨v4, rfl, hO, hb⟩; have kk := Lib.hid (below_call (B := w3.heap.size) (a := w3) (by with_reducible (repeat (first | (refine below_drewN ?_ _) | (refine Below.drew ?_) | (refine below_alloc ?_ (by first | omega | (simp; done) | (simp; omega)) _) | (refine Below.setCell ?_ (by first | omega | (simp; done) | (simp; omega)) _) | exact Below.refl _ _ | assumption | (refine below_call ?_ (by first | omega | (simp; done) | (simp; omega)) (by assumption))))) (Nat.le_refl _) hb); replace BW := Lib.hid (BW.out.trans (kk.out.mono BW.out.size)); replace A := Lib.hid (A.out.below kk.out A.out.lt); clear A_0 A_1 A_2 A_3 A_4 A_5 A_6; obtain ⟨A_0, A_1, A_2, A_3, A_4, A_5, A_6⟩ := box3 A.out; replace X3 := Lib.hid (X3.out.below kk.out (Nat.le_refl _)); have s4 := kk.out.size; have X4 := Lib.hid (own_pairs hO); obtain ⟨a4, c4, rfl⟩ := own_slice hO.1; clear hO; clear hb kk) | (go_at_call 16; refine (sDbPut db o s es _ _ _ X3.out X4.out).mono ?_; rw [HP.out]; rintro e w5 ⟨v5, us5, rfl, hO, hb⟩; have kk := Lib.hid (below_call (B := w4.heap.size) (a := w4) (by with_reducible (repeat (first | (refine below_drewN ?_ _) | (refine Below.drew ?_) | (refine below_alloc ?_ (by first | omega | (simp; done) | (simp; omega)) _) | (refine Below.setCell ?_ (by first | omega | (simp; done) | (simp; omega)) _) | exact Below.refl _ _ | assumption | (refine below_call ?_ (by first | omega | (simp; done) | (simp; omega)) (by assumption))))) (Nat.le_refl _) hb); replace BW := Lib.hid (BW.out.trans (kk.out.mono BW.out.size)); replace A := Lib.hid (A.out.below kk.out A.out.lt); clear A_0 A_1 A_2 A_3 A_4 A_5 A_6; obtain ⟨A_0, A_1, A_2, A_3, A_4, A_5, A_6⟩ := box3 A.out; replace X3 := Lib.hid (X3.out.below kk.out (Nat.le_refl _)); replace X4 := Lib.hid (X4.out.below kk.out (Nat.le_refl _)); have s5 := kk.out.size; simp only at hO; have O5 := Lib.hid hO; obtain ⟨a5, n5, c5, rfl⟩ := O5.out.at_.form; clear hO; clear hb kk))
  all_goals
    have F := And.intro BW.out (And.intro A.out (And.intro X3.out (And.intro X4.out (And.intro O5.out (And.intro s3 (And.intro s4 s5))))))
    clear A_0 A_1 A_2 A_3 A_4 A_5 A_6 BW A X3 X4 O5 s3 s4 s5 BWD
    revert F
    revert w3 w4 w5 a3 n3 c3 a4 c4 us5 a5 n5 c5
    refine ?K1
  intro w3 a3 n3 c3 w4 a4 c4 w5 us5 a5 n5 c5 F
  obtain ⟨hBW, hA, hX3, hX4, hO5, s3, s4, s5⟩ := F
  have BW := Lib.hid hBW
  have A := Lib.hid hA
  obtain ⟨A_0, A_1, A_2, A_3, A_4, A_5, A_6⟩ := box3 A.out
  have X3 := Lib.hid hX3
  have X4 := Lib.hid hX4
  have O5 := Lib.hid hO5
  clear hBW hA hX3 hX4 hO5
  clear X3 X4
  go_wp2_with fail
  refine (toLsaS db _ _ (H.out.below BW.out (Nat.le_refl _)) z1.out z2.out).mono ?_
  rintro e w6 ⟨v6, us6, rfl, hO, hb⟩
  have kk := Lib.hid (below_call (B := w5.heap.size) (a := w5) (by with_reducible (repeat (first | (refine below_drewN ?_ _) | (refine Below.drew ?_) | (refine below_alloc ?_ (by first | omega | (simp; done) | (simp; omega)) _) | (refine Below.setCell ?_ (by first | omega | (simp; done) | (simp; omega)) _) | exact Below.refl _ _ | assumption | (refine below_call ?_ (by first | omega | (simp; done) | (simp; omega)) (by assumption))))) (Nat.le_refl _) hb)
  replace BW := Lib.hid (BW.out.trans (kk.out.mono BW.out.size))
  replace A := Lib.hid (A.out.below kk.out A.out.lt)
  clear A_0 A_1 A_2 A_3 A_4 A_5 A_6
  obtain ⟨A_0, A_1, A_2, A_3, A_4, A_5, A_6⟩ := box3 A.out
  replace O5 := Lib.hid (O5.out.below kk.out (by omega))
  have s6 := kk.out.size
  have L6 := Lib.hid hO
  obtain ⟨a6, n6, c6, rfl⟩ := L6.out.at_.form
  clear hO
  clear hb kk
  go_wp2_with fail
  refine (toLsa o s es _ _ (H2.out.below BW.out (Nat.le_refl _)) z3.out).mono ?_
  rintro e w7 ⟨v7, rfl, hO, hb⟩
  have kk := Lib.hid (below_call (B := w6.heap.size) (a := w6) (by with_reducible (repeat (first | (refine below_drewN ?_ _) | (refine Below.drew ?_) | (refine below_alloc ?_ (by first | omega | (simp; done) | (simp; omega)) _) | (refine Below.setCell ?_ (by first | omega | (simp; done) | (simp; omega)) _) | exact Below.refl _ _ | assumption | (refine below_call ?_ (by first | omega | (simp; done) | (simp; omega)) (by assumption))))) (Nat.le_refl _) hb)
  replace BW := Lib.hid (BW.out.trans (kk.out.mono BW.out.size))
  replace A := Lib.hid (A.out.below kk.out A.out.lt)
  clear A_0 A_1 A_2 A_3 A_4 A_5 A_6
  obtain ⟨A_0, A_1, A_2, A_3, A_4, A_5, A_6⟩ := box3 A.out
  replace O5 := Lib.hid (O5.out.below kk.out (by omega))
  replace L6 := Lib.hid (L6.out.below kk.out (by omega))
  have s7 := kk.out.size
  have L7 := Lib.hid hO
  obtain ⟨a7, c7, rfl⟩ := own_slice hO.1
  clear hO
  clear hb kk
  go_wp2_with fail
  refine (iDbPut db o s es _ _ _ (L6.out.at_.below (by with_reducible (repeat (first | (refine below_drewN ?_ _) | (refine Below.drew ?_) | (refine below_alloc ?_ (by first | omega | (simp; done) | (simp; omega)) _) | (refine Below.setCell ?_ (by first | omega | (simp; done) | (simp; omega)) _) | exact Below.refl _ _ | assumption | (refine below_call ?_ (by first | omega | (simp; done) | (simp; omega)) (by assumption))))) (Nat.le_refl _)) ((own_pairs L7.out).below (by with_reducible (repeat (first | (refine below_drewN ?_ _) | (refine Below.drew ?_) | (refine below_alloc ?_ (by first | omega | (simp; done) | (simp; omega)) _) | (refine Below.setCell ?_ (by first | omega | (simp; done) | (simp; omega)) _) | exact Below.refl _ _ | assumption | (refine below_call ?_ (by first | omega | (simp; done) | (simp; omega)) (by assumption))))) (Nat.le_refl _))).mono ?_
  rw [HP.out]
  rintro e w8 ⟨v8, us8, rfl, hO, hb⟩
  have kk := Lib.hid (below_call (B := w7.heap.size) (a := w7) (by with_reducible (repeat (first | (refine below_drewN ?_ _) | (refine Below.drew ?_) | (refine below_alloc ?_ (by first | omega | (simp; done) | (simp; omega)) _) | (refine Below.setCell ?_ (by first | omega | (simp; done) | (simp; omega)) _) | exact Below.refl _ _ | assumption | (refine below_call ?_ (by first | omega | (simp; done) | (simp; omega)) (by assumption))))) (Nat.le_refl _) hb)
  replace BW := Lib.hid (BW.out.trans (kk.out.mono BW.out.size))
  replace A := Lib.hid (A.out.below kk.out A.out.lt)
  clear A_0 A_1 A_2 A_3 A_4 A_5 A_6
  obtain ⟨A_0, A_1, A_2, A_3, A_4, A_5, A_6⟩ := box3 A.out
  replace O5 := Lib.hid (O5.out.below kk.out (by omega))
  replace L6 := Lib.hid (L6.out.below kk.out (by omega))
  replace L7 := Lib.hid (L7.out.below kk.out (by omega))
  have s8 := kk.out.size
  have C := Lib.hid (Box.call (b := w7.heap.size) (c := #[.int .i64 o, .int .i64 s, .slice a7 es.length c7]) (t := 26) hb (by with_reducible (repeat (first | (refine box_at _ _ _ ?_; first | rfl | (simp; done)) | apply Box.alloc | apply Box.drewN | apply Box.drew))))
  obtain ⟨C_0, C_1, C_2, C_3, C_4, C_5, C_6⟩ := box3 C.out
  rw [World.size_alloc] at hO
  simp only at hO
  have O8 := Lib.hid hO
  obtain ⟨a8, n8, c8, rfl⟩ := O8.out.at_.form
  clear hO
  clear hb kk
  go_wp2_with fail
  refine (eqLsaS p p _ _ _ O8.out.at_ O5.out.at_).mono ?_
  rw [eqB_self]
  rintro e w9 ⟨rfl, hb⟩
  have kk := Lib.hid (below_call (B := w8.heap.size) (a := w8) (by with_reducible (repeat (first | (refine below_drewN ?_ _) | (refine Below.drew ?_) | (refine below_alloc ?_ (by first | omega | (simp; done) | (simp; omega)) _) | (refine Below.setCell ?_ (by first | omega | (simp; done) | (simp; omega)) _) | exact Below.refl _ _ | assumption | (refine below_call ?_ (by first | omega | (simp; done) | (simp; omega)) (by assumption))))) (Nat.le_refl _) hb)
  replace BW := Lib.hid (BW.out.trans (kk.out.mono BW.out.size))
  replace A := Lib.hid (A.out.below kk.out A.out.lt)
  clear A_0 A_1 A_2 A_3 A_4 A_5 A_6
  obtain ⟨A_0, A_1, A_2, A_3, A_4, A_5, A_6⟩ := box3 A.out
  replace O5 := Lib.hid (O5.out.below kk.out (by omega))
  replace L6 := Lib.hid (L6.out.below kk.out (by omega))
  replace L7 := Lib.hid (L7.out.below kk.out (by omega))
  replace O8 := Lib.hid (O8.out.below kk.out (by omega))
  replace C := Lib.hid (C.out.below kk.out C.out.lt)
  clear C_0 C_1 C_2 C_3 C_4 C_5 C_6
  obtain ⟨C_0, C_1, C_2, C_3, C_4, C_5, C_6⟩ := box3 C.out
  have s9 := kk.out.size
  clear hb kk
  go_wp2_with fail
  refine (toLsaS db _ _ (H.out.below BW.out (Nat.le_refl _)) z1.out z2.out).mono ?_
  rintro e w10 ⟨v10, us10, rfl, hO, hb⟩
  have kk := Lib.hid (below_call (B := w9.heap.size) (a := w9) (by with_reducible (repeat (first | (refine below_drewN ?_ _) | (refine Below.drew ?_) | (refine below_alloc ?_ (by first | omega | (simp; done) | (simp; omega)) _) | (refine Below.setCell ?_ (by first | omega | (simp; done) | (simp; omega)) _) | exact Below.refl _ _ | assumption | (refine below_call ?_ (by first | omega | (simp; done) | (simp; omega)) (by assumption))))) (Nat.le_refl _) hb)
  replace BW := Lib.hid (BW.out.trans (kk.out.mono BW.out.size))
  replace A := Lib.hid (A.out.below kk.out A.out.lt)
  clear A_0 A_1 A_2 A_3 A_4 A_5 A_6
  obtain ⟨A_0, A_1, A_2, A_3, A_4, A_5, A_6⟩ := box3 A.out
  replace O5 := Lib.hid (O5.out.below kk.out (by omega))
  replace L6 := Lib.hid (L6.out.below kk.out (by omega))
  replace L7 := Lib.hid (L7.out.below kk.out (by omega))
  replace O8 := Lib.hid (O8.out.below kk.out (by omega))
  replace C := Lib.hid (C.out.below kk.out C.out.lt)
  clear C_0 C_1 C_2 C_3 C_4 C_5 C_6
  obtain ⟨C_0, C_1, C_2, C_3, C_4, C_5, C_6⟩ := box3 C.out
  have s10 := kk.out.size
  have X10 := Lib.hid hO.at_
  obtain ⟨a10, n10, c10, rfl⟩ := X10.out.form
  clear hO
  clear hb kk
  go_wp2_with fail
  refine (eqLsaS db db _ _ _ L6.out.at_ X10.out).mono ?_
  rw [eqB_self]
  rintro e w11 ⟨rfl, hb⟩
  have kk := Lib.hid (below_call (B := w10.heap.size) (a := w10) (by with_reducible (repeat (first | (refine below_drewN ?_ _) | (refine Below.drew ?_) | (refine below_alloc ?_ (by first | omega | (simp; done) | (simp; omega)) _) | (refine Below.setCell ?_ (by first | omega | (simp; done) | (simp; omega)) _) | exact Below.refl _ _ | assumption | (refine below_call ?_ (by first | omega | (simp; done) | (simp; omega)) (by assumption))))) (Nat.le_refl _) hb)
  replace BW := Lib.hid (BW.out.trans (kk.out.mono BW.out.size))
  replace A := Lib.hid (A.out.below kk.out A.out.lt)
  clear A_0 A_1 A_2 A_3 A_4 A_5 A_6
  obtain ⟨A_0, A_1, A_2, A_3, A_4, A_5, A_6⟩ := box3 A.out
  replace O5 := Lib.hid (O5.out.below kk.out (by omega))
  replace L6 := Lib.hid (L6.out.below kk.out (by omega))
  replace L7 := Lib.hid (L7.out.below kk.out (by omega))
  replace O8 := Lib.hid (O8.out.below kk.out (by omega))
  replace C := Lib.hid (C.out.below kk.out C.out.lt)
  clear C_0 C_1 C_2 C_3 C_4 C_5 C_6
  obtain ⟨C_0, C_1, C_2, C_3, C_4, C_5, C_6⟩ := box3 C.out
  replace X10 := Lib.hid (X10.out.below kk.out (Nat.le_refl _))
  have s11 := kk.out.size
  clear hb kk
  clear X10
  go_wp2_with fail
  have BWD := Lib.hid BW.out.drew
  go_region_with (first | (go_at_call 34; refine (toLsa o s es _ _ (H2.out.below BWD.out (Nat.le_refl _)) z3.out).mono ?_; rintro e w12 ⟨v12, rfl, hO, hb⟩; have kk := Lib.hid (below_call (B := w11.heap.size) (a := w11) (by with_reducible (repeat (first | (refine below_drewN ?_ _) | (refine Below.drew ?_) | (refine below_alloc ?_ (by first | omega | (simp; done) | (simp; omega)) _) | (refine Below.setCell ?_ (by first | omega | (simp; done) | (simp; omega)) _) | exact Below.refl _ _ | assumption | (refine below_call ?_ (by first | omega | (simp; done) | (simp; omega)) (by assumption))))) (Nat.le_refl _) hb); replace BW := Lib.hid (BW.out.trans (kk.out.mono BW.out.size)); replace A := Lib.hid (A.out.below kk.out A.out.lt); clear A_0 A_1 A_2 A_3 A_4 A_5 A_6; obtain ⟨A_0, A_1, A_2, A_3, A_4, A_5, A_6⟩ := box3 A.out; replace O5 := Lib.hid (O5.out.below kk.out (by omega)); replace L6 := Lib.hid (L6.out.below kk.out (by omega)); replace L7 := Lib.hid (L7.out.below kk.out (by omega)); replace O8 := Lib.hid (O8.out.below kk.out (by omega)); replace C := Lib.hid (C.out.below kk.out C.out.lt); clear C_0 C_1 C_2 C_3 C_4 C_5 C_6; obtain ⟨C_0, C_1, C_2, C_3, C_4, C_5, C_6⟩ := box3 C.out; have s12 := kk.out.size; have X12 := Lib.hid (own_pairs hO); obtain ⟨a12, c12, rfl⟩ := own_slice hO.1; clear hO; clear hb kk) | (go_at_call 36; refine (eqLsa o s o s es es _ _ _ (own_pairs L7.out) X12.out).mono ?_; rw [eqB_self]; rintro e w13 ⟨rfl, hb⟩; have kk := Lib.hid (below_call (B := w12.heap.size) (a := w12) (by with_reducible (repeat (first | (refine below_drewN ?_ _) | (refine Below.drew ?_) | (refine below_alloc ?_ (by first | omega | (simp; done) | (simp; omega)) _) | (refine Below.setCell ?_ (by first | omega | (simp; done) | (simp; omega)) _) | exact Below.refl _ _ | assumption | (refine below_call ?_ (by first | omega | (simp; done) | (simp; omega)) (by assumption))))) (Nat.le_refl _) hb); replace BW := Lib.hid (BW.out.trans (kk.out.mono BW.out.size)); replace A := Lib.hid (A.out.below kk.out A.out.lt); clear A_0 A_1 A_2 A_3 A_4 A_5 A_6; obtain ⟨A_0, A_1, A_2, A_3, A_4, A_5, A_6⟩ := box3 A.out; replace O5 := Lib.hid (O5.out.below kk.out (by omega)); replace L6 := Lib.hid (L6.out.below kk.out (by omega)); replace L7 := Lib.hid (L7.out.below kk.out (by omega)); replace O8 := Lib.hid (O8.out.below kk.out (by omega)); replace C := Lib.hid (C.out.below kk.out C.out.lt); clear C_0 C_1 C_2 C_3 C_4 C_5 C_6; obtain ⟨C_0, C_1, C_2, C_3, C_4, C_5, C_6⟩ := box3 C.out; replace X12 := Lib.hid (X12.out.below kk.out (Nat.le_refl _)); have s13 := kk.out.size; clear hb kk))
  all_goals
    have F := And.intro BW.out (And.intro A.out (And.intro O5.out (And.intro L6.out (And.intro L7.out (And.intro O8.out (And.intro C.out (And.intro X12.out (And.intro s12 s13))))))))
    clear A_0 A_1 A_2 A_3 A_4 A_5 A_6 C_0 C_1 C_2 C_3 C_4 C_5 C_6 BW A O5 L6 L7 O8 C X12 s12 s13 BWD
    revert F
    revert w12 w13 a12 c12
    refine ?K2
  intro w12 a12 c12 w13 F
  obtain ⟨hBW, hA, hO5, hL6, hL7, hO8, hC, hX12, s12, s13⟩ := F
  have BW := Lib.hid hBW
  have A := Lib.hid hA
  obtain ⟨A_0, A_1, A_2, A_3, A_4, A_5, A_6⟩ := box3 A.out
  have O5 := Lib.hid hO5
  have L6 := Lib.hid hL6
  have L7 := Lib.hid hL7
  have O8 := Lib.hid hO8
  have C := Lib.hid hC
  obtain ⟨C_0, C_1, C_2, C_3, C_4, C_5, C_6⟩ := box3 C.out
  have X12 := Lib.hid hX12
  clear hBW hA hO5 hL6 hL7 hO8 hC hX12
  clear X12
  go_wp2_with fail
  refine (markLsaS_any _ _ _ db us6 1 _ L6.out (by omega) (by rw [HK1.out]; omega)).mono ?_
  unfold MarkLsPost
  rw [HK1.out]
  rintro e w14 ⟨rfl, _, hb⟩
  have hbw14 := BW.out.size
  have s14 := hb.size
  replace BW := Lib.hid (BW.out.trans (hb.below (B := w.heap.size) (by omega) hbw14))
  replace O5 := Lib.hid (O5.out.btw hb (.inl (by omega)))
  replace L7 := Lib.hid (L7.out.btw hb (.inr (by omega)))
  replace O8 := Lib.hid (O8.out.btw hb (.inr (by omega)))
  replace A := Lib.hid (show Box _ _ _ _ from (hb.block _ A.out.lt (.inl (by omega))).trans A.out)
  clear A_0 A_1 A_2 A_3 A_4 A_5 A_6
  obtain ⟨A_0, A_1, A_2, A_3, A_4, A_5, A_6⟩ := box3 A.out
  replace C := Lib.hid (show Box _ _ _ _ from (hb.block _ C.out.lt (.inr (by omega))).trans C.out)
  clear C_0 C_1 C_2 C_3 C_4 C_5 C_6
  obtain ⟨C_0, C_1, C_2, C_3, C_4, C_5, C_6⟩ := box3 C.out
  clear hb L6
  go_wp2_with fail
  refine (markLsa_any _ _ o s _ es.length _ k1 _ L7.out (by omega) (by have := z3.out; omega)).mono ?_
  rintro e w15 ⟨rfl, hb⟩
  have hbw15 := BW.out.size
  have s15 := hb.size
  replace BW := Lib.hid (BW.out.trans (hb.below (B := w.heap.size) (by omega) hbw15))
  replace O5 := Lib.hid (O5.out.btw hb (.inl (by omega)))
  replace O8 := Lib.hid (O8.out.btw hb (.inr (by omega)))
  replace A := Lib.hid (show Box _ _ _ _ from (hb.block _ A.out.lt (.inl (by omega))).trans A.out)
  clear A_0 A_1 A_2 A_3 A_4 A_5 A_6
  obtain ⟨A_0, A_1, A_2, A_3, A_4, A_5, A_6⟩ := box3 A.out
  clear hb L7
  clear C
  go_wp2_with fail
  refine (eqLsaS p p _ _ _ O8.out.at_ O5.out.at_).mono ?_
  rw [eqB_self]
  rintro e w16 ⟨rfl, hb⟩
  have kk := Lib.hid (below_call (B := w15.heap.size) (a := w15) (by with_reducible (repeat (first | (refine below_drewN ?_ _) | (refine Below.drew ?_) | (refine below_alloc ?_ (by first | omega | (simp; done) | (simp; omega)) _) | (refine Below.setCell ?_ (by first | omega | (simp; done) | (simp; omega)) _) | exact Below.refl _ _ | assumption | (refine below_call ?_ (by first | omega | (simp; done) | (simp; omega)) (by assumption))))) (Nat.le_refl _) hb)
  replace BW := Lib.hid (BW.out.trans (kk.out.mono BW.out.size))
  replace A := Lib.hid (A.out.below kk.out A.out.lt)
  clear A_0 A_1 A_2 A_3 A_4 A_5 A_6
  obtain ⟨A_0, A_1, A_2, A_3, A_4, A_5, A_6⟩ := box3 A.out
  replace O5 := Lib.hid (O5.out.below kk.out (by omega))
  replace O8 := Lib.hid (O8.out.below kk.out (by omega))
  have s16 := kk.out.size
  clear hb kk
  go_wp2_with fail
  refine (markLsaS_any _ _ _ p us8 1 _ O8.out (by omega) (by rw [HK3.out]; omega)).mono ?_
  unfold MarkLsPost
  rw [HK3.out]
  rintro e w17 ⟨rfl, hM, hb⟩
  have hbw17 := BW.out.size
  have s17 := hb.size
  replace BW := Lib.hid (BW.out.trans (hb.below (B := w.heap.size) (by omega) hbw17))
  replace O5 := Lib.hid (O5.out.btw hb (.inl (by omega)))
  have M := Lib.hid hM
  clear hM
  replace A := Lib.hid (show Box _ _ _ _ from (hb.block _ A.out.lt (.inl (by omega))).trans A.out)
  clear A_0 A_1 A_2 A_3 A_4 A_5 A_6
  obtain ⟨A_0, A_1, A_2, A_3, A_4, A_5, A_6⟩ := box3 A.out
  clear hb O8
  go_wp2_with fail
  refine (heldLsaS_any p _ 1 _ M.out.at_ (by omega) (by rw [HK3.out]; omega)).mono ?_
  rw [HK3.out]
  rintro e w' ⟨rfl, rfl⟩
  go_wp2_with fail
  have BWD := Lib.hid BW.out.drew
  go_region_with (first | (go_at_call 33; refine (toLsaS db _ _ (H.out.below BWD.out (Nat.le_refl _)) z1.out z2.out).mono ?_; rintro e w18 ⟨v18, us18, rfl, hO, hb⟩; have kk := Lib.hid (below_call (B := w17.heap.size) (a := w17) (by with_reducible (repeat (first | (refine below_drewN ?_ _) | (refine Below.drew ?_) | (refine below_alloc ?_ (by first | omega | (simp; done) | (simp; omega)) _) | (refine Below.setCell ?_ (by first | omega | (simp; done) | (simp; omega)) _) | exact Below.refl _ _ | assumption | (refine below_call ?_ (by first | omega | (simp; done) | (simp; omega)) (by assumption))))) (Nat.le_refl _) hb); replace BW := Lib.hid (BW.out.trans (kk.out.mono BW.out.size)); replace A := Lib.hid (A.out.below kk.out A.out.lt); clear A_0 A_1 A_2 A_3 A_4 A_5 A_6; obtain ⟨A_0, A_1, A_2, A_3, A_4, A_5, A_6⟩ := box3 A.out; replace O5 := Lib.hid (O5.out.below kk.out (by omega)); replace M := Lib.hid (M.out.below kk.out (by omega)); have s18 := kk.out.size; have X18 := Lib.hid hO.at_; obtain ⟨a18, n18, c18, rfl⟩ := X18.out.form; clear hO us18; clear hb kk) | (go_at_call 34; refine (toLsa o s es _ _ (H2.out.below BW.out (Nat.le_refl _)) z3.out).mono ?_; rintro e w19 ⟨v19, rfl, hO, hb⟩; have kk := Lib.hid (below_call (B := w18.heap.size) (a := w18) (by with_reducible (repeat (first | (refine below_drewN ?_ _) | (refine Below.drew ?_) | (refine below_alloc ?_ (by first | omega | (simp; done) | (simp; omega)) _) | (refine Below.setCell ?_ (by first | omega | (simp; done) | (simp; omega)) _) | exact Below.refl _ _ | assumption | (refine below_call ?_ (by first | omega | (simp; done) | (simp; omega)) (by assumption))))) (Nat.le_refl _) hb); replace BW := Lib.hid (BW.out.trans (kk.out.mono BW.out.size)); replace A := Lib.hid (A.out.below kk.out A.out.lt); clear A_0 A_1 A_2 A_3 A_4 A_5 A_6; obtain ⟨A_0, A_1, A_2, A_3, A_4, A_5, A_6⟩ := box3 A.out; replace O5 := Lib.hid (O5.out.below kk.out (by omega)); replace M := Lib.hid (M.out.below kk.out (by omega)); replace X18 := Lib.hid (X18.out.below kk.out (Nat.le_refl _)); have s19 := kk.out.size; have X19 := Lib.hid (own_pairs hO); obtain ⟨a19, c19, rfl⟩ := own_slice hO.1; clear hO; clear hb kk) | (go_at_call 15; refine (iDbPut db o s es _ _ _ X18.out X19.out).mono ?_; rw [HP.out]; rintro e w20 ⟨v20, us20, rfl, hO, hb⟩; have kk := Lib.hid (below_call (B := w19.heap.size) (a := w19) (by with_reducible (repeat (first | (refine below_drewN ?_ _) | (refine Below.drew ?_) | (refine below_alloc ?_ (by first | omega | (simp; done) | (simp; omega)) _) | (refine Below.setCell ?_ (by first | omega | (simp; done) | (simp; omega)) _) | exact Below.refl _ _ | assumption | (refine below_call ?_ (by first | omega | (simp; done) | (simp; omega)) (by assumption))))) (Nat.le_refl _) hb); replace BW := Lib.hid (BW.out.trans (kk.out.mono BW.out.size)); replace A := Lib.hid (A.out.below kk.out A.out.lt); clear A_0 A_1 A_2 A_3 A_4 A_5 A_6; obtain ⟨A_0, A_1, A_2, A_3, A_4, A_5, A_6⟩ := box3 A.out; replace O5 := Lib.hid (O5.out.below kk.out (by omega)); replace M := Lib.hid (M.out.below kk.out (by omega)); replace X18 := Lib.hid (X18.out.below kk.out (Nat.le_refl _)); replace X19 := Lib.hid (X19.out.below kk.out (Nat.le_refl _)); have s20 := kk.out.size; simp only at hO; have O20 := Lib.hid hO; obtain ⟨a20, n20, c20, rfl⟩ := O20.out.at_.form; clear hO; clear hb kk))
  all_goals
    have F := And.intro BW.out (And.intro A.out (And.intro O5.out (And.intro M.out (And.intro X18.out (And.intro X19.out (And.intro O20.out (And.intro s18 (And.intro s19 s20))))))))
    clear A_0 A_1 A_2 A_3 A_4 A_5 A_6 BW A O5 M X18 X19 O20 s18 s19 s20 BWD
    revert F
    revert w18 w19 w20 a18 n18 c18 a19 c19 us20 a20 n20 c20
    refine ?K3
  intro w18 a18 n18 c18 w19 a19 c19 w20 us20 a20 n20 c20 F
  obtain ⟨hBW, hA, hO5, hM, hX18, hX19, hO20, s18, s19, s20⟩ := F
  have BW := Lib.hid hBW
  have A := Lib.hid hA
  obtain ⟨A_0, A_1, A_2, A_3, A_4, A_5, A_6⟩ := box3 A.out
  have O5 := Lib.hid hO5
  have M := Lib.hid hM
  have X18 := Lib.hid hX18
  have X19 := Lib.hid hX19
  have O20 := Lib.hid hO20
  clear hBW hA hO5 hM hX18 hX19 hO20
  clear X18 X19
  go_wp2_with fail
  refine (eqLsaS p p _ _ _ O20.out.at_ O5.out.at_).mono ?_
  rw [eqB_self]
  rintro e w21 ⟨rfl, hb⟩
  have kk := Lib.hid (below_call (B := w20.heap.size) (a := w20) (by with_reducible (repeat (first | (refine below_drewN ?_ _) | (refine Below.drew ?_) | (refine below_alloc ?_ (by first | omega | (simp; done) | (simp; omega)) _) | (refine Below.setCell ?_ (by first | omega | (simp; done) | (simp; omega)) _) | exact Below.refl _ _ | assumption | (refine below_call ?_ (by first | omega | (simp; done) | (simp; omega)) (by assumption))))) (Nat.le_refl _) hb)
  replace BW := Lib.hid (BW.out.trans (kk.out.mono BW.out.size))
  replace A := Lib.hid (A.out.below kk.out A.out.lt)
  clear A_0 A_1 A_2 A_3 A_4 A_5 A_6
  obtain ⟨A_0, A_1, A_2, A_3, A_4, A_5, A_6⟩ := box3 A.out
  replace O5 := Lib.hid (O5.out.below kk.out (by omega))
  replace M := Lib.hid (M.out.below kk.out (by omega))
  replace O20 := Lib.hid (O20.out.below kk.out (by omega))
  have s21 := kk.out.size
  clear hb kk
  go_wp2_with fail
  refine (heldLsaS_any p _ 1 _ M.out.at_ (by omega) (by rw [HK3.out]; omega)).mono ?_
  rw [HK3.out]
  rintro e w' ⟨rfl, rfl⟩
  go_wp2_with fail
  go_ret
  exact ⟨rfl, BW.out⟩
theorem own : ownKnob Try.prog.godebug = none := by kernel_rfl
theorem laidOut : laidOutB Try.prog = true := by kernel_rfl
set_option maxRecDepth 100000 in
theorem lifted (os : Os) (started : os.Started) (H : Type) (enc : TypeId × Value → H) :
    ReturnsInHanded {} Try.checked os 12 .any (Rows.fnExactDbPutSpec.pre6 enc Try.prog Try.f12 Rows.fnExactDbPutRow.domain false) (Rows.fnExactDbPutSpec.post enc Try.prog Try.f12 false true false false) := by
  refine returnsInHanded_of_change (C := Try.checked) own started (by kernel_rfl) Try.func12
    (ChangeSpec.witness6 (enc := enc) (C := Try.checked) false ⟨#[], #[.slice none 0 0, .agg #[.int .i64 0, .int .i64 0, .slice none 0 0]], []⟩ 8 (by kernel_rfl) (by kernel_rfl) (by kernel_rfl) (by kernel_rfl)) ?_
  intro W base args ds gs before hval0 hW hcnd _
  have hval : ∀ (j : Nat) t v, Try.f12.params[j]? = some t → args[j]? = some v → Value.okWide Try.prog W .any base t v := hval0
  have hW' := hW
  obtain ⟨p, q, hA0, hV, rfl, hfz, hnd⟩ := hW
  have hA : DataW.TrodAll enc Try.prog W 0 (fun _ => true) true Try.f12.params.toList args.toList ds p := hA0
  rw [Try.params12] at hA hval
  obtain ⟨v0, vs0, d0, ds0, p0, q0, hargs, rfl, rfl, h0, r0⟩ := trodAll_cons hA
  obtain ⟨v1, vs1, d1, ds1, p1, q1, rfl, rfl, rfl, h1, r1⟩ := trodAll_cons r0
  obtain ⟨rfl, rfl, rfl⟩ := trodAll_nil r1
  obtain rfl : args = #[v0, v1] := by cases args; simp_all
  obtain ⟨rfl, rfl⟩ := trodVars_none hV
  have k0 := h0
  have lt0 : ∀ x ∈ p0, x.block < W.heap.size := by obtain ⟨m, hm⟩ := k0; exact DataW.trod_lt m _ _ _ hm
  obtain ⟨db0, w0⟩ := lsas_of_trod (T := 50) (L := 53) (E := 85) Try.underlying50 Try.underlying53 (by kernel_rfl) (by kernel_rfl) Try.underlying3 Try.underlying3 Try.underlying51 Try.underlying85 (by kernel_rfl) (by kernel_rfl) Try.underlying3 Try.underlying3 (hval 0 50 v0 rfl rfl) h0
  have k1 := h1
  have lt1 : ∀ x ∈ p1, x.block < W.heap.size := by obtain ⟨m, hm⟩ := k1; exact DataW.trod_lt m _ _ _ hm
  obtain ⟨o1, s1, u1, es1, rfl, w1⟩ := lsa_of_trod (L := 53) (E := 85) Try.underlying53 (by kernel_rfl) (by kernel_rfl) Try.underlying3 Try.underlying3 Try.underlying51 Try.underlying85 (by kernel_rfl) (by kernel_rfl) Try.underlying3 Try.underlying3 (hval 1 53 v1 rfl rfl) h1
  clear hA0 hval0
  refine (walk v0 db0 o1 s1 u1 es1 W w0 w1).mono fun e W' ⟨he, bel⟩ => ?_
  subst he
  exact ⟨_, rfl, _, _, _, [], _, [], hW', trodAll_mk1 (shut_bool Try.underlying4 _), (trodAll_cons_mk (Below.trod laidOut (by kernel_rfl) (of_decide_eq_true (by kernel_rfl)) k0 bel lt0) (trodAll_cons_mk (Below.trod laidOut (by kernel_rfl) (of_decide_eq_true (by kernel_rfl)) k1 bel lt1) trodAll_mk0)), rfl, bel.frame _, fun h => by cases h⟩
theorem over : Rows.fnExactDbPutRow.holds Try.pinned (OpenSpec.ofChange Rows.fnExactDbPutSpec) :=
  OpenClaim.holds_of_wide 12 Try.f12 rfl rfl rfl rfl rfl rfl rfl ⟨rfl, rfl, rfl, rfl, rfl⟩ rfl rfl rfl rfl rfl (by kernel_rfl) Try.func12 (by kernel_rfl)
    (of_decide_eq_true (by kernel_rfl)) (by unfold Func.isWrapper; first | (rw [if_pos (by decide +kernel)]; kernel_rfl) | (rw [if_neg (by decide +kernel)]; exact ⟨rfl, rfl⟩))
    (fun os started H enc _ => lifted os started H enc)
end Go.Proofs.Ytidcpdolcbbnjaa.lawFnExactDbPut
namespace Go.Proofs.Ytidcpdolcbbnjaa
/-- The statement. -/
theorem FnExactDbPut_proved : Rows.FnExactDbPutSaid := lawFnExactDbPut.over
#print axioms FnExactDbPut_proved
end Go.Proofs.Ytidcpdolcbbnjaa
