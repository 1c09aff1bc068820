/- FnExactPathCost: for every argument the call returns true, and the arguments read afterwards as before. No condition (mkgx.py). -/
import Derived.Test.YthcnmhjfapoaiaaCost
import Derived.Test.YthcnmhjfapoaiaaGG
import Derived.Test.YthcnmhjfapoaiaaEqI
import Derived.Test.YthcnmhjfapoaiaaRows
import Derived.Test.YthcnmhjfapoaiaaOpen
import Derived.ProofKit
import Derived.OpenShut
import Derived.ShutString
import Derived.ChangeOld
import Derived.Lib.SmallJoins
namespace Go.Proofs.Ythcnmhjfapoaiaa.lawFnExactPathCost
open Go.ChangeShapes Go.WideShapes Go.ChangeAt Go.RowKit Go.Joins
set_option maxRecDepth 100000 in
set_option maxHeartbeats 4000000 in
theorem walk (n : Int) (v : Value) (ls : List LinkD) (u : Value) (path : List Int) (w : World) (h : TriplesAt w v ls) (h2 : IntsAt w u path) :
    Calls Try.prog 4 #[.agg #[.int .i64 n, v], u] w fun e w' => e = .returned (.bool true) ∧ Below w.heap.size w w' := by
  have H := Lib.hid h; have H2 := Lib.hid h2
  obtain ⟨va, vn, vc, rfl⟩ := h.form
  obtain ⟨a, cap, b, off, rfl, hcap, hmax, _, _⟩ := h2
  unfold maxLen at hmax
  obtain ⟨m, hm⟩ : ∃ m, path.length = m := ⟨_, rfl⟩
  rw [hm] at H2 hcap ⊢
  have HMM := Lib.hid hm
  clear h hm
  by_cases hm2 : (m:Int) ≤ 1048576
  rotate_left
  · have hd : decide ((1048576:Int) < (m:Int)) = true := by simp; omega
    go_enter Try.func4, Try.ntmps4
    go_wp2_with fail
    go_ret
    exact ⟨rfl, (by with_reducible (repeat (first | (refine below_drewN ?_ _) | (refine Below.drew ?_) | (refine below_alloc ?_ (by first | omega | (simp; done) | (simp; omega)) _) | (refine Below.setCell ?_ (by first | omega | (simp; done) | (simp; omega)) _) | exact Below.refl _ _ | assumption | (refine below_call ?_ (by first | omega | (simp; done) | (simp; omega)) (by assumption)))))⟩
  have hd : decide ((1048576:Int) < (m:Int)) = false := by simp; omega
  go_enter Try.func4, Try.ntmps4
  by_cases hl : (ls.length : Int) ≤ 1048576
  rotate_left
  · have hr : leftOf (ls.length : Int) 1048576 = -1 := by unfold leftOf; rw [if_neg hl]
    have HR := Lib.hid hr
    clear hl hr
    go_wp2_with (go_at_call 14; refine (szGraph n ls _ 1048576 _ (H.out.below (by with_reducible (repeat (first | (refine below_drewN ?_ _) | (refine Below.drew ?_) | (refine below_alloc ?_ (by first | omega | (simp; done) | (simp; omega)) _) | (refine Below.setCell ?_ (by first | omega | (simp; done) | (simp; omega)) _) | exact Below.refl _ _ | assumption | (refine below_call ?_ (by first | omega | (simp; done) | (simp; omega)) (by assumption))))) (Nat.le_refl _)) (by omega) (by omega)).mono ?_; rw [HR.out]; rintro e w1 ⟨rfl, hb1⟩)
    go_ret
    exact ⟨rfl, (by with_reducible (repeat (first | (refine below_drewN ?_ _) | (refine Below.drew ?_) | (refine below_alloc ?_ (by first | omega | (simp; done) | (simp; omega)) _) | (refine Below.setCell ?_ (by first | omega | (simp; done) | (simp; omega)) _) | exact Below.refl _ _ | assumption | (refine below_call ?_ (by first | omega | (simp; done) | (simp; omega)) (by assumption)))))⟩
  have h1 : Hid (ls.length ≤ 1048576) := Lib.hid (by omega)
  have h3 : Hid (path.length ≤ 1048576) := Lib.hid (by have := HMM.out; omega)
  obtain ⟨r, hr, hr0⟩ : ∃ r, leftOf (ls.length : Int) 1048576 = r ∧ 0 ≤ r := ⟨_, rfl, by unfold leftOf; rw [if_pos hl]; omega⟩
  have HR := Lib.hid hr
  clear hl hr
  obtain ⟨q, hq⟩ : ∃ q, costD n ls path = q := ⟨_, rfl⟩
  have HQ := Lib.hid hq
  have hqq : (q != q) = false := by simp
  clear hq
  go_wp2_with fail
  refine (szGraph n ls _ 1048576 _ (H.out.below (by with_reducible (repeat (first | (refine below_drewN ?_ _) | (refine Below.drew ?_) | (refine below_alloc ?_ (by first | omega | (simp; done) | (simp; omega)) _) | (refine Below.setCell ?_ (by first | omega | (simp; done) | (simp; omega)) _) | exact Below.refl _ _ | assumption | (refine below_call ?_ (by first | omega | (simp; done) | (simp; omega)) (by assumption))))) (Nat.le_refl _)) (by omega) (by omega)).mono ?_
  rw [HR.out]
  rintro e w1 ⟨rfl, hb⟩
  have A := Lib.hid (Box.call (b := w.heap.size) (c := #[.int .i64 n, .slice va vn vc]) (t := 24) hb (by with_reducible (repeat (first | (refine box_at _ _ _ ?_; first | rfl | (simp; done)) | apply Box.alloc | apply Box.drewN | apply Box.drew))))
  obtain ⟨A_0, A_1, A_2, A_3, A_4⟩ := box2 A.out
  have BW := Lib.hid (below_call (B := w.heap.size) (a := w) (by with_reducible (repeat (first | (refine below_drewN ?_ _) | (refine Below.drew ?_) | (refine below_alloc ?_ (by first | omega | (simp; done) | (simp; omega)) _) | (refine Below.setCell ?_ (by first | omega | (simp; done) | (simp; omega)) _) | exact Below.refl _ _ | assumption | (refine below_call ?_ (by first | omega | (simp; done) | (simp; omega)) (by assumption))))) (Nat.le_refl _) hb)
  clear hb
  go_wp2_with fail
  refine (toGraph n ls _ _ (H.out.below (by have hB := BW.out; exact (by with_reducible (repeat (first | (refine below_drewN ?_ _) | (refine Below.drew ?_) | (refine below_alloc ?_ (by first | omega | (simp; done) | (simp; omega)) _) | (refine Below.setCell ?_ (by first | omega | (simp; done) | (simp; omega)) _) | exact Below.refl _ _ | assumption | (refine below_call ?_ (by first | omega | (simp; done) | (simp; omega)) (by assumption)))))) (Nat.le_refl _)) h1.out).mono ?_
  rintro e w2 ⟨v2, rfl, hO, hb⟩
  have kk := Lib.hid (below_call (B := w1.heap.size) (a := w1) (by with_reducible (repeat (first | (refine below_drewN ?_ _) | (refine Below.drew ?_) | (refine below_alloc ?_ (by first | omega | (simp; done) | (simp; omega)) _) | (refine Below.setCell ?_ (by first | omega | (simp; done) | (simp; omega)) _) | exact Below.refl _ _ | assumption | (refine below_call ?_ (by first | omega | (simp; done) | (simp; omega)) (by assumption))))) (Nat.le_refl _) hb)
  replace BW := Lib.hid (BW.out.trans (kk.out.mono BW.out.size))
  replace A := Lib.hid (A.out.below kk.out A.out.lt)
  clear A_0 A_1 A_2 A_3 A_4
  obtain ⟨A_0, A_1, A_2, A_3, A_4⟩ := box2 A.out
  have X2 := Lib.hid (own_triples hO)
  obtain ⟨a2, c2, rfl⟩ := own_slice hO.1
  clear hO hb kk
  go_wp2_with fail
  refine (toIntS path _ _ (H2.out.below (by have hB := BW.out; exact (by with_reducible (repeat (first | (refine below_drewN ?_ _) | (refine Below.drew ?_) | (refine below_alloc ?_ (by first | omega | (simp; done) | (simp; omega)) _) | (refine Below.setCell ?_ (by first | omega | (simp; done) | (simp; omega)) _) | exact Below.refl _ _ | assumption | (refine below_call ?_ (by first | omega | (simp; done) | (simp; omega)) (by assumption)))))) (Nat.le_refl _)) h3.out).mono ?_
  rintro e w3 ⟨v3, rfl, hO, hb⟩
  have kk := Lib.hid (below_call (B := w2.heap.size) (a := w2) (by with_reducible (repeat (first | (refine below_drewN ?_ _) | (refine Below.drew ?_) | (refine below_alloc ?_ (by first | omega | (simp; done) | (simp; omega)) _) | (refine Below.setCell ?_ (by first | omega | (simp; done) | (simp; omega)) _) | exact Below.refl _ _ | assumption | (refine below_call ?_ (by first | omega | (simp; done) | (simp; omega)) (by assumption))))) (Nat.le_refl _) hb)
  replace BW := Lib.hid (BW.out.trans (kk.out.mono BW.out.size))
  replace A := Lib.hid (A.out.below kk.out A.out.lt)
  clear A_0 A_1 A_2 A_3 A_4
  obtain ⟨A_0, A_1, A_2, A_3, A_4⟩ := box2 A.out
  replace X2 := Lib.hid (X2.out.below kk.out (Nat.le_refl _))
  have X3 := Lib.hid (own_ints hO)
  obtain ⟨a3, c3, rfl⟩ := own_slice hO.1
  clear hO hb kk
  go_wp2_with fail
  refine (sPathCost n ls path _ _ _ (X2.out.below (by with_reducible (repeat (first | exact Below.refl _ _ | (refine below_drewN ?_ _) | (refine Below.drew ?_) | (refine below_alloc ?_ (by first | omega | (simp; done) | (simp; omega)) _)))) (Nat.le_refl _)) (X3.out.below (by with_reducible (repeat (first | exact Below.refl _ _ | (refine below_drewN ?_ _) | (refine Below.drew ?_) | (refine below_alloc ?_ (by first | omega | (simp; done) | (simp; omega)) _)))) (Nat.le_refl _))).mono ?_
  rw [HQ.out]
  rintro e w4 ⟨rfl, hb⟩
  have kk := Lib.hid (below_call (B := w3.heap.size) (a := w3) (by with_reducible (repeat (first | (refine below_drewN ?_ _) | (refine Below.drew ?_) | (refine below_alloc ?_ (by first | omega | (simp; done) | (simp; omega)) _) | (refine Below.setCell ?_ (by first | omega | (simp; done) | (simp; omega)) _) | exact Below.refl _ _ | assumption | (refine below_call ?_ (by first | omega | (simp; done) | (simp; omega)) (by assumption))))) (Nat.le_refl _) hb)
  replace BW := Lib.hid (BW.out.trans (kk.out.mono BW.out.size))
  replace A := Lib.hid (A.out.below kk.out A.out.lt)
  clear A_0 A_1 A_2 A_3 A_4
  obtain ⟨A_0, A_1, A_2, A_3, A_4⟩ := box2 A.out
  replace X2 := Lib.hid (X2.out.below kk.out (Nat.le_refl _))
  replace X3 := Lib.hid (X3.out.below kk.out (Nat.le_refl _))
  clear hb kk
  go_wp2_with fail
  refine (toGraph n ls _ _ (H.out.below (by have hB := BW.out; exact (by with_reducible (repeat (first | (refine below_drewN ?_ _) | (refine Below.drew ?_) | (refine below_alloc ?_ (by first | omega | (simp; done) | (simp; omega)) _) | (refine Below.setCell ?_ (by first | omega | (simp; done) | (simp; omega)) _) | exact Below.refl _ _ | assumption | (refine below_call ?_ (by first | omega | (simp; done) | (simp; omega)) (by assumption)))))) (Nat.le_refl _)) h1.out).mono ?_
  rintro e w5 ⟨v5, rfl, hO, hb⟩
  have kk := Lib.hid (below_call (B := w4.heap.size) (a := w4) (by with_reducible (repeat (first | (refine below_drewN ?_ _) | (refine Below.drew ?_) | (refine below_alloc ?_ (by first | omega | (simp; done) | (simp; omega)) _) | (refine Below.setCell ?_ (by first | omega | (simp; done) | (simp; omega)) _) | exact Below.refl _ _ | assumption | (refine below_call ?_ (by first | omega | (simp; done) | (simp; omega)) (by assumption))))) (Nat.le_refl _) hb)
  replace BW := Lib.hid (BW.out.trans (kk.out.mono BW.out.size))
  replace A := Lib.hid (A.out.below kk.out A.out.lt)
  clear A_0 A_1 A_2 A_3 A_4
  obtain ⟨A_0, A_1, A_2, A_3, A_4⟩ := box2 A.out
  have X5 := Lib.hid (own_triples hO)
  obtain ⟨a5, c5, rfl⟩ := own_slice hO.1
  clear hO hb kk
  go_wp2_with fail
  refine (toIntS path _ _ (H2.out.below (by have hB := BW.out; exact (by with_reducible (repeat (first | (refine below_drewN ?_ _) | (refine Below.drew ?_) | (refine below_alloc ?_ (by first | omega | (simp; done) | (simp; omega)) _) | (refine Below.setCell ?_ (by first | omega | (simp; done) | (simp; omega)) _) | exact Below.refl _ _ | assumption | (refine below_call ?_ (by first | omega | (simp; done) | (simp; omega)) (by assumption)))))) (Nat.le_refl _)) h3.out).mono ?_
  rintro e w6 ⟨v6, rfl, hO, hb⟩
  have kk := Lib.hid (below_call (B := w5.heap.size) (a := w5) (by with_reducible (repeat (first | (refine below_drewN ?_ _) | (refine Below.drew ?_) | (refine below_alloc ?_ (by first | omega | (simp; done) | (simp; omega)) _) | (refine Below.setCell ?_ (by first | omega | (simp; done) | (simp; omega)) _) | exact Below.refl _ _ | assumption | (refine below_call ?_ (by first | omega | (simp; done) | (simp; omega)) (by assumption))))) (Nat.le_refl _) hb)
  replace BW := Lib.hid (BW.out.trans (kk.out.mono BW.out.size))
  replace A := Lib.hid (A.out.below kk.out A.out.lt)
  clear A_0 A_1 A_2 A_3 A_4
  obtain ⟨A_0, A_1, A_2, A_3, A_4⟩ := box2 A.out
  replace X5 := Lib.hid (X5.out.below kk.out (Nat.le_refl _))
  have C := Lib.hid (Box.call (b := w5.heap.size) (c := #[.int .i64 n, .slice a5 ls.length c5]) (t := 30) hb (by with_reducible (repeat (first | (refine box_at _ _ _ ?_; first | rfl | (simp; done)) | apply Box.alloc | apply Box.drewN | apply Box.drew))))
  obtain ⟨C_0, C_1, C_2, C_3, C_4⟩ := box2 C.out
  have X6 := Lib.hid (own_ints hO)
  obtain ⟨a6, c6, rfl⟩ := own_slice hO.1
  clear hO hb kk
  go_wp2_with fail
  refine (iPathCost n ls path _ _ _ (X5.out.below (by with_reducible (repeat (first | exact Below.refl _ _ | (refine below_drewN ?_ _) | (refine Below.drew ?_) | (refine below_alloc ?_ (by first | omega | (simp; done) | (simp; omega)) _)))) (Nat.le_refl _)) (X6.out.below (by with_reducible (repeat (first | exact Below.refl _ _ | (refine below_drewN ?_ _) | (refine Below.drew ?_) | (refine below_alloc ?_ (by first | omega | (simp; done) | (simp; omega)) _)))) (Nat.le_refl _))).mono ?_
  rw [HQ.out]
  rintro e w7 ⟨rfl, hb⟩
  have kk := Lib.hid (below_call (B := w6.heap.size) (a := w6) (by with_reducible (repeat (first | (refine below_drewN ?_ _) | (refine Below.drew ?_) | (refine below_alloc ?_ (by first | omega | (simp; done) | (simp; omega)) _) | (refine Below.setCell ?_ (by first | omega | (simp; done) | (simp; omega)) _) | exact Below.refl _ _ | assumption | (refine below_call ?_ (by first | omega | (simp; done) | (simp; omega)) (by assumption))))) (Nat.le_refl _) hb)
  replace BW := Lib.hid (BW.out.trans (kk.out.mono BW.out.size))
  replace A := Lib.hid (A.out.below kk.out A.out.lt)
  clear A_0 A_1 A_2 A_3 A_4
  obtain ⟨A_0, A_1, A_2, A_3, A_4⟩ := box2 A.out
  replace X5 := Lib.hid (X5.out.below kk.out (Nat.le_refl _))
  replace C := Lib.hid (C.out.below kk.out C.out.lt)
  clear C_0 C_1 C_2 C_3 C_4
  obtain ⟨C_0, C_1, C_2, C_3, C_4⟩ := box2 C.out
  replace X6 := Lib.hid (X6.out.below kk.out (Nat.le_refl _))
  clear hb kk
  go_wp2_with fail
  have BWD := Lib.hid BW.out.drew
  go_region_with (first | (go_at_call 16; refine (toGraph n ls _ _ (H.out.below BWD.out (Nat.le_refl _)) h1.out).mono ?_; rintro e w8 ⟨v8, rfl, hO, hb⟩; have kk := Lib.hid (below_call (B := w7.heap.size) (a := w7) (by with_reducible (repeat (first | (refine below_drewN ?_ _) | (refine Below.drew ?_) | (refine below_alloc ?_ (by first | omega | (simp; done) | (simp; omega)) _) | (refine Below.setCell ?_ (by first | omega | (simp; done) | (simp; omega)) _) | exact Below.refl _ _ | assumption | (refine below_call ?_ (by first | omega | (simp; done) | (simp; omega)) (by assumption))))) (Nat.le_refl _) hb); replace BW := Lib.hid (BW.out.trans (kk.out.mono BW.out.size)); replace A := Lib.hid (A.out.below kk.out A.out.lt); clear A_0 A_1 A_2 A_3 A_4; obtain ⟨A_0, A_1, A_2, A_3, A_4⟩ := box2 A.out; replace X5 := Lib.hid (X5.out.below kk.out (Nat.le_refl _)); replace C := Lib.hid (C.out.below kk.out C.out.lt); clear C_0 C_1 C_2 C_3 C_4; obtain ⟨C_0, C_1, C_2, C_3, C_4⟩ := box2 C.out; replace X6 := Lib.hid (X6.out.below kk.out (Nat.le_refl _)); have X8 := Lib.hid (own_triples hO); obtain ⟨a8, c8, rfl⟩ := own_slice hO.1; clear hO; clear hb kk) | (go_at_call 19; refine (eqGraph n n ls ls _ _ _ (X5.out.below (by with_reducible (repeat (first | exact Below.refl _ _ | (refine below_drewN ?_ _) | (refine Below.drew ?_) | (refine below_alloc ?_ (by first | omega | (simp; done) | (simp; omega)) _)))) (Nat.le_refl _)) (X8.out.below (by with_reducible (repeat (first | exact Below.refl _ _ | (refine below_drewN ?_ _) | (refine Below.drew ?_) | (refine below_alloc ?_ (by first | omega | (simp; done) | (simp; omega)) _)))) (Nat.le_refl _))).mono ?_; rw [eqB_self]; rintro e w9 ⟨rfl, hb⟩; have kk := Lib.hid (below_call (B := w8.heap.size) (a := w8) (by with_reducible (repeat (first | (refine below_drewN ?_ _) | (refine Below.drew ?_) | (refine below_alloc ?_ (by first | omega | (simp; done) | (simp; omega)) _) | (refine Below.setCell ?_ (by first | omega | (simp; done) | (simp; omega)) _) | exact Below.refl _ _ | assumption | (refine below_call ?_ (by first | omega | (simp; done) | (simp; omega)) (by assumption))))) (Nat.le_refl _) hb); replace BW := Lib.hid (BW.out.trans (kk.out.mono BW.out.size)); replace A := Lib.hid (A.out.below kk.out A.out.lt); clear A_0 A_1 A_2 A_3 A_4; obtain ⟨A_0, A_1, A_2, A_3, A_4⟩ := box2 A.out; replace X5 := Lib.hid (X5.out.below kk.out (Nat.le_refl _)); replace C := Lib.hid (C.out.below kk.out C.out.lt); clear C_0 C_1 C_2 C_3 C_4; obtain ⟨C_0, C_1, C_2, C_3, C_4⟩ := box2 C.out; replace X6 := Lib.hid (X6.out.below kk.out (Nat.le_refl _)); replace X8 := Lib.hid (X8.out.below kk.out (Nat.le_refl _)); clear hb kk))
  all_goals
    have F := (And.intro BW.out (And.intro A.out (And.intro X5.out (And.intro C.out (And.intro X6.out X8.out)))))
    clear BW A A_0 A_1 A_2 A_3 A_4 X5 C C_0 C_1 C_2 C_3 C_4 X6 X8 BWD
    revert F
    revert w8 a8 c8 w9
    refine ?K9
  intro w8 a8 c8 w9 F
  obtain ⟨FBW, FA, FX5, FC, FX6, FX8⟩ := F
  have BW := Lib.hid FBW
  have A := Lib.hid FA
  obtain ⟨A_0, A_1, A_2, A_3, A_4⟩ := box2 A.out
  have X5 := Lib.hid FX5
  have C := Lib.hid FC
  obtain ⟨C_0, C_1, C_2, C_3, C_4⟩ := box2 C.out
  have X6 := Lib.hid FX6
  have X8 := Lib.hid FX8
  clear FBW FA FX5 FC FX6 FX8
  go_wp2_with fail
  refine (toIntS path _ _ (H2.out.below (by have hB := BW.out; exact (by with_reducible (repeat (first | (refine below_drewN ?_ _) | (refine Below.drew ?_) | (refine below_alloc ?_ (by first | omega | (simp; done) | (simp; omega)) _) | (refine Below.setCell ?_ (by first | omega | (simp; done) | (simp; omega)) _) | exact Below.refl _ _ | assumption | (refine below_call ?_ (by first | omega | (simp; done) | (simp; omega)) (by assumption)))))) (Nat.le_refl _)) h3.out).mono ?_
  rintro e w10 ⟨v10, rfl, hO, hb⟩
  have kk := Lib.hid (below_call (B := w9.heap.size) (a := w9) (by with_reducible (repeat (first | (refine below_drewN ?_ _) | (refine Below.drew ?_) | (refine below_alloc ?_ (by first | omega | (simp; done) | (simp; omega)) _) | (refine Below.setCell ?_ (by first | omega | (simp; done) | (simp; omega)) _) | exact Below.refl _ _ | assumption | (refine below_call ?_ (by first | omega | (simp; done) | (simp; omega)) (by assumption))))) (Nat.le_refl _) hb)
  replace BW := Lib.hid (BW.out.trans (kk.out.mono BW.out.size))
  replace A := Lib.hid (A.out.below kk.out A.out.lt)
  clear A_0 A_1 A_2 A_3 A_4
  obtain ⟨A_0, A_1, A_2, A_3, A_4⟩ := box2 A.out
  replace X6 := Lib.hid (X6.out.below kk.out (Nat.le_refl _))
  have X10 := Lib.hid (own_ints hO)
  obtain ⟨a10, c10, rfl⟩ := own_slice hO.1
  clear hO hb kk
  go_wp2_with fail
  refine (eqIntS path path _ _ _ (X6.out.below (by with_reducible (repeat (first | exact Below.refl _ _ | (refine below_drewN ?_ _) | (refine Below.drew ?_) | (refine below_alloc ?_ (by first | omega | (simp; done) | (simp; omega)) _)))) (Nat.le_refl _)) (X10.out.below (by with_reducible (repeat (first | exact Below.refl _ _ | (refine below_drewN ?_ _) | (refine Below.drew ?_) | (refine below_alloc ?_ (by first | omega | (simp; done) | (simp; omega)) _)))) (Nat.le_refl _))).mono ?_
  rw [eqB_self]
  rintro e w11 ⟨rfl, hb⟩
  have kk := Lib.hid (below_call (B := w10.heap.size) (a := w10) (by with_reducible (repeat (first | (refine below_drewN ?_ _) | (refine Below.drew ?_) | (refine below_alloc ?_ (by first | omega | (simp; done) | (simp; omega)) _) | (refine Below.setCell ?_ (by first | omega | (simp; done) | (simp; omega)) _) | exact Below.refl _ _ | assumption | (refine below_call ?_ (by first | omega | (simp; done) | (simp; omega)) (by assumption))))) (Nat.le_refl _) hb)
  replace BW := Lib.hid (BW.out.trans (kk.out.mono BW.out.size))
  replace A := Lib.hid (A.out.below kk.out A.out.lt)
  clear A_0 A_1 A_2 A_3 A_4
  obtain ⟨A_0, A_1, A_2, A_3, A_4⟩ := box2 A.out
  replace X6 := Lib.hid (X6.out.below kk.out (Nat.le_refl _))
  replace X10 := Lib.hid (X10.out.below kk.out (Nat.le_refl _))
  clear hb kk
  go_wp2_with fail
  go_ret
  exact ⟨rfl, BW.out⟩
theorem own : ownKnob Try.prog.godebug = none := by kernel_rfl
theorem laidOut : laidOutB Try.prog = true := by kernel_rfl
set_option maxRecDepth 100000 in
theorem lifted (os : Os) (started : os.Started) (H : Type) (enc : TypeId × Value → H) :
    ReturnsInHanded {} Try.checked os 4 .any (Rows.fnExactPathCostSpec.pre6 enc Try.prog Try.f4 Rows.fnExactPathCostRow.domain false) (Rows.fnExactPathCostSpec.post enc Try.prog Try.f4 false true false false) := by
  refine returnsInHanded_of_change (C := Try.checked) own started (by kernel_rfl) Try.func4
    (ChangeSpec.witness6 (enc := enc) (C := Try.checked) false ⟨#[], #[.agg #[.int .i64 0, .slice none 0 0], .slice none 0 0], []⟩ 8 (by kernel_rfl) (by kernel_rfl) (by kernel_rfl) (by kernel_rfl)) ?_
  intro W base args ds gs before hval0 hW hcnd _
  have hval : ∀ (j : Nat) t v, Try.f4.params[j]? = some t → args[j]? = some v → Value.okWide Try.prog W .any base t v := hval0
  have hW' := hW
  obtain ⟨p, q, hA0, hV, rfl, hfz, hnd⟩ := hW
  have hA : DataW.TrodAll enc Try.prog W 0 (fun _ => true) true Try.f4.params.toList args.toList ds p := hA0
  rw [Try.params4] at hA hval
  obtain ⟨v0, vs0, d0, ds0, p0, q0, hargs, rfl, rfl, h0, r0⟩ := trodAll_cons hA
  obtain ⟨v1, vs1, d1, ds1, p1, q1, rfl, rfl, rfl, h1, r1⟩ := trodAll_cons r0
  obtain ⟨rfl, rfl, rfl⟩ := trodAll_nil r1
  obtain rfl : args = #[v0, v1] := by cases args; simp_all
  obtain ⟨rfl, rfl⟩ := trodVars_none hV
  have k0 := h0
  have lt0 : ∀ x ∈ p0, x.block < W.heap.size := by obtain ⟨m, hm⟩ := k0; exact DataW.trod_lt m _ _ _ hm
  obtain ⟨n0, u0, ls0, rfl, w0⟩ := graph_of_trod (G := 24) (K := 92) Try.underlying24 (by kernel_rfl) (by kernel_rfl) Try.underlying3 Try.underlying22 Try.underlying92 (by kernel_rfl) (by kernel_rfl) Try.underlying3 Try.underlying3 Try.underlying3 (hval 0 24 v0 rfl rfl) h0
  have k1 := h1
  have lt1 : ∀ x ∈ p1, x.block < W.heap.size := by obtain ⟨m, hm⟩ := k1; exact DataW.trod_lt m _ _ _ hm
  obtain ⟨xs1, w1⟩ := intsAt_of_trod (T := 25) (E := 3) Try.underlying25 Try.underlying3 (by kernel_rfl) (hval 1 25 v1 rfl rfl) h1
  clear hA0 hval0
  refine (walk n0 u0 ls0 v1 xs1 W w0 w1).mono fun e W' ⟨he, bel⟩ => ?_
  subst he
  exact ⟨_, rfl, _, _, _, [], _, [], hW', trodAll_mk1 (shut_bool Try.underlying4 _), (trodAll_cons_mk (Below.trod laidOut (by kernel_rfl) (of_decide_eq_true (by kernel_rfl)) k0 bel lt0) (trodAll_cons_mk (Below.trod laidOut (by kernel_rfl) (of_decide_eq_true (by kernel_rfl)) k1 bel lt1) trodAll_mk0)), rfl, bel.frame _, fun h => by cases h⟩
theorem over : Rows.fnExactPathCostRow.holds Try.pinned (OpenSpec.ofChange Rows.fnExactPathCostSpec) :=
  OpenClaim.holds_of_wide 4 Try.f4 rfl rfl rfl rfl rfl rfl rfl ⟨rfl, rfl, rfl, rfl, rfl⟩ rfl rfl rfl rfl rfl (by kernel_rfl) Try.func4 (by kernel_rfl)
    (of_decide_eq_true (by kernel_rfl)) (by unfold Func.isWrapper; first | (rw [if_pos (by decide +kernel)]; kernel_rfl) | (rw [if_neg (by decide +kernel)]; exact ⟨rfl, rfl⟩))
    (fun os started H enc _ => lifted os started H enc)
end Go.Proofs.Ythcnmhjfapoaiaa.lawFnExactPathCost
namespace Go.Proofs.Ythcnmhjfapoaiaa
/-- The statement. -/
theorem FnExactPathCost_proved : Rows.FnExactPathCostSaid := lawFnExactPathCost.over
#print axioms FnExactPathCost_proved
end Go.Proofs.Ythcnmhjfapoaiaa
