/- FnExactDbGraph: for every argument the call returns true, and the arguments read afterwards as before. No condition (mkgw.py). -/
import Derived.Test.YtnnkdoomjkccgaaDbG
import Derived.Test.YtnnkdoomjkccgaaMarkA
import Derived.Test.YtnnkdoomjkccgaaEq
import Derived.Test.YtnnkdoomjkccgaaMake2
import Derived.Test.YtnnkdoomjkccgaaRows
import Derived.Test.YtnnkdoomjkccgaaOpen
import Derived.ProofKit
import Derived.OpenShut
import Derived.ShutString
import Derived.ChangeOld
import Derived.Lib.SmallJoins
namespace Go.Proofs.Ytnnkdoomjkccgaa.lawFnExactDbGraph
set_option linter.unusedSimpArgs false
set_option linter.unusedVariables false
open Go.ChangeShapes Go.WideShapes Go.ChangeAt Go.RowKit Go.Joins
theorem endK_eqG : ∀ (db : List LsaD) (k : Int), endK k db = k + 2 * db.length + 2 * totalL db
  | [], k => by simp [endK, totalL]
  | d :: db, k => by simp only [endK, endK_eqG db, totalL, List.length_cons]; push_cast; omega
theorem dg_at {w w' : World} {n x : Int} {db : List LsaD} {O : List LinkD} {q : Bool} {e : Ending} (hd : dgO n db = ((x, O), q)) (h : DgPost w n db e w') : ∃ u, e = .returned (.tuple #[.agg #[.int .i64 x, u], .bool q]) ∧ OwnR w' w.heap.size w'.heap.size 46 3 u O.length (cells3 O) ∧ Below w.heap.size w w' := by
  rw [DgPost, hd] at h
  exact h
theorem dg_len {n x : Int} {db : List LsaD} {O : List LinkD} {q : Bool} (hd : dgO n db = ((x, O), q)) : O.length ≤ 14 := by
  rcases dgO_cases n db with h | ⟨h, _, _, _, hl, _⟩
  · rw [hd] at h
    injection h with h1 _
    injection h1 with _ h2
    rw [h2]; simp
  · rw [hd] at h
    injection h with h1 _
    injection h1 with _ h2
    rw [h2]; exact hl
set_option maxRecDepth 100000 in
set_option maxHeartbeats 8000000 in
theorem walk (n : Int) (v : Value) (db : List LsaD) (w : World) (h : LsasAt w v db) :
    Calls Try.prog 3 #[.int .i64 n, v] w fun e w' => e = .returned (.bool true) ∧ Below w.heap.size w w' := by
  have H := Lib.hid h
  obtain ⟨va, vn, vc, rfl⟩ := h.form
  clear h
  by_cases hl : (db.length : Int) + totalL db ≤ 1048576
  rotate_left
  · have hr : leftOf ((db.length : Int) + totalL db) 1048576 = -1 := by unfold leftOf; rw [if_neg hl]
    have HR := Lib.hid hr
    clear hl hr
    go_enter Try.func3, Try.ntmps3
    go_wp2_with fail
    refine (szLsaS db _ 1048576 _ H.out (by omega) (by omega)).mono ?_
    rw [HR.out]
    rintro e w1 ⟨rfl, hb1⟩
    have hB := hb1
    go_wp2_with fail
    go_ret
    exact ⟨rfl, hB⟩
  have z1 : Hid (db.length ≤ 1048576) := Lib.hid (by omega)
  have z2 : Hid (totalL db ≤ 1048576) := Lib.hid (by omega)
  obtain ⟨r, hr, hr0⟩ : ∃ r, leftOf ((db.length : Int) + totalL db) 1048576 = r ∧ 0 ≤ r := ⟨_, rfl, by unfold leftOf; rw [if_pos hl]; omega⟩
  have HR := Lib.hid hr
  clear hl hr
  obtain ⟨⟨⟨gn, gl⟩, gq⟩, hg⟩ : ∃ p, dgO n db = p := ⟨_, rfl⟩
  have hgl := dg_len hg
  have HD := Lib.hid hg
  have hk0 : 0 ≤ endK 1 db ∧ endK 1 db ≤ 10000000 := by have := z1.out; have := z2.out; rw [endK_eqG]; omega
  obtain ⟨k1, hk1⟩ : ∃ k, endK 1 db = k := ⟨_, rfl⟩
  rw [hk1] at hk0
  obtain ⟨hk10, hk11⟩ := hk0
  obtain ⟨k3, hk3⟩ : ∃ k, 1 + 3 * (gl.length : Int) = k := ⟨_, rfl⟩
  have hk30 : 0 ≤ k3 := by omega
  have HK1 := Lib.hid hk1; have HK3 := Lib.hid hk3
  have hqq : (gq != gq) = false := by simp
  have hkk : (k3 != k3) = false := by simp
  clear hg hk1 hk3
  go_enter Try.func3, Try.ntmps3
  go_wp2_with fail
  refine (szLsaS db _ 1048576 _ H.out (by omega) (by omega)).mono ?_
  rw [HR.out]
  rintro e w1 ⟨rfl, hb1⟩
  have BW := Lib.hid hb1
  have s1 := hb1.size
  clear hb1
  go_wp2_with fail
  refine (toLsaS db _ _ (H.out.below (by have hB := BW.out; exact (by with_reducible (repeat (first | (refine below_drewN ?_ _) | (refine Below.drew ?_) | (refine below_alloc ?_ (by first | omega | (simp; done) | (simp; omega)) _) | (refine Below.setCell ?_ (by first | omega | (simp; done) | (simp; omega)) _) | exact Below.refl _ _ | assumption | (refine below_call ?_ (by first | omega | (simp; done) | (simp; omega)) (by assumption)))))) (Nat.le_refl _)) z1.out z2.out).mono ?_
  rintro e w2 ⟨v2, us2, rfl, hO, hb⟩
  have kk := Lib.hid (below_call (B := w1.heap.size) (a := w1) (by with_reducible (repeat (first | (refine below_drewN ?_ _) | (refine Below.drew ?_) | (refine below_alloc ?_ (by first | omega | (simp; done) | (simp; omega)) _) | (refine Below.setCell ?_ (by first | omega | (simp; done) | (simp; omega)) _) | exact Below.refl _ _ | assumption | (refine below_call ?_ (by first | omega | (simp; done) | (simp; omega)) (by assumption))))) (Nat.le_refl _) hb)
  replace BW := Lib.hid (BW.out.trans (kk.out.mono BW.out.size))
  have s2 := kk.out.size
  try rw [World.size_alloc] at hO
  have X3 := Lib.hid hO.at_
  obtain ⟨a2, n2, c2, rfl⟩ := X3.out.form
  clear hO
  clear hb kk
  go_wp2_with fail
  refine ((sDbGraph n db _ _ X3.out).mono fun _ _ h => dg_at HD.out h).mono ?_
  rintro e w3 ⟨v3, rfl, hO, hb⟩
  have kk := Lib.hid (below_call (B := w2.heap.size) (a := w2) (by with_reducible (repeat (first | (refine below_drewN ?_ _) | (refine Below.drew ?_) | (refine below_alloc ?_ (by first | omega | (simp; done) | (simp; omega)) _) | (refine Below.setCell ?_ (by first | omega | (simp; done) | (simp; omega)) _) | exact Below.refl _ _ | assumption | (refine below_call ?_ (by first | omega | (simp; done) | (simp; omega)) (by assumption))))) (Nat.le_refl _) hb)
  replace BW := Lib.hid (BW.out.trans (kk.out.mono BW.out.size))
  replace X3 := Lib.hid (X3.out.below kk.out (Nat.le_refl _))
  have s3 := kk.out.size
  try rw [World.size_alloc] at hO
  have O4 := Lib.hid hO
  obtain ⟨a3, c3, rfl⟩ := own_slice hO.1
  clear hO
  clear hb kk
  clear X3
  go_wp2_with fail
  refine (toLsaS db _ _ (H.out.below (by have hB := BW.out; exact (by with_reducible (repeat (first | (refine below_drewN ?_ _) | (refine Below.drew ?_) | (refine below_alloc ?_ (by first | omega | (simp; done) | (simp; omega)) _) | (refine Below.setCell ?_ (by first | omega | (simp; done) | (simp; omega)) _) | exact Below.refl _ _ | assumption | (refine below_call ?_ (by first | omega | (simp; done) | (simp; omega)) (by assumption)))))) (Nat.le_refl _)) z1.out z2.out).mono ?_
  rintro e w4 ⟨v4, us4, rfl, hO, hb⟩
  have kk := Lib.hid (below_call (B := w3.heap.size) (a := w3) (by with_reducible (repeat (first | (refine below_drewN ?_ _) | (refine Below.drew ?_) | (refine below_alloc ?_ (by first | omega | (simp; done) | (simp; omega)) _) | (refine Below.setCell ?_ (by first | omega | (simp; done) | (simp; omega)) _) | exact Below.refl _ _ | assumption | (refine below_call ?_ (by first | omega | (simp; done) | (simp; omega)) (by assumption))))) (Nat.le_refl _) hb)
  replace BW := Lib.hid (BW.out.trans (kk.out.mono BW.out.size))
  replace O4 := Lib.hid (O4.out.below kk.out (by omega))
  have s4 := kk.out.size
  have D := Lib.hid (Box.call (b := w3.heap.size) (c := #[.int .i64 gn, .slice a3 gl.length c3]) (t := 26) hb (by with_reducible (repeat (first | (refine box_at _ _ _ ?_; first | rfl | (simp; done)) | apply Box.alloc | apply Box.drewN | apply Box.drew))))
  obtain ⟨D_0, D_1, D_2, D_3, D_4⟩ := box2 D.out
  have sD := D.out.lt
  try rw [World.size_alloc] at hO
  have L6 := Lib.hid hO
  obtain ⟨a4, n4, c4, rfl⟩ := L6.out.at_.form
  clear hO
  clear hb kk
  go_wp2_with fail
  refine ((iDbGraph n db _ _ L6.out.at_).mono fun _ _ h => dg_at HD.out h).mono ?_
  rintro e w5 ⟨v5, rfl, hO, hb⟩
  have kk := Lib.hid (below_call (B := w4.heap.size) (a := w4) (by with_reducible (repeat (first | (refine below_drewN ?_ _) | (refine Below.drew ?_) | (refine below_alloc ?_ (by first | omega | (simp; done) | (simp; omega)) _) | (refine Below.setCell ?_ (by first | omega | (simp; done) | (simp; omega)) _) | exact Below.refl _ _ | assumption | (refine below_call ?_ (by first | omega | (simp; done) | (simp; omega)) (by assumption))))) (Nat.le_refl _) hb)
  replace BW := Lib.hid (BW.out.trans (kk.out.mono BW.out.size))
  replace O4 := Lib.hid (O4.out.below kk.out (by omega))
  replace L6 := Lib.hid (L6.out.below kk.out (by omega))
  replace D := Lib.hid (D.out.below kk.out D.out.lt)
  clear D_0 D_1 D_2 D_3 D_4
  obtain ⟨D_0, D_1, D_2, D_3, D_4⟩ := box2 D.out
  have s5 := kk.out.size
  try rw [World.size_alloc] at hO
  have O7 := Lib.hid hO
  obtain ⟨a5, c5, rfl⟩ := own_slice hO.1
  clear hO
  clear hb kk
  go_wp2_with fail
  refine (eqGraph gn gn gl gl _ _ _ ((own_triples O7.out).below (by with_reducible (repeat (first | exact Below.refl _ _ | (refine below_drewN ?_ _) | (refine Below.drew ?_) | (refine below_alloc ?_ (by first | omega | (simp; done) | (simp; omega)) _)))) (Nat.le_refl _)) ((own_triples O4.out).below (by with_reducible (repeat (first | exact Below.refl _ _ | (refine below_drewN ?_ _) | (refine Below.drew ?_) | (refine below_alloc ?_ (by first | omega | (simp; done) | (simp; omega)) _)))) (Nat.le_refl _))).mono ?_
  rw [eqB_self]
  rintro e w6 ⟨rfl, hb⟩
  have kk := Lib.hid (below_call (B := w5.heap.size) (a := w5) (by with_reducible (repeat (first | (refine below_drewN ?_ _) | (refine Below.drew ?_) | (refine below_alloc ?_ (by first | omega | (simp; done) | (simp; omega)) _) | (refine Below.setCell ?_ (by first | omega | (simp; done) | (simp; omega)) _) | exact Below.refl _ _ | assumption | (refine below_call ?_ (by first | omega | (simp; done) | (simp; omega)) (by assumption))))) (Nat.le_refl _) hb)
  replace BW := Lib.hid (BW.out.trans (kk.out.mono BW.out.size))
  replace O4 := Lib.hid (O4.out.below kk.out (by omega))
  replace L6 := Lib.hid (L6.out.below kk.out (by omega))
  replace D := Lib.hid (D.out.below kk.out D.out.lt)
  clear D_0 D_1 D_2 D_3 D_4
  obtain ⟨D_0, D_1, D_2, D_3, D_4⟩ := box2 D.out
  replace O7 := Lib.hid (O7.out.below kk.out (by omega))
  have s6 := kk.out.size
  have C := Lib.hid (Box.call (b := w5.heap.size) (c := #[.int .i64 gn, .slice a5 gl.length c5]) (t := 26) hb (by with_reducible (repeat (first | (refine box_at _ _ _ ?_; first | rfl | (simp; done)) | apply Box.alloc | apply Box.drewN | apply Box.drew))))
  obtain ⟨C_0, C_1, C_2, C_3, C_4⟩ := box2 C.out
  have sC := C.out.lt
  clear hb kk
  go_wp2_with fail
  refine (toLsaS db _ _ (H.out.below (by have hB := BW.out; exact (by with_reducible (repeat (first | (refine below_drewN ?_ _) | (refine Below.drew ?_) | (refine below_alloc ?_ (by first | omega | (simp; done) | (simp; omega)) _) | (refine Below.setCell ?_ (by first | omega | (simp; done) | (simp; omega)) _) | exact Below.refl _ _ | assumption | (refine below_call ?_ (by first | omega | (simp; done) | (simp; omega)) (by assumption)))))) (Nat.le_refl _)) z1.out z2.out).mono ?_
  rintro e w7 ⟨v7, us7, rfl, hO, hb⟩
  have kk := Lib.hid (below_call (B := w6.heap.size) (a := w6) (by with_reducible (repeat (first | (refine below_drewN ?_ _) | (refine Below.drew ?_) | (refine below_alloc ?_ (by first | omega | (simp; done) | (simp; omega)) _) | (refine Below.setCell ?_ (by first | omega | (simp; done) | (simp; omega)) _) | exact Below.refl _ _ | assumption | (refine below_call ?_ (by first | omega | (simp; done) | (simp; omega)) (by assumption))))) (Nat.le_refl _) hb)
  replace BW := Lib.hid (BW.out.trans (kk.out.mono BW.out.size))
  replace O4 := Lib.hid (O4.out.below kk.out (by omega))
  replace L6 := Lib.hid (L6.out.below kk.out (by omega))
  replace D := Lib.hid (D.out.below kk.out D.out.lt)
  clear D_0 D_1 D_2 D_3 D_4
  obtain ⟨D_0, D_1, D_2, D_3, D_4⟩ := box2 D.out
  replace O7 := Lib.hid (O7.out.below kk.out (by omega))
  replace C := Lib.hid (C.out.below kk.out C.out.lt)
  clear C_0 C_1 C_2 C_3 C_4
  obtain ⟨C_0, C_1, C_2, C_3, C_4⟩ := box2 C.out
  have s7 := kk.out.size
  try rw [World.size_alloc] at hO
  have X10 := Lib.hid hO.at_
  obtain ⟨a7, n7, c7, rfl⟩ := X10.out.form
  clear hO
  clear hb kk
  go_wp2_with fail
  refine (eqLsaS db db _ _ _ L6.out.at_ X10.out).mono ?_
  rw [eqB_self]
  rintro e w8 ⟨rfl, hb⟩
  have kk := Lib.hid (below_call (B := w7.heap.size) (a := w7) (by with_reducible (repeat (first | (refine below_drewN ?_ _) | (refine Below.drew ?_) | (refine below_alloc ?_ (by first | omega | (simp; done) | (simp; omega)) _) | (refine Below.setCell ?_ (by first | omega | (simp; done) | (simp; omega)) _) | exact Below.refl _ _ | assumption | (refine below_call ?_ (by first | omega | (simp; done) | (simp; omega)) (by assumption))))) (Nat.le_refl _) hb)
  replace BW := Lib.hid (BW.out.trans (kk.out.mono BW.out.size))
  replace O4 := Lib.hid (O4.out.below kk.out (by omega))
  replace L6 := Lib.hid (L6.out.below kk.out (by omega))
  replace D := Lib.hid (D.out.below kk.out D.out.lt)
  clear D_0 D_1 D_2 D_3 D_4
  obtain ⟨D_0, D_1, D_2, D_3, D_4⟩ := box2 D.out
  replace O7 := Lib.hid (O7.out.below kk.out (by omega))
  replace C := Lib.hid (C.out.below kk.out C.out.lt)
  clear C_0 C_1 C_2 C_3 C_4
  obtain ⟨C_0, C_1, C_2, C_3, C_4⟩ := box2 C.out
  replace X10 := Lib.hid (X10.out.below kk.out (Nat.le_refl _))
  have s8 := kk.out.size
  clear hb kk
  clear X10
  go_wp2_with fail
  refine (markLsaS_any _ _ _ db us4 1 _ L6.out (by omega) (by rw [HK1.out]; omega)).mono ?_
  unfold MarkLsPost
  rw [HK1.out]
  rintro e w9 ⟨rfl, _, hb⟩
  have hbw9 := BW.out.size
  have s9 := hb.size
  replace BW := Lib.hid (BW.out.trans (hb.below (B := w.heap.size) (by omega) hbw9))
  replace O4 := Lib.hid (O4.out.btw hb (.inl (by omega)))
  replace O7 := Lib.hid (O7.out.btw hb (.inr (by omega)))
  replace D := Lib.hid (show Box _ _ _ _ from (hb.block _ D.out.lt (.inl (by omega))).trans D.out)
  clear D_0 D_1 D_2 D_3 D_4
  obtain ⟨D_0, D_1, D_2, D_3, D_4⟩ := box2 D.out
  replace C := Lib.hid (show Box _ _ _ _ from (hb.block _ C.out.lt (.inr (by omega))).trans C.out)
  clear C_0 C_1 C_2 C_3 C_4
  obtain ⟨C_0, C_1, C_2, C_3, C_4⟩ := box2 C.out
  clear hb L6
  go_wp2_with fail
  refine (eqGraph gn gn gl gl _ _ _ ((own_triples O7.out).below (by with_reducible (repeat (first | exact Below.refl _ _ | (refine below_drewN ?_ _) | (refine Below.drew ?_) | (refine below_alloc ?_ (by first | omega | (simp; done) | (simp; omega)) _)))) (Nat.le_refl _)) ((own_triples O4.out).below (by with_reducible (repeat (first | exact Below.refl _ _ | (refine below_drewN ?_ _) | (refine Below.drew ?_) | (refine below_alloc ?_ (by first | omega | (simp; done) | (simp; omega)) _)))) (Nat.le_refl _))).mono ?_
  rw [eqB_self]
  rintro e w10 ⟨rfl, hb⟩
  have kk := Lib.hid (below_call (B := w9.heap.size) (a := w9) (by with_reducible (repeat (first | (refine below_drewN ?_ _) | (refine Below.drew ?_) | (refine below_alloc ?_ (by first | omega | (simp; done) | (simp; omega)) _) | (refine Below.setCell ?_ (by first | omega | (simp; done) | (simp; omega)) _) | exact Below.refl _ _ | assumption | (refine below_call ?_ (by first | omega | (simp; done) | (simp; omega)) (by assumption))))) (Nat.le_refl _) hb)
  replace BW := Lib.hid (BW.out.trans (kk.out.mono BW.out.size))
  replace O4 := Lib.hid (O4.out.below kk.out (by omega))
  replace D := Lib.hid (D.out.below kk.out D.out.lt)
  clear D_0 D_1 D_2 D_3 D_4
  obtain ⟨D_0, D_1, D_2, D_3, D_4⟩ := box2 D.out
  replace O7 := Lib.hid (O7.out.below kk.out (by omega))
  replace C := Lib.hid (C.out.below kk.out C.out.lt)
  clear C_0 C_1 C_2 C_3 C_4
  obtain ⟨C_0, C_1, C_2, C_3, C_4⟩ := box2 C.out
  have s10 := kk.out.size
  clear hb kk
  go_wp2_with fail
  refine (markGraph_read _ _ gn _ gl.length _ 1 _ O7.out (by omega) (by omega)).mono ?_
  rw [HK3.out]
  rintro e w11 ⟨rfl, hM, hb⟩
  have hbw11 := BW.out.size
  have s11 := hb.size
  replace BW := Lib.hid (BW.out.trans (hb.below (B := w.heap.size) (by omega) hbw11))
  replace O4 := Lib.hid (O4.out.btw hb (.inl (by omega)))
  replace D := Lib.hid (show Box _ _ _ _ from (hb.block _ D.out.lt (.inl (by omega))).trans D.out)
  clear D_0 D_1 D_2 D_3 D_4
  obtain ⟨D_0, D_1, D_2, D_3, D_4⟩ := box2 D.out
  replace C := Lib.hid (show Box _ _ _ _ from (hb.block _ C.out.lt (.inr (by omega))).trans C.out)
  clear C_0 C_1 C_2 C_3 C_4
  obtain ⟨C_0, C_1, C_2, C_3, C_4⟩ := box2 C.out
  have M := Lib.hid hM
  clear hM
  clear hb O7
  go_wp2_with fail
  refine (heldGraph_any gl.length gn _ 1 _ M.out (by omega) (by omega)).mono ?_
  rw [HK3.out]
  rintro e w12 ⟨rfl, hb⟩
  have kk := Lib.hid (below_call (B := w11.heap.size) (a := w11) (by with_reducible (repeat (first | (refine below_drewN ?_ _) | (refine Below.drew ?_) | (refine below_alloc ?_ (by first | omega | (simp; done) | (simp; omega)) _) | (refine Below.setCell ?_ (by first | omega | (simp; done) | (simp; omega)) _) | exact Below.refl _ _ | assumption | (refine below_call ?_ (by first | omega | (simp; done) | (simp; omega)) (by assumption))))) (Nat.le_refl _) hb)
  replace BW := Lib.hid (BW.out.trans (kk.out.mono BW.out.size))
  replace O4 := Lib.hid (O4.out.below kk.out (by omega))
  replace D := Lib.hid (D.out.below kk.out D.out.lt)
  clear D_0 D_1 D_2 D_3 D_4
  obtain ⟨D_0, D_1, D_2, D_3, D_4⟩ := box2 D.out
  replace C := Lib.hid (C.out.below kk.out C.out.lt)
  clear C_0 C_1 C_2 C_3 C_4
  obtain ⟨C_0, C_1, C_2, C_3, C_4⟩ := box2 C.out
  replace M := Lib.hid (M.out.below kk.out (Nat.le_refl _))
  have s12 := kk.out.size
  clear hb kk
  go_wp2_with fail
  refine (toLsaS db _ _ (H.out.below (by have hB := BW.out; exact (by with_reducible (repeat (first | (refine below_drewN ?_ _) | (refine Below.drew ?_) | (refine below_alloc ?_ (by first | omega | (simp; done) | (simp; omega)) _) | (refine Below.setCell ?_ (by first | omega | (simp; done) | (simp; omega)) _) | exact Below.refl _ _ | assumption | (refine below_call ?_ (by first | omega | (simp; done) | (simp; omega)) (by assumption)))))) (Nat.le_refl _)) z1.out z2.out).mono ?_
  rintro e w13 ⟨v13, us13, rfl, hO, hb⟩
  have kk := Lib.hid (below_call (B := w12.heap.size) (a := w12) (by with_reducible (repeat (first | (refine below_drewN ?_ _) | (refine Below.drew ?_) | (refine below_alloc ?_ (by first | omega | (simp; done) | (simp; omega)) _) | (refine Below.setCell ?_ (by first | omega | (simp; done) | (simp; omega)) _) | exact Below.refl _ _ | assumption | (refine below_call ?_ (by first | omega | (simp; done) | (simp; omega)) (by assumption))))) (Nat.le_refl _) hb)
  replace BW := Lib.hid (BW.out.trans (kk.out.mono BW.out.size))
  replace O4 := Lib.hid (O4.out.below kk.out (by omega))
  replace D := Lib.hid (D.out.below kk.out D.out.lt)
  clear D_0 D_1 D_2 D_3 D_4
  obtain ⟨D_0, D_1, D_2, D_3, D_4⟩ := box2 D.out
  replace C := Lib.hid (C.out.below kk.out C.out.lt)
  clear C_0 C_1 C_2 C_3 C_4
  obtain ⟨C_0, C_1, C_2, C_3, C_4⟩ := box2 C.out
  replace M := Lib.hid (M.out.below kk.out (Nat.le_refl _))
  have s13 := kk.out.size
  try rw [World.size_alloc] at hO
  have X18 := Lib.hid hO.at_
  obtain ⟨a13, n13, c13, rfl⟩ := X18.out.form
  clear hO
  clear hb kk
  go_wp2_with fail
  refine ((iDbGraph n db _ _ X18.out).mono fun _ _ h => dg_at HD.out h).mono ?_
  rintro e w14 ⟨v14, rfl, hO, hb⟩
  have kk := Lib.hid (below_call (B := w13.heap.size) (a := w13) (by with_reducible (repeat (first | (refine below_drewN ?_ _) | (refine Below.drew ?_) | (refine below_alloc ?_ (by first | omega | (simp; done) | (simp; omega)) _) | (refine Below.setCell ?_ (by first | omega | (simp; done) | (simp; omega)) _) | exact Below.refl _ _ | assumption | (refine below_call ?_ (by first | omega | (simp; done) | (simp; omega)) (by assumption))))) (Nat.le_refl _) hb)
  replace BW := Lib.hid (BW.out.trans (kk.out.mono BW.out.size))
  replace O4 := Lib.hid (O4.out.below kk.out (by omega))
  replace D := Lib.hid (D.out.below kk.out D.out.lt)
  clear D_0 D_1 D_2 D_3 D_4
  obtain ⟨D_0, D_1, D_2, D_3, D_4⟩ := box2 D.out
  replace C := Lib.hid (C.out.below kk.out C.out.lt)
  clear C_0 C_1 C_2 C_3 C_4
  obtain ⟨C_0, C_1, C_2, C_3, C_4⟩ := box2 C.out
  replace M := Lib.hid (M.out.below kk.out (Nat.le_refl _))
  replace X18 := Lib.hid (X18.out.below kk.out (Nat.le_refl _))
  have s14 := kk.out.size
  try rw [World.size_alloc] at hO
  have O20 := Lib.hid hO
  obtain ⟨a14, c14, rfl⟩ := own_slice hO.1
  clear hO
  clear hb kk
  clear X18
  go_wp2_with fail
  refine (eqGraph gn gn gl gl _ _ _ ((own_triples O20.out).below (by with_reducible (repeat (first | exact Below.refl _ _ | (refine below_drewN ?_ _) | (refine Below.drew ?_) | (refine below_alloc ?_ (by first | omega | (simp; done) | (simp; omega)) _)))) (Nat.le_refl _)) ((own_triples O4.out).below (by with_reducible (repeat (first | exact Below.refl _ _ | (refine below_drewN ?_ _) | (refine Below.drew ?_) | (refine below_alloc ?_ (by first | omega | (simp; done) | (simp; omega)) _)))) (Nat.le_refl _))).mono ?_
  rw [eqB_self]
  rintro e w15 ⟨rfl, hb⟩
  have kk := Lib.hid (below_call (B := w14.heap.size) (a := w14) (by with_reducible (repeat (first | (refine below_drewN ?_ _) | (refine Below.drew ?_) | (refine below_alloc ?_ (by first | omega | (simp; done) | (simp; omega)) _) | (refine Below.setCell ?_ (by first | omega | (simp; done) | (simp; omega)) _) | exact Below.refl _ _ | assumption | (refine below_call ?_ (by first | omega | (simp; done) | (simp; omega)) (by assumption))))) (Nat.le_refl _) hb)
  replace BW := Lib.hid (BW.out.trans (kk.out.mono BW.out.size))
  replace O4 := Lib.hid (O4.out.below kk.out (by omega))
  replace D := Lib.hid (D.out.below kk.out D.out.lt)
  clear D_0 D_1 D_2 D_3 D_4
  obtain ⟨D_0, D_1, D_2, D_3, D_4⟩ := box2 D.out
  replace C := Lib.hid (C.out.below kk.out C.out.lt)
  clear C_0 C_1 C_2 C_3 C_4
  obtain ⟨C_0, C_1, C_2, C_3, C_4⟩ := box2 C.out
  replace M := Lib.hid (M.out.below kk.out (Nat.le_refl _))
  replace O20 := Lib.hid (O20.out.below kk.out (by omega))
  have s15 := kk.out.size
  clear hb kk
  go_wp2_with fail
  refine (heldGraph_any gl.length gn _ 1 _ M.out (by omega) (by omega)).mono ?_
  rw [HK3.out]
  rintro e w16 ⟨rfl, hb⟩
  have kk := Lib.hid (below_call (B := w15.heap.size) (a := w15) (by with_reducible (repeat (first | (refine below_drewN ?_ _) | (refine Below.drew ?_) | (refine below_alloc ?_ (by first | omega | (simp; done) | (simp; omega)) _) | (refine Below.setCell ?_ (by first | omega | (simp; done) | (simp; omega)) _) | exact Below.refl _ _ | assumption | (refine below_call ?_ (by first | omega | (simp; done) | (simp; omega)) (by assumption))))) (Nat.le_refl _) hb)
  replace BW := Lib.hid (BW.out.trans (kk.out.mono BW.out.size))
  replace O4 := Lib.hid (O4.out.below kk.out (by omega))
  replace D := Lib.hid (D.out.below kk.out D.out.lt)
  clear D_0 D_1 D_2 D_3 D_4
  obtain ⟨D_0, D_1, D_2, D_3, D_4⟩ := box2 D.out
  replace C := Lib.hid (C.out.below kk.out C.out.lt)
  clear C_0 C_1 C_2 C_3 C_4
  obtain ⟨C_0, C_1, C_2, C_3, C_4⟩ := box2 C.out
  replace M := Lib.hid (M.out.below kk.out (Nat.le_refl _))
  replace O20 := Lib.hid (O20.out.below kk.out (by omega))
  have s16 := kk.out.size
  clear hb kk
  go_wp2_with fail
  go_ret
  exact ⟨rfl, BW.out⟩
theorem own : ownKnob Try.prog.godebug = none := by kernel_rfl
theorem laidOut : laidOutB Try.prog = true := by kernel_rfl
set_option maxRecDepth 100000 in
theorem lifted (os : Os) (started : os.Started) (H : Type) (enc : TypeId × Value → H) :
    ReturnsInHanded {} Try.checked os 3 .any (Rows.fnExactDbGraphSpec.pre6 enc Try.prog Try.f3 Rows.fnExactDbGraphRow.domain false) (Rows.fnExactDbGraphSpec.post enc Try.prog Try.f3 false true false false) := by
  refine returnsInHanded_of_change (C := Try.checked) own started (by kernel_rfl) Try.func3
    (ChangeSpec.witness6 (enc := enc) (C := Try.checked) false ⟨#[], #[.int .i64 0, .slice none 0 0], []⟩ 8 (by kernel_rfl) (by kernel_rfl) (by kernel_rfl) (by kernel_rfl)) ?_
  intro W base args ds gs before hval0 hW hcnd _
  have hval : ∀ (j : Nat) t v, Try.f3.params[j]? = some t → args[j]? = some v → Value.okWide Try.prog W .any base t v := hval0
  have hW' := hW
  obtain ⟨p, q, hA0, hV, rfl, hfz, hnd⟩ := hW
  have hA : DataW.TrodAll enc Try.prog W 0 (fun _ => true) true Try.f3.params.toList args.toList ds p := hA0
  rw [Try.params3] at hA hval
  obtain ⟨v0, vs0, d0, ds0, p0, q0, hargs, rfl, rfl, h0, r0⟩ := trodAll_cons hA
  obtain ⟨v1, vs1, d1, ds1, p1, q1, rfl, rfl, rfl, h1, r1⟩ := trodAll_cons r0
  obtain ⟨rfl, rfl, rfl⟩ := trodAll_nil r1
  obtain rfl : args = #[v0, v1] := by cases args; simp_all
  obtain ⟨rfl, rfl⟩ := trodVars_none hV
  have k0 := h0
  have lt0 : ∀ x ∈ p0, x.block < W.heap.size := by obtain ⟨m, hm⟩ := k0; exact DataW.trod_lt m _ _ _ hm
  obtain ⟨x0, rfl, rfl, rfl, w0⟩ := open_int Try.underlying3 (hval 0 3 v0 rfl rfl) h0
  have k1 := h1
  have lt1 : ∀ x ∈ p1, x.block < W.heap.size := by obtain ⟨m, hm⟩ := k1; exact DataW.trod_lt m _ _ _ hm
  obtain ⟨db1, w1⟩ := lsas_of_trod (T := 22) (L := 71) (E := 116) Try.underlying22 Try.underlying71 (by kernel_rfl) (by kernel_rfl) Try.underlying3 Try.underlying3 Try.underlying69 Try.underlying116 (by kernel_rfl) (by kernel_rfl) Try.underlying3 Try.underlying3 (hval 1 22 v1 rfl rfl) h1
  clear hA0 hval0
  refine (walk x0 v1 db1 W w1).mono fun e W' ⟨he, bel⟩ => ?_
  subst he
  exact ⟨_, rfl, _, _, _, [], _, [], hW', trodAll_mk1 (shut_bool Try.underlying4 _), (trodAll_cons_mk (shut_int Try.underlying3 w0) (trodAll_cons_mk (Below.trod laidOut (by kernel_rfl) (of_decide_eq_true (by kernel_rfl)) k1 bel lt1) trodAll_mk0)), rfl, bel.frame _, fun h => by cases h⟩
theorem over : Rows.fnExactDbGraphRow.holds Try.pinned (OpenSpec.ofChange Rows.fnExactDbGraphSpec) :=
  OpenClaim.holds_of_wide 3 Try.f3 rfl rfl rfl rfl rfl rfl rfl ⟨rfl, rfl, rfl, rfl, rfl⟩ rfl rfl rfl rfl rfl (by kernel_rfl) Try.func3 (by kernel_rfl)
    (of_decide_eq_true (by kernel_rfl)) (by unfold Func.isWrapper; first | (rw [if_pos (by decide +kernel)]; kernel_rfl) | (rw [if_neg (by decide +kernel)]; exact ⟨rfl, rfl⟩))
    (fun os started H enc _ => lifted os started H enc)
end Go.Proofs.Ytnnkdoomjkccgaa.lawFnExactDbGraph
namespace Go.Proofs.Ytnnkdoomjkccgaa
set_option linter.unusedSimpArgs false
set_option linter.unusedVariables false
/-- The statement. -/
theorem FnExactDbGraph_proved : Rows.FnExactDbGraphSaid := lawFnExactDbGraph.over
#print axioms FnExactDbGraph_proved
end Go.Proofs.Ytnnkdoomjkccgaa
