/- FnExactLsaOf: for every argument the call returns true, and the arguments read afterwards as before. No condition (mkgw.py). -/
import Derived.Test.YtnnkdoomjkccgaaLsO
import Derived.Test.YtnnkdoomjkccgaaMarkA
import Derived.Test.YtnnkdoomjkccgaaExact2
import Derived.Test.YtnnkdoomjkccgaaRows
import Derived.Test.YtnnkdoomjkccgaaOpen
import Derived.ProofKit
import Derived.OpenShut
import Derived.ShutString
import Derived.ChangeOld
import Derived.Lib.SmallJoins
namespace Go.Proofs.Ytnnkdoomjkccgaa.lawFnExactLsaOf
set_option linter.unusedSimpArgs false
set_option linter.unusedVariables false
open Go.ChangeShapes Go.WideShapes Go.ChangeAt Go.RowKit Go.Joins
theorem ls_at {w w' : World} {n a s x y : Int} {ls : List LinkD} {E : List (Int × Int)} {q : Bool} {e : Ending} (hd : lsaR n ls a s = ((x, y, E), q)) (h : LsPost w n ls a s e w') : ∃ u, e = .returned (.tuple #[.agg #[.int .i64 x, .int .i64 y, u], .bool q]) ∧ OwnR w' w.heap.size w'.heap.size 43 2 u E.length (cells2 E) ∧ Below w.heap.size w w' := by
  rw [LsPost, hd] at h
  exact h
theorem ls_len {n a s x y : Int} {ls : List LinkD} {E : List (Int × Int)} {q : Bool} (hd : lsaR n ls a s = ((x, y, E), q)) : E.length ≤ 8 := by
  unfold lsaR at hd
  split at hd
  · rename_i h
    injection hd with h1 _
    injection h1 with _ h2
    injection h2 with _ h3
    simp only [Bool.and_eq_true] at h
    have hg := gOk_iff.1 h.1.1
    have := endsN_len ls a n.toNat
    have := hg.n8
    rw [← h3]
    omega
  · injection hd with h1 _
    injection h1 with _ h2
    injection h2 with _ h3
    rw [← h3]; simp
set_option maxRecDepth 100000 in
set_option maxHeartbeats 8000000 in
theorem walk (n : Int) (v : Value) (ls : List LinkD) (a0 : Int) (b0 : Int) (w : World) (h : TriplesAt w v ls) :
    Calls Try.prog 6 #[.agg #[.int .i64 n, v], .int .i64 a0, .int .i64 b0] w fun e w' => e = .returned (.bool true) ∧ Below w.heap.size w w' := by
  have H := Lib.hid h
  obtain ⟨va, vn, vc, rfl⟩ := h.form
  clear h
  by_cases hl : (ls.length : Int) ≤ 1048576
  rotate_left
  · have hr : leftOf (ls.length : Int) 1048576 = -1 := by unfold leftOf; rw [if_neg hl]
    have HR := Lib.hid hr
    clear hl hr
    go_enter Try.func6, Try.ntmps6
    go_wp2_with (go_at_call 28; refine (szGraph n ls _ 1048576 _ (H.out.below (by with_reducible (repeat (first | (refine below_drewN ?_ _) | (refine Below.drew ?_) | (refine below_alloc ?_ (by first | omega | (simp; done) | (simp; omega)) _) | (refine Below.setCell ?_ (by first | omega | (simp; done) | (simp; omega)) _) | exact Below.refl _ _ | assumption | (refine below_call ?_ (by first | omega | (simp; done) | (simp; omega)) (by assumption))))) (Nat.le_refl _)) (by omega) (by omega)).mono ?_; rw [HR.out]; rintro e w1 ⟨rfl, hb1⟩)
    go_ret
    exact ⟨rfl, (by with_reducible (repeat (first | (refine below_drewN ?_ _) | (refine Below.drew ?_) | (refine below_alloc ?_ (by first | omega | (simp; done) | (simp; omega)) _) | (refine Below.setCell ?_ (by first | omega | (simp; done) | (simp; omega)) _) | exact Below.refl _ _ | assumption | (refine below_call ?_ (by first | omega | (simp; done) | (simp; omega)) (by assumption)))))⟩
  have h1 : Hid (ls.length ≤ 1048576) := Lib.hid (by omega)
  obtain ⟨r, hr, hr0⟩ : ∃ r, leftOf (ls.length : Int) 1048576 = r ∧ 0 ≤ r := ⟨_, rfl, by unfold leftOf; rw [if_pos hl]; omega⟩
  have HR := Lib.hid hr
  clear hl hr
  obtain ⟨⟨⟨go, gs, gl⟩, gq⟩, hg⟩ : ∃ p, lsaR n ls a0 b0 = p := ⟨_, rfl⟩
  have hgl := ls_len hg
  have HD := Lib.hid hg
  obtain ⟨k1, hk1⟩ : ∃ k, 1 + 3 * (ls.length : Int) = k := ⟨_, rfl⟩
  have hk10 : 0 ≤ k1 ∧ k1 ≤ 10000000 := by have := h1.out; omega
  obtain ⟨hk10, hk11⟩ := hk10
  obtain ⟨k3, hk3⟩ : ∃ k, 1 + 2 * (gl.length : Int) = k := ⟨_, rfl⟩
  have hk30 : 0 ≤ k3 := by omega
  have HK1 := Lib.hid hk1; have HK3 := Lib.hid hk3
  have hqq : (gq != gq) = false := by simp
  have hkk : (k3 != k3) = false := by simp
  clear hg hk1 hk3
  go_enter Try.func6, Try.ntmps6
  go_wp2_with fail
  refine (szGraph n ls _ 1048576 _ (H.out.below (by with_reducible (repeat (first | (refine below_drewN ?_ _) | (refine Below.drew ?_) | (refine below_alloc ?_ (by first | omega | (simp; done) | (simp; omega)) _) | (refine Below.setCell ?_ (by first | omega | (simp; done) | (simp; omega)) _) | exact Below.refl _ _ | assumption | (refine below_call ?_ (by first | omega | (simp; done) | (simp; omega)) (by assumption))))) (Nat.le_refl _)) (by omega) (by omega)).mono ?_
  rw [HR.out]
  rintro e w1 ⟨rfl, hb⟩
  have A := Lib.hid (Box.call (b := w.heap.size) (c := #[.int .i64 n, .slice va vn vc]) (t := 59) hb (by with_reducible (repeat (first | (refine box_at _ _ _ ?_; first | rfl | (simp; done)) | apply Box.alloc | apply Box.drewN | apply Box.drew))))
  obtain ⟨A_0, A_1, A_2, A_3, A_4⟩ := box2 A.out
  have BW := Lib.hid (below_call (B := w.heap.size) (a := w) (by with_reducible (repeat (first | (refine below_drewN ?_ _) | (refine Below.drew ?_) | (refine below_alloc ?_ (by first | omega | (simp; done) | (simp; omega)) _) | (refine Below.setCell ?_ (by first | omega | (simp; done) | (simp; omega)) _) | exact Below.refl _ _ | assumption | (refine below_call ?_ (by first | omega | (simp; done) | (simp; omega)) (by assumption))))) (Nat.le_refl _) hb)
  clear hb
  have s1 := BW.out.size
  have sA : w.heap.size < w1.heap.size := A.out.lt
  go_wp2_with fail
  refine (toGraph n ls _ _ (H.out.below (by have hB := BW.out; exact (by with_reducible (repeat (first | (refine below_drewN ?_ _) | (refine Below.drew ?_) | (refine below_alloc ?_ (by first | omega | (simp; done) | (simp; omega)) _) | (refine Below.setCell ?_ (by first | omega | (simp; done) | (simp; omega)) _) | exact Below.refl _ _ | assumption | (refine below_call ?_ (by first | omega | (simp; done) | (simp; omega)) (by assumption)))))) (Nat.le_refl _)) h1.out).mono ?_
  rintro e w2 ⟨v2, rfl, hO, hb⟩
  have kk := Lib.hid (below_call (B := w1.heap.size) (a := w1) (by with_reducible (repeat (first | (refine below_drewN ?_ _) | (refine Below.drew ?_) | (refine below_alloc ?_ (by first | omega | (simp; done) | (simp; omega)) _) | (refine Below.setCell ?_ (by first | omega | (simp; done) | (simp; omega)) _) | exact Below.refl _ _ | assumption | (refine below_call ?_ (by first | omega | (simp; done) | (simp; omega)) (by assumption))))) (Nat.le_refl _) hb)
  replace BW := Lib.hid (BW.out.trans (kk.out.mono BW.out.size))
  replace A := Lib.hid (A.out.below kk.out A.out.lt)
  clear A_0 A_1 A_2 A_3 A_4
  obtain ⟨A_0, A_1, A_2, A_3, A_4⟩ := box2 A.out
  have s2 := kk.out.size
  try rw [World.size_alloc] at hO
  have X2 := Lib.hid (own_triples hO)
  obtain ⟨a2, c2, rfl⟩ := own_slice hO.1
  clear hO
  clear hb kk
  go_wp2_with fail
  refine ((sLsaOf n ls a0 b0 _ _ X2.out).mono fun _ _ h => ls_at HD.out h).mono ?_
  rintro e w3 ⟨v3, rfl, hO, hb⟩
  have kk := Lib.hid (below_call (B := w2.heap.size) (a := w2) (by with_reducible (repeat (first | (refine below_drewN ?_ _) | (refine Below.drew ?_) | (refine below_alloc ?_ (by first | omega | (simp; done) | (simp; omega)) _) | (refine Below.setCell ?_ (by first | omega | (simp; done) | (simp; omega)) _) | exact Below.refl _ _ | assumption | (refine below_call ?_ (by first | omega | (simp; done) | (simp; omega)) (by assumption))))) (Nat.le_refl _) hb)
  replace BW := Lib.hid (BW.out.trans (kk.out.mono BW.out.size))
  replace A := Lib.hid (A.out.below kk.out A.out.lt)
  clear A_0 A_1 A_2 A_3 A_4
  obtain ⟨A_0, A_1, A_2, A_3, A_4⟩ := box2 A.out
  replace X2 := Lib.hid (X2.out.below kk.out (Nat.le_refl _))
  have s3 := kk.out.size
  try rw [World.size_alloc] at hO
  have O4 := Lib.hid hO
  obtain ⟨a3, c3, rfl⟩ := own_slice hO.1
  clear hO
  clear hb kk
  clear X2
  go_wp2_with fail
  refine (toGraph n ls _ _ (H.out.below (by have hB := BW.out; exact (by with_reducible (repeat (first | (refine below_drewN ?_ _) | (refine Below.drew ?_) | (refine below_alloc ?_ (by first | omega | (simp; done) | (simp; omega)) _) | (refine Below.setCell ?_ (by first | omega | (simp; done) | (simp; omega)) _) | exact Below.refl _ _ | assumption | (refine below_call ?_ (by first | omega | (simp; done) | (simp; omega)) (by assumption)))))) (Nat.le_refl _)) h1.out).mono ?_
  rintro e w4 ⟨v4, rfl, hO, hb⟩
  have kk := Lib.hid (below_call (B := w3.heap.size) (a := w3) (by with_reducible (repeat (first | (refine below_drewN ?_ _) | (refine Below.drew ?_) | (refine below_alloc ?_ (by first | omega | (simp; done) | (simp; omega)) _) | (refine Below.setCell ?_ (by first | omega | (simp; done) | (simp; omega)) _) | exact Below.refl _ _ | assumption | (refine below_call ?_ (by first | omega | (simp; done) | (simp; omega)) (by assumption))))) (Nat.le_refl _) hb)
  replace BW := Lib.hid (BW.out.trans (kk.out.mono BW.out.size))
  replace A := Lib.hid (A.out.below kk.out A.out.lt)
  clear A_0 A_1 A_2 A_3 A_4
  obtain ⟨A_0, A_1, A_2, A_3, A_4⟩ := box2 A.out
  replace O4 := Lib.hid (O4.out.below kk.out (by omega))
  have s4 := kk.out.size
  have D := Lib.hid (Box.call (b := w3.heap.size) (c := #[.int .i64 go, .int .i64 gs, .slice a3 gl.length c3]) (t := 41) hb (by with_reducible (repeat (first | (refine box_at _ _ _ ?_; first | rfl | (simp; done)) | apply Box.alloc | apply Box.drewN | apply Box.drew))))
  obtain ⟨D_0, D_1, D_2, D_3, D_4, D_5, D_6⟩ := box3 D.out
  have sD := D.out.lt
  try rw [World.size_alloc] at hO
  have L5 := Lib.hid hO
  obtain ⟨a4, c4, rfl⟩ := own_slice hO.1
  clear hO
  clear hb kk
  go_wp2_with fail
  refine ((iLsaOf n ls a0 b0 _ _ ((own_triples L5.out).below (by with_reducible (repeat (first | exact Below.refl _ _ | (refine below_drewN ?_ _) | (refine Below.drew ?_) | (refine below_alloc ?_ (by first | omega | (simp; done) | (simp; omega)) _)))) (Nat.le_refl _))).mono fun _ _ h => ls_at HD.out h).mono ?_
  rintro e w5 ⟨v5, rfl, hO, hb⟩
  have kk := Lib.hid (below_call (B := w4.heap.size) (a := w4) (by with_reducible (repeat (first | (refine below_drewN ?_ _) | (refine Below.drew ?_) | (refine below_alloc ?_ (by first | omega | (simp; done) | (simp; omega)) _) | (refine Below.setCell ?_ (by first | omega | (simp; done) | (simp; omega)) _) | exact Below.refl _ _ | assumption | (refine below_call ?_ (by first | omega | (simp; done) | (simp; omega)) (by assumption))))) (Nat.le_refl _) hb)
  replace BW := Lib.hid (BW.out.trans (kk.out.mono BW.out.size))
  replace A := Lib.hid (A.out.below kk.out A.out.lt)
  clear A_0 A_1 A_2 A_3 A_4
  obtain ⟨A_0, A_1, A_2, A_3, A_4⟩ := box2 A.out
  replace O4 := Lib.hid (O4.out.below kk.out (by omega))
  replace L5 := Lib.hid (L5.out.below kk.out (by omega))
  replace D := Lib.hid (D.out.below kk.out D.out.lt)
  clear D_0 D_1 D_2 D_3 D_4 D_5 D_6
  obtain ⟨D_0, D_1, D_2, D_3, D_4, D_5, D_6⟩ := box3 D.out
  have s5 := kk.out.size
  have G := Lib.hid (Box.call (b := w4.heap.size) (c := #[.int .i64 n, .slice a4 ls.length c4]) (t := 26) hb (by with_reducible (repeat (first | (refine box_at _ _ _ ?_; first | rfl | (simp; done)) | apply Box.alloc | apply Box.drewN | apply Box.drew))))
  obtain ⟨G_0, G_1, G_2, G_3, G_4⟩ := box2 G.out
  have sG := G.out.lt
  try rw [World.size_alloc] at hO
  have O7 := Lib.hid hO
  obtain ⟨a5, c5, rfl⟩ := own_slice hO.1
  clear hO
  clear hb kk
  go_wp2_with fail
  refine (eqLsa go gs go gs gl gl _ _ _ ((own_pairs O7.out).below (by with_reducible (repeat (first | exact Below.refl _ _ | (refine below_drewN ?_ _) | (refine Below.drew ?_) | (refine below_alloc ?_ (by first | omega | (simp; done) | (simp; omega)) _)))) (Nat.le_refl _)) ((own_pairs O4.out).below (by with_reducible (repeat (first | exact Below.refl _ _ | (refine below_drewN ?_ _) | (refine Below.drew ?_) | (refine below_alloc ?_ (by first | omega | (simp; done) | (simp; omega)) _)))) (Nat.le_refl _))).mono ?_
  rw [eqB_self]
  rintro e w6 ⟨rfl, hb⟩
  have kk := Lib.hid (below_call (B := w5.heap.size) (a := w5) (by with_reducible (repeat (first | (refine below_drewN ?_ _) | (refine Below.drew ?_) | (refine below_alloc ?_ (by first | omega | (simp; done) | (simp; omega)) _) | (refine Below.setCell ?_ (by first | omega | (simp; done) | (simp; omega)) _) | exact Below.refl _ _ | assumption | (refine below_call ?_ (by first | omega | (simp; done) | (simp; omega)) (by assumption))))) (Nat.le_refl _) hb)
  replace BW := Lib.hid (BW.out.trans (kk.out.mono BW.out.size))
  replace A := Lib.hid (A.out.below kk.out A.out.lt)
  clear A_0 A_1 A_2 A_3 A_4
  obtain ⟨A_0, A_1, A_2, A_3, A_4⟩ := box2 A.out
  replace O4 := Lib.hid (O4.out.below kk.out (by omega))
  replace L5 := Lib.hid (L5.out.below kk.out (by omega))
  replace D := Lib.hid (D.out.below kk.out D.out.lt)
  clear D_0 D_1 D_2 D_3 D_4 D_5 D_6
  obtain ⟨D_0, D_1, D_2, D_3, D_4, D_5, D_6⟩ := box3 D.out
  replace O7 := Lib.hid (O7.out.below kk.out (by omega))
  replace G := Lib.hid (G.out.below kk.out G.out.lt)
  clear G_0 G_1 G_2 G_3 G_4
  obtain ⟨G_0, G_1, G_2, G_3, G_4⟩ := box2 G.out
  have s6 := kk.out.size
  have C := Lib.hid (Box.call (b := w5.heap.size) (c := #[.int .i64 go, .int .i64 gs, .slice a5 gl.length c5]) (t := 41) hb (by with_reducible (repeat (first | (refine box_at _ _ _ ?_; first | rfl | (simp; done)) | apply Box.alloc | apply Box.drewN | apply Box.drew))))
  obtain ⟨C_0, C_1, C_2, C_3, C_4, C_5, C_6⟩ := box3 C.out
  have sC := C.out.lt
  clear hb kk
  go_wp2_with fail
  have BWD := Lib.hid BW.out.drew
  go_region_with (first | (go_at_call 29; refine (toGraph n ls _ _ (H.out.below BWD.out (Nat.le_refl _)) h1.out).mono ?_; rintro e w7 ⟨v7, rfl, hO, hb⟩; have kk := Lib.hid (below_call (B := w6.heap.size) (a := w6) (by with_reducible (repeat (first | (refine below_drewN ?_ _) | (refine Below.drew ?_) | (refine below_alloc ?_ (by first | omega | (simp; done) | (simp; omega)) _) | (refine Below.setCell ?_ (by first | omega | (simp; done) | (simp; omega)) _) | exact Below.refl _ _ | assumption | (refine below_call ?_ (by first | omega | (simp; done) | (simp; omega)) (by assumption))))) (Nat.le_refl _) hb); replace BW := Lib.hid (BW.out.trans (kk.out.mono BW.out.size)); replace A := Lib.hid (A.out.below kk.out A.out.lt); clear A_0 A_1 A_2 A_3 A_4; obtain ⟨A_0, A_1, A_2, A_3, A_4⟩ := box2 A.out; replace O4 := Lib.hid (O4.out.below kk.out (by omega)); replace L5 := Lib.hid (L5.out.below kk.out (by omega)); replace D := Lib.hid (D.out.below kk.out D.out.lt); clear D_0 D_1 D_2 D_3 D_4 D_5 D_6; obtain ⟨D_0, D_1, D_2, D_3, D_4, D_5, D_6⟩ := box3 D.out; replace O7 := Lib.hid (O7.out.below kk.out (by omega)); replace G := Lib.hid (G.out.below kk.out G.out.lt); clear G_0 G_1 G_2 G_3 G_4; obtain ⟨G_0, G_1, G_2, G_3, G_4⟩ := box2 G.out; replace C := Lib.hid (C.out.below kk.out C.out.lt); clear C_0 C_1 C_2 C_3 C_4 C_5 C_6; obtain ⟨C_0, C_1, C_2, C_3, C_4, C_5, C_6⟩ := box3 C.out; have s7 := kk.out.size; have X9 := Lib.hid (own_triples hO); obtain ⟨a7, c7, rfl⟩ := own_slice hO.1; clear hO; clear hb kk) | (go_at_call 13; refine (eqGraph n n ls ls _ _ _ (own_triples L5.out) X9.out).mono ?_; rw [eqB_self]; rintro e w8 ⟨rfl, hb⟩; have kk := Lib.hid (below_call (B := w7.heap.size) (a := w7) (by with_reducible (repeat (first | (refine below_drewN ?_ _) | (refine Below.drew ?_) | (refine below_alloc ?_ (by first | omega | (simp; done) | (simp; omega)) _) | (refine Below.setCell ?_ (by first | omega | (simp; done) | (simp; omega)) _) | exact Below.refl _ _ | assumption | (refine below_call ?_ (by first | omega | (simp; done) | (simp; omega)) (by assumption))))) (Nat.le_refl _) hb); replace BW := Lib.hid (BW.out.trans (kk.out.mono BW.out.size)); replace A := Lib.hid (A.out.below kk.out A.out.lt); clear A_0 A_1 A_2 A_3 A_4; obtain ⟨A_0, A_1, A_2, A_3, A_4⟩ := box2 A.out; replace O4 := Lib.hid (O4.out.below kk.out (by omega)); replace L5 := Lib.hid (L5.out.below kk.out (by omega)); replace D := Lib.hid (D.out.below kk.out D.out.lt); clear D_0 D_1 D_2 D_3 D_4 D_5 D_6; obtain ⟨D_0, D_1, D_2, D_3, D_4, D_5, D_6⟩ := box3 D.out; replace O7 := Lib.hid (O7.out.below kk.out (by omega)); replace G := Lib.hid (G.out.below kk.out G.out.lt); clear G_0 G_1 G_2 G_3 G_4; obtain ⟨G_0, G_1, G_2, G_3, G_4⟩ := box2 G.out; replace C := Lib.hid (C.out.below kk.out C.out.lt); clear C_0 C_1 C_2 C_3 C_4 C_5 C_6; obtain ⟨C_0, C_1, C_2, C_3, C_4, C_5, C_6⟩ := box3 C.out; replace X9 := Lib.hid (X9.out.below kk.out (Nat.le_refl _)); have s8 := kk.out.size; clear hb kk))
  all_goals
    have F := And.intro BW.out (And.intro A.out (And.intro O4.out (And.intro L5.out (And.intro D.out (And.intro O7.out (And.intro G.out (And.intro C.out (And.intro X9.out (And.intro s7 s8)))))))))
    clear A_0 A_1 A_2 A_3 A_4 D_0 D_1 D_2 D_3 D_4 D_5 D_6 G_0 G_1 G_2 G_3 G_4 C_0 C_1 C_2 C_3 C_4 C_5 C_6 BW A O4 L5 D O7 G C X9 s7 s8 BWD
    revert F
    revert w7 a7 c7 w8
    refine ?K1
  intro w7 a7 c7 w8 F
  obtain ⟨hBW, hA, hO4, hL5, hD, hO7, hG, hC, hX9, s7, s8⟩ := F
  have BW := Lib.hid hBW
  have A := Lib.hid hA
  obtain ⟨A_0, A_1, A_2, A_3, A_4⟩ := box2 A.out
  have O4 := Lib.hid hO4
  have L5 := Lib.hid hL5
  have D := Lib.hid hD
  obtain ⟨D_0, D_1, D_2, D_3, D_4, D_5, D_6⟩ := box3 D.out
  have O7 := Lib.hid hO7
  have G := Lib.hid hG
  obtain ⟨G_0, G_1, G_2, G_3, G_4⟩ := box2 G.out
  have C := Lib.hid hC
  obtain ⟨C_0, C_1, C_2, C_3, C_4, C_5, C_6⟩ := box3 C.out
  have X9 := Lib.hid hX9
  clear hBW hA hO4 hL5 hD hO7 hG hC hX9
  clear X9
  go_wp2_with fail
  refine (markGraph_any _ _ n _ ls.length _ 1 _ L5.out (by omega) (by have := h1.out; omega)).mono ?_
  rw [HK1.out]
  rintro e w9 ⟨rfl, hb⟩
  have hbw9 := BW.out.size
  have s9 := hb.size
  replace BW := Lib.hid (BW.out.trans (hb.below (B := w.heap.size) (by omega) hbw9))
  replace O4 := Lib.hid (O4.out.btw hb (.inl (by omega)))
  replace O7 := Lib.hid (O7.out.btw hb (.inr (by omega)))
  replace A := Lib.hid (show Box _ _ _ _ from (hb.block _ A.out.lt (.inl (by omega))).trans A.out)
  clear A_0 A_1 A_2 A_3 A_4
  obtain ⟨A_0, A_1, A_2, A_3, A_4⟩ := box2 A.out
  replace D := Lib.hid (show Box _ _ _ _ from (hb.block _ D.out.lt (.inl (by omega))).trans D.out)
  clear D_0 D_1 D_2 D_3 D_4 D_5 D_6
  obtain ⟨D_0, D_1, D_2, D_3, D_4, D_5, D_6⟩ := box3 D.out
  replace G := Lib.hid (show Box _ _ _ _ from (hb.block _ G.out.lt (.inr (by omega))).trans G.out)
  clear G_0 G_1 G_2 G_3 G_4
  obtain ⟨G_0, G_1, G_2, G_3, G_4⟩ := box2 G.out
  replace C := Lib.hid (show Box _ _ _ _ from (hb.block _ C.out.lt (.inr (by omega))).trans C.out)
  clear C_0 C_1 C_2 C_3 C_4 C_5 C_6
  obtain ⟨C_0, C_1, C_2, C_3, C_4, C_5, C_6⟩ := box3 C.out
  clear hb L5
  try clear G_0 G_1 G_2 G_3 G_4
  clear G
  go_wp2_with fail
  refine (eqLsa go gs go gs gl gl _ _ _ ((own_pairs O7.out).below (by with_reducible (repeat (first | exact Below.refl _ _ | (refine below_drewN ?_ _) | (refine Below.drew ?_) | (refine below_alloc ?_ (by first | omega | (simp; done) | (simp; omega)) _)))) (Nat.le_refl _)) ((own_pairs O4.out).below (by with_reducible (repeat (first | exact Below.refl _ _ | (refine below_drewN ?_ _) | (refine Below.drew ?_) | (refine below_alloc ?_ (by first | omega | (simp; done) | (simp; omega)) _)))) (Nat.le_refl _))).mono ?_
  rw [eqB_self]
  rintro e w10 ⟨rfl, hb⟩
  have kk := Lib.hid (below_call (B := w9.heap.size) (a := w9) (by with_reducible (repeat (first | (refine below_drewN ?_ _) | (refine Below.drew ?_) | (refine below_alloc ?_ (by first | omega | (simp; done) | (simp; omega)) _) | (refine Below.setCell ?_ (by first | omega | (simp; done) | (simp; omega)) _) | exact Below.refl _ _ | assumption | (refine below_call ?_ (by first | omega | (simp; done) | (simp; omega)) (by assumption))))) (Nat.le_refl _) hb)
  replace BW := Lib.hid (BW.out.trans (kk.out.mono BW.out.size))
  replace A := Lib.hid (A.out.below kk.out A.out.lt)
  clear A_0 A_1 A_2 A_3 A_4
  obtain ⟨A_0, A_1, A_2, A_3, A_4⟩ := box2 A.out
  replace O4 := Lib.hid (O4.out.below kk.out (by omega))
  replace D := Lib.hid (D.out.below kk.out D.out.lt)
  clear D_0 D_1 D_2 D_3 D_4 D_5 D_6
  obtain ⟨D_0, D_1, D_2, D_3, D_4, D_5, D_6⟩ := box3 D.out
  replace O7 := Lib.hid (O7.out.below kk.out (by omega))
  replace C := Lib.hid (C.out.below kk.out C.out.lt)
  clear C_0 C_1 C_2 C_3 C_4 C_5 C_6
  obtain ⟨C_0, C_1, C_2, C_3, C_4, C_5, C_6⟩ := box3 C.out
  have s10 := kk.out.size
  clear hb kk
  go_wp2_with fail
  refine (markLsa_read _ _ go gs _ gl.length _ 1 _ O7.out (by omega) (by omega)).mono ?_
  rw [HK3.out]
  rintro e w11 ⟨rfl, hM, hb⟩
  have hbw11 := BW.out.size
  have s11 := hb.size
  replace BW := Lib.hid (BW.out.trans (hb.below (B := w.heap.size) (by omega) hbw11))
  replace O4 := Lib.hid (O4.out.btw hb (.inl (by omega)))
  replace A := Lib.hid (show Box _ _ _ _ from (hb.block _ A.out.lt (.inl (by omega))).trans A.out)
  clear A_0 A_1 A_2 A_3 A_4
  obtain ⟨A_0, A_1, A_2, A_3, A_4⟩ := box2 A.out
  replace D := Lib.hid (show Box _ _ _ _ from (hb.block _ D.out.lt (.inl (by omega))).trans D.out)
  clear D_0 D_1 D_2 D_3 D_4 D_5 D_6
  obtain ⟨D_0, D_1, D_2, D_3, D_4, D_5, D_6⟩ := box3 D.out
  replace C := Lib.hid (show Box _ _ _ _ from (hb.block _ C.out.lt (.inr (by omega))).trans C.out)
  clear C_0 C_1 C_2 C_3 C_4 C_5 C_6
  obtain ⟨C_0, C_1, C_2, C_3, C_4, C_5, C_6⟩ := box3 C.out
  have M := Lib.hid hM
  clear hM
  clear hb O7
  go_wp2_with fail
  refine (heldLsa_any gl.length go gs _ 1 _ M.out (by omega) (by omega)).mono ?_
  rw [HK3.out]
  rintro e w12 ⟨rfl, hb⟩
  have kk := Lib.hid (below_call (B := w11.heap.size) (a := w11) (by with_reducible (repeat (first | (refine below_drewN ?_ _) | (refine Below.drew ?_) | (refine below_alloc ?_ (by first | omega | (simp; done) | (simp; omega)) _) | (refine Below.setCell ?_ (by first | omega | (simp; done) | (simp; omega)) _) | exact Below.refl _ _ | assumption | (refine below_call ?_ (by first | omega | (simp; done) | (simp; omega)) (by assumption))))) (Nat.le_refl _) hb)
  replace BW := Lib.hid (BW.out.trans (kk.out.mono BW.out.size))
  replace A := Lib.hid (A.out.below kk.out A.out.lt)
  clear A_0 A_1 A_2 A_3 A_4
  obtain ⟨A_0, A_1, A_2, A_3, A_4⟩ := box2 A.out
  replace O4 := Lib.hid (O4.out.below kk.out (by omega))
  replace D := Lib.hid (D.out.below kk.out D.out.lt)
  clear D_0 D_1 D_2 D_3 D_4 D_5 D_6
  obtain ⟨D_0, D_1, D_2, D_3, D_4, D_5, D_6⟩ := box3 D.out
  replace C := Lib.hid (C.out.below kk.out C.out.lt)
  clear C_0 C_1 C_2 C_3 C_4 C_5 C_6
  obtain ⟨C_0, C_1, C_2, C_3, C_4, C_5, C_6⟩ := box3 C.out
  replace M := Lib.hid (M.out.below kk.out (Nat.le_refl _))
  have s12 := kk.out.size
  clear hb kk
  go_wp2_with fail
  refine (toGraph n ls _ _ (H.out.below (by have hB := BW.out; exact (by with_reducible (repeat (first | (refine below_drewN ?_ _) | (refine Below.drew ?_) | (refine below_alloc ?_ (by first | omega | (simp; done) | (simp; omega)) _) | (refine Below.setCell ?_ (by first | omega | (simp; done) | (simp; omega)) _) | exact Below.refl _ _ | assumption | (refine below_call ?_ (by first | omega | (simp; done) | (simp; omega)) (by assumption)))))) (Nat.le_refl _)) h1.out).mono ?_
  rintro e w13 ⟨v13, rfl, hO, hb⟩
  have kk := Lib.hid (below_call (B := w12.heap.size) (a := w12) (by with_reducible (repeat (first | (refine below_drewN ?_ _) | (refine Below.drew ?_) | (refine below_alloc ?_ (by first | omega | (simp; done) | (simp; omega)) _) | (refine Below.setCell ?_ (by first | omega | (simp; done) | (simp; omega)) _) | exact Below.refl _ _ | assumption | (refine below_call ?_ (by first | omega | (simp; done) | (simp; omega)) (by assumption))))) (Nat.le_refl _) hb)
  replace BW := Lib.hid (BW.out.trans (kk.out.mono BW.out.size))
  replace A := Lib.hid (A.out.below kk.out A.out.lt)
  clear A_0 A_1 A_2 A_3 A_4
  obtain ⟨A_0, A_1, A_2, A_3, A_4⟩ := box2 A.out
  replace O4 := Lib.hid (O4.out.below kk.out (by omega))
  replace D := Lib.hid (D.out.below kk.out D.out.lt)
  clear D_0 D_1 D_2 D_3 D_4 D_5 D_6
  obtain ⟨D_0, D_1, D_2, D_3, D_4, D_5, D_6⟩ := box3 D.out
  replace C := Lib.hid (C.out.below kk.out C.out.lt)
  clear C_0 C_1 C_2 C_3 C_4 C_5 C_6
  obtain ⟨C_0, C_1, C_2, C_3, C_4, C_5, C_6⟩ := box3 C.out
  replace M := Lib.hid (M.out.below kk.out (Nat.le_refl _))
  have s13 := kk.out.size
  try rw [World.size_alloc] at hO
  have X20 := Lib.hid (own_triples hO)
  obtain ⟨a13, c13, rfl⟩ := own_slice hO.1
  clear hO
  clear hb kk
  go_wp2_with fail
  refine ((iLsaOf n ls a0 b0 _ _ X20.out).mono fun _ _ h => ls_at HD.out h).mono ?_
  rintro e w14 ⟨v14, rfl, hO, hb⟩
  have kk := Lib.hid (below_call (B := w13.heap.size) (a := w13) (by with_reducible (repeat (first | (refine below_drewN ?_ _) | (refine Below.drew ?_) | (refine below_alloc ?_ (by first | omega | (simp; done) | (simp; omega)) _) | (refine Below.setCell ?_ (by first | omega | (simp; done) | (simp; omega)) _) | exact Below.refl _ _ | assumption | (refine below_call ?_ (by first | omega | (simp; done) | (simp; omega)) (by assumption))))) (Nat.le_refl _) hb)
  replace BW := Lib.hid (BW.out.trans (kk.out.mono BW.out.size))
  replace A := Lib.hid (A.out.below kk.out A.out.lt)
  clear A_0 A_1 A_2 A_3 A_4
  obtain ⟨A_0, A_1, A_2, A_3, A_4⟩ := box2 A.out
  replace O4 := Lib.hid (O4.out.below kk.out (by omega))
  replace D := Lib.hid (D.out.below kk.out D.out.lt)
  clear D_0 D_1 D_2 D_3 D_4 D_5 D_6
  obtain ⟨D_0, D_1, D_2, D_3, D_4, D_5, D_6⟩ := box3 D.out
  replace C := Lib.hid (C.out.below kk.out C.out.lt)
  clear C_0 C_1 C_2 C_3 C_4 C_5 C_6
  obtain ⟨C_0, C_1, C_2, C_3, C_4, C_5, C_6⟩ := box3 C.out
  replace M := Lib.hid (M.out.below kk.out (Nat.le_refl _))
  replace X20 := Lib.hid (X20.out.below kk.out (Nat.le_refl _))
  have s14 := kk.out.size
  try rw [World.size_alloc] at hO
  have O22 := Lib.hid hO
  obtain ⟨a14, c14, rfl⟩ := own_slice hO.1
  clear hO
  clear hb kk
  clear X20
  go_wp2_with fail
  refine (eqLsa go gs go gs gl gl _ _ _ ((own_pairs O22.out).below (by with_reducible (repeat (first | exact Below.refl _ _ | (refine below_drewN ?_ _) | (refine Below.drew ?_) | (refine below_alloc ?_ (by first | omega | (simp; done) | (simp; omega)) _)))) (Nat.le_refl _)) ((own_pairs O4.out).below (by with_reducible (repeat (first | exact Below.refl _ _ | (refine below_drewN ?_ _) | (refine Below.drew ?_) | (refine below_alloc ?_ (by first | omega | (simp; done) | (simp; omega)) _)))) (Nat.le_refl _))).mono ?_
  rw [eqB_self]
  rintro e w15 ⟨rfl, hb⟩
  have kk := Lib.hid (below_call (B := w14.heap.size) (a := w14) (by with_reducible (repeat (first | (refine below_drewN ?_ _) | (refine Below.drew ?_) | (refine below_alloc ?_ (by first | omega | (simp; done) | (simp; omega)) _) | (refine Below.setCell ?_ (by first | omega | (simp; done) | (simp; omega)) _) | exact Below.refl _ _ | assumption | (refine below_call ?_ (by first | omega | (simp; done) | (simp; omega)) (by assumption))))) (Nat.le_refl _) hb)
  replace BW := Lib.hid (BW.out.trans (kk.out.mono BW.out.size))
  replace A := Lib.hid (A.out.below kk.out A.out.lt)
  clear A_0 A_1 A_2 A_3 A_4
  obtain ⟨A_0, A_1, A_2, A_3, A_4⟩ := box2 A.out
  replace O4 := Lib.hid (O4.out.below kk.out (by omega))
  replace D := Lib.hid (D.out.below kk.out D.out.lt)
  clear D_0 D_1 D_2 D_3 D_4 D_5 D_6
  obtain ⟨D_0, D_1, D_2, D_3, D_4, D_5, D_6⟩ := box3 D.out
  replace C := Lib.hid (C.out.below kk.out C.out.lt)
  clear C_0 C_1 C_2 C_3 C_4 C_5 C_6
  obtain ⟨C_0, C_1, C_2, C_3, C_4, C_5, C_6⟩ := box3 C.out
  replace M := Lib.hid (M.out.below kk.out (Nat.le_refl _))
  replace O22 := Lib.hid (O22.out.below kk.out (by omega))
  have s15 := kk.out.size
  clear hb kk
  go_wp2_with fail
  refine (heldLsa_any gl.length go gs _ 1 _ M.out (by omega) (by omega)).mono ?_
  rw [HK3.out]
  rintro e w16 ⟨rfl, hb⟩
  have kk := Lib.hid (below_call (B := w15.heap.size) (a := w15) (by with_reducible (repeat (first | (refine below_drewN ?_ _) | (refine Below.drew ?_) | (refine below_alloc ?_ (by first | omega | (simp; done) | (simp; omega)) _) | (refine Below.setCell ?_ (by first | omega | (simp; done) | (simp; omega)) _) | exact Below.refl _ _ | assumption | (refine below_call ?_ (by first | omega | (simp; done) | (simp; omega)) (by assumption))))) (Nat.le_refl _) hb)
  replace BW := Lib.hid (BW.out.trans (kk.out.mono BW.out.size))
  replace A := Lib.hid (A.out.below kk.out A.out.lt)
  clear A_0 A_1 A_2 A_3 A_4
  obtain ⟨A_0, A_1, A_2, A_3, A_4⟩ := box2 A.out
  replace O4 := Lib.hid (O4.out.below kk.out (by omega))
  replace D := Lib.hid (D.out.below kk.out D.out.lt)
  clear D_0 D_1 D_2 D_3 D_4 D_5 D_6
  obtain ⟨D_0, D_1, D_2, D_3, D_4, D_5, D_6⟩ := box3 D.out
  replace C := Lib.hid (C.out.below kk.out C.out.lt)
  clear C_0 C_1 C_2 C_3 C_4 C_5 C_6
  obtain ⟨C_0, C_1, C_2, C_3, C_4, C_5, C_6⟩ := box3 C.out
  replace M := Lib.hid (M.out.below kk.out (Nat.le_refl _))
  replace O22 := Lib.hid (O22.out.below kk.out (by omega))
  have s16 := kk.out.size
  clear hb kk
  go_wp2_with fail
  go_ret
  exact ⟨rfl, BW.out⟩
theorem own : ownKnob Try.prog.godebug = none := by kernel_rfl
theorem laidOut : laidOutB Try.prog = true := by kernel_rfl
set_option maxRecDepth 100000 in
theorem lifted (os : Os) (started : os.Started) (H : Type) (enc : TypeId × Value → H) :
    ReturnsInHanded {} Try.checked os 6 .any (Rows.fnExactLsaOfSpec.pre6 enc Try.prog Try.f6 Rows.fnExactLsaOfRow.domain false) (Rows.fnExactLsaOfSpec.post enc Try.prog Try.f6 false true false false) := by
  refine returnsInHanded_of_change (C := Try.checked) own started (by kernel_rfl) Try.func6
    (ChangeSpec.witness6 (enc := enc) (C := Try.checked) false ⟨#[], #[.agg #[.int .i64 0, .slice none 0 0], .int .i64 0, .int .i64 0], []⟩ 8 (by kernel_rfl) (by kernel_rfl) (by kernel_rfl) (by kernel_rfl)) ?_
  intro W base args ds gs before hval0 hW hcnd _
  have hval : ∀ (j : Nat) t v, Try.f6.params[j]? = some t → args[j]? = some v → Value.okWide Try.prog W .any base t v := hval0
  have hW' := hW
  obtain ⟨p, q, hA0, hV, rfl, hfz, hnd⟩ := hW
  have hA : DataW.TrodAll enc Try.prog W 0 (fun _ => true) true Try.f6.params.toList args.toList ds p := hA0
  rw [Try.params6] at hA hval
  obtain ⟨v0, vs0, d0, ds0, p0, q0, hargs, rfl, rfl, h0, r0⟩ := trodAll_cons hA
  obtain ⟨v1, vs1, d1, ds1, p1, q1, rfl, rfl, rfl, h1, r1⟩ := trodAll_cons r0
  obtain ⟨v2, vs2, d2, ds2, p2, q2, rfl, rfl, rfl, h2, r2⟩ := trodAll_cons r1
  obtain ⟨rfl, rfl, rfl⟩ := trodAll_nil r2
  obtain rfl : args = #[v0, v1, v2] := by cases args; simp_all
  obtain ⟨rfl, rfl⟩ := trodVars_none hV
  have k0 := h0
  have lt0 : ∀ x ∈ p0, x.block < W.heap.size := by obtain ⟨m, hm⟩ := k0; exact DataW.trod_lt m _ _ _ hm
  obtain ⟨n0, u0, ls0, rfl, w0⟩ := graph_of_trod (G := 59) (K := 109) Try.underlying59 (by kernel_rfl) (by kernel_rfl) Try.underlying3 Try.underlying57 Try.underlying109 (by kernel_rfl) (by kernel_rfl) Try.underlying3 Try.underlying3 Try.underlying3 (hval 0 59 v0 rfl rfl) h0
  have k1 := h1
  have lt1 : ∀ x ∈ p1, x.block < W.heap.size := by obtain ⟨m, hm⟩ := k1; exact DataW.trod_lt m _ _ _ hm
  obtain ⟨x1, rfl, rfl, rfl, w1⟩ := open_int Try.underlying3 (hval 1 3 v1 rfl rfl) h1
  have k2 := h2
  have lt2 : ∀ x ∈ p2, x.block < W.heap.size := by obtain ⟨m, hm⟩ := k2; exact DataW.trod_lt m _ _ _ hm
  obtain ⟨x2, rfl, rfl, rfl, w2⟩ := open_int Try.underlying3 (hval 2 3 v2 rfl rfl) h2
  clear hA0 hval0
  refine (walk n0 u0 ls0 x1 x2 W w0).mono fun e W' ⟨he, bel⟩ => ?_
  subst he
  exact ⟨_, rfl, _, _, _, [], _, [], hW', trodAll_mk1 (shut_bool Try.underlying4 _), (trodAll_cons_mk (Below.trod laidOut (by kernel_rfl) (of_decide_eq_true (by kernel_rfl)) k0 bel lt0) (trodAll_cons_mk (shut_int Try.underlying3 w1) (trodAll_cons_mk (shut_int Try.underlying3 w2) trodAll_mk0))), rfl, bel.frame _, fun h => by cases h⟩
theorem over : Rows.fnExactLsaOfRow.holds Try.pinned (OpenSpec.ofChange Rows.fnExactLsaOfSpec) :=
  OpenClaim.holds_of_wide 6 Try.f6 rfl rfl rfl rfl rfl rfl rfl ⟨rfl, rfl, rfl, rfl, rfl⟩ rfl rfl rfl rfl rfl (by kernel_rfl) Try.func6 (by kernel_rfl)
    (of_decide_eq_true (by kernel_rfl)) (by unfold Func.isWrapper; first | (rw [if_pos (by decide +kernel)]; kernel_rfl) | (rw [if_neg (by decide +kernel)]; exact ⟨rfl, rfl⟩))
    (fun os started H enc _ => lifted os started H enc)
end Go.Proofs.Ytnnkdoomjkccgaa.lawFnExactLsaOf
namespace Go.Proofs.Ytnnkdoomjkccgaa
set_option linter.unusedSimpArgs false
set_option linter.unusedVariables false
/-- The statement. -/
theorem FnExactLsaOf_proved : Rows.FnExactLsaOfSaid := lawFnExactLsaOf.over
#print axioms FnExactLsaOf_proved
end Go.Proofs.Ytnnkdoomjkccgaa
