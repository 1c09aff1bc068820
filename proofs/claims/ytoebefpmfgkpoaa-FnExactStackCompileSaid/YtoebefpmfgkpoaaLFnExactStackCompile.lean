/- FnExactStackCompile: for every argument the call returns true, and the arguments read afterwards as before. No condition (mkgz.py). -/
import Derived.Test.YtoebefpmfgkpoaaLwC
import Derived.Test.YtoebefpmfgkpoaaGG
import Derived.Test.YtoebefpmfgkpoaaGLab
import Derived.Test.YtoebefpmfgkpoaaEqI
import Derived.Test.YtoebefpmfgkpoaaMakeI
import Derived.Test.YtoebefpmfgkpoaaRows
import Derived.Test.YtoebefpmfgkpoaaOpen
import Derived.ProofKit
import Derived.OpenShut
import Derived.ShutString
import Derived.ChangeOld
import Derived.Lib.SmallJoins
namespace Go.Proofs.Ytoebefpmfgkpoaa.lawFnExactStackCompile
set_option linter.unusedSimpArgs false
set_option linter.unusedVariables false
open Go.ChangeShapes Go.WideShapes Go.ChangeAt Go.RowKit Go.Joins
theorem markLabelS_read (lo hi : Nat) (v : Value) (n : Nat) (xs : List Value) (k : Int) (w : World) (h : OwnR w lo hi 56 2 v n xs) (hk : 0 ≤ k) (hk1 : k + 2 * n ≤ 1000000000000) : Calls Try.prog 32 #[v, .int .i64 k] w fun e w' => e = .returned (.int .i64 (k + 2 * n)) ∧ PairsAt w' v (markE k n) ∧ Btw lo hi w w' :=
  (markLabelS_any lo hi v n xs k w h hk hk1).mono fun _ _ ⟨he, ho, hg⟩ => ⟨he, own_pairs (es := markE k n) (by rw [markE_len]; exact ho), Btw.grown hg fun g hg => ⟨(h.lt g hg).1, (h.lt g hg).2.1⟩⟩
theorem markIntS_btw (lo hi : Nat) (v : Value) (n : Nat) (xs : List Value) (k : Int) (w : World) (h : OwnR w lo hi 3 1 v n xs) (hk : 0 ≤ k) (hk1 : k + n ≤ 1000000000000) : Calls Try.prog 31 #[v, .int .i64 k] w fun e w' => e = .returned (.int .i64 (k + n)) ∧ Btw lo hi w w' :=
  (markIntS_any lo hi v n xs k w h hk hk1).mono fun _ _ ⟨he, _, hg⟩ => ⟨he, Btw.grown hg fun g hg => ⟨(h.lt g hg).1, (h.lt g hg).2.1⟩⟩

theorem compO_len (n : Int) (ls : List LinkD) (L : List Int) : (compO n ls L).length ≤ 8 := by
  rcases h : pathOk n ls L with _ | _
  · rw [compO_no h]; simp
  · obtain ⟨a, p, rfl⟩ := pathOk_cons h
    obtain ⟨q, hF⟩ := comp_facts h
    rw [compO_yes h]
    have := hF.few; have := hF.len
    omega
set_option maxRecDepth 100000 in
set_option maxHeartbeats 8000000 in
theorem walk (n : Int) (v : Value) (ls : List LinkD) (u : Value) (path : List Int) (w : World) (h : TriplesAt w v ls) (h2 : IntsAt w u path) :
    Calls Try.prog 8 #[.agg #[.int .i64 n, v], u] w fun e w' => e = .returned (.bool true) ∧ Below w.heap.size w w' := by
  have H := Lib.hid h; have H2 := Lib.hid h2
  obtain ⟨va, vn, vc, rfl⟩ := h.form
  obtain ⟨a, cap, b, off, rfl, hcap, hmax, _, _⟩ := h2
  unfold maxLen at hmax
  obtain ⟨m, hm⟩ : ∃ m, path.length = m := ⟨_, rfl⟩
  rw [hm] at H2 hcap ⊢
  have HMM := Lib.hid hm
  clear h hm
  by_cases hm2 : (m:Int) ≤ 1048576
  rotate_left
  · have hd : decide ((1048576:Int) < (m:Int)) = true := by simp; omega
    go_enter Try.func8, Try.ntmps8
    go_wp2_with fail
    go_ret
    exact ⟨rfl, (by with_reducible (repeat (first | (refine below_drewN ?_ _) | (refine Below.drew ?_) | (refine below_alloc ?_ (by first | omega | (simp; done) | (simp; omega)) _) | (refine Below.setCell ?_ (by first | omega | (simp; done) | (simp; omega)) _) | exact Below.refl _ _ | assumption | (refine below_call ?_ (by first | omega | (simp; done) | (simp; omega)) (by assumption)))))⟩
  have hd : decide ((1048576:Int) < (m:Int)) = false := by simp; omega
  go_enter Try.func8, Try.ntmps8
  by_cases hl : (ls.length : Int) ≤ 1048576
  rotate_left
  · have hr : leftOf (ls.length : Int) 1048576 = -1 := by unfold leftOf; rw [if_neg hl]
    have HR := Lib.hid hr
    clear hl hr
    go_wp2_with (go_at_call 24; refine (szGraph n ls _ 1048576 _ (H.out.below (by with_reducible (repeat (first | (refine below_drewN ?_ _) | (refine Below.drew ?_) | (refine below_alloc ?_ (by first | omega | (simp; done) | (simp; omega)) _) | (refine Below.setCell ?_ (by first | omega | (simp; done) | (simp; omega)) _) | exact Below.refl _ _ | assumption | (refine below_call ?_ (by first | omega | (simp; done) | (simp; omega)) (by assumption))))) (Nat.le_refl _)) (by omega) (by omega)).mono ?_; rw [HR.out]; rintro e w1 ⟨rfl, hb1⟩)
    go_ret
    exact ⟨rfl, (by with_reducible (repeat (first | (refine below_drewN ?_ _) | (refine Below.drew ?_) | (refine below_alloc ?_ (by first | omega | (simp; done) | (simp; omega)) _) | (refine Below.setCell ?_ (by first | omega | (simp; done) | (simp; omega)) _) | exact Below.refl _ _ | assumption | (refine below_call ?_ (by first | omega | (simp; done) | (simp; omega)) (by assumption)))))⟩
  have h1 : Hid (ls.length ≤ 1048576) := Lib.hid (by omega)
  have h3 : Hid (path.length ≤ 1048576) := Lib.hid (by have := HMM.out; omega)
  obtain ⟨r, hr, hr0⟩ : ∃ r, leftOf (ls.length : Int) 1048576 = r ∧ 0 ≤ r := ⟨_, rfl, by unfold leftOf; rw [if_pos hl]; omega⟩
  have HR := Lib.hid hr
  clear hl hr
  obtain ⟨q, hq⟩ : ∃ q, pathOk n ls path = q := ⟨_, rfl⟩
  obtain ⟨p, hp⟩ : ∃ p, compO n ls path = p := ⟨_, rfl⟩
  have hpl : p.length ≤ 8 := by rw [← hp]; exact compO_len n ls path
  have HQ := Lib.hid hq
  have HP := Lib.hid hp
  have hqq : (q != q) = false := by simp
  obtain ⟨k1, hk1⟩ : ∃ k, 1 + 3 * (ls.length : Int) = k := ⟨_, rfl⟩
  have hk10 : 0 ≤ k1 ∧ k1 ≤ 10000000 := by have := h1.out; omega
  obtain ⟨hk10, hk11⟩ := hk10
  obtain ⟨k2, hk2⟩ : ∃ k, k1 + (path.length : Int) = k := ⟨_, rfl⟩
  have hk20 : 0 ≤ k2 := by omega
  obtain ⟨k3, hk3⟩ : ∃ k, 1 + 2 * (p.length : Int) = k := ⟨_, rfl⟩
  have hk30 : 0 ≤ k3 := by omega
  have HK1 := Lib.hid hk1; have HK2 := Lib.hid hk2; have HK3 := Lib.hid hk3
  have hkk : (k3 != k3) = false := by simp
  clear hp hq hk1 hk2 hk3
  go_wp2_with fail
  refine (szGraph n ls _ 1048576 _ (H.out.below (by with_reducible (repeat (first | (refine below_drewN ?_ _) | (refine Below.drew ?_) | (refine below_alloc ?_ (by first | omega | (simp; done) | (simp; omega)) _) | (refine Below.setCell ?_ (by first | omega | (simp; done) | (simp; omega)) _) | exact Below.refl _ _ | assumption | (refine below_call ?_ (by first | omega | (simp; done) | (simp; omega)) (by assumption))))) (Nat.le_refl _)) (by omega) (by omega)).mono ?_
  rw [HR.out]
  rintro e w1 ⟨rfl, hb⟩
  have A := Lib.hid (Box.call (b := w.heap.size) (c := #[.int .i64 n, .slice va vn vc]) (t := 46) hb (by with_reducible (repeat (first | (refine box_at _ _ _ ?_; first | rfl | (simp; done)) | apply Box.alloc | apply Box.drewN | apply Box.drew))))
  obtain ⟨A_0, A_1, A_2, A_3, A_4⟩ := box2 A.out
  have BW := Lib.hid (below_call (B := w.heap.size) (a := w) (by with_reducible (repeat (first | (refine below_drewN ?_ _) | (refine Below.drew ?_) | (refine below_alloc ?_ (by first | omega | (simp; done) | (simp; omega)) _) | (refine Below.setCell ?_ (by first | omega | (simp; done) | (simp; omega)) _) | exact Below.refl _ _ | assumption | (refine below_call ?_ (by first | omega | (simp; done) | (simp; omega)) (by assumption))))) (Nat.le_refl _) hb)
  clear hb
  have s1 := BW.out.size
  have sA : w.heap.size < w1.heap.size := A.out.lt
  go_wp2_with fail
  refine (toGraph n ls _ _ (H.out.below BW.out (Nat.le_refl _)) h1.out).mono ?_
  rintro e w2 ⟨v2, rfl, hO, hb⟩
  have kk := Lib.hid (below_call (B := w1.heap.size) (a := w1) (by with_reducible (repeat (first | (refine below_drewN ?_ _) | (refine Below.drew ?_) | (refine below_alloc ?_ (by first | omega | (simp; done) | (simp; omega)) _) | (refine Below.setCell ?_ (by first | omega | (simp; done) | (simp; omega)) _) | exact Below.refl _ _ | assumption | (refine below_call ?_ (by first | omega | (simp; done) | (simp; omega)) (by assumption))))) (Nat.le_refl _) hb)
  replace BW := Lib.hid (BW.out.trans (kk.out.mono BW.out.size))
  replace A := Lib.hid (A.out.below kk.out A.out.lt)
  clear A_0 A_1 A_2 A_3 A_4
  obtain ⟨A_0, A_1, A_2, A_3, A_4⟩ := box2 A.out
  have s2 := kk.out.size
  have X2 := Lib.hid (own_triples hO)
  obtain ⟨a2, c2, rfl⟩ := own_slice hO.1
  clear hO
  clear hb kk
  go_wp2_with fail
  refine (toIntS path _ _ (H2.out.below BW.out (Nat.le_refl _)) h3.out).mono ?_
  rintro e w3 ⟨v3, rfl, hO, hb⟩
  have kk := Lib.hid (below_call (B := w2.heap.size) (a := w2) (by with_reducible (repeat (first | (refine below_drewN ?_ _) | (refine Below.drew ?_) | (refine below_alloc ?_ (by first | omega | (simp; done) | (simp; omega)) _) | (refine Below.setCell ?_ (by first | omega | (simp; done) | (simp; omega)) _) | exact Below.refl _ _ | assumption | (refine below_call ?_ (by first | omega | (simp; done) | (simp; omega)) (by assumption))))) (Nat.le_refl _) hb)
  replace BW := Lib.hid (BW.out.trans (kk.out.mono BW.out.size))
  replace A := Lib.hid (A.out.below kk.out A.out.lt)
  clear A_0 A_1 A_2 A_3 A_4
  obtain ⟨A_0, A_1, A_2, A_3, A_4⟩ := box2 A.out
  replace X2 := Lib.hid (X2.out.below kk.out (Nat.le_refl _))
  have s3 := kk.out.size
  have X3 := Lib.hid (own_ints hO)
  obtain ⟨a3, c3, rfl⟩ := own_slice hO.1
  clear hO
  clear hb kk
  go_wp2_with fail
  refine ((sCompile n ls path _ _ _ (X2.out.below (by with_reducible (repeat (first | exact Below.refl _ _ | (refine below_drewN ?_ _) | (refine Below.drew ?_) | (refine below_alloc ?_ (by first | omega | (simp; done) | (simp; omega)) _)))) (Nat.le_refl _)) (X3.out.below (by with_reducible (repeat (first | exact Below.refl _ _ | (refine below_drewN ?_ _) | (refine Below.drew ?_) | (refine below_alloc ?_ (by first | omega | (simp; done) | (simp; omega)) _)))) (Nat.le_refl _))).mono fun _ _ h => h.made HQ.out HP.out).mono ?_
  rintro e w4 ⟨v4, rfl, hO, hb⟩
  have kk := Lib.hid (below_call (B := w3.heap.size) (a := w3) (by with_reducible (repeat (first | (refine below_drewN ?_ _) | (refine Below.drew ?_) | (refine below_alloc ?_ (by first | omega | (simp; done) | (simp; omega)) _) | (refine Below.setCell ?_ (by first | omega | (simp; done) | (simp; omega)) _) | exact Below.refl _ _ | assumption | (refine below_call ?_ (by first | omega | (simp; done) | (simp; omega)) (by assumption))))) (Nat.le_refl _) hb)
  replace BW := Lib.hid (BW.out.trans (kk.out.mono BW.out.size))
  replace A := Lib.hid (A.out.below kk.out A.out.lt)
  clear A_0 A_1 A_2 A_3 A_4
  obtain ⟨A_0, A_1, A_2, A_3, A_4⟩ := box2 A.out
  replace X2 := Lib.hid (X2.out.below kk.out (Nat.le_refl _))
  replace X3 := Lib.hid (X3.out.below kk.out (Nat.le_refl _))
  have s4 := kk.out.size
  have O4 := Lib.hid hO
  obtain ⟨a4, c4, rfl⟩ := own_slice hO.1
  clear hO
  clear hb kk
  clear X2 X3
  go_wp2_with fail
  refine (toGraph n ls _ _ (H.out.below BW.out (Nat.le_refl _)) h1.out).mono ?_
  rintro e w5 ⟨v5, rfl, hO, hb⟩
  have kk := Lib.hid (below_call (B := w4.heap.size) (a := w4) (by with_reducible (repeat (first | (refine below_drewN ?_ _) | (refine Below.drew ?_) | (refine below_alloc ?_ (by first | omega | (simp; done) | (simp; omega)) _) | (refine Below.setCell ?_ (by first | omega | (simp; done) | (simp; omega)) _) | exact Below.refl _ _ | assumption | (refine below_call ?_ (by first | omega | (simp; done) | (simp; omega)) (by assumption))))) (Nat.le_refl _) hb)
  replace BW := Lib.hid (BW.out.trans (kk.out.mono BW.out.size))
  replace A := Lib.hid (A.out.below kk.out A.out.lt)
  clear A_0 A_1 A_2 A_3 A_4
  obtain ⟨A_0, A_1, A_2, A_3, A_4⟩ := box2 A.out
  replace O4 := Lib.hid (O4.out.below kk.out (by omega))
  have s5 := kk.out.size
  have L5 := Lib.hid hO
  obtain ⟨a5, c5, rfl⟩ := own_slice hO.1
  clear hO
  clear hb kk
  go_wp2_with fail
  refine (toIntS path _ _ (H2.out.below (by have hB := BW.out; exact (by with_reducible (repeat (first | (refine below_drewN ?_ _) | (refine Below.drew ?_) | (refine below_alloc ?_ (by first | omega | (simp; done) | (simp; omega)) _) | (refine Below.setCell ?_ (by first | omega | (simp; done) | (simp; omega)) _) | exact Below.refl _ _ | assumption | (refine below_call ?_ (by first | omega | (simp; done) | (simp; omega)) (by assumption)))))) (Nat.le_refl _)) h3.out).mono ?_
  rintro e w6 ⟨v6, rfl, hO, hb⟩
  have kk := Lib.hid (below_call (B := w5.heap.size) (a := w5) (by with_reducible (repeat (first | (refine below_drewN ?_ _) | (refine Below.drew ?_) | (refine below_alloc ?_ (by first | omega | (simp; done) | (simp; omega)) _) | (refine Below.setCell ?_ (by first | omega | (simp; done) | (simp; omega)) _) | exact Below.refl _ _ | assumption | (refine below_call ?_ (by first | omega | (simp; done) | (simp; omega)) (by assumption))))) (Nat.le_refl _) hb)
  replace BW := Lib.hid (BW.out.trans (kk.out.mono BW.out.size))
  replace A := Lib.hid (A.out.below kk.out A.out.lt)
  clear A_0 A_1 A_2 A_3 A_4
  obtain ⟨A_0, A_1, A_2, A_3, A_4⟩ := box2 A.out
  replace O4 := Lib.hid (O4.out.below kk.out (by omega))
  replace L5 := Lib.hid (L5.out.below kk.out (by omega))
  have s6 := kk.out.size
  have C := Lib.hid (Box.call (b := w5.heap.size) (c := #[.int .i64 n, .slice a5 ls.length c5]) (t := 25) hb (by with_reducible (repeat (first | (refine box_at _ _ _ ?_; first | rfl | (simp; done)) | apply Box.alloc | apply Box.drewN | apply Box.drew))))
  obtain ⟨C_0, C_1, C_2, C_3, C_4⟩ := box2 C.out
  have sC6 := C.out.lt
  try rw [World.size_alloc] at hO
  have L6 := Lib.hid hO
  obtain ⟨a6, c6, rfl⟩ := own_slice hO.1
  clear hO
  clear hb kk
  go_wp2_with fail
  refine ((iCompile n ls path _ _ _ ((own_triples L5.out).below (by with_reducible (repeat (first | exact Below.refl _ _ | (refine below_drewN ?_ _) | (refine Below.drew ?_) | (refine below_alloc ?_ (by first | omega | (simp; done) | (simp; omega)) _)))) (Nat.le_refl _)) ((own_ints L6.out).below (by with_reducible (repeat (first | exact Below.refl _ _ | (refine below_drewN ?_ _) | (refine Below.drew ?_) | (refine below_alloc ?_ (by first | omega | (simp; done) | (simp; omega)) _)))) (Nat.le_refl _))).mono fun _ _ h => h.made HQ.out HP.out).mono ?_
  rintro e w7 ⟨v7, rfl, hO, hb⟩
  have kk := Lib.hid (below_call (B := w6.heap.size) (a := w6) (by with_reducible (repeat (first | (refine below_drewN ?_ _) | (refine Below.drew ?_) | (refine below_alloc ?_ (by first | omega | (simp; done) | (simp; omega)) _) | (refine Below.setCell ?_ (by first | omega | (simp; done) | (simp; omega)) _) | exact Below.refl _ _ | assumption | (refine below_call ?_ (by first | omega | (simp; done) | (simp; omega)) (by assumption))))) (Nat.le_refl _) hb)
  replace BW := Lib.hid (BW.out.trans (kk.out.mono BW.out.size))
  replace A := Lib.hid (A.out.below kk.out A.out.lt)
  clear A_0 A_1 A_2 A_3 A_4
  obtain ⟨A_0, A_1, A_2, A_3, A_4⟩ := box2 A.out
  replace O4 := Lib.hid (O4.out.below kk.out (by omega))
  replace L5 := Lib.hid (L5.out.below kk.out (by omega))
  replace L6 := Lib.hid (L6.out.below kk.out (by omega))
  replace C := Lib.hid (C.out.below kk.out C.out.lt)
  clear C_0 C_1 C_2 C_3 C_4
  obtain ⟨C_0, C_1, C_2, C_3, C_4⟩ := box2 C.out
  have s7 := kk.out.size
  have O7 := Lib.hid hO
  obtain ⟨a7, c7, rfl⟩ := own_slice hO.1
  clear hO
  clear hb kk
  go_wp2_with fail
  refine (eqLabelS p p _ _ _ (own_pairs O7.out) (own_pairs O4.out)).mono ?_
  rw [eqB_self]
  rintro e w8 ⟨rfl, hb⟩
  have kk := Lib.hid (below_call (B := w7.heap.size) (a := w7) (by with_reducible (repeat (first | (refine below_drewN ?_ _) | (refine Below.drew ?_) | (refine below_alloc ?_ (by first | omega | (simp; done) | (simp; omega)) _) | (refine Below.setCell ?_ (by first | omega | (simp; done) | (simp; omega)) _) | exact Below.refl _ _ | assumption | (refine below_call ?_ (by first | omega | (simp; done) | (simp; omega)) (by assumption))))) (Nat.le_refl _) hb)
  replace BW := Lib.hid (BW.out.trans (kk.out.mono BW.out.size))
  replace A := Lib.hid (A.out.below kk.out A.out.lt)
  clear A_0 A_1 A_2 A_3 A_4
  obtain ⟨A_0, A_1, A_2, A_3, A_4⟩ := box2 A.out
  replace O4 := Lib.hid (O4.out.below kk.out (by omega))
  replace L5 := Lib.hid (L5.out.below kk.out (by omega))
  replace L6 := Lib.hid (L6.out.below kk.out (by omega))
  replace C := Lib.hid (C.out.below kk.out C.out.lt)
  clear C_0 C_1 C_2 C_3 C_4
  obtain ⟨C_0, C_1, C_2, C_3, C_4⟩ := box2 C.out
  replace O7 := Lib.hid (O7.out.below kk.out (by omega))
  have s8 := kk.out.size
  clear hb kk
  go_wp2_with fail
  have BWD := Lib.hid BW.out.drew
  go_region_with (first | (go_at_call 25; refine (toGraph n ls _ _ (H.out.below BWD.out (Nat.le_refl _)) h1.out).mono ?_; rintro e w9 ⟨v9, rfl, hO, hb⟩; have kk := Lib.hid (below_call (B := w8.heap.size) (a := w8) (by with_reducible (repeat (first | (refine below_drewN ?_ _) | (refine Below.drew ?_) | (refine below_alloc ?_ (by first | omega | (simp; done) | (simp; omega)) _) | (refine Below.setCell ?_ (by first | omega | (simp; done) | (simp; omega)) _) | exact Below.refl _ _ | assumption | (refine below_call ?_ (by first | omega | (simp; done) | (simp; omega)) (by assumption))))) (Nat.le_refl _) hb); replace BW := Lib.hid (BW.out.trans (kk.out.mono BW.out.size)); replace A := Lib.hid (A.out.below kk.out A.out.lt); clear A_0 A_1 A_2 A_3 A_4; obtain ⟨A_0, A_1, A_2, A_3, A_4⟩ := box2 A.out; replace O4 := Lib.hid (O4.out.below kk.out (by omega)); replace L5 := Lib.hid (L5.out.below kk.out (by omega)); replace L6 := Lib.hid (L6.out.below kk.out (by omega)); replace C := Lib.hid (C.out.below kk.out C.out.lt); clear C_0 C_1 C_2 C_3 C_4; obtain ⟨C_0, C_1, C_2, C_3, C_4⟩ := box2 C.out; replace O7 := Lib.hid (O7.out.below kk.out (by omega)); have s9 := kk.out.size; have X9 := Lib.hid (own_triples hO); obtain ⟨a9, c9, rfl⟩ := own_slice hO.1; clear hO; clear hb kk) | (go_at_call 28; refine (eqGraph n n ls ls _ _ _ (own_triples L5.out) X9.out).mono ?_; rw [eqB_self]; rintro e w10 ⟨rfl, hb⟩; have kk := Lib.hid (below_call (B := w9.heap.size) (a := w9) (by with_reducible (repeat (first | (refine below_drewN ?_ _) | (refine Below.drew ?_) | (refine below_alloc ?_ (by first | omega | (simp; done) | (simp; omega)) _) | (refine Below.setCell ?_ (by first | omega | (simp; done) | (simp; omega)) _) | exact Below.refl _ _ | assumption | (refine below_call ?_ (by first | omega | (simp; done) | (simp; omega)) (by assumption))))) (Nat.le_refl _) hb); replace BW := Lib.hid (BW.out.trans (kk.out.mono BW.out.size)); replace A := Lib.hid (A.out.below kk.out A.out.lt); clear A_0 A_1 A_2 A_3 A_4; obtain ⟨A_0, A_1, A_2, A_3, A_4⟩ := box2 A.out; replace O4 := Lib.hid (O4.out.below kk.out (by omega)); replace L5 := Lib.hid (L5.out.below kk.out (by omega)); replace L6 := Lib.hid (L6.out.below kk.out (by omega)); replace C := Lib.hid (C.out.below kk.out C.out.lt); clear C_0 C_1 C_2 C_3 C_4; obtain ⟨C_0, C_1, C_2, C_3, C_4⟩ := box2 C.out; replace O7 := Lib.hid (O7.out.below kk.out (by omega)); replace X9 := Lib.hid (X9.out.below kk.out (Nat.le_refl _)); have s10 := kk.out.size; clear hb kk))
  all_goals
    have F := And.intro BW.out (And.intro A.out (And.intro O4.out (And.intro L5.out (And.intro L6.out (And.intro C.out (And.intro O7.out (And.intro X9.out (And.intro s9 s10))))))))
    clear A_0 A_1 A_2 A_3 A_4 C_0 C_1 C_2 C_3 C_4 BW A O4 L5 L6 C O7 X9 s9 s10 BWD
    revert F
    revert w9 w10 a9 c9
    refine ?K1
  intro w9 a9 c9 w10 F
  obtain ⟨hBW, hA, hO4, hL5, hL6, hC, hO7, hX9, s9, s10⟩ := F
  have BW := Lib.hid hBW
  have A := Lib.hid hA
  obtain ⟨A_0, A_1, A_2, A_3, A_4⟩ := box2 A.out
  have O4 := Lib.hid hO4
  have L5 := Lib.hid hL5
  have L6 := Lib.hid hL6
  have C := Lib.hid hC
  obtain ⟨C_0, C_1, C_2, C_3, C_4⟩ := box2 C.out
  have O7 := Lib.hid hO7
  have X9 := Lib.hid hX9
  clear hBW hA hO4 hL5 hL6 hC hO7 hX9
  clear X9
  go_wp2_with fail
  refine (toIntS path _ _ (H2.out.below BW.out (Nat.le_refl _)) h3.out).mono ?_
  rintro e w11 ⟨v11, rfl, hO, hb⟩
  have kk := Lib.hid (below_call (B := w10.heap.size) (a := w10) (by with_reducible (repeat (first | (refine below_drewN ?_ _) | (refine Below.drew ?_) | (refine below_alloc ?_ (by first | omega | (simp; done) | (simp; omega)) _) | (refine Below.setCell ?_ (by first | omega | (simp; done) | (simp; omega)) _) | exact Below.refl _ _ | assumption | (refine below_call ?_ (by first | omega | (simp; done) | (simp; omega)) (by assumption))))) (Nat.le_refl _) hb)
  replace BW := Lib.hid (BW.out.trans (kk.out.mono BW.out.size))
  replace A := Lib.hid (A.out.below kk.out A.out.lt)
  clear A_0 A_1 A_2 A_3 A_4
  obtain ⟨A_0, A_1, A_2, A_3, A_4⟩ := box2 A.out
  replace O4 := Lib.hid (O4.out.below kk.out (by omega))
  replace L5 := Lib.hid (L5.out.below kk.out (by omega))
  replace L6 := Lib.hid (L6.out.below kk.out (by omega))
  replace C := Lib.hid (C.out.below kk.out C.out.lt)
  clear C_0 C_1 C_2 C_3 C_4
  obtain ⟨C_0, C_1, C_2, C_3, C_4⟩ := box2 C.out
  replace O7 := Lib.hid (O7.out.below kk.out (by omega))
  have s11 := kk.out.size
  have X11 := Lib.hid (own_ints hO)
  obtain ⟨a11, c11, rfl⟩ := own_slice hO.1
  clear hO
  clear hb kk
  go_wp2_with fail
  refine (eqIntS path path _ _ _ (own_ints L6.out) X11.out).mono ?_
  rw [eqB_self]
  rintro e w12 ⟨rfl, hb⟩
  have kk := Lib.hid (below_call (B := w11.heap.size) (a := w11) (by with_reducible (repeat (first | (refine below_drewN ?_ _) | (refine Below.drew ?_) | (refine below_alloc ?_ (by first | omega | (simp; done) | (simp; omega)) _) | (refine Below.setCell ?_ (by first | omega | (simp; done) | (simp; omega)) _) | exact Below.refl _ _ | assumption | (refine below_call ?_ (by first | omega | (simp; done) | (simp; omega)) (by assumption))))) (Nat.le_refl _) hb)
  replace BW := Lib.hid (BW.out.trans (kk.out.mono BW.out.size))
  replace A := Lib.hid (A.out.below kk.out A.out.lt)
  clear A_0 A_1 A_2 A_3 A_4
  obtain ⟨A_0, A_1, A_2, A_3, A_4⟩ := box2 A.out
  replace O4 := Lib.hid (O4.out.below kk.out (by omega))
  replace L5 := Lib.hid (L5.out.below kk.out (by omega))
  replace L6 := Lib.hid (L6.out.below kk.out (by omega))
  replace C := Lib.hid (C.out.below kk.out C.out.lt)
  clear C_0 C_1 C_2 C_3 C_4
  obtain ⟨C_0, C_1, C_2, C_3, C_4⟩ := box2 C.out
  replace O7 := Lib.hid (O7.out.below kk.out (by omega))
  replace X11 := Lib.hid (X11.out.below kk.out (Nat.le_refl _))
  have s12 := kk.out.size
  clear hb kk
  clear X11
  go_wp2_with fail
  refine (markGraph_any _ _ n _ ls.length _ 1 _ L5.out (by omega) (by have := h1.out; omega)).mono ?_
  rw [HK1.out]
  rintro e w13 ⟨rfl, hb⟩
  have hbw13 := BW.out.size
  have s13 := hb.size
  replace BW := Lib.hid (BW.out.trans (hb.below (B := w.heap.size) (by omega) hbw13))
  replace O4 := Lib.hid (O4.out.btw hb (.inl (by omega)))
  replace L6 := Lib.hid (L6.out.btw hb (.inr (by omega)))
  replace O7 := Lib.hid (O7.out.btw hb (.inr (by omega)))
  replace A := Lib.hid (show Box _ _ _ _ from (hb.block _ A.out.lt (.inl (by omega))).trans A.out)
  clear A_0 A_1 A_2 A_3 A_4
  obtain ⟨A_0, A_1, A_2, A_3, A_4⟩ := box2 A.out
  replace C := Lib.hid (show Box _ _ _ _ from (hb.block _ C.out.lt (.inr (by omega))).trans C.out)
  clear C_0 C_1 C_2 C_3 C_4
  obtain ⟨C_0, C_1, C_2, C_3, C_4⟩ := box2 C.out
  clear hb L5
  go_wp2_with fail
  refine (markIntS_btw _ _ _ path.length _ k1 _ L6.out (by omega) (by have := h3.out; omega)).mono ?_
  rw [HK2.out]
  rintro e w14 ⟨rfl, hb⟩
  have hbw14 := BW.out.size
  have s14 := hb.size
  replace BW := Lib.hid (BW.out.trans (hb.below (B := w.heap.size) (by omega) hbw14))
  replace O4 := Lib.hid (O4.out.btw hb (.inl (by omega)))
  replace O7 := Lib.hid (O7.out.btw hb (.inr (by omega)))
  replace A := Lib.hid (show Box _ _ _ _ from (hb.block _ A.out.lt (.inl (by omega))).trans A.out)
  clear A_0 A_1 A_2 A_3 A_4
  obtain ⟨A_0, A_1, A_2, A_3, A_4⟩ := box2 A.out
  clear hb L6
  clear C
  try clear C_0 C_1 C_2 C_3 C_4
  go_wp2_with fail
  refine (eqLabelS p p _ _ _ (own_pairs O7.out) (own_pairs O4.out)).mono ?_
  rw [eqB_self]
  rintro e w15 ⟨rfl, hb⟩
  have kk := Lib.hid (below_call (B := w14.heap.size) (a := w14) (by with_reducible (repeat (first | (refine below_drewN ?_ _) | (refine Below.drew ?_) | (refine below_alloc ?_ (by first | omega | (simp; done) | (simp; omega)) _) | (refine Below.setCell ?_ (by first | omega | (simp; done) | (simp; omega)) _) | exact Below.refl _ _ | assumption | (refine below_call ?_ (by first | omega | (simp; done) | (simp; omega)) (by assumption))))) (Nat.le_refl _) hb)
  replace BW := Lib.hid (BW.out.trans (kk.out.mono BW.out.size))
  replace A := Lib.hid (A.out.below kk.out A.out.lt)
  clear A_0 A_1 A_2 A_3 A_4
  obtain ⟨A_0, A_1, A_2, A_3, A_4⟩ := box2 A.out
  replace O4 := Lib.hid (O4.out.below kk.out (by omega))
  replace O7 := Lib.hid (O7.out.below kk.out (by omega))
  have s15 := kk.out.size
  clear hb kk
  go_wp2_with fail
  refine (markLabelS_read _ _ _ p.length _ 1 _ O7.out (by omega) (by omega)).mono ?_
  rw [HK3.out]
  rintro e w16 ⟨rfl, hM, hb⟩
  have hbw16 := BW.out.size
  have s16 := hb.size
  replace BW := Lib.hid (BW.out.trans (hb.below (B := w.heap.size) (by omega) hbw16))
  replace O4 := Lib.hid (O4.out.btw hb (.inl (by omega)))
  have M := Lib.hid hM
  clear hM
  replace A := Lib.hid (show Box _ _ _ _ from (hb.block _ A.out.lt (.inl (by omega))).trans A.out)
  clear A_0 A_1 A_2 A_3 A_4
  obtain ⟨A_0, A_1, A_2, A_3, A_4⟩ := box2 A.out
  clear hb O7
  go_wp2_with fail
  refine (heldLabelS_any p.length _ 1 _ M.out (by omega) (by omega)).mono ?_
  rw [HK3.out]
  rintro e w' ⟨rfl, rfl⟩
  go_wp2_with fail
  refine (toGraph n ls _ _ (H.out.below BW.out (Nat.le_refl _)) h1.out).mono ?_
  rintro e w17 ⟨v17, rfl, hO, hb⟩
  have kk := Lib.hid (below_call (B := w16.heap.size) (a := w16) (by with_reducible (repeat (first | (refine below_drewN ?_ _) | (refine Below.drew ?_) | (refine below_alloc ?_ (by first | omega | (simp; done) | (simp; omega)) _) | (refine Below.setCell ?_ (by first | omega | (simp; done) | (simp; omega)) _) | exact Below.refl _ _ | assumption | (refine below_call ?_ (by first | omega | (simp; done) | (simp; omega)) (by assumption))))) (Nat.le_refl _) hb)
  replace BW := Lib.hid (BW.out.trans (kk.out.mono BW.out.size))
  replace A := Lib.hid (A.out.below kk.out A.out.lt)
  clear A_0 A_1 A_2 A_3 A_4
  obtain ⟨A_0, A_1, A_2, A_3, A_4⟩ := box2 A.out
  replace O4 := Lib.hid (O4.out.below kk.out (by omega))
  replace M := Lib.hid (M.out.below kk.out (Nat.le_refl _))
  have s17 := kk.out.size
  have X20 := Lib.hid (own_triples hO)
  obtain ⟨a17, c17, rfl⟩ := own_slice hO.1
  clear hO
  clear hb kk
  go_wp2_with fail
  refine (toIntS path _ _ (H2.out.below BW.out (Nat.le_refl _)) h3.out).mono ?_
  rintro e w18 ⟨v18, rfl, hO, hb⟩
  have kk := Lib.hid (below_call (B := w17.heap.size) (a := w17) (by with_reducible (repeat (first | (refine below_drewN ?_ _) | (refine Below.drew ?_) | (refine below_alloc ?_ (by first | omega | (simp; done) | (simp; omega)) _) | (refine Below.setCell ?_ (by first | omega | (simp; done) | (simp; omega)) _) | exact Below.refl _ _ | assumption | (refine below_call ?_ (by first | omega | (simp; done) | (simp; omega)) (by assumption))))) (Nat.le_refl _) hb)
  replace BW := Lib.hid (BW.out.trans (kk.out.mono BW.out.size))
  replace A := Lib.hid (A.out.below kk.out A.out.lt)
  clear A_0 A_1 A_2 A_3 A_4
  obtain ⟨A_0, A_1, A_2, A_3, A_4⟩ := box2 A.out
  replace O4 := Lib.hid (O4.out.below kk.out (by omega))
  replace M := Lib.hid (M.out.below kk.out (Nat.le_refl _))
  replace X20 := Lib.hid (X20.out.below kk.out (Nat.le_refl _))
  have s18 := kk.out.size
  have X21 := Lib.hid (own_ints hO)
  obtain ⟨a18, c18, rfl⟩ := own_slice hO.1
  clear hO
  clear hb kk
  go_wp2_with fail
  refine ((iCompile n ls path _ _ _ (X20.out.below (by with_reducible (repeat (first | exact Below.refl _ _ | (refine below_drewN ?_ _) | (refine Below.drew ?_) | (refine below_alloc ?_ (by first | omega | (simp; done) | (simp; omega)) _)))) (Nat.le_refl _)) (X21.out.below (by with_reducible (repeat (first | exact Below.refl _ _ | (refine below_drewN ?_ _) | (refine Below.drew ?_) | (refine below_alloc ?_ (by first | omega | (simp; done) | (simp; omega)) _)))) (Nat.le_refl _))).mono fun _ _ h => h.made HQ.out HP.out).mono ?_
  rintro e w19 ⟨v19, rfl, hO, hb⟩
  have kk := Lib.hid (below_call (B := w18.heap.size) (a := w18) (by with_reducible (repeat (first | (refine below_drewN ?_ _) | (refine Below.drew ?_) | (refine below_alloc ?_ (by first | omega | (simp; done) | (simp; omega)) _) | (refine Below.setCell ?_ (by first | omega | (simp; done) | (simp; omega)) _) | exact Below.refl _ _ | assumption | (refine below_call ?_ (by first | omega | (simp; done) | (simp; omega)) (by assumption))))) (Nat.le_refl _) hb)
  replace BW := Lib.hid (BW.out.trans (kk.out.mono BW.out.size))
  replace A := Lib.hid (A.out.below kk.out A.out.lt)
  clear A_0 A_1 A_2 A_3 A_4
  obtain ⟨A_0, A_1, A_2, A_3, A_4⟩ := box2 A.out
  replace O4 := Lib.hid (O4.out.below kk.out (by omega))
  replace M := Lib.hid (M.out.below kk.out (Nat.le_refl _))
  replace X20 := Lib.hid (X20.out.below kk.out (Nat.le_refl _))
  replace X21 := Lib.hid (X21.out.below kk.out (Nat.le_refl _))
  have s19 := kk.out.size
  have O22 := Lib.hid hO
  obtain ⟨a19, c19, rfl⟩ := own_slice hO.1
  clear hO
  clear hb kk
  clear X20 X21
  go_wp2_with fail
  refine (eqLabelS p p _ _ _ (own_pairs O22.out) (own_pairs O4.out)).mono ?_
  rw [eqB_self]
  rintro e w20 ⟨rfl, hb⟩
  have kk := Lib.hid (below_call (B := w19.heap.size) (a := w19) (by with_reducible (repeat (first | (refine below_drewN ?_ _) | (refine Below.drew ?_) | (refine below_alloc ?_ (by first | omega | (simp; done) | (simp; omega)) _) | (refine Below.setCell ?_ (by first | omega | (simp; done) | (simp; omega)) _) | exact Below.refl _ _ | assumption | (refine below_call ?_ (by first | omega | (simp; done) | (simp; omega)) (by assumption))))) (Nat.le_refl _) hb)
  replace BW := Lib.hid (BW.out.trans (kk.out.mono BW.out.size))
  replace A := Lib.hid (A.out.below kk.out A.out.lt)
  clear A_0 A_1 A_2 A_3 A_4
  obtain ⟨A_0, A_1, A_2, A_3, A_4⟩ := box2 A.out
  replace O4 := Lib.hid (O4.out.below kk.out (by omega))
  replace M := Lib.hid (M.out.below kk.out (Nat.le_refl _))
  replace O22 := Lib.hid (O22.out.below kk.out (by omega))
  have s20 := kk.out.size
  clear hb kk
  go_wp2_with fail
  refine (heldLabelS_any p.length _ 1 _ M.out (by omega) (by omega)).mono ?_
  rw [HK3.out]
  rintro e w' ⟨rfl, rfl⟩
  go_wp2_with fail
  go_ret
  exact ⟨rfl, BW.out⟩
theorem own : ownKnob Try.prog.godebug = none := by kernel_rfl
theorem laidOut : laidOutB Try.prog = true := by kernel_rfl
set_option maxRecDepth 100000 in
theorem lifted (os : Os) (started : os.Started) (H : Type) (enc : TypeId × Value → H) :
    ReturnsInHanded {} Try.checked os 8 .any (Rows.fnExactStackCompileSpec.pre6 enc Try.prog Try.f8 Rows.fnExactStackCompileRow.domain false) (Rows.fnExactStackCompileSpec.post enc Try.prog Try.f8 false true false false) := by
  refine returnsInHanded_of_change (C := Try.checked) own started (by kernel_rfl) Try.func8
    (ChangeSpec.witness6 (enc := enc) (C := Try.checked) false ⟨#[], #[.agg #[.int .i64 0, .slice none 0 0], .slice none 0 0], []⟩ 8 (by kernel_rfl) (by kernel_rfl) (by kernel_rfl) (by kernel_rfl)) ?_
  intro W base args ds gs before hval0 hW hcnd _
  have hval : ∀ (j : Nat) t v, Try.f8.params[j]? = some t → args[j]? = some v → Value.okWide Try.prog W .any base t v := hval0
  have hW' := hW
  obtain ⟨p, q, hA0, hV, rfl, hfz, hnd⟩ := hW
  have hA : DataW.TrodAll enc Try.prog W 0 (fun _ => true) true Try.f8.params.toList args.toList ds p := hA0
  rw [Try.params8] at hA hval
  obtain ⟨v0, vs0, d0, ds0, p0, q0, hargs, rfl, rfl, h0, r0⟩ := trodAll_cons hA
  obtain ⟨v1, vs1, d1, ds1, p1, q1, rfl, rfl, rfl, h1, r1⟩ := trodAll_cons r0
  obtain ⟨rfl, rfl, rfl⟩ := trodAll_nil r1
  obtain rfl : args = #[v0, v1] := by cases args; simp_all
  obtain ⟨rfl, rfl⟩ := trodVars_none hV
  have k0 := h0
  have lt0 : ∀ x ∈ p0, x.block < W.heap.size := by obtain ⟨m, hm⟩ := k0; exact DataW.trod_lt m _ _ _ hm
  obtain ⟨n0, u0, ls0, rfl, w0⟩ := graph_of_trod (G := 46) (K := 94) Try.underlying46 (by kernel_rfl) (by kernel_rfl) Try.underlying3 Try.underlying44 Try.underlying94 (by kernel_rfl) (by kernel_rfl) Try.underlying3 Try.underlying3 Try.underlying3 (hval 0 46 v0 rfl rfl) h0
  have k1 := h1
  have lt1 : ∀ x ∈ p1, x.block < W.heap.size := by obtain ⟨m, hm⟩ := k1; exact DataW.trod_lt m _ _ _ hm
  obtain ⟨xs1, w1⟩ := intsAt_of_trod (T := 26) (E := 3) Try.underlying26 Try.underlying3 (by kernel_rfl) (hval 1 26 v1 rfl rfl) h1
  clear hA0 hval0
  refine (walk n0 u0 ls0 v1 xs1 W w0 w1).mono fun e W' ⟨he, bel⟩ => ?_
  subst he
  exact ⟨_, rfl, _, _, _, [], _, [], hW', trodAll_mk1 (shut_bool Try.underlying4 _), (trodAll_cons_mk (Below.trod laidOut (by kernel_rfl) (of_decide_eq_true (by kernel_rfl)) k0 bel lt0) (trodAll_cons_mk (Below.trod laidOut (by kernel_rfl) (of_decide_eq_true (by kernel_rfl)) k1 bel lt1) trodAll_mk0)), rfl, bel.frame _, fun h => by cases h⟩
theorem over : Rows.fnExactStackCompileRow.holds Try.pinned (OpenSpec.ofChange Rows.fnExactStackCompileSpec) :=
  OpenClaim.holds_of_wide 8 Try.f8 rfl rfl rfl rfl rfl rfl rfl ⟨rfl, rfl, rfl, rfl, rfl⟩ rfl rfl rfl rfl rfl (by kernel_rfl) Try.func8 (by kernel_rfl)
    (of_decide_eq_true (by kernel_rfl)) (by unfold Func.isWrapper; first | (rw [if_pos (by decide +kernel)]; kernel_rfl) | (rw [if_neg (by decide +kernel)]; exact ⟨rfl, rfl⟩))
    (fun os started H enc _ => lifted os started H enc)
end Go.Proofs.Ytoebefpmfgkpoaa.lawFnExactStackCompile
namespace Go.Proofs.Ytoebefpmfgkpoaa
set_option linter.unusedSimpArgs false
set_option linter.unusedVariables false
/-- The statement. -/
theorem FnExactStackCompile_proved : Rows.FnExactStackCompileSaid := lawFnExactStackCompile.over
#print axioms FnExactStackCompile_proved
end Go.Proofs.Ytoebefpmfgkpoaa
