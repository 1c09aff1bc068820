/- PathValid of the program and of the reference: pathOk. -/
import Derived.Test.YtoebefpmfgkpoaaNodes
import Derived.Test.YtoebefpmfgkpoaaLk
namespace Go.Proofs.Ytoebefpmfgkpoaa
set_option linter.unusedSimpArgs false
set_option linter.unusedVariables false
open Go.RowKit

def chainB (ls : List LinkD) (path : List Int) (k : Nat) : Bool := decide (0 ≤ lkOf ls (path.getD k 0) (path.getD (k + 1) 0))
theorem pathOk_eq (n : Int) (ls : List LinkD) (path : List Int) : pathOk n ls path = (gOk n ls && inB path.length 1 9 && inB (path.getD 0 0) 0 (n - 1) && allUpTo (path.length - 1) (chainB ls path)) := rfl
theorem pathOk_g {n : Int} {ls : List LinkD} {path : List Int} (h : gOk n ls = false) : pathOk n ls path = false := by rw [pathOk_eq, h]; rfl
theorem pathOk_len {n : Int} {ls : List LinkD} {path : List Int} (h : inB path.length 1 9 = false) : pathOk n ls path = false := by rw [pathOk_eq, h]; simp
theorem pathOk_first {n : Int} {ls : List LinkD} {path : List Int} {x : Int} (hx : path[0]? = some x) (h : (gOk n ls && inB x 0 (n - 1)) = false) : pathOk n ls path = false := by
  rw [pathOk_eq, getD_of hx]
  cases hg : gOk n ls <;> simp_all
theorem pathOk_chain {n : Int} {ls : List LinkD} {path : List Int} {k : Nat} {x y : Int} (hx : path[k]? = some x) (hy : path[k + 1]? = some y) (h : lkOf ls x y < 0) : pathOk n ls path = false := by
  rw [pathOk_eq, all_bad (k := k) (by have := (List.getElem?_eq_some_iff.1 hy).1; omega) (by unfold chainB; rw [getD_of hx, getD_of hy]; simp; omega)]
  simp
theorem pathOk_all {n : Int} {ls : List LinkD} {path : List Int} {x : Int} (hl : inB path.length 1 9 = true) (hx : path[0]? = some x) (hg : gOk n ls = true) (hn : inB x 0 (n - 1) = true) (hc : ∀ k, k < path.length - 1 → chainB ls path k = true) : pathOk n ls path = true := by
  rw [pathOk_eq, getD_of hx, hl, hg, hn, all_good hc]; rfl
theorem lk_in {n : Int} {ls : List LinkD} (h : GOk n ls) {a b : Int} (hk : 0 ≤ lkOf ls a b) : inB b 0 (n - 1) = true := by
  have := (h.fits.ok.node a b (h.pos.1 hk)).2
  rw [h.nN] at this
  rw [inB_iff]; omega
set_option maxRecDepth 100000 in
set_option maxHeartbeats 4000000 in
theorem iPathValid (n : Int) (ls : List LinkD) (path : List Int) (v u : Value) (w : World) (hv : TriplesAt w v ls) (hu : IntsAt w u path) :
    Calls Try.prog 38 #[.agg #[.int .i64 n, v], u] w fun e w' => e = .returned (.bool (pathOk n ls path)) ∧ Below w.heap.size w w' := by
  have HV := Lib.hid hv
  obtain ⟨va, vm, vcap, rfl⟩ := hv.form
  clear hv
  obtain ⟨a, cap, b, off, rfl, hcap, hmax, ha, hc⟩ := hu
  unfold maxLen at hmax
  obtain ⟨m, hm⟩ : ∃ m, m = path.length := ⟨_, rfl⟩
  rw [← hm] at hcap ha ⊢
  have HM := Lib.hid hm; clear hm
  have HC := Lib.hid hc; clear hc
  have HA := Lib.hid ha; clear ha
  go_enter Try.func38, Try.ntmps38
  go_wp2_with fail
  have A := Lib.hid (box_new w #[.int .i64 n, .slice va vm vcap] 25)
  have BW0 : Hid (Below w.heap.size w (w.alloc (.cells #[.int .i64 n, .slice va vm vcap] 25))) := Lib.hid (by with_reducible (repeat (first | (refine below_drewN ?_ _) | (refine Below.drew ?_) | (refine below_alloc ?_ (by first | omega | (simp; done) | (simp; omega)) _) | (refine Below.setCell ?_ (by first | omega | (simp; done) | (simp; omega)) _) | exact Below.refl _ _ | assumption | (refine below_call ?_ (by first | omega | (simp; done) | (simp; omega)) (by assumption)))))
  obtain ⟨I, φ, h0, hφ, hmk⟩ := famOf (w.alloc (.cells #[.int .i64 n, .slice va vm vcap] 25)).heap.size (w.alloc (.cells #[.int .i64 n, .slice va vm vcap] 25))
  haveI : Nonempty I := h0.elim fun i _ => ⟨i⟩
  have H0 := Lib.hid h0; have HF := Lib.hid hφ; have HMK := Lib.hid hmk; have HBs : Hid ((w.alloc (.cells #[.int .i64 n, .slice va vm vcap] 25)).heap.size ≤ (w.alloc (.cells #[.int .i64 n, .slice va vm vcap] 25)).heap.size) := Lib.hid (Nat.le_refl _)
  clear h0 hφ hmk
  obtain ⟨G_0, G_1, G_2, G_3, G_4⟩ := box2F fun i => A.out.below (HF.out i) A.out.lt
  have HVF : Hid (∀ i, TriplesAt (φ i) (.slice va vm vcap) ls) := Lib.hid fun i => HV.out.below (BW0.out.trans ((HF.out i).mono (by simp))) (Nat.le_refl _)
  rcases Bool.eq_false_or_eq_true (inB (m:Int) 1 9) with g1 | g1
  rotate_left
  · refine wp_region_fam φ H0.out (by kernel_rfl) (by kernel_rfl) ?_
    repeat (go_big_quiet_step (first | (go_at_call 67; exact quiet_fam_same (within_any _ _ _ _))))
    refine wpQuiet_nil ?_
    intro _ hw'
    obtain ⟨nq, hw''⟩ := hw'
    subst hw''
    have hb := HF.out nq
    obtain ⟨w1, hw2⟩ : ∃ x, φ nq = x := ⟨_, rfl⟩
    rw [hw2] at hb ⊢
    clear hw2
    go_wp2_with fail
    go_ret
    exact ⟨ret_bool (by rw [pathOk_len (by rw [← HM.out]; exact g1)]), BW0.out.trans (hb.mono (by simp))⟩
  have hm9 := inB_iff.1 g1
  obtain ⟨x0, hx0⟩ := at_lt HM.out (show 0 < m by omega)
  have ha := HA.out (by omega)
  subst ha
  have c0 := HC.out 0 x0 hx0
  have hbd := cell_lt c0
  have c0F : ∀ i, (φ i).cell? ⟨b, off, none⟩ = some (.int .i64 x0) := fun i => cell_below (BW0.out.trans ((HF.out i).mono (by simp))) c0 hbd
  have HX0 := Lib.hid hx0
  have G1 := Lib.hid g1
  have hmI : (0:Int) < (m:Int) := by omega
  clear hx0 c0
  obtain ⟨g, hg⟩ : ∃ g, (gOk n ls && inB x0 0 (n - 1)) = g := ⟨_, rfl⟩
  have HG := Lib.hid hg
  have HN : Hid (∀ i, Calls Try.prog 52 #[.agg #[.int .i64 n, .slice va vm vcap], .int .i64 x0] (φ i) fun e w' => e = .returned (.bool g) ∧ Below (φ i).heap.size (φ i) w') := Lib.hid fun i => by
    rw [← HG.out]; exact iHasNode n x0 ls _ _ (HVF.out i)
  clear hg
  cases g
  · refine wp_region_fam φ H0.out (by kernel_rfl) (by kernel_rfl) ?_
    repeat (go_big_quiet_step (first | (go_at_call 67; exact quiet_fam_same (within_any _ _ _ _)) | (go_at_call 52; exact quiet_fam HF.out HBs.out HMK.out (HN.out _))))
    refine wpQuiet_nil ?_
    intro _ hw'
    obtain ⟨nq, hw''⟩ := hw'
    subst hw''
    have hb := HF.out nq
    obtain ⟨w1, hw2⟩ : ∃ x, φ nq = x := ⟨_, rfl⟩
    rw [hw2] at hb ⊢
    clear hw2
    go_wp2_with fail
    go_ret
    exact ⟨ret_bool (by rw [pathOk_first HX0.out HG.out]), BW0.out.trans (hb.mono (by simp))⟩
  refine wp_region_fam φ H0.out (by kernel_rfl) (by kernel_rfl) ?_
  repeat (go_big_quiet_step (first | (go_at_call 67; exact quiet_fam_same (within_any _ _ _ _)) | (go_at_call 52; exact quiet_fam HF.out HBs.out HMK.out (HN.out _))))
  refine wpQuiet_nil ?_
  intro _ hw'
  obtain ⟨nq, hw''⟩ := hw'
  subst hw''
  have hb := HF.out nq
  obtain ⟨w1, hw2⟩ : ∃ x, φ nq = x := ⟨_, rfl⟩
  rw [hw2] at hb ⊢
  clear hw2
  have BW := Lib.hid (BW0.out.trans (hb.mono (by simp)))
  replace A := Lib.hid (A.out.below hb A.out.lt)
  clear G_0 G_1 G_2 G_3 G_4 HVF c0F HN HF HBs HMK H0 hb BW0
  obtain ⟨hg1, hg2⟩ : gOk n ls = true ∧ inB x0 0 (n - 1) = true := by simpa using HG.out
  have HG1 := Lib.hid (gOk_iff.1 hg1)
  have HGB := Lib.hid hg1; have HGN := Lib.hid hg2
  clear hg1 hg2
  go_wp2_with fail
  have hm1 : 1 ≤ m := by omega
  go_loopw [5] (fun i wr => ∃ k : Nat, 1 ≤ k ∧ k ≤ m ∧ i = .int .i64 k ∧ Hid (∀ j, j < k - 1 → chainB ls path j = true) ∧ Below w.heap.size w wr ∧ Box wr w.heap.size #[.int .i64 n, .slice va vm vcap] 25) (fun i _ => m - (intOf i).toNat)
  case atStart => exact ⟨1, Nat.le_refl _, hm1, rfl, Lib.hid (fun j hj => by omega), BW.out, A.out⟩
  case round =>
    obtain ⟨k, hk1, hk, rfl, HI, hB, hG⟩ := hrel
    have HB := Lib.hid hB
    clear BW A
    by_cases hkm : k < m
    · obtain ⟨x, hx⟩ := at_lt HM.out (show k - 1 < m by omega)
      obtain ⟨y, hy⟩ := at_lt HM.out hkm
      have d0 := HC.out _ x hx
      have d1 := HC.out _ y hy
      have hkI : (k:Int) < (m:Int) := by omega
      have w1 : IntKind.i64.wrap ((k:Int) - 1) = (k:Int) - 1 := IntWalk.i64_in _ (by omega)
      have w2 : (0:Int) ≤ (k:Int) - 1 := by omega
      have w4 : ((k:Int) - 1).toNat = k - 1 := by omega
      have w5 : (k:Int) - 1 < (m:Int) := by omega
      have HX := Lib.hid hx; have HY : Hid (path[k - 1 + 1]? = some y) := Lib.hid (by rw [show k - 1 + 1 = k by omega]; exact hy)
      go_wp2_with fail
      obtain ⟨I, φ, h0, hφ, hmk⟩ := famOf (wr).heap.size (wr)
      haveI : Nonempty I := h0.elim fun i _ => ⟨i⟩
      have H0 := Lib.hid h0; have HF := Lib.hid hφ; have HMK := Lib.hid hmk; have HBs : Hid ((wr).heap.size ≤ (wr).heap.size) := Lib.hid (Nat.le_refl _)
      clear h0 hφ hmk
      obtain ⟨G_0, G_1, G_2, G_3, G_4⟩ := box2F fun i => hG.below (HF.out i) hG.lt
      have HW : Hid (∀ i, Below w.heap.size w (φ i)) := Lib.hid fun i => hB.trans ((HF.out i).mono hB.size)
      have e0 : ∀ i, (φ i).cell? ⟨b, off + (k - 1), none⟩ = some (.int .i64 x) := fun i => cell_below (HW.out i) d0 hbd
      have e1 : ∀ i, (φ i).cell? ⟨b, off + k, none⟩ = some (.int .i64 y) := fun i => cell_below (HW.out i) d1 hbd
      obtain ⟨r, hr⟩ : ∃ r, lkOf ls x y = r := ⟨_, rfl⟩
      have HR := Lib.hid hr
      have HN : Hid (∀ i, Calls Try.prog 40 #[.agg #[.int .i64 n, .slice va vm vcap], .int .i64 x, .int .i64 y] (φ i) fun e w' => e = .returned (.int .i64 r) ∧ Below (φ i).heap.size (φ i) w') := Lib.hid fun i => by
        rw [← HR.out]; exact iLinkOf n ls x y _ _ (HV.out.below (HW.out i) (Nat.le_refl _)) (by have := HG1.out.len; omega)
      clear hx hy hr d0 d1 hB
      rcases Bool.eq_false_or_eq_true (decide (r < 0)) with q | q
      · refine wp_region_fam φ H0.out (by kernel_rfl) (by kernel_rfl) ?_
        repeat (go_big_quiet_step (first | (go_at_call 40; exact quiet_fam HF.out HBs.out HMK.out (HN.out _))))
        refine wpQuiet_nil ?_
        intro _ hw'
        obtain ⟨nq, hw''⟩ := hw'
        subst hw''
        have hb := HF.out nq
        obtain ⟨w2, hw2⟩ : ∃ x, φ nq = x := ⟨_, rfl⟩
        rw [hw2] at hb ⊢
        clear hw2
        go_wp2_with fail
        go_ret
        exact ⟨ret_bool (by rw [pathOk_chain HX.out HY.out (by rw [HR.out]; simpa using q)]), HB.out.trans (hb.mono HB.out.size)⟩
      · refine wp_region_fam φ H0.out (by kernel_rfl) (by kernel_rfl) ?_
        repeat (go_big_quiet_step (first | (go_at_call 40; exact quiet_fam HF.out HBs.out HMK.out (HN.out _))))
        refine wpQuiet_nil ?_
        intro _ hw'
        obtain ⟨nq, hw''⟩ := hw'
        subst hw''
        have hb := HF.out nq
        obtain ⟨w2, hw2⟩ : ∃ x, φ nq = x := ⟨_, rfl⟩
        rw [hw2] at hb ⊢
        clear hw2
        go_wp2_with fail
        go_roundw
        case rel =>
          refine ⟨k + 1, by omega, by omega, by go_num, Lib.hid (fun j hj => ?_), HB.out.trans (hb.mono HB.out.size), hG.below hb hG.lt⟩
          rcases Nat.lt_or_ge j (k - 1) with h1 | h1
          · exact HI.out j h1
          · obtain rfl : j = k - 1 := by omega
            unfold chainB
            rw [getD_of HX.out, getD_of HY.out, HR.out]
            simp at q ⊢; omega
        case measure => simp [intOf]; omega
    · obtain rfl : m = k := by omega
      go_wp2_with fail
      go_ret
      exact ⟨ret_bool (pathOk_all (by rw [← HM.out]; exact G1.out) HX0.out HGB.out HGN.out (by rw [← HM.out]; exact HI.out)).symm, HB.out⟩
theorem lk_out {n : Int} {ls : List LinkD} (h : GOk n ls) {a b : Int} (hb : inB b 0 (n - 1) = false) : lkOf ls a b < 0 := by
  rcases Int.lt_or_le (lkOf ls a b) 0 with h1 | h1
  · exact h1
  · rw [lk_in h h1] at hb; cases hb
set_option maxRecDepth 100000 in
set_option maxHeartbeats 4000000 in
theorem sPathValid (n : Int) (ls : List LinkD) (path : List Int) (v u : Value) (w : World) (hv : TriplesAt w v ls) (hu : IntsAt w u path) :
    Calls Try.prog 41 #[.agg #[.int .i64 n, v], u] w fun e w' => e = .returned (.bool (pathOk n ls path)) ∧ Below w.heap.size w w' := by
  have HV := Lib.hid hv
  obtain ⟨va, vm, vcap, rfl⟩ := hv.form
  clear hv
  obtain ⟨a, cap, b, off, rfl, hcap, hmax, ha, hc⟩ := hu
  unfold maxLen at hmax
  obtain ⟨m, hm⟩ : ∃ m, m = path.length := ⟨_, rfl⟩
  rw [← hm] at hcap ha ⊢
  have HM := Lib.hid hm; clear hm
  have HC := Lib.hid hc; clear hc
  have HA := Lib.hid ha; clear ha
  go_enter Try.func41, Try.ntmps41
  go_wp2_with fail
  refine (sGraphValid n ls _ _ (HV.out.below (by with_reducible (repeat (first | (refine below_drewN ?_ _) | (refine Below.drew ?_) | (refine below_alloc ?_ (by first | omega | (simp; done) | (simp; omega)) _) | (refine Below.setCell ?_ (by first | omega | (simp; done) | (simp; omega)) _) | exact Below.refl _ _ | assumption | (refine below_call ?_ (by first | omega | (simp; done) | (simp; omega)) (by assumption))))) (Nat.le_refl _))).mono ?_
  rintro e w1 ⟨rfl, hb⟩
  have BW0 : Hid (Below w.heap.size w (w.alloc (.cells #[.int .i64 n, .slice va vm vcap] 25))) := Lib.hid (by with_reducible (repeat (first | (refine below_drewN ?_ _) | (refine Below.drew ?_) | (refine below_alloc ?_ (by first | omega | (simp; done) | (simp; omega)) _) | (refine Below.setCell ?_ (by first | omega | (simp; done) | (simp; omega)) _) | exact Below.refl _ _ | assumption | (refine below_call ?_ (by first | omega | (simp; done) | (simp; omega)) (by assumption)))))
  have BW := Lib.hid (BW0.out.trans (hb.mono (by simp)))
  have A := Lib.hid ((box_new w #[.int .i64 n, .slice va vm vcap] 25).below hb (by simp))
  clear hb BW0
  obtain ⟨g, hg⟩ : ∃ g, gOk n ls = g := ⟨_, rfl⟩
  have HG := Lib.hid hg
  rw [hg]
  clear hg
  cases g
  · go_wp2_with fail
    go_ret
    exact ⟨ret_bool (by rw [pathOk_g HG.out]), BW.out⟩
  rcases Bool.eq_false_or_eq_true (inB (m:Int) 1 9) with g1 | g1
  rotate_left
  · go_wp2_with (go_at_call 71; refine (l6In_any _ _ _ _).mono ?_; rintro e w' ⟨rfl, rfl⟩)
    go_ret
    exact ⟨ret_bool (by rw [pathOk_len (by rw [← HM.out]; exact g1)]), BW.out⟩
  have hm9 := inB_iff.1 g1
  obtain ⟨x0, hx0⟩ := at_lt HM.out (show 0 < m by omega)
  have ha := HA.out (by omega)
  subst ha
  have c0 := HC.out 0 x0 hx0
  have hbd := cell_lt c0
  have HX0 := Lib.hid hx0
  have G1 := Lib.hid g1
  clear hx0 c0
  go_wp2_with (go_at_call 71; refine (l6In_any _ _ _ _).mono ?_; rintro e w' ⟨rfl, rfl⟩)
  clear g1
  have HG1 := Lib.hid (gOk_iff.1 HG.out)
  have hn1 := HG1.out.n1
  have hn8 := HG1.out.n8
  go_loopw [5] (fun i wr => ∃ k : Nat, k ≤ m ∧ i = .int .i64 k ∧ Hid (0 < k → inB x0 0 (n - 1) = true) ∧ Hid (∀ j, j < k - 1 → chainB ls path j = true) ∧ Below w.heap.size w wr ∧ Box wr w.heap.size #[.int .i64 n, .slice va vm vcap] 25) (fun i _ => m - (intOf i).toNat)
  case atStart => exact ⟨0, Nat.zero_le _, rfl, Lib.hid (fun h => by omega), Lib.hid (fun j hj => by omega), BW.out, A.out⟩
  case round =>
    obtain ⟨k, hk, rfl, HI0, HI, hB, hG⟩ := hrel
    have HB := Lib.hid hB
    clear BW A
    by_cases hkm : k < m
    · obtain ⟨y, hy⟩ := at_lt HM.out hkm
      have d1 := HC.out _ y hy
      have hkI : (k:Int) < (m:Int) := by omega
      go_wp2_with fail
      obtain ⟨I, φ, h0, hφ, hmk⟩ := famOf (wr).heap.size (wr)
      haveI : Nonempty I := h0.elim fun i _ => ⟨i⟩
      have H0 := Lib.hid h0; have HF := Lib.hid hφ; have HMK := Lib.hid hmk; have HBs : Hid ((wr).heap.size ≤ (wr).heap.size) := Lib.hid (Nat.le_refl _)
      clear h0 hφ hmk
      obtain ⟨G_0, G_1, G_2, G_3, G_4⟩ := box2F fun i => hG.below (HF.out i) hG.lt
      have HW : Hid (∀ i, Below w.heap.size w (φ i)) := Lib.hid fun i => hB.trans ((HF.out i).mono hB.size)
      have e1 : ∀ i, (φ i).cell? ⟨b, off + k, none⟩ = some (.int .i64 y) := fun i => cell_below (HW.out i) d1 hbd
      have HN : Hid (∀ i, Calls Try.prog 72 #[.agg #[.int .i64 n, .slice va vm vcap], .int .i64 y] (φ i) fun e w' => e = .returned (.bool (inB y 0 (n - 1))) ∧ Below (φ i).heap.size (φ i) w') := Lib.hid fun i => sNode n y _ _ hn1 hn8
      by_cases hk0 : k = 0
      · subst hk0
        obtain rfl : y = x0 := by have := HX0.out; rw [hy] at this; injection this
        have t0 : decide ((0:Int) < ((0:Nat):Int)) = false := by simp
        simp only [Nat.add_zero] at e1
        clear hy d1 hB
        rcases Bool.eq_false_or_eq_true (inB y 0 (n - 1)) with q | q
        · refine wp_region_fam φ H0.out (by kernel_rfl) (by kernel_rfl) ?_
          repeat (go_big_quiet_step (first | (go_at_call 72; exact quiet_fam HF.out HBs.out HMK.out (HN.out _))))
          refine wpQuiet_nil ?_
          intro _ hw'
          obtain ⟨nq, hw''⟩ := hw'
          subst hw''
          have hb := HF.out nq
          obtain ⟨w2, hw2⟩ : ∃ x, φ nq = x := ⟨_, rfl⟩
          rw [hw2] at hb ⊢
          clear hw2
          go_wp2_with fail
          go_roundw
          case rel =>
            exact ⟨1, by omega, by go_num, Lib.hid (fun _ => q), Lib.hid (fun j hj => by omega), HB.out.trans (hb.mono HB.out.size), hG.below hb hG.lt⟩
          case measure => simp [intOf]; omega
        · refine wp_region_fam φ H0.out (by kernel_rfl) (by kernel_rfl) ?_
          repeat (go_big_quiet_step (first | (go_at_call 72; exact quiet_fam HF.out HBs.out HMK.out (HN.out _))))
          refine wpQuiet_nil ?_
          intro _ hw'
          obtain ⟨nq, hw''⟩ := hw'
          subst hw''
          have hb := HF.out nq
          obtain ⟨w2, hw2⟩ : ∃ x, φ nq = x := ⟨_, rfl⟩
          rw [hw2] at hb ⊢
          clear hw2
          go_wp2_with fail
          go_ret
          exact ⟨ret_bool (by rw [pathOk_first HX0.out (by rw [q]; simp)]), HB.out.trans (hb.mono HB.out.size)⟩
      · have hk1 : 0 < k := by omega
        have t0 : decide ((0:Int) < (k:Int)) = true := by simp; omega
        obtain ⟨x, hx⟩ := at_lt HM.out (show k - 1 < m by omega)
        have d0 := HC.out _ x hx
        have e0 : ∀ i, (φ i).cell? ⟨b, off + (k - 1), none⟩ = some (.int .i64 x) := fun i => cell_below (HW.out i) d0 hbd
        have w1 : IntKind.i64.wrap ((k:Int) - 1) = (k:Int) - 1 := IntWalk.i64_in _ (by omega)
        have w2 : (0:Int) ≤ (k:Int) - 1 := by omega
        have w3 : (1:Int) ≤ (k:Int) := by omega
        have w4 : ((k:Int) - 1).toNat = k - 1 := by omega
        have w5 : (k:Int) - 1 < (m:Int) := by omega
        have HX := Lib.hid hx; have HY : Hid (path[k - 1 + 1]? = some y) := Lib.hid (by rw [show k - 1 + 1 = k by omega]; exact hy)
        obtain ⟨r, hr⟩ : ∃ r, lkOf ls x y = r := ⟨_, rfl⟩
        have HR := Lib.hid hr
        have HK : Hid (∀ i, Calls Try.prog 43 #[.agg #[.int .i64 n, .slice va vm vcap], .int .i64 x, .int .i64 y] (φ i) fun e w' => e = .returned (.int .i64 r) ∧ Below (φ i).heap.size (φ i) w') := Lib.hid fun i => by
          rw [← HR.out]; exact sLinkOf n ls x y _ _ (HV.out.below (HW.out i) (Nat.le_refl _))
        clear hx hy hr d0 d1 hB
        rcases Bool.eq_false_or_eq_true (inB y 0 (n - 1)) with q1 | q1
        rotate_left
        · refine wp_region_fam φ H0.out (by kernel_rfl) (by kernel_rfl) ?_
          repeat (go_big_quiet_step (first | (go_at_call 72; exact quiet_fam HF.out HBs.out HMK.out (HN.out _))))
          refine wpQuiet_nil ?_
          intro _ hw'
          obtain ⟨nq, hw''⟩ := hw'
          subst hw''
          have hb := HF.out nq
          obtain ⟨w2, hw2⟩ : ∃ x, φ nq = x := ⟨_, rfl⟩
          rw [hw2] at hb ⊢
          clear hw2
          go_wp2_with fail
          go_ret
          exact ⟨ret_bool (by rw [pathOk_chain HX.out HY.out (lk_out HG1.out q1)]), HB.out.trans (hb.mono HB.out.size)⟩
        rcases Bool.eq_false_or_eq_true (decide (r < 0)) with q | q
        · refine wp_region_fam φ H0.out (by kernel_rfl) (by kernel_rfl) ?_
          repeat (go_big_quiet_step (first | (go_at_call 72; exact quiet_fam HF.out HBs.out HMK.out (HN.out _)) | (go_at_call 43; exact quiet_fam HF.out HBs.out HMK.out (HK.out _))))
          refine wpQuiet_nil ?_
          intro _ hw'
          obtain ⟨nq, hw''⟩ := hw'
          subst hw''
          have hb := HF.out nq
          obtain ⟨w2, hw2⟩ : ∃ x, φ nq = x := ⟨_, rfl⟩
          rw [hw2] at hb ⊢
          clear hw2
          go_wp2_with fail
          go_ret
          exact ⟨ret_bool (by rw [pathOk_chain HX.out HY.out (by rw [HR.out]; simpa using q)]), HB.out.trans (hb.mono HB.out.size)⟩
        · refine wp_region_fam φ H0.out (by kernel_rfl) (by kernel_rfl) ?_
          repeat (go_big_quiet_step (first | (go_at_call 72; exact quiet_fam HF.out HBs.out HMK.out (HN.out _)) | (go_at_call 43; exact quiet_fam HF.out HBs.out HMK.out (HK.out _))))
          refine wpQuiet_nil ?_
          intro _ hw'
          obtain ⟨nq, hw''⟩ := hw'
          subst hw''
          have hb := HF.out nq
          obtain ⟨w2, hw2⟩ : ∃ x, φ nq = x := ⟨_, rfl⟩
          rw [hw2] at hb ⊢
          clear hw2
          go_wp2_with fail
          go_roundw
          case rel =>
            refine ⟨k + 1, by omega, by go_num, Lib.hid (fun _ => HI0.out (by omega)), Lib.hid (fun j hj => ?_), HB.out.trans (hb.mono HB.out.size), hG.below hb hG.lt⟩
            rcases Nat.lt_or_ge j (k - 1) with h1 | h1
            · exact HI.out j h1
            · obtain rfl : j = k - 1 := by omega
              unfold chainB
              rw [getD_of HX.out, getD_of HY.out, HR.out]
              simp at q ⊢; omega
          case measure => simp [intOf]; omega
    · obtain rfl : m = k := by omega
      go_wp2_with fail
      go_ret
      exact ⟨ret_bool (pathOk_all (by rw [← HM.out]; exact G1.out) HX0.out HG.out (HI0.out (by omega)) (by rw [← HM.out]; exact HI.out)).symm, HB.out⟩
end Go.Proofs.Ytoebefpmfgkpoaa
