/- DbValid of the program and of the reference: both give dbOk. -/
import Derived.Test.YtnnkdoomjkccgaaLsa
import Derived.Test.YtnnkdoomjkccgaaOwn2
namespace Go.Proofs.Ytnnkdoomjkccgaa
set_option linter.unusedSimpArgs false
set_option linter.unusedVariables false
open Go.RowKit

set_option maxHeartbeats 2000000 in
theorem iDbValid (db : List LsaD) (v : Value) (w : World) (h : LsasAt w v db) :
    Calls Try.prog 42 #[v] w fun e w' => e = .returned (.bool (dbOk db)) ∧ Below w.heap.size w w' := by
  obtain ⟨a, cap, b, off, rfl, hcap, hmax, ha, hc⟩ := h
  unfold maxLen at hmax
  obtain ⟨n, hn⟩ : ∃ n, n = db.length := ⟨_, rfl⟩
  rw [← hn] at hcap ha ⊢
  have HN := Lib.hid hn; clear hn
  have HC := Lib.hid hc; clear hc
  have HA := Lib.hid ha; clear ha
  go_enter Try.func42, Try.ntmps42
  go_wp2
  go_loopw [7] (fun i wr => ∃ k : Nat, k ≤ n ∧ i = .int .i64 k ∧ Hid (∀ j, j < k → dbRowOk db j = true) ∧ Below w.heap.size w wr)
    (fun i _ => n - (intOf i).toNat)
  case atStart => exact ⟨0, Nat.zero_le _, rfl, Lib.hid (fun j hj => by omega), Below.refl _ _⟩
  case round =>
    obtain ⟨k, hk, rfl, HI, HB⟩ := hrel
    by_cases hkn : k < n
    · obtain ⟨⟨o, s, es⟩, hxy⟩ := at_lt HN.out hkn
      have ha := HA.out (by omega)
      subst ha
      obtain ⟨u, d0, d1, d2, hu⟩ := HC.out k o s es hxy
      obtain ⟨ua, un, uc, rfl⟩ := hu.form
      have hb : b < w.heap.size := cell_lt d0
      have e0 := cell_below HB d0 hb
      have e1 := cell_below HB d1 hb
      have e2 := cell_below HB d2 hb
      have HU0 := Lib.hid (hu.below HB (Nat.le_refl _))
      have HE := Lib.hid (dbRowOk_at hxy)
      have hkl : k < db.length := by rw [← HN.out]; exact hkn
      have HL := Lib.hid hkl; clear hkl
      clear hxy d0 d1 d2 hu
      have hbr : b < wr.heap.size := by have := HB.size; omega
      go_wp2_with fail
      obtain ⟨I, φ, h0, hφ, hmk⟩ := famOf (wr.heap.size + 1) (wr.alloc (.cells #[.int .i64 o, .int .i64 s, .slice ua un uc] 41))
      haveI : Nonempty I := h0.elim fun i _ => ⟨i⟩
      have g0 : ∀ i, (φ i).cell? ⟨wr.heap.size, 0, none⟩ = some (.int .i64 o) := fun i => cell_below (hφ i) (by simp [go_sem]) (by simp)
      have g1 : ∀ i, (φ i).cell? ⟨wr.heap.size, 1, none⟩ = some (.int .i64 s) := fun i => cell_below (hφ i) (by simp [go_sem]) (by simp)
      have g2 : ∀ i, (φ i).cell? ⟨wr.heap.size, 2, none⟩ = some (.slice ua un uc) := fun i => cell_below (hφ i) (by simp [go_sem]) (by simp)
      have HU : Hid (∀ i, PairsAt (φ i) (.slice ua un uc) es) := Lib.hid fun i => (HU0.out.below ((Below.refl wr.heap.size wr).alloc (Nat.le_refl _) (.cells #[.int .i64 o, .int .i64 s, .slice ua un uc] 41)) (Nat.le_refl _)).below (hφ i) (by simp)
      have HBs : Hid (wr.heap.size + 1 ≤ (wr.alloc (.cells #[.int .i64 o, .int .i64 s, .slice ua un uc] 41)).heap.size) := by show _ ≤ _; simp
      have HW : Hid (∀ i, Below w.heap.size w (φ i)) := Lib.hid fun i => (below_alloc HB (Nat.le_refl _) _).trans ((hφ i).mono (by have := HB.size; omega))
      have H0 := Lib.hid h0
      have HF := Lib.hid hφ
      have HM := Lib.hid hmk
      have hkI : (k:Int) < (n:Int) := by omega
      clear h0 hφ hmk
      refine wp_region_fam φ H0.out (by kernel_rfl) (by kernel_rfl) ?_
      rcases Bool.eq_false_or_eq_true (lsaOk o s es) with hx | hx
      rotate_left
      · repeat (go_big_quiet_step ((go_at_call 27; exact quiet_fam HF.out HBs.out HM.out (iLsaValid _ _ _ _ _ (HU.out _)))))
        refine wpQuiet_nil ?_
        intro _ hw'
        obtain ⟨nq, hw''⟩ := hw'
        subst hw''
        go_wp2_with fail
        go_ret
        exact ⟨ret_bool (all_bad HL.out (by rw [HE.out, hx]; rfl)).symm, HW.out nq⟩
      by_cases hk0 : 0 < k
      · obtain ⟨⟨po, ps, pes⟩, hp⟩ := at_lt (l := db) HN.out (k := k - 1) (by omega)
        obtain ⟨pu, d0, _, _, _⟩ := HC.out (k-1) po ps pes hp
        have f0 : ∀ i, (φ i).cell? ⟨b, off + (k-1) * 3, none⟩ = some (.int .i64 po) := fun i => cell_below (HW.out i) d0 (by simp; omega)
        have HP : Hid ((db.getD (k-1) (0,0,[])).1 = po) := by show _ = _; rw [getD_of hp]
        clear hp d0
        have hd : decide ((0:Int) < (k:Int)) = true := by simp; omega
        have w1 : IntKind.i64.wrap ((k:Int) - 1) = (k:Int) - 1 := IntWalk.i64_in _ (by omega)
        have w2 : (0:Int) ≤ (k:Int) - 1 := by omega
        have w3 : (1:Int) ≤ (k:Int) := by omega
        have w4 : ((k:Int) - 1).toNat = k - 1 := by omega
        have w5 : (k:Int) - 1 < (n:Int) := by omega
        rcases Bool.eq_false_or_eq_true (decide (o ≤ po)) with hpx | hpx
        · repeat (go_big_quiet_step ((go_at_call 27; exact quiet_fam HF.out HBs.out HM.out (iLsaValid _ _ _ _ _ (HU.out _)))))
          refine wpQuiet_nil ?_
          intro _ hw'
          obtain ⟨nq, hw''⟩ := hw'
          subst hw''
          go_wp2_with fail
          go_ret
          exact ⟨ret_bool (all_bad HL.out (by rw [HE.out, HP.out, hpx]; have : (k == 0) = false := (by simp; omega); rw [this]; simp)).symm, HW.out nq⟩
        · repeat (go_big_quiet_step ((go_at_call 27; exact quiet_fam HF.out HBs.out HM.out (iLsaValid _ _ _ _ _ (HU.out _)))))
          refine wpQuiet_nil ?_
          intro _ hw'
          obtain ⟨nq, hw''⟩ := hw'
          subst hw''
          go_wp2_with fail
          go_roundw
          case rel =>
            exact ⟨k + 1, by omega, by go_num, Lib.hid (upto_succ HI.out (by rw [HE.out, hx, HP.out, hpx]; simp)), HW.out nq⟩
          case measure => simp [intOf]; omega
      · obtain rfl : k = 0 := by omega
        have hd : decide ((0:Int) < (0:Int)) = false := by simp
        try simp only [Nat.zero_mul, Nat.add_zero] at g0 g1 g2
        repeat (go_big_quiet_step ((go_at_call 27; exact quiet_fam HF.out HBs.out HM.out (iLsaValid _ _ _ _ _ (HU.out _)))))
        refine wpQuiet_nil ?_
        intro _ hw'
        obtain ⟨nq, hw''⟩ := hw'
        subst hw''
        go_wp2_with fail
        go_roundw
        case rel =>
          exact ⟨0 + 1, by omega, by go_num, Lib.hid (upto_succ HI.out (by rw [HE.out, hx]; simp)), HW.out nq⟩
        case measure => simp [intOf]; omega
    · go_wp2
      go_ret
      exact ⟨ret_bool (all_good (fun j hj => HI.out j (by have := HN.out; omega))).symm, HB⟩

set_option maxHeartbeats 2000000 in
theorem sDbValid (db : List LsaD) (v : Value) (w : World) (h : LsasAt w v db) :
    Calls Try.prog 38 #[v] w fun e w' => e = .returned (.bool (dbOk db)) ∧ Below w.heap.size w w' := by
  obtain ⟨a, cap, b, off, rfl, hcap, hmax, ha, hc⟩ := h
  unfold maxLen at hmax
  obtain ⟨n, hn⟩ : ∃ n, n = db.length := ⟨_, rfl⟩
  rw [← hn] at hcap ha ⊢
  have HN := Lib.hid hn; clear hn
  have HC := Lib.hid hc; clear hc
  have HA := Lib.hid ha; clear ha
  go_enter Try.func38, Try.ntmps38
  go_wp2
  go_loopw [3] (fun i wr => ∃ k : Nat, k ≤ n ∧ i = .int .i64 k ∧ Hid (∀ j, j < k → dbRowOk db j = true) ∧ Below w.heap.size w wr)
    (fun i _ => n - (intOf i).toNat)
  case atStart => exact ⟨0, Nat.zero_le _, rfl, Lib.hid (fun j hj => by omega), Below.refl _ _⟩
  case round =>
    obtain ⟨k, hk, rfl, HI, HB⟩ := hrel
    by_cases hkn : k < n
    · obtain ⟨⟨o, s, es⟩, hxy⟩ := at_lt HN.out hkn
      have ha := HA.out (by omega)
      subst ha
      obtain ⟨u, d0, d1, d2, hu⟩ := HC.out k o s es hxy
      obtain ⟨ua, un, uc, rfl⟩ := hu.form
      have hb : b < w.heap.size := cell_lt d0
      have e0 := cell_below HB d0 hb
      have e1 := cell_below HB d1 hb
      have e2 := cell_below HB d2 hb
      have HU0 := Lib.hid (hu.below HB (Nat.le_refl _))
      have HE := Lib.hid (dbRowOk_at hxy)
      have hkl : k < db.length := by rw [← HN.out]; exact hkn
      have HL := Lib.hid hkl; clear hkl
      clear hxy d0 d1 d2 hu
      go_wp2_with fail
      obtain ⟨I, φ, h0, hφ, hmk⟩ := famOf wr.heap.size wr
      haveI : Nonempty I := h0.elim fun i _ => ⟨i⟩
      have g0 : ∀ i, (φ i).cell? ⟨b, off + k * 3, none⟩ = some (.int .i64 o) := fun i => cell_below (hφ i) e0 (by have := HB.size; simp; omega)
      have g1 : ∀ i, (φ i).cell? ⟨b, off + k * 3 + 1, none⟩ = some (.int .i64 s) := fun i => cell_below (hφ i) e1 (by have := HB.size; simp; omega)
      have g2 : ∀ i, (φ i).cell? ⟨b, off + k * 3 + 2, none⟩ = some (.slice ua un uc) := fun i => cell_below (hφ i) e2 (by have := HB.size; simp; omega)
      have HU : Hid (∀ i, PairsAt (φ i) (.slice ua un uc) es) := Lib.hid fun i => HU0.out.below (hφ i) (Nat.le_refl _)
      have HBs : Hid (wr.heap.size ≤ wr.heap.size) := Lib.hid (Nat.le_refl _)
      have HW : Hid (∀ i, Below w.heap.size w (φ i)) := Lib.hid fun i => HB.trans ((hφ i).mono (by have := HB.size; omega))
      have H0 := Lib.hid h0
      have HF := Lib.hid hφ
      have HM := Lib.hid hmk
      have hkI : (k:Int) < (n:Int) := by omega
      clear h0 hφ hmk
      refine wp_region_fam φ H0.out (by kernel_rfl) (by kernel_rfl) ?_
      rcases Bool.eq_false_or_eq_true (lsaOk o s es) with hx | hx
      rotate_left
      · repeat (go_big_quiet_step ((go_at_call 68; exact quiet_fam HF.out HBs.out HM.out (sLsaValid _ _ _ _ _ (HU.out _)))))
        refine wpQuiet_nil ?_
        intro _ hw'
        obtain ⟨nq, hw''⟩ := hw'
        subst hw''
        go_wp2_with fail
        go_ret
        exact ⟨ret_bool (all_bad HL.out (by rw [HE.out, hx]; rfl)).symm, HW.out nq⟩
      by_cases hk0 : 0 < k
      · obtain ⟨⟨po, ps, pes⟩, hp⟩ := at_lt (l := db) HN.out (k := k - 1) (by omega)
        obtain ⟨pu, d0, _, _, _⟩ := HC.out (k-1) po ps pes hp
        have f0 : ∀ i, (φ i).cell? ⟨b, off + (k-1) * 3, none⟩ = some (.int .i64 po) := fun i => cell_below (HW.out i) d0 (by simp; omega)
        have HP : Hid ((db.getD (k-1) (0,0,[])).1 = po) := by show _ = _; rw [getD_of hp]
        clear hp d0
        have hd : decide ((0:Int) < (k:Int)) = true := by simp; omega
        have w1 : IntKind.i64.wrap ((k:Int) - 1) = (k:Int) - 1 := IntWalk.i64_in _ (by omega)
        have w2 : (0:Int) ≤ (k:Int) - 1 := by omega
        have w3 : (1:Int) ≤ (k:Int) := by omega
        have w4 : ((k:Int) - 1).toNat = k - 1 := by omega
        have w5 : (k:Int) - 1 < (n:Int) := by omega
        rcases Bool.eq_false_or_eq_true (decide (o ≤ po)) with hpx | hpx
        · repeat (go_big_quiet_step ((go_at_call 68; exact quiet_fam HF.out HBs.out HM.out (sLsaValid _ _ _ _ _ (HU.out _)))))
          refine wpQuiet_nil ?_
          intro _ hw'
          obtain ⟨nq, hw''⟩ := hw'
          subst hw''
          go_wp2_with fail
          go_ret
          exact ⟨ret_bool (all_bad HL.out (by rw [HE.out, HP.out, hpx]; have : (k == 0) = false := (by simp; omega); rw [this]; simp)).symm, HW.out nq⟩
        · repeat (go_big_quiet_step ((go_at_call 68; exact quiet_fam HF.out HBs.out HM.out (sLsaValid _ _ _ _ _ (HU.out _)))))
          refine wpQuiet_nil ?_
          intro _ hw'
          obtain ⟨nq, hw''⟩ := hw'
          subst hw''
          go_wp2_with fail
          go_roundw
          case rel =>
            exact ⟨k + 1, by omega, by go_num, Lib.hid (upto_succ HI.out (by rw [HE.out, hx, HP.out, hpx]; simp)), HW.out nq⟩
          case measure => simp [intOf]; omega
      · obtain rfl : k = 0 := by omega
        have hd : decide ((0:Int) < (0:Int)) = false := by simp
        try simp only [Nat.zero_mul, Nat.add_zero] at g0 g1 g2
        repeat (go_big_quiet_step ((go_at_call 68; exact quiet_fam HF.out HBs.out HM.out (sLsaValid _ _ _ _ _ (HU.out _)))))
        refine wpQuiet_nil ?_
        intro _ hw'
        obtain ⟨nq, hw''⟩ := hw'
        subst hw''
        go_wp2_with fail
        go_roundw
        case rel =>
          exact ⟨0 + 1, by omega, by go_num, Lib.hid (upto_succ HI.out (by rw [HE.out, hx]; simp)), HW.out nq⟩
        case measure => simp [intOf]; omega
    · go_wp2
      go_ret
      exact ⟨ret_bool (all_good (fun j hj => HI.out j (by have := HN.out; omega))).symm, HB⟩
end Go.Proofs.Ytnnkdoomjkccgaa
