/- Comparisons and sizes: eqIntS, sameInts, eqLsaS, szLsa, szLsaS. -/
import Derived.Test.YtnnkdoomjkccgaaExact2
import Derived.Test.YtnnkdoomjkccgaaEqI
namespace Go.Proofs.Ytnnkdoomjkccgaa
set_option linter.unusedSimpArgs false
set_option linter.unusedVariables false
open Go.RowKit


set_option maxHeartbeats 1000000 in
theorem eqLsaS (xs ys : List LsaD) (v u : Value) (w : World) (hv : LsasAt w v xs) (hu : LsasAt w u ys) :
    Calls Try.prog 14 #[v, u] w fun e w' => e = .returned (.bool (eqB xs ys)) ∧ Below w.heap.size w w' := by
  obtain ⟨a, cap, b, off, rfl, hcap, hmax, ha, hc⟩ := hv
  obtain ⟨a2, cap2, b2, off2, rfl, hcap2, hmax2, ha2, hc2⟩ := hu
  unfold maxLen at hmax hmax2
  obtain ⟨n, hn⟩ : ∃ n, n = xs.length := ⟨_, rfl⟩
  obtain ⟨n2, hn2⟩ : ∃ n2, n2 = ys.length := ⟨_, rfl⟩
  rw [← hn] at hcap ha ⊢
  rw [← hn2] at hcap2 ha2 ⊢
  have HN := Lib.hid hn; clear hn
  have HC := Lib.hid hc; clear hc
  have HA := Lib.hid ha; clear ha
  have HN2 := Lib.hid hn2; clear hn2
  have HC2 := Lib.hid hc2; clear hc2
  have HA2 := Lib.hid ha2; clear ha2
  by_cases hl : n = n2
  rotate_left
  · have hlb : ((n:Int) != (n2:Int)) = true := by simp; omega
    have hlb2 : ((n:Int) == (n2:Int)) = false := by simp; omega
    have HL := Lib.hid hl; clear hl
    go_enter Try.func14, Try.ntmps14
    go_wp2
    go_ret
    exact ⟨ret_bool (by have h1 := HN.out; have h2 := HN2.out; have : xs ≠ ys := fun e => HL.out (by rw [h1, h2, e]); simp [eqB, this]), (by with_reducible (repeat (first | (refine below_drewN ?_ _) | (refine Below.drew ?_) | (refine below_alloc ?_ (by first | omega | (simp; done) | (simp; omega)) _) | (refine Below.setCell ?_ (by first | omega | (simp; done) | (simp; omega)) _) | exact Below.refl _ _ | assumption | (refine below_call ?_ (by first | omega | (simp; done) | (simp; omega)) (by assumption)))))⟩
  subst hl
  have hlb : ((n:Int) != (n:Int)) = false := by simp
  have hlb2 : ((n:Int) == (n:Int)) = true := by simp
  go_enter Try.func14, Try.ntmps14
  go_wp2
  go_loopw [5] (fun i wr => ∃ k : Nat, k ≤ n ∧ i = .int .i64 k ∧ Hid (∀ j, j < k → xs[j]? = ys[j]?) ∧ Below w.heap.size w wr)
    (fun i _ => n - (intOf i).toNat)
  case atStart => exact ⟨0, Nat.zero_le _, rfl, Lib.hid (fun j hj => by omega), Below.refl _ _⟩
  case round =>
    obtain ⟨k, hk, rfl, HI, HB⟩ := hrel
    by_cases hkn : k < n
    · obtain ⟨⟨x, y, es⟩, hxy⟩ := at_lt HN.out hkn
      obtain ⟨⟨x2, y2, es2⟩, hxy2⟩ := at_lt HN2.out hkn
      have ha := HA.out (by omega)
      have ha2 := HA2.out (by omega)
      subst ha ha2
      obtain ⟨p, d0, d1, d4, hp⟩ := HC.out k x y es hxy
      obtain ⟨q, d2, d3, d5, hq'⟩ := HC2.out k x2 y2 es2 hxy2
      obtain ⟨pa, pn, pc, rfl⟩ := hp.form
      obtain ⟨qa, qn, qc, rfl⟩ := hq'.form
      obtain ⟨I, φ, h0, hφ, hmk⟩ := famOf w.heap.size wr
      haveI : Nonempty I := h0.elim fun i _ => ⟨i⟩
      have e0 : ∀ i, (φ i).cell? ⟨b, off + k * 3, none⟩ = some (.int .i64 x) := fun i => cell_below (hφ i) (cell_below HB d0 (cell_lt d0)) (cell_lt d0)
      have e1 : ∀ i, (φ i).cell? ⟨b, off + k * 3 + 1, none⟩ = some (.int .i64 y) := fun i => cell_below (hφ i) (cell_below HB d1 (cell_lt d0)) (cell_lt d0)
      have e4 : ∀ i, (φ i).cell? ⟨b, off + k * 3 + 2, none⟩ = some (.slice pa pn pc) := fun i => cell_below (hφ i) (cell_below HB d4 (cell_lt d0)) (cell_lt d0)
      have e2 : ∀ i, (φ i).cell? ⟨b2, off2 + k * 3, none⟩ = some (.int .i64 x2) := fun i => cell_below (hφ i) (cell_below HB d2 (cell_lt d2)) (cell_lt d2)
      have e3 : ∀ i, (φ i).cell? ⟨b2, off2 + k * 3 + 1, none⟩ = some (.int .i64 y2) := fun i => cell_below (hφ i) (cell_below HB d3 (cell_lt d2)) (cell_lt d2)
      have e5 : ∀ i, (φ i).cell? ⟨b2, off2 + k * 3 + 2, none⟩ = some (.slice qa qn qc) := fun i => cell_below (hφ i) (cell_below HB d5 (cell_lt d2)) (cell_lt d2)
      have HP : Hid (∀ i, PairsAt (φ i) (.slice pa pn pc) es) := Lib.hid fun i => hp.below (HB.trans (hφ i)) (Nat.le_refl _)
      have HQ' : Hid (∀ i, PairsAt (φ i) (.slice qa qn qc) es2) := Lib.hid fun i => hq'.below (HB.trans (hφ i)) (Nat.le_refl _)
      have HX := Lib.hid hxy
      have HX2 := Lib.hid hxy2
      have HBs := Lib.hid HB.size
      have H0 := Lib.hid h0
      have HF := Lib.hid hφ
      have HM := Lib.hid hmk
      have hkI : (k:Int) < (n:Int) := by omega
      clear hxy hxy2 d0 d1 d2 d3 d4 d5 h0 hφ hmk hp hq'
      go_wp2_with fail
      refine wp_region_fam φ H0.out (by kernel_rfl) (by kernel_rfl) ?_
      rcases Bool.eq_false_or_eq_true (eqB (x, y, es) (x2, y2, es2)) with hq | hq
      all_goals
        have HQ := Lib.hid hq
        repeat (go_big_quiet_step ((go_at_call 30; exact quiet_fam HF.out HBs.out HM.out (eqLsa _ _ _ _ _ _ _ _ _ (HP.out _) (HQ'.out _)))))
        refine wpQuiet_nil ?_
        intro _ hw'
        obtain ⟨nq, hw''⟩ := hw'
        subst hw''
        go_wp2_with fail
      · go_roundw
        case rel =>
          refine ⟨k + 1, by omega, by go_num, Lib.hid (fun j hj => ?_), HB.trans (HF.out nq)⟩
          rcases Nat.lt_or_ge j k with h1 | h1
          · exact HI.out j h1
          · obtain rfl : j = k := by omega
            have := HQ.out
            simp [eqB] at this
            rw [HX.out, HX2.out, this.1, this.2.1, this.2.2]
        case measure => simp [intOf]; omega
      · go_ret
        refine ⟨ret_bool ?_, HB.trans (HF.out nq)⟩
        have : xs ≠ ys := fun e => by
          have h1 := HX.out; have h2 := HX2.out
          rw [e] at h1
          rw [h1] at h2
          injection h2 with h2
          have := HQ.out
          rw [h2] at this
          simp [eqB] at this
        simp [eqB, this]
    · go_wp2
      go_ret
      refine ⟨ret_bool ?_, HB⟩
      have : xs = ys := by
        apply List.ext_getElem?
        intro j
        by_cases hj : j < n
        · exact HI.out j (by omega)
        · rw [List.getElem?_eq_none (by have := HN.out; omega), List.getElem?_eq_none (by have := HN2.out; omega)]
      simp [eqB, this]
end Go.Proofs.Ytnnkdoomjkccgaa
