/- Comparisons of lists of integers: eqIntS, sameInts. -/
import Derived.Test.YtoebefpmfgkpoaaBase
import Derived.Test.YtoebefpmfgkpoaaOwn2
import Derived.Test.YtoebefpmfgkpoaaGrAll
namespace Go.Proofs.Ytoebefpmfgkpoaa
set_option linter.unusedSimpArgs false
set_option linter.unusedVariables false
open Go.RowKit
theorem eqIntS (xs ys : List Int) (v u : Value) (w : World) (hv : IntsAt w v xs) (hu : IntsAt w u ys) :
    Calls Try.prog 29 #[v, u] w fun e w' => e = .returned (.bool (eqB xs ys)) ∧ Below w.heap.size w w' := by
  obtain ⟨a, cap, b, off, rfl, hcap, hmax, ha, hc⟩ := hv
  obtain ⟨a2, cap2, b2, off2, rfl, hcap2, hmax2, ha2, hc2⟩ := hu
  unfold maxLen at hmax hmax2
  obtain ⟨n, hn⟩ : ∃ n, n = xs.length := ⟨_, rfl⟩
  obtain ⟨n2, hn2⟩ : ∃ n2, n2 = ys.length := ⟨_, rfl⟩
  rw [← hn] at hcap ha ⊢
  rw [← hn2] at hcap2 ha2 ⊢
  have HN := Lib.hid hn; clear hn
  have HC := Lib.hid hc; clear hc
  have HA := Lib.hid ha; clear ha
  have HN2 := Lib.hid hn2; clear hn2
  have HC2 := Lib.hid hc2; clear hc2
  have HA2 := Lib.hid ha2; clear ha2
  by_cases hl : n = n2
  rotate_left
  · have hlb : ((n:Int) != (n2:Int)) = true := by simp; omega
    have hlb2 : ((n:Int) == (n2:Int)) = false := by simp; omega
    have HL := Lib.hid hl; clear hl
    go_enter Try.func29, Try.ntmps29
    go_wp2
    go_ret
    exact ⟨ret_bool (by have h1 := HN.out; have h2 := HN2.out; have : xs ≠ ys := fun e => HL.out (by rw [h1, h2, e]); simp [eqB, this]), (by with_reducible (repeat (first | (refine below_drewN ?_ _) | (refine Below.drew ?_) | (refine below_alloc ?_ (by first | omega | (simp; done) | (simp; omega)) _) | (refine Below.setCell ?_ (by first | omega | (simp; done) | (simp; omega)) _) | exact Below.refl _ _ | assumption | (refine below_call ?_ (by first | omega | (simp; done) | (simp; omega)) (by assumption)))))⟩
  subst hl
  have hlb : ((n:Int) != (n:Int)) = false := by simp
  have hlb2 : ((n:Int) == (n:Int)) = true := by simp
  go_enter Try.func29, Try.ntmps29
  go_wp2
  go_loopw [5] (fun i wr => ∃ k : Nat, k ≤ n ∧ i = .int .i64 k ∧ Hid (∀ j, j < k → xs[j]? = ys[j]?) ∧ Below w.heap.size w wr)
    (fun i _ => n - (intOf i).toNat)
  case atStart => exact ⟨0, Nat.zero_le _, rfl, Lib.hid (fun j hj => by omega), Below.refl _ _⟩
  case round =>
    obtain ⟨k, hk, rfl, HI, HB⟩ := hrel
    by_cases hkn : k < n
    · obtain ⟨x, hxy⟩ := at_lt HN.out hkn
      obtain ⟨x2, hxy2⟩ := at_lt HN2.out hkn
      have ha := HA.out (by omega)
      have ha2 := HA2.out (by omega)
      subst ha ha2
      have d0 := HC.out k x hxy
      have d2 := HC2.out k x2 hxy2
      have e0 := cell_below HB d0 (cell_lt d0)
      have e2 := cell_below HB d2 (cell_lt d2)
      have HX := Lib.hid hxy
      have HX2 := Lib.hid hxy2
      have hkI : (k:Int) < (n:Int) := by omega
      clear hxy hxy2 d0 d2
      rcases Bool.eq_false_or_eq_true (x == x2) with hq | hq
      all_goals
        have hq1 : (x != x2) = !(x == x2) := rfl
        rw [hq] at hq1
        have HQ := Lib.hid hq
        go_wp2_with fail
        go_quiet (fail)
        go_wp2_with fail
      · go_roundw
        case rel =>
          refine ⟨k + 1, by omega, by go_num, Lib.hid (fun j hj => ?_), below_drewN HB _⟩
          rcases Nat.lt_or_ge j k with h1 | h1
          · exact HI.out j h1
          · obtain rfl : j = k := by omega
            have := HQ.out
            simp at this
            rw [HX.out, HX2.out, this]
        case measure => simp [intOf]; omega
      · go_ret
        refine ⟨ret_bool ?_, below_drewN HB _⟩
        have : xs ≠ ys := fun e => by
          have h1 := HX.out; have h2 := HX2.out
          rw [e] at h1
          rw [h1] at h2
          injection h2 with h2
          have := HQ.out
          rw [h2] at this
          simp at this
        simp [eqB, this]
    · go_wp2
      go_ret
      refine ⟨ret_bool ?_, HB⟩
      have : xs = ys := by
        apply List.ext_getElem?
        intro j
        by_cases hj : j < n
        · exact HI.out j (by omega)
        · rw [List.getElem?_eq_none (by have := HN.out; omega), List.getElem?_eq_none (by have := HN2.out; omega)]
      simp [eqB, this]
theorem sameInts (xs ys : List Int) (v u : Value) (w : World) (hv : IntsAt w v xs) (hu : IntsAt w u ys) :
    Calls Try.prog 17 #[v, u] w fun e w' => e = .returned (.bool (eqB xs ys)) ∧ Below w.heap.size w w' := by
  obtain ⟨a, cap, b, off, rfl, hcap, hmax, ha, hc⟩ := hv
  obtain ⟨a2, cap2, b2, off2, rfl, hcap2, hmax2, ha2, hc2⟩ := hu
  unfold maxLen at hmax hmax2
  obtain ⟨n, hn⟩ : ∃ n, n = xs.length := ⟨_, rfl⟩
  obtain ⟨n2, hn2⟩ : ∃ n2, n2 = ys.length := ⟨_, rfl⟩
  rw [← hn] at hcap ha ⊢
  rw [← hn2] at hcap2 ha2 ⊢
  have HN := Lib.hid hn; clear hn
  have HC := Lib.hid hc; clear hc
  have HA := Lib.hid ha; clear ha
  have HN2 := Lib.hid hn2; clear hn2
  have HC2 := Lib.hid hc2; clear hc2
  have HA2 := Lib.hid ha2; clear ha2
  by_cases hl : n = n2
  rotate_left
  · have hlb : ((n:Int) != (n2:Int)) = true := by simp; omega
    have hlb2 : ((n:Int) == (n2:Int)) = false := by simp; omega
    have HL := Lib.hid hl; clear hl
    go_enter Try.func17, Try.ntmps17
    go_wp2
    go_ret
    exact ⟨ret_bool (by have h1 := HN.out; have h2 := HN2.out; have : xs ≠ ys := fun e => HL.out (by rw [h1, h2, e]); simp [eqB, this]), (by with_reducible (repeat (first | (refine below_drewN ?_ _) | (refine Below.drew ?_) | (refine below_alloc ?_ (by first | omega | (simp; done) | (simp; omega)) _) | (refine Below.setCell ?_ (by first | omega | (simp; done) | (simp; omega)) _) | exact Below.refl _ _ | assumption | (refine below_call ?_ (by first | omega | (simp; done) | (simp; omega)) (by assumption)))))⟩
  subst hl
  have hlb : ((n:Int) != (n:Int)) = false := by simp
  have hlb2 : ((n:Int) == (n:Int)) = true := by simp
  go_enter Try.func17, Try.ntmps17
  go_wp2
  go_loopw [5] (fun i wr => ∃ k : Nat, k ≤ n ∧ i = .int .i64 k ∧ Hid (∀ j, j < k → xs[j]? = ys[j]?) ∧ Below w.heap.size w wr)
    (fun i _ => n - (intOf i).toNat)
  case atStart => exact ⟨0, Nat.zero_le _, rfl, Lib.hid (fun j hj => by omega), Below.refl _ _⟩
  case round =>
    obtain ⟨k, hk, rfl, HI, HB⟩ := hrel
    by_cases hkn : k < n
    · obtain ⟨x, hxy⟩ := at_lt HN.out hkn
      obtain ⟨x2, hxy2⟩ := at_lt HN2.out hkn
      have ha := HA.out (by omega)
      have ha2 := HA2.out (by omega)
      subst ha ha2
      have d0 := HC.out k x hxy
      have d2 := HC2.out k x2 hxy2
      have e0 := cell_below HB d0 (cell_lt d0)
      have e2 := cell_below HB d2 (cell_lt d2)
      have HX := Lib.hid hxy
      have HX2 := Lib.hid hxy2
      have hkI : (k:Int) < (n:Int) := by omega
      clear hxy hxy2 d0 d2
      rcases Bool.eq_false_or_eq_true (x == x2) with hq | hq
      all_goals
        have hq1 : (x != x2) = !(x == x2) := rfl
        rw [hq] at hq1
        have HQ := Lib.hid hq
        go_wp2_with fail
        go_quiet (fail)
        go_wp2_with fail
      · go_roundw
        case rel =>
          refine ⟨k + 1, by omega, by go_num, Lib.hid (fun j hj => ?_), below_drewN HB _⟩
          rcases Nat.lt_or_ge j k with h1 | h1
          · exact HI.out j h1
          · obtain rfl : j = k := by omega
            have := HQ.out
            simp at this
            rw [HX.out, HX2.out, this]
        case measure => simp [intOf]; omega
      · go_ret
        refine ⟨ret_bool ?_, below_drewN HB _⟩
        have : xs ≠ ys := fun e => by
          have h1 := HX.out; have h2 := HX2.out
          rw [e] at h1
          rw [h1] at h2
          injection h2 with h2
          have := HQ.out
          rw [h2] at this
          simp at this
        simp [eqB, this]
    · go_wp2
      go_ret
      refine ⟨ret_bool ?_, HB⟩
      have : xs = ys := by
        apply List.ext_getElem?
        intro j
        by_cases hj : j < n
        · exact HI.out j (by omega)
        · rw [List.getElem?_eq_none (by have := HN.out; omega), List.getElem?_eq_none (by have := HN2.out; omega)]
      simp [eqB, this]
end Go.Proofs.Ytoebefpmfgkpoaa
