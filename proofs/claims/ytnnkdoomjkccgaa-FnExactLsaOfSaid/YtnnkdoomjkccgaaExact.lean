/- Helpers of the exact laws: copies, comparisons, sizes of ends and announcements. -/
import Derived.Test.YtnnkdoomjkccgaaBase
import Derived.Test.YtnnkdoomjkccgaaOwn2
import Derived.Test.YtnnkdoomjkccgaaGrAll
namespace Go.Proofs.Ytnnkdoomjkccgaa
set_option linter.unusedSimpArgs false
set_option linter.unusedVariables false
open Go.RowKit

theorem toEnd (x y : Int) (w : World) : Calls Try.prog 86 #[.agg #[.int .i64 x, .int .i64 y]] w fun e w' => e = .returned (.agg #[.int .i64 x, .int .i64 y]) ∧ ((w.alloc (.cells #[.int .i64 x, .int .i64 y] 116)).alloc (.cells #[.int .i64 x, .int .i64 y] 43)).alloc (.cells #[.int .i64 x, .int .i64 y] 43) = w' := by
  go_enter Try.func86, Try.ntmps86
  go_wp2
  exact bodyPost_ret (v := .agg #[.int .i64 x, .int .i64 y]) (by simp [results, Try.results86, go_sem]) rfl ⟨rfl, rfl⟩
theorem eqEnd (x y x' y' : Int) (w : World) : Calls Try.prog 81 #[.agg #[.int .i64 x, .int .i64 y], .agg #[.int .i64 x', .int .i64 y']] w fun e w' => e = .returned (.bool (eqB (x, y) (x', y'))) ∧ Below w.heap.size w w' := by
  rcases Bool.eq_false_or_eq_true (x == x') with h | h
  all_goals
    have h1 : (x != x') = !(x == x') := rfl
    rw [h] at h1
    rcases Bool.eq_false_or_eq_true (y == y') with k | k
    all_goals
      have k1 : (y != y') = !(y == y') := rfl
      rw [k] at k1
      go_enter Try.func81, Try.ntmps81
      go_wp2
      go_ret
      exact ⟨ret_bool (by simp at h k; simp [eqB, h, k]), (by with_reducible (repeat (first | (refine below_drewN ?_ _) | (refine Below.drew ?_) | (refine below_alloc ?_ (by first | omega | (simp; done) | (simp; omega)) _) | (refine Below.setCell ?_ (by first | omega | (simp; done) | (simp; omega)) _) | exact Below.refl _ _ | assumption | (refine below_call ?_ (by first | omega | (simp; done) | (simp; omega)) (by assumption)))))⟩

set_option maxHeartbeats 1000000 in
theorem eqEndS (xs ys : List (Int × Int)) (v u : Value) (w : World) (hv : PairsAt w v xs) (hu : PairsAt w u ys) :
    Calls Try.prog 64 #[v, u] w fun e w' => e = .returned (.bool (eqB xs ys)) ∧ Below w.heap.size w w' := by
  obtain ⟨a, cap, b, off, rfl, hcap, hmax, ha, hc⟩ := hv
  obtain ⟨a2, cap2, b2, off2, rfl, hcap2, hmax2, ha2, hc2⟩ := hu
  unfold maxLen at hmax hmax2
  obtain ⟨n, hn⟩ : ∃ n, n = xs.length := ⟨_, rfl⟩
  obtain ⟨n2, hn2⟩ : ∃ n2, n2 = ys.length := ⟨_, rfl⟩
  rw [← hn] at hcap ha ⊢
  rw [← hn2] at hcap2 ha2 ⊢
  have HN := Lib.hid hn; clear hn
  have HC := Lib.hid hc; clear hc
  have HA := Lib.hid ha; clear ha
  have HN2 := Lib.hid hn2; clear hn2
  have HC2 := Lib.hid hc2; clear hc2
  have HA2 := Lib.hid ha2; clear ha2
  by_cases hl : n = n2
  rotate_left
  · have hlb : ((n:Int) != (n2:Int)) = true := by simp; omega
    have hlb2 : ((n:Int) == (n2:Int)) = false := by simp; omega
    have HL := Lib.hid hl; clear hl
    go_enter Try.func64, Try.ntmps64
    go_wp2
    go_ret
    exact ⟨ret_bool (by have h1 := HN.out; have h2 := HN2.out; have : xs ≠ ys := fun e => HL.out (by rw [h1, h2, e]); simp [eqB, this]), (by with_reducible (repeat (first | (refine below_drewN ?_ _) | (refine Below.drew ?_) | (refine below_alloc ?_ (by first | omega | (simp; done) | (simp; omega)) _) | (refine Below.setCell ?_ (by first | omega | (simp; done) | (simp; omega)) _) | exact Below.refl _ _ | assumption | (refine below_call ?_ (by first | omega | (simp; done) | (simp; omega)) (by assumption)))))⟩
  subst hl
  have hlb : ((n:Int) != (n:Int)) = false := by simp
  have hlb2 : ((n:Int) == (n:Int)) = true := by simp
  go_enter Try.func64, Try.ntmps64
  go_wp2
  go_loopw [5] (fun i wr => ∃ k : Nat, k ≤ n ∧ i = .int .i64 k ∧ Hid (∀ j, j < k → xs[j]? = ys[j]?) ∧ Below w.heap.size w wr)
    (fun i _ => n - (intOf i).toNat)
  case atStart => exact ⟨0, Nat.zero_le _, rfl, Lib.hid (fun j hj => by omega), Below.refl _ _⟩
  case round =>
    obtain ⟨k, hk, rfl, HI, HB⟩ := hrel
    by_cases hkn : k < n
    · obtain ⟨⟨x, y⟩, hxy⟩ := at_lt HN.out hkn
      obtain ⟨⟨x2, y2⟩, hxy2⟩ := at_lt HN2.out hkn
      have ha := HA.out (by omega)
      have ha2 := HA2.out (by omega)
      subst ha ha2
      obtain ⟨d0, d1⟩ := HC.out k x y hxy
      obtain ⟨d2, d3⟩ := HC2.out k x2 y2 hxy2
      obtain ⟨I, φ, h0, hφ, hmk⟩ := famOf w.heap.size wr
      haveI : Nonempty I := h0.elim fun i _ => ⟨i⟩
      have e0 : ∀ i, (φ i).cell? ⟨b, off + k * 2, none⟩ = some (.int .i64 x) := fun i => cell_below (hφ i) (cell_below HB d0 (cell_lt d0)) (cell_lt d0)
      have e1 : ∀ i, (φ i).cell? ⟨b, off + k * 2 + 1, none⟩ = some (.int .i64 y) := fun i => cell_below (hφ i) (cell_below HB d1 (cell_lt d0)) (cell_lt d0)
      have e2 : ∀ i, (φ i).cell? ⟨b2, off2 + k * 2, none⟩ = some (.int .i64 x2) := fun i => cell_below (hφ i) (cell_below HB d2 (cell_lt d2)) (cell_lt d2)
      have e3 : ∀ i, (φ i).cell? ⟨b2, off2 + k * 2 + 1, none⟩ = some (.int .i64 y2) := fun i => cell_below (hφ i) (cell_below HB d3 (cell_lt d2)) (cell_lt d2)
      have HX := Lib.hid hxy
      have HX2 := Lib.hid hxy2
      have HBs := Lib.hid HB.size
      have H0 := Lib.hid h0
      have HF := Lib.hid hφ
      have HM := Lib.hid hmk
      have hkI : (k:Int) < (n:Int) := by omega
      clear hxy hxy2 d0 d1 d2 d3 h0 hφ hmk
      go_wp2_with fail
      refine wp_region_fam φ H0.out (by kernel_rfl) (by kernel_rfl) ?_
      rcases Bool.eq_false_or_eq_true (eqB (x, y) (x2, y2)) with hq | hq
      all_goals
        have HQ := Lib.hid hq
        repeat (go_big_quiet_step ((go_at_call 81; exact quiet_fam HF.out HBs.out HM.out (eqEnd _ _ _ _ _))))
        refine wpQuiet_nil ?_
        intro _ hw'
        obtain ⟨nq, hw''⟩ := hw'
        subst hw''
        go_wp2_with fail
      · go_roundw
        case rel =>
          refine ⟨k + 1, by omega, by go_num, Lib.hid (fun j hj => ?_), HB.trans (HF.out nq)⟩
          rcases Nat.lt_or_ge j k with h1 | h1
          · exact HI.out j h1
          · obtain rfl : j = k := by omega
            have := HQ.out
            simp [eqB] at this
            rw [HX.out, HX2.out, this.1, this.2]
        case measure => simp [intOf]; omega
      · go_ret
        refine ⟨ret_bool ?_, HB.trans (HF.out nq)⟩
        have : xs ≠ ys := fun e => by
          have h1 := HX.out; have h2 := HX2.out
          rw [e] at h1
          rw [h1] at h2
          injection h2 with h2
          have := HQ.out
          rw [h2] at this
          simp [eqB] at this
        simp [eqB, this]
    · go_wp2
      go_ret
      refine ⟨ret_bool ?_, HB⟩
      have : xs = ys := by
        apply List.ext_getElem?
        intro j
        by_cases hj : j < n
        · exact HI.out j (by omega)
        · rw [List.getElem?_eq_none (by have := HN.out; omega), List.getElem?_eq_none (by have := HN2.out; omega)]
      simp [eqB, this]
end Go.Proofs.Ytnnkdoomjkccgaa
