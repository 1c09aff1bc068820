/- Helpers of the exact laws, second part: eqLsa, eqLsaS, sizes. -/
import Derived.Test.YtnnkdoomjkccgaaExact
namespace Go.Proofs.Ytnnkdoomjkccgaa
set_option linter.unusedSimpArgs false
set_option linter.unusedVariables false
open Go.RowKit

set_option maxHeartbeats 1000000 in
theorem eqLsa (o s o' s' : Int) (xs ys : List (Int × Int)) (v u : Value) (w : World) (hv : PairsAt w v xs) (hu : PairsAt w u ys) :
    Calls Try.prog 30 #[.agg #[.int .i64 o, .int .i64 s, v], .agg #[.int .i64 o', .int .i64 s', u]] w fun e w' => e = .returned (.bool (eqB (o, s, xs) (o', s', ys))) ∧ Below w.heap.size w w' := by
  have hv2 : ∀ a b, PairsAt ((w.alloc a).alloc b) v xs := fun a b => hv.below (((Below.refl _ _).alloc (Nat.le_refl _) _).alloc (by simp) _) (Nat.le_refl _)
  have hu2 : ∀ a b, PairsAt ((w.alloc a).alloc b) u ys := fun a b => hu.below (((Below.refl _ _).alloc (Nat.le_refl _) _).alloc (by simp) _) (Nat.le_refl _)
  have HV := Lib.hid hv2; have HU := Lib.hid hu2
  obtain ⟨va, vn, vc, rfl⟩ := hv.form
  obtain ⟨ua, un, uc, rfl⟩ := hu.form
  clear hv2 hu2 hv hu
  rcases Bool.eq_false_or_eq_true (o == o') with h | h
  all_goals
    have h1 : (o != o') = !(o == o') := rfl
    rw [h] at h1
    rcases Bool.eq_false_or_eq_true (s == s') with k | k
    all_goals
      have k1 : (s != s') = !(s == s') := rfl
      rw [k] at k1
      rcases Bool.eq_false_or_eq_true (eqB xs ys) with e | e
      all_goals
        have HE := Lib.hid e
        go_enter Try.func30, Try.ntmps30
        go_wp2_with (go_at_call 64; refine (eqEndS xs ys _ _ _ (HV.out _ _) (HU.out _ _)).mono ?_; rintro e w' ⟨rfl, hb⟩)
        go_ret
        exact ⟨ret_bool (by have := HE.out; simp at h k; simp [eqB] at this; simp [eqB, h, k, this]), (by with_reducible (repeat (first | (refine below_drewN ?_ _) | (refine Below.drew ?_) | (refine below_alloc ?_ (by first | omega | (simp; done) | (simp; omega)) _) | (refine Below.setCell ?_ (by first | omega | (simp; done) | (simp; omega)) _) | exact Below.refl _ _ | assumption | (refine below_call ?_ (by first | omega | (simp; done) | (simp; omega)) (by assumption)))))⟩

theorem szEndS (es : List (Int × Int)) (v : Value) (left : Int) (w : World) (hv : PairsAt w v es) (h0 : 0 ≤ left) (h1 : left ≤ 1048576) :
    Calls Try.prog 67 #[v, .int .i64 left] w fun e w' => e = .returned (.int .i64 (if (es.length : Int) ≤ left then left - es.length else -1)) ∧ w = w' := by
  obtain ⟨a, cap, b, off, rfl, hcap, hmax, ha, hc⟩ := hv
  unfold maxLen at hmax
  obtain ⟨n, hn⟩ : ∃ n, n = es.length := ⟨_, rfl⟩
  rw [← hn] at hcap ha ⊢
  clear hc ha hn
  by_cases hl : (n:Int) ≤ left
  · go_enter Try.func67, Try.ntmps67
    go_wp2
    go_ret
    exact ⟨rfl, rfl⟩
  · go_enter Try.func67, Try.ntmps67
    go_wp2
    go_ret
    exact ⟨rfl, rfl⟩
end Go.Proofs.Ytnnkdoomjkccgaa
