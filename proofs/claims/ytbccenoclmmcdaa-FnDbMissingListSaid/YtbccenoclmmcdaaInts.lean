/- Scans of []int: l1Has, hasInt, slices.Index, slices.Contains, l12Nodes, nodesAscend. -/
import Derived.Test.YtbccenoclmmcdaaBase
import Derived.Test.YtbccenoclmmcdaaPure
namespace Go.Proofs.Ytbccenoclmmcdaa
open Go.RowKit

theorem index_any (xs : List Int) (x : Int) (v : Value) (w : World) (h : IntsAt w v xs) :
    Calls Try.prog 66 #[v, .int .i64 x] w fun e w' => (∃ i : Int, e = .returned (.int .i64 i) ∧ decide (0 ≤ i) = hasI xs x) ∧ w = w' := by
  obtain ⟨a, cap, b, off, rfl, hcap, hmax, ha, hc⟩ := h
  unfold maxLen at hmax
  obtain ⟨n, hn⟩ : ∃ n, n = xs.length := ⟨_, rfl⟩
  rw [← hn] at hcap ha ⊢
  have HN := Lib.hid hn; clear hn
  have HC := Lib.hid hc; clear hc
  have HA := Lib.hid ha; clear ha
  go_enter Try.func66, Try.ntmps66
  go_wp2
  go_loop [8] (fun i => ∃ k : Nat, k ≤ n ∧ i = .int .i64 k ∧ Hid (∀ j, j < k → ∀ y, xs[j]? = some y → (y == x) = false))
    (fun i => n - (intOf i).toNat)
  case atStart => exact ⟨0, Nat.zero_le _, rfl, Lib.hid (fun j hj => by omega)⟩
  case round =>
    obtain ⟨k, hk, rfl, HI⟩ := hrel
    by_cases hkn : k < n
    · obtain ⟨y, hy⟩ := at_lt HN.out hkn
      have ha := HA.out (by omega)
      subst ha
      have c0 := HC.out k y hy
      have HY := Lib.hid hy; clear hy
      rcases Bool.eq_false_or_eq_true (x == y) with hxy | hxy
      · go_wp2
        go_ret
        exact ⟨⟨_, rfl, by rw [has_yes HY.out (by rw [beq_iff_eq] at hxy ⊢; exact hxy.symm)]; simp⟩, rfl⟩
      · go_wp2
        go_round
        case rel =>
          refine ⟨k + 1, by omega, by go_num, Lib.hid (fun j hj z hz => ?_)⟩
          rcases Nat.lt_or_ge j k with h1 | h1
          · exact HI.out j h1 z hz
          · obtain rfl : j = k := by omega
            rw [HY.out] at hz
            injection hz with hz
            subst hz
            rw [beq_eq_false_iff_ne] at hxy ⊢
            exact fun e => hxy e.symm
        case measure => simp [intOf]; omega
    · go_wp2
      go_ret
      exact ⟨⟨_, rfl, by rw [has_no (fun j hj y hy => HI.out j (by have := HN.out; omega) y hy)]; simp⟩, rfl⟩

theorem contains_any (xs : List Int) (x : Int) (v : Value) (w : World) (h : IntsAt w v xs) :
    Calls Try.prog 55 #[v, .int .i64 x] w fun e w' => e = .returned (.bool (hasI xs x)) ∧ w = w' := by
  go_enter Try.func55, Try.ntmps55
  go_wp2_with (go_at_call 66; refine (index_any xs x v _ h).mono ?_; rintro e w' ⟨⟨i, rfl, hi⟩, rfl⟩; have HI := Lib.hid hi; clear hi)
  go_ret
  exact ⟨ret_bool HI.out, rfl⟩

theorem l1Has_any (xs : List Int) (x : Int) (v : Value) (w : World) (h : IntsAt w v xs) :
    Calls Try.prog 52 #[v, .int .i64 x] w fun e w' => e = .returned (.bool (hasI xs x)) ∧ w = w' := by
  obtain ⟨a, cap, b, off, rfl, hcap, hmax, ha, hc⟩ := h
  unfold maxLen at hmax
  obtain ⟨n, hn⟩ : ∃ n, n = xs.length := ⟨_, rfl⟩
  rw [← hn] at hcap ha ⊢
  have HN := Lib.hid hn; clear hn
  have HC := Lib.hid hc; clear hc
  have HA := Lib.hid ha; clear ha
  go_enter Try.func52, Try.ntmps52
  go_wp2
  go_loop [5] (fun i => ∃ k : Nat, k ≤ n ∧ i = .int .i64 k ∧ Hid (∀ j, j < k → ∀ y, xs[j]? = some y → (y == x) = false))
    (fun i => n - (intOf i).toNat)
  case atStart => exact ⟨0, Nat.zero_le _, rfl, Lib.hid (fun j hj => by omega)⟩
  case round =>
    obtain ⟨k, hk, rfl, HI⟩ := hrel
    by_cases hkn : k < n
    · obtain ⟨y, hy⟩ := at_lt HN.out hkn
      have ha := HA.out (by omega)
      subst ha
      have c0 := HC.out k y hy
      have HY := Lib.hid hy; clear hy
      rcases Bool.eq_false_or_eq_true (y == x) with hxy | hxy
      · go_wp2
        go_ret
        exact ⟨ret_bool (has_yes HY.out hxy).symm, rfl⟩
      · go_wp2
        go_round
        case rel =>
          refine ⟨k + 1, by omega, by go_num, Lib.hid (fun j hj z hz => ?_)⟩
          rcases Nat.lt_or_ge j k with h1 | h1
          · exact HI.out j h1 z hz
          · obtain rfl : j = k := by omega
            rw [HY.out] at hz
            injection hz with hz
            subst hz
            exact hxy
        case measure => simp [intOf]; omega
    · go_wp2
      go_ret
      exact ⟨ret_bool (has_no (fun j hj y hy => HI.out j (by have := HN.out; omega) y hy)).symm, rfl⟩
theorem hasInt_any (xs : List Int) (x : Int) (v : Value) (w : World) (h : IntsAt w v xs) :
    Calls Try.prog 38 #[v, .int .i64 x] w fun e w' => e = .returned (.bool (hasI xs x)) ∧ w = w' := by
  obtain ⟨a, cap, b, off, rfl, hcap, hmax, ha, hc⟩ := h
  unfold maxLen at hmax
  obtain ⟨n, hn⟩ : ∃ n, n = xs.length := ⟨_, rfl⟩
  rw [← hn] at hcap ha ⊢
  have HN := Lib.hid hn; clear hn
  have HC := Lib.hid hc; clear hc
  have HA := Lib.hid ha; clear ha
  go_enter Try.func38, Try.ntmps38
  go_wp2
  go_loop [5] (fun i => ∃ k : Nat, k ≤ n ∧ i = .int .i64 k ∧ Hid (∀ j, j < k → ∀ y, xs[j]? = some y → (y == x) = false))
    (fun i => n - (intOf i).toNat)
  case atStart => exact ⟨0, Nat.zero_le _, rfl, Lib.hid (fun j hj => by omega)⟩
  case round =>
    obtain ⟨k, hk, rfl, HI⟩ := hrel
    by_cases hkn : k < n
    · obtain ⟨y, hy⟩ := at_lt HN.out hkn
      have ha := HA.out (by omega)
      subst ha
      have c0 := HC.out k y hy
      have HY := Lib.hid hy; clear hy
      rcases Bool.eq_false_or_eq_true (y == x) with hxy | hxy
      · go_wp2
        go_ret
        exact ⟨ret_bool (has_yes HY.out hxy).symm, rfl⟩
      · go_wp2
        go_round
        case rel =>
          refine ⟨k + 1, by omega, by go_num, Lib.hid (fun j hj z hz => ?_)⟩
          rcases Nat.lt_or_ge j k with h1 | h1
          · exact HI.out j h1 z hz
          · obtain rfl : j = k := by omega
            rw [HY.out] at hz
            injection hz with hz
            subst hz
            exact hxy
        case measure => simp [intOf]; omega
    · go_wp2
      go_ret
      exact ⟨ret_bool (has_no (fun j hj y hy => HI.out j (by have := HN.out; omega) y hy)).symm, rfl⟩

set_option maxHeartbeats 1000000 in
theorem l12Nodes_any (xs : List Int) (v : Value) (w : World) (h : IntsAt w v xs) :
    Calls Try.prog 51 #[v] w fun e w' => e = .returned (.bool (nodesOk xs)) ∧ Below w.heap.size w w' := by
  obtain ⟨a, cap, b, off, rfl, hcap, hmax, ha, hc⟩ := h
  unfold maxLen at hmax
  obtain ⟨n, hn⟩ : ∃ n, n = xs.length := ⟨_, rfl⟩
  rw [← hn] at hcap ha ⊢
  have HN := Lib.hid hn; clear hn
  have HC := Lib.hid hc; clear hc
  have HA := Lib.hid ha; clear ha
  go_enter Try.func51, Try.ntmps51
  go_wp2
  go_loopw [3] (fun i wr => ∃ k : Nat, k ≤ n ∧ i = .int .i64 k ∧ Hid (∀ j, j < k → nodeOk xs j = true) ∧ ∃ q, wr = w.drewN q)
    (fun i _ => n - (intOf i).toNat)
  case atStart => exact ⟨0, Nat.zero_le _, rfl, Lib.hid (fun j hj => by omega), 0, rfl⟩
  case round =>
    obtain ⟨k, hk, rfl, HI, q, rfl⟩ := hrel
    by_cases hkn : k < n
    · obtain ⟨x, hxk⟩ := at_lt HN.out hkn
      have ha := HA.out (by omega)
      subst ha
      have c0 := HC.out k x hxk
      have HE := Lib.hid (nodeOk_at hxk)
      clear hxk
      go_wp2_with fail
      rcases Bool.eq_false_or_eq_true (inB x 0 7) with hx | hx
      rotate_left
      · go_quiet ((go_at_call 47; exact quiet_add_left (l6In_any _ _ _ _))) <;> go_wp2_with fail
        go_ret
        exact ⟨ret_bool (all_bad (by rw [← HN.out]; exact hkn) (by rw [HE.out, hx]; rfl)).symm, (by with_reducible (repeat (first | (refine below_drewN ?_ _) | (refine Below.drew ?_) | (refine below_alloc ?_ (by first | omega | (simp; done) | (simp; omega)) _) | (refine Below.setCell ?_ (by first | omega | (simp; done) | (simp; omega)) _) | exact Below.refl _ _ | assumption | (refine below_call ?_ (by first | omega | (simp; done) | (simp; omega)) (by assumption)))))⟩
      by_cases hk0 : 0 < k
      · obtain ⟨px, hp⟩ := at_lt (l := xs) HN.out (k := k - 1) (by omega)
        have f0 := HC.out (k-1) px hp
        have HP : Hid (xs.getD (k-1) 0 = px) := getD_of hp
        clear hp
        have hd : decide ((0:Int) < (k:Int)) = true := by simp; omega
        have w1 : IntKind.i64.wrap ((k:Int) - 1) = (k:Int) - 1 := IntWalk.i64_in _ (by omega)
        have w2 : (0:Int) ≤ (k:Int) - 1 := by omega
        have w3 : (1:Int) ≤ (k:Int) := by omega
        have w4 : ((k:Int) - 1).toNat = k - 1 := by omega
        have w5 : (k:Int) - 1 < (n:Int) := by omega
        rcases Bool.eq_false_or_eq_true (decide (x ≤ px)) with hpx | hpx
        · go_quiet ((go_at_call 47; exact quiet_add_left (l6In_any _ _ _ _))) <;> go_wp2_with fail
          go_ret
          exact ⟨ret_bool (all_bad (by rw [← HN.out]; exact hkn) (by rw [HE.out, HP.out, hpx]; have : (k == 0) = false := by simp; omega
                                                                     rw [this]; simp)).symm, (by with_reducible (repeat (first | (refine below_drewN ?_ _) | (refine Below.drew ?_) | (refine below_alloc ?_ (by first | omega | (simp; done) | (simp; omega)) _) | (refine Below.setCell ?_ (by first | omega | (simp; done) | (simp; omega)) _) | exact Below.refl _ _ | assumption | (refine below_call ?_ (by first | omega | (simp; done) | (simp; omega)) (by assumption)))))⟩
        · go_quiet ((go_at_call 47; exact quiet_add_left (l6In_any _ _ _ _))) <;> go_wp2_with fail
          go_roundw
          case rel =>
            exact ⟨k + 1, by omega, by go_num, Lib.hid (upto_succ HI.out (by rw [HE.out, hx, HP.out, hpx]; simp)), _, rfl⟩
          case measure => simp [intOf]; omega
      · obtain rfl : k = 0 := by omega
        simp only [Nat.add_zero] at c0
        have hd : decide ((0:Int) < (0:Int)) = false := by simp
        go_quiet ((go_at_call 47; exact quiet_add_left (l6In_any _ _ _ _))) <;> go_wp2_with fail
        go_roundw
        case rel =>
          exact ⟨0 + 1, by omega, by go_num, Lib.hid (upto_succ HI.out (by rw [HE.out, hx]; simp)), _, rfl⟩
        case measure => simp [intOf]; omega
    · go_wp2
      go_ret
      exact ⟨ret_bool (all_good (fun j hj => HI.out j (by have := HN.out; omega))).symm, (by with_reducible (repeat (first | (refine below_drewN ?_ _) | (refine Below.drew ?_) | (refine below_alloc ?_ (by first | omega | (simp; done) | (simp; omega)) _) | (refine Below.setCell ?_ (by first | omega | (simp; done) | (simp; omega)) _) | exact Below.refl _ _ | assumption | (refine below_call ?_ (by first | omega | (simp; done) | (simp; omega)) (by assumption)))))⟩
set_option maxHeartbeats 1000000 in
theorem nodesAscend_any (xs : List Int) (v : Value) (w : World) (h : IntsAt w v xs) :
    Calls Try.prog 54 #[v, .int .i64 8] w fun e w' => e = .returned (.bool (nodesOk xs)) ∧ Below w.heap.size w w' := by
  obtain ⟨a, cap, b, off, rfl, hcap, hmax, ha, hc⟩ := h
  unfold maxLen at hmax
  obtain ⟨n, hn⟩ : ∃ n, n = xs.length := ⟨_, rfl⟩
  rw [← hn] at hcap ha ⊢
  have HN := Lib.hid hn; clear hn
  have HC := Lib.hid hc; clear hc
  have HA := Lib.hid ha; clear ha
  go_enter Try.func54, Try.ntmps54
  go_wp2
  go_loopw [9] (fun i wr => ∃ k : Nat, k ≤ n ∧ i = .int .i64 k ∧ Hid (∀ j, j < k → nodeOk xs j = true) ∧ ∃ q, wr = w.drewN q)
    (fun i _ => n - (intOf i).toNat)
  case atStart => exact ⟨0, Nat.zero_le _, rfl, Lib.hid (fun j hj => by omega), 0, rfl⟩
  case round =>
    obtain ⟨k, hk, rfl, HI, q, rfl⟩ := hrel
    by_cases hkn : k < n
    · obtain ⟨x, hxk⟩ := at_lt HN.out hkn
      have ha := HA.out (by omega)
      subst ha
      have c0 := HC.out k x hxk
      have HE := Lib.hid (nodeOk_at hxk)
      clear hxk
      go_wp2_with fail
      rcases Bool.eq_false_or_eq_true (inB x 0 7) with hx | hx
      rotate_left
      · go_wp2_with (go_at_call 46; refine (within_any _ _ _ _).mono ?_; rintro e w' ⟨rfl, rfl⟩)
        go_ret
        exact ⟨ret_bool (all_bad (by rw [← HN.out]; exact hkn) (by rw [HE.out, hx]; rfl)).symm, (by with_reducible (repeat (first | (refine below_drewN ?_ _) | (refine Below.drew ?_) | (refine below_alloc ?_ (by first | omega | (simp; done) | (simp; omega)) _) | (refine Below.setCell ?_ (by first | omega | (simp; done) | (simp; omega)) _) | exact Below.refl _ _ | assumption | (refine below_call ?_ (by first | omega | (simp; done) | (simp; omega)) (by assumption)))))⟩
      by_cases hk0 : 0 < k
      · obtain ⟨px, hp⟩ := at_lt (l := xs) HN.out (k := k - 1) (by omega)
        have f0 := HC.out (k-1) px hp
        have HP : Hid (xs.getD (k-1) 0 = px) := getD_of hp
        clear hp
        have hd : decide ((0:Int) < (k:Int)) = true := by simp; omega
        have w1 : IntKind.i64.wrap ((k:Int) - 1) = (k:Int) - 1 := IntWalk.i64_in _ (by omega)
        have w2 : (0:Int) ≤ (k:Int) - 1 := by omega
        have w3 : (1:Int) ≤ (k:Int) := by omega
        have w4 : ((k:Int) - 1).toNat = k - 1 := by omega
        have w5 : (k:Int) - 1 < (n:Int) := by omega
        rcases Bool.eq_false_or_eq_true (decide (x ≤ px)) with hpx | hpx
        · go_wp2_with (go_at_call 46; refine (within_any _ _ _ _).mono ?_; rintro e w' ⟨rfl, rfl⟩)
          go_ret
          exact ⟨ret_bool (all_bad (by rw [← HN.out]; exact hkn) (by rw [HE.out, HP.out, hpx]; have : (k == 0) = false := by simp; omega
                                                                     rw [this]; simp)).symm, (by with_reducible (repeat (first | (refine below_drewN ?_ _) | (refine Below.drew ?_) | (refine below_alloc ?_ (by first | omega | (simp; done) | (simp; omega)) _) | (refine Below.setCell ?_ (by first | omega | (simp; done) | (simp; omega)) _) | exact Below.refl _ _ | assumption | (refine below_call ?_ (by first | omega | (simp; done) | (simp; omega)) (by assumption)))))⟩
        · go_wp2_with (go_at_call 46; refine (within_any _ _ _ _).mono ?_; rintro e w' ⟨rfl, rfl⟩)
          go_roundw
          case rel =>
            exact ⟨k + 1, by omega, by go_num, Lib.hid (upto_succ HI.out (by rw [HE.out, hx, HP.out, hpx]; simp)), _, rfl⟩
          case measure => simp [intOf]; omega
      · obtain rfl : k = 0 := by omega
        simp only [Nat.add_zero] at c0
        have hd : decide ((0:Int) < (0:Int)) = false := by simp
        go_wp2_with (go_at_call 46; refine (within_any _ _ _ _).mono ?_; rintro e w' ⟨rfl, rfl⟩)
        go_roundw
        case rel =>
          exact ⟨0 + 1, by omega, by go_num, Lib.hid (upto_succ HI.out (by rw [HE.out, hx]; simp)), _, rfl⟩
        case measure => simp [intOf]; omega
    · go_wp2
      go_ret
      exact ⟨ret_bool (all_good (fun j hj => HI.out j (by have := HN.out; omega))).symm, (by with_reducible (repeat (first | (refine below_drewN ?_ _) | (refine Below.drew ?_) | (refine below_alloc ?_ (by first | omega | (simp; done) | (simp; omega)) _) | (refine Below.setCell ?_ (by first | omega | (simp; done) | (simp; omega)) _) | exact Below.refl _ _ | assumption | (refine below_call ?_ (by first | omega | (simp; done) | (simp; omega)) (by assumption)))))⟩
end Go.Proofs.Ytbccenoclmmcdaa
