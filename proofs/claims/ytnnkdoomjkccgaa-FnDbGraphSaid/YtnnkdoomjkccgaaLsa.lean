/- LsaValid of the program and of the reference: both give lsaOk. -/
import Derived.Test.YtnnkdoomjkccgaaBase
import Derived.Test.YtnnkdoomjkccgaaGrAll
namespace Go.Proofs.Ytnnkdoomjkccgaa
set_option linter.unusedSimpArgs false
set_option linter.unusedVariables false
open Go.RowKit

set_option maxHeartbeats 2000000 in
theorem iLsaValid (o s : Int) (v : Value) (es : List (Int × Int)) (w : World) (h : PairsAt w v es) :
    Calls Try.prog 27 #[.agg #[.int .i64 o, .int .i64 s, v]] w fun e w' => e = .returned (.bool (lsaOk o s es)) ∧ Below w.heap.size w w' := by
  obtain ⟨a, cap, b, off, rfl, hcap, hmax, ha, hc⟩ := h
  unfold maxLen at hmax
  obtain ⟨n, hn⟩ : ∃ n, n = es.length := ⟨_, rfl⟩
  rw [← hn] at hcap ha ⊢
  have HN := Lib.hid hn; clear hn
  have HC := Lib.hid hc; clear hc
  have HA := Lib.hid ha; clear ha
  rcases Bool.eq_false_or_eq_true (inB o 0 7) with ho | ho
  rotate_left
  · go_enter Try.func27, Try.ntmps27
    go_wp2_with (go_at_call 41; refine (within_any _ _ _ _).mono ?_; rintro e w' ⟨rfl, rfl⟩)
    go_ret
    exact ⟨ret_bool (by simp [lsaOk, ho]), (by with_reducible (repeat (first | (refine below_drewN ?_ _) | (refine Below.drew ?_) | (refine below_alloc ?_ (by first | omega | (simp; done) | (simp; omega)) _) | (refine Below.setCell ?_ (by first | omega | (simp; done) | (simp; omega)) _) | exact Below.refl _ _ | assumption | (refine below_call ?_ (by first | omega | (simp; done) | (simp; omega)) (by assumption)))))⟩
  rcases Bool.eq_false_or_eq_true (inB s 1 99) with hs | hs
  rotate_left
  · go_enter Try.func27, Try.ntmps27
    go_wp2_with (go_at_call 41; refine (within_any _ _ _ _).mono ?_; rintro e w' ⟨rfl, rfl⟩)
    go_ret
    exact ⟨ret_bool (by simp [lsaOk, hs]), (by with_reducible (repeat (first | (refine below_drewN ?_ _) | (refine Below.drew ?_) | (refine below_alloc ?_ (by first | omega | (simp; done) | (simp; omega)) _) | (refine Below.setCell ?_ (by first | omega | (simp; done) | (simp; omega)) _) | exact Below.refl _ _ | assumption | (refine below_call ?_ (by first | omega | (simp; done) | (simp; omega)) (by assumption)))))⟩
  go_enter Try.func27, Try.ntmps27
  go_wp2_with (go_at_call 41; refine (within_any _ _ _ _).mono ?_; rintro e w' ⟨rfl, rfl⟩)
  have hsz : w.heap.size < (w.alloc (.cells #[.int .i64 o, .int .i64 s, .slice a n cap] 41)).heap.size := by simp
  go_loopw [18] (fun i wr => ∃ k : Nat, k ≤ n ∧ i = .int .i64 k ∧ Hid (∀ j, j < k → endOk o es j = true) ∧ Below w.heap.size w wr ∧ w.heap.size < wr.heap.size ∧ wr.cell? ⟨w.heap.size, 0, none⟩ = some (.int .i64 o) ∧ wr.cell? ⟨w.heap.size, 1, none⟩ = some (.int .i64 s) ∧ wr.cell? ⟨w.heap.size, 2, none⟩ = some (.slice a n cap))
    (fun i _ => n - (intOf i).toNat)
  case atStart => exact ⟨0, Nat.zero_le _, rfl, Lib.hid (fun j hj => by omega), (Below.refl _ _).alloc (Nat.le_refl _) _, hsz, by simp [go_sem], by simp [go_sem], by simp [go_sem]⟩
  case round =>
    obtain ⟨k, hk, rfl, HI, HB, hsz, c0, c1, c2⟩ := hrel
    by_cases hkn : k < n
    · obtain ⟨⟨x, y⟩, hxy⟩ := at_lt HN.out hkn
      have ha := HA.out (by omega)
      subst ha
      obtain ⟨d0, d1⟩ := HC.out k x y hxy
      have hb : b < w.heap.size := cell_lt d0
      have e0 := (HB.cell (p := ⟨b, off + k * 2, none⟩) hb).trans d0
      have e1 := (HB.cell (p := ⟨b, off + k * 2 + 1, none⟩) hb).trans d1
      have HE := Lib.hid (endOk_at (o := o) hxy)
      have hbr : b < wr.heap.size := by have := HB.size; omega
      have hkl : k < es.length := by rw [← HN.out]; exact hkn
      have HL := Lib.hid hkl; clear hkl
      clear hxy d0 d1
      go_wp2_with fail
      rcases Bool.eq_false_or_eq_true (inB x 0 7) with hx | hx
      rotate_left
      · go_quiet ((go_at_call 41; exact quiet_drewN_same (within_any _ _ _ _)))
        go_wp2_with fail
        go_ret
        exact ⟨ret_bool (by rw [show lsaOk o s es = false from by unfold lsaOk; rw [all_bad HL.out (by rw [HE.out, hx]; rfl)]; simp]), below_drewN (HB.alloc (by omega) _) _⟩
      rcases Bool.eq_false_or_eq_true (x == o) with hxo | hxo
      · go_quiet ((go_at_call 41; exact quiet_drewN_same (within_any _ _ _ _)))
        go_wp2_with fail
        go_ret
        exact ⟨ret_bool (by rw [show lsaOk o s es = false from by unfold lsaOk; rw [all_bad HL.out (by rw [HE.out, hxo]; simp)]; simp]), below_drewN (HB.alloc (by omega) _) _⟩
      rcases Bool.eq_false_or_eq_true (inB y 1 20) with hy | hy
      rotate_left
      · go_quiet ((go_at_call 41; exact quiet_drewN_same (within_any _ _ _ _)))
        go_wp2_with fail
        go_ret
        exact ⟨ret_bool (by rw [show lsaOk o s es = false from by unfold lsaOk; rw [all_bad HL.out (by rw [HE.out, hy]; simp)]; simp]), below_drewN (HB.alloc (by omega) _) _⟩
      by_cases hk0 : 0 < k
      · obtain ⟨⟨px, py⟩, hp⟩ := at_lt (l := es) HN.out (k := k - 1) (by omega)
        obtain ⟨d0, d1⟩ := HC.out (k-1) px py hp
        have f0 := (HB.cell (p := ⟨b, off + (k-1) * 2, none⟩) hb).trans d0
        have HP : Hid ((es.getD (k-1) (0,0)).1 = px) := by show _ = _; rw [getD_of hp]
        clear hp d0 d1
        have hd : decide ((0:Int) < (k:Int)) = true := by simp; omega
        have w1 : IntKind.i64.wrap ((k:Int) - 1) = (k:Int) - 1 := IntWalk.i64_in _ (by omega)
        have w2 : (0:Int) ≤ (k:Int) - 1 := by omega
        have w3 : (1:Int) ≤ (k:Int) := by omega
        have w4 : ((k:Int) - 1).toNat = k - 1 := by omega
        have w5 : (k:Int) - 1 < (n:Int) := by omega
        rcases Bool.eq_false_or_eq_true (decide (x ≤ px)) with hpx | hpx
        · go_quiet ((go_at_call 41; exact quiet_drewN_same (within_any _ _ _ _)))
          go_wp2_with fail
          go_ret
          exact ⟨ret_bool (by rw [show lsaOk o s es = false from by unfold lsaOk; rw [all_bad HL.out (by rw [HE.out, HP.out, hpx]; have : (k == 0) = false := (by simp; omega); rw [this]; simp)]; simp]), below_drewN (HB.alloc (by omega) _) _⟩
        · go_quiet ((go_at_call 41; exact quiet_drewN_same (within_any _ _ _ _)))
          go_wp2_with fail
          go_roundw
          case rel =>
            exact ⟨k + 1, by omega, by go_num, Lib.hid (upto_succ HI.out (by rw [HE.out, hx, hxo, hy, HP.out, hpx]; simp)), below_drewN (HB.alloc (by omega) _) _, by simp; omega, cell_alloc c0 _, cell_alloc c1 _, cell_alloc c2 _⟩
          case measure => simp [intOf]; omega
      · obtain rfl : k = 0 := by omega
        have hd : decide ((0:Int) < (0:Int)) = false := by simp
        go_quiet ((go_at_call 41; exact quiet_drewN_same (within_any _ _ _ _)))
        go_wp2_with fail
        go_roundw
        case rel =>
          exact ⟨0 + 1, by omega, by go_num, Lib.hid (upto_succ HI.out (by rw [HE.out, hx, hxo, hy]; simp)), below_drewN (HB.alloc (by omega) _) _, by simp; omega, cell_alloc c0 _, cell_alloc c1 _, cell_alloc c2 _⟩
        case measure => simp [intOf]; omega
    · go_wp2
      go_ret
      exact ⟨ret_bool (by unfold lsaOk; rw [all_good (fun j hj => HI.out j (by have := HN.out; omega)), ho, hs]; rfl), HB⟩

set_option maxHeartbeats 2000000 in
theorem sLsaValid (o s : Int) (v : Value) (es : List (Int × Int)) (w : World) (h : PairsAt w v es) :
    Calls Try.prog 68 #[.agg #[.int .i64 o, .int .i64 s, v]] w fun e w' => e = .returned (.bool (lsaOk o s es)) ∧ Below w.heap.size w w' := by
  obtain ⟨a, cap, b, off, rfl, hcap, hmax, ha, hc⟩ := h
  unfold maxLen at hmax
  obtain ⟨n, hn⟩ : ∃ n, n = es.length := ⟨_, rfl⟩
  rw [← hn] at hcap ha ⊢
  have HN := Lib.hid hn; clear hn
  have HC := Lib.hid hc; clear hc
  have HA := Lib.hid ha; clear ha
  go_enter Try.func68, Try.ntmps68
  go_wp2_with (go_at_call 37; refine (l6In_any _ _ _ _).mono ?_; rintro e w' ⟨rfl, rfl⟩)
  have hsz : w.heap.size < (w.alloc (.cells #[.int .i64 o, .int .i64 s, .slice a n cap] 41)).heap.size := by simp
  go_loopw [3] (fun i wr => ∃ k : Nat, k ≤ n ∧ i = .int .i64 k ∧ Hid (∀ j, j < k → endOk o es j = true) ∧ Below w.heap.size w wr ∧ w.heap.size < wr.heap.size ∧ wr.cell? ⟨w.heap.size, 0, none⟩ = some (.int .i64 o) ∧ wr.cell? ⟨w.heap.size, 1, none⟩ = some (.int .i64 s) ∧ wr.cell? ⟨w.heap.size, 2, none⟩ = some (.slice a n cap))
    (fun i _ => n - (intOf i).toNat)
  case atStart => exact ⟨0, Nat.zero_le _, rfl, Lib.hid (fun j hj => by omega), (Below.refl _ _).alloc (Nat.le_refl _) _, hsz, by simp [go_sem], by simp [go_sem], by simp [go_sem]⟩
  case round =>
    obtain ⟨k, hk, rfl, HI, HB, hsz, c0, c1, c2⟩ := hrel
    by_cases hkn : k < n
    · obtain ⟨⟨x, y⟩, hxy⟩ := at_lt HN.out hkn
      have ha := HA.out (by omega)
      subst ha
      obtain ⟨d0, d1⟩ := HC.out k x y hxy
      have hb : b < w.heap.size := cell_lt d0
      have e0 := (HB.cell (p := ⟨b, off + k * 2, none⟩) hb).trans d0
      have e1 := (HB.cell (p := ⟨b, off + k * 2 + 1, none⟩) hb).trans d1
      have HE := Lib.hid (endOk_at (o := o) hxy)
      have hbr : b < wr.heap.size := by have := HB.size; omega
      have hkl : k < es.length := by rw [← HN.out]; exact hkn
      have HL := Lib.hid hkl; clear hkl
      clear hxy d0 d1
      go_wp2_with fail
      rcases Bool.eq_false_or_eq_true (inB x 0 7) with hx | hx
      rotate_left
      · go_quiet ((go_at_call 37; exact quiet_drewN_same (l6In_any _ _ _ _)))
        go_wp2_with fail
        go_ret
        exact ⟨ret_bool (by rw [show lsaOk o s es = false from by unfold lsaOk; rw [all_bad HL.out (by rw [HE.out, hx]; rfl)]; simp]), below_drewN (HB.alloc (by omega) _) _⟩
      rcases Bool.eq_false_or_eq_true (x == o) with hxo | hxo
      · go_quiet ((go_at_call 37; exact quiet_drewN_same (l6In_any _ _ _ _)))
        go_wp2_with fail
        go_ret
        exact ⟨ret_bool (by rw [show lsaOk o s es = false from by unfold lsaOk; rw [all_bad HL.out (by rw [HE.out, hxo]; simp)]; simp]), below_drewN (HB.alloc (by omega) _) _⟩
      rcases Bool.eq_false_or_eq_true (inB y 1 20) with hy | hy
      rotate_left
      · go_quiet ((go_at_call 37; exact quiet_drewN_same (l6In_any _ _ _ _)))
        go_wp2_with fail
        go_ret
        exact ⟨ret_bool (by rw [show lsaOk o s es = false from by unfold lsaOk; rw [all_bad HL.out (by rw [HE.out, hy]; simp)]; simp]), below_drewN (HB.alloc (by omega) _) _⟩
      by_cases hk0 : 0 < k
      · obtain ⟨⟨px, py⟩, hp⟩ := at_lt (l := es) HN.out (k := k - 1) (by omega)
        obtain ⟨d0, d1⟩ := HC.out (k-1) px py hp
        have f0 := (HB.cell (p := ⟨b, off + (k-1) * 2, none⟩) hb).trans d0
        have HP : Hid ((es.getD (k-1) (0,0)).1 = px) := by show _ = _; rw [getD_of hp]
        clear hp d0 d1
        have hd : decide ((0:Int) < (k:Int)) = true := by simp; omega
        have w1 : IntKind.i64.wrap ((k:Int) - 1) = (k:Int) - 1 := IntWalk.i64_in _ (by omega)
        have w2 : (0:Int) ≤ (k:Int) - 1 := by omega
        have w3 : (1:Int) ≤ (k:Int) := by omega
        have w4 : ((k:Int) - 1).toNat = k - 1 := by omega
        have w5 : (k:Int) - 1 < (n:Int) := by omega
        rcases Bool.eq_false_or_eq_true (decide (x ≤ px)) with hpx | hpx
        · go_quiet ((go_at_call 37; exact quiet_drewN_same (l6In_any _ _ _ _)))
          go_wp2_with fail
          go_ret
          exact ⟨ret_bool (by rw [show lsaOk o s es = false from by unfold lsaOk; rw [all_bad HL.out (by rw [HE.out, HP.out, hpx]; have : (k == 0) = false := (by simp; omega); rw [this]; simp)]; simp]), below_drewN (HB.alloc (by omega) _) _⟩
        · go_quiet ((go_at_call 37; exact quiet_drewN_same (l6In_any _ _ _ _)))
          go_wp2_with fail
          go_roundw
          case rel =>
            exact ⟨k + 1, by omega, by go_num, Lib.hid (upto_succ HI.out (by rw [HE.out, hx, hxo, hy, HP.out, hpx]; simp)), below_drewN (HB.alloc (by omega) _) _, by simp; omega, cell_alloc c0 _, cell_alloc c1 _, cell_alloc c2 _⟩
          case measure => simp [intOf]; omega
      · obtain rfl : k = 0 := by omega
        have hd : decide ((0:Int) < (0:Int)) = false := by simp
        go_quiet ((go_at_call 37; exact quiet_drewN_same (l6In_any _ _ _ _)))
        go_wp2_with fail
        go_roundw
        case rel =>
          exact ⟨0 + 1, by omega, by go_num, Lib.hid (upto_succ HI.out (by rw [HE.out, hx, hxo, hy]; simp)), below_drewN (HB.alloc (by omega) _) _, by simp; omega, cell_alloc c0 _, cell_alloc c1 _, cell_alloc c2 _⟩
        case measure => simp [intOf]; omega
    · have hall : allUpTo es.length (endOk o es) = true := all_good (fun j hj => HI.out j (by have := HN.out; omega))
      have HALL := Lib.hid hall; clear hall
      rcases Bool.eq_false_or_eq_true (inB o 0 7) with ho | ho
      all_goals
        go_wp2_with (go_at_call 37; refine (l6In_any _ _ _ _).mono ?_; rintro e w' ⟨rfl, rfl⟩)
        go_ret
        exact ⟨ret_bool (by unfold lsaOk; rw [HALL.out, ho]; simp), HB⟩
end Go.Proofs.Ytnnkdoomjkccgaa
