/- GraphValid of the reference: gOk. -/
import Derived.Test.YtnnkdoomjkccgaaGValid
namespace Go.Proofs.Ytnnkdoomjkccgaa
set_option linter.unusedSimpArgs false
set_option linter.unusedVariables false
open Go.RowKit

set_option maxRecDepth 100000 in
set_option maxHeartbeats 4000000 in
theorem sGraphValid (n : Int) (ls : List LinkD) (v : Value) (w : World) (h : TriplesAt w v ls) :
    Calls Try.prog 34 #[.agg #[.int .i64 n, v]] w fun e w' => e = .returned (.bool (gOk n ls)) ∧ Below w.heap.size w w' := by
  obtain ⟨a, cap, b, off, rfl, hcap, hmax, ha, hc⟩ := h
  unfold maxLen at hmax
  obtain ⟨m, hm⟩ : ∃ m, m = ls.length := ⟨_, rfl⟩
  rw [← hm] at hcap ha ⊢
  have HM := Lib.hid hm; clear hm
  have HC := Lib.hid hc; clear hc
  have HA := Lib.hid ha; clear ha
  have HG0 := Lib.hid (box_new w #[.int .i64 n, .slice a m cap] 26)
  go_enter Try.func34, Try.ntmps34
  go_wp2_with fail
  go_loopw [3] (fun i wr => ∃ k : Nat, k ≤ m ∧ i = .int .i64 k ∧ Hid (inB n 1 8 = true → ∀ j, j < k → linkOkB n ls j = true) ∧ Below w.heap.size w wr ∧ Box wr w.heap.size #[.int .i64 n, .slice a m cap] 26)
    (fun i _ => m - (intOf i).toNat)
  case atStart => exact ⟨0, Nat.zero_le _, rfl, Lib.hid (fun _ j hj => by omega), (by with_reducible (repeat (first | (refine below_drewN ?_ _) | (refine Below.drew ?_) | (refine below_alloc ?_ (by first | omega | (simp; done) | (simp; omega)) _) | (refine Below.setCell ?_ (by first | omega | (simp; done) | (simp; omega)) _) | exact Below.refl _ _ | assumption | (refine below_call ?_ (by first | omega | (simp; done) | (simp; omega)) (by assumption))))), HG0.out⟩
  case round =>
    obtain ⟨k, hk, rfl, HI, HB, hG⟩ := hrel
    clear HG0
    obtain ⟨G_0, G_1, G_2, G_3, G_4⟩ := box2 hG
    have HBX := Lib.hid hG
    by_cases hkn : k < m
    · obtain ⟨⟨x, y, z⟩, hxy⟩ := at_lt HM.out hkn
      have ha := HA.out (by omega)
      subst ha
      obtain ⟨d0, d1, d2⟩ := HC.out k x y z hxy
      have hb : b < w.heap.size := cell_lt d0
      have e0 := cell_below HB d0 hb
      have e1 := cell_below HB d1 hb
      have e2 := cell_below HB d2 hb
      have HE := Lib.hid (linkOkB_at (n := n) hxy)
      have hkl : k < ls.length := by rw [← HM.out]; exact hkn
      have HL := Lib.hid hkl
      have hbr : b < wr.heap.size := by have := HB.size; omega
      have hkI : (k:Int) < (m:Int) := by omega
      clear hxy d0 d1 d2 hkl
      have HBB := Lib.hid HB
      have hsb : w.heap.size ≤ wr.heap.size := HB.size
      have bad : Hid ((inB n 1 8 = true → linkOkB n ls k = false) → gOk n ls = false) := Lib.hid fun h => by
        unfold gOk
        rcases Bool.eq_false_or_eq_true (inB n 1 8) with hn | hn
        · rw [all_bad HL.out (h hn)]; simp
        · rw [hn]; rfl
      have hw1 : Hid (inB n 1 8 = true → IntKind.i64.wrap (n - 1) = n - 1) := Lib.hid fun h => IntWalk.i64_in _ (by have := inB_iff.1 h; omega)
      have hw2 : Hid (0 ≤ x → x ≤ 100 → IntKind.i64.wrap (x + 1) = x + 1) := Lib.hid fun h1 h2 => IntWalk.i64_in _ (by omega)
      obtain ⟨n1, hn1⟩ : ∃ n1, IntKind.i64.wrap (n - 1) = n1 := ⟨_, rfl⟩
      obtain ⟨x1, hx1⟩ : ∃ x1, IntKind.i64.wrap (x + 1) = x1 := ⟨_, rfl⟩
      have HN1 := Lib.hid hn1; have HX1 := Lib.hid hx1
      clear hG HB
      rcases Bool.eq_false_or_eq_true (inB x 0 n1) with g1 | g1
      rotate_left
      · go_wp2_with (go_at_call 37; refine (l6In_any _ _ _ _).mono ?_; rintro e w' ⟨rfl, rfl⟩)
        go_ret
        exact ⟨ret_bool (bad.out (fun hn => by
            have h1 := HN1.out; rw [hw1.out hn] at h1
            rw [HE.out]
            have := inB_iff.1 hn
            rw [← h1] at g1
            simp [inB] at g1 ⊢; omega)).symm, HBB.out.alloc hsb _⟩
      rcases Bool.eq_false_or_eq_true (inB y x1 n1) with g2 | g2
      rotate_left
      · go_wp2_with (go_at_call 37; refine (l6In_any _ _ _ _).mono ?_; rintro e w' ⟨rfl, rfl⟩)
        go_ret
        exact ⟨ret_bool (bad.out (fun hn => by
            have h1 := HN1.out; rw [hw1.out hn] at h1
            have := inB_iff.1 hn
            rw [← h1] at g1 g2
            have g1' := inB_iff.1 g1
            have h2 := HX1.out; rw [hw2.out (by omega) (by omega)] at h2
            rw [HE.out]
            rw [← h2] at g2
            simp [inB] at g2 ⊢; omega)).symm, HBB.out.alloc hsb _⟩
      rcases Bool.eq_false_or_eq_true (inB z 1 20) with g3 | g3
      rotate_left
      · go_wp2_with (go_at_call 37; refine (l6In_any _ _ _ _).mono ?_; rintro e w' ⟨rfl, rfl⟩)
        go_ret
        exact ⟨ret_bool (bad.out (fun _ => by rw [HE.out, g3]; simp)).symm, HBB.out.alloc hsb _⟩
      have H4 : Hid (inB n 1 8 = true → decide (0 ≤ x) = true ∧ decide (x < y) = true ∧ decide (y < n) = true) := Lib.hid fun hn => by
        have h1 := HN1.out; rw [hw1.out hn] at h1
        have := inB_iff.1 hn
        rw [← h1] at g1 g2
        have g1' := inB_iff.1 g1
        have h2 := HX1.out; rw [hw2.out (by omega) (by omega)] at h2
        rw [← h2] at g2
        have g2' := inB_iff.1 g2
        simp only [decide_eq_true_iff]
        omega
      by_cases hk0 : 0 < k
      · obtain ⟨⟨px, py, pz⟩, hp⟩ := at_lt (l := ls) HM.out (k := k - 1) (by omega)
        obtain ⟨d0, d1, d2⟩ := HC.out (k-1) px py pz hp
        have f0 := cell_below HBB.out d0 hb
        have f1 := cell_below HBB.out d1 hb
        have HP : Hid (ls.getD (k-1) (0,0,0) = (px, py, pz)) := by show _ = _; rw [getD_of hp]
        clear hp d0 d1 d2
        have hd : decide ((0:Int) < (k:Int)) = true := by simp; omega
        have w1 : IntKind.i64.wrap ((k:Int) - 1) = (k:Int) - 1 := IntWalk.i64_in _ (by omega)
        have w2 : (0:Int) ≤ (k:Int) - 1 := by omega
        have w3 : (1:Int) ≤ (k:Int) := by omega
        have w4 : ((k:Int) - 1).toNat = k - 1 := by omega
        have w5 : (k:Int) - 1 < (m:Int) := by omega
        have hlex : ∀ q, lexB (px, py, pz) (x, y, z) = q → inB n 1 8 = true → linkOkB n ls k = q := fun q hq hn => by
          rw [HE.out, HP.out, hq, (H4.out hn).1, (H4.out hn).2.1, (H4.out hn).2.2, g3]
          have : (k == 0) = false := by simp; omega
          rw [this]; simp
        have HLX := Lib.hid hlex
        clear hlex
        rcases Bool.eq_false_or_eq_true (decide (x < px)) with p1 | p1
        · go_wp2_with (go_at_call 37; refine (l6In_any _ _ _ _).mono ?_; rintro e w' ⟨rfl, rfl⟩)
          go_quiet (fail)
          go_wp2_with fail
          go_ret
          exact ⟨ret_bool (bad.out (HLX.out _ (by simp at p1; simp [lexB]; omega))).symm, below_drewN (HBB.out.alloc hsb _) _⟩
        rcases Bool.eq_false_or_eq_true (px == x) with p2 | p2
        · rcases Bool.eq_false_or_eq_true (decide (y ≤ py)) with p3 | p3
          · go_wp2_with (go_at_call 37; refine (l6In_any _ _ _ _).mono ?_; rintro e w' ⟨rfl, rfl⟩)
            go_quiet (fail)
            go_wp2_with fail
            go_ret
            exact ⟨ret_bool (bad.out (HLX.out _ (by simp at p1 p2 p3; simp [lexB]; omega))).symm, below_drewN (HBB.out.alloc hsb _) _⟩
          · go_wp2_with (go_at_call 37; refine (l6In_any _ _ _ _).mono ?_; rintro e w' ⟨rfl, rfl⟩)
            go_quiet (fail)
            go_wp2_with fail
            go_roundw
            case rel =>
              exact ⟨k + 1, by omega, by go_num, Lib.hid (fun hn => upto_succ (HI.out hn) (HLX.out _ (by simp at p1 p2 p3; simp [lexB]; omega) hn)), below_drewN (HBB.out.alloc hsb _) _, (HBX.out.alloc _).drewN _⟩
            case measure => simp [intOf]; omega
        · go_wp2_with (go_at_call 37; refine (l6In_any _ _ _ _).mono ?_; rintro e w' ⟨rfl, rfl⟩)
          go_quiet (fail)
          go_wp2_with fail
          go_roundw
          case rel =>
            exact ⟨k + 1, by omega, by go_num, Lib.hid (fun hn => upto_succ (HI.out hn) (HLX.out _ (by simp at p1 p2; simp [lexB]; omega) hn)), below_drewN (HBB.out.alloc hsb _) _, (HBX.out.alloc _).drewN _⟩
          case measure => simp [intOf]; omega
      · obtain rfl : k = 0 := by omega
        have hd : decide ((0:Int) < (0:Int)) = false := by simp
        simp only [Nat.zero_mul, Nat.add_zero] at e0 e1 e2
        go_wp2_with (go_at_call 37; refine (l6In_any _ _ _ _).mono ?_; rintro e w' ⟨rfl, rfl⟩)
        go_quiet (fail)
        go_wp2_with fail
        go_roundw
        case rel =>
          exact ⟨0 + 1, by omega, by go_num, Lib.hid (fun hn => upto_succ (HI.out hn) (by rw [HE.out, (H4.out hn).1, (H4.out hn).2.1, (H4.out hn).2.2, g3]; simp)), below_drewN (HBB.out.alloc hsb _) _, (HBX.out.alloc _).drewN _⟩
        case measure => simp [intOf]; omega
    · have hall : gOk n ls = (inB n 1 8 && decide (m ≤ 14)) := by
        unfold gOk
        rw [← HM.out]
        rcases Bool.eq_false_or_eq_true (inB n 1 8) with hn | hn
        · rw [all_good (fun j hj => HI.out hn j (by have := HM.out; omega)), hn]; simp
        · rw [hn]; rfl
      have HALL := Lib.hid hall
      clear hall
      rcases Bool.eq_false_or_eq_true (inB n 1 8) with hn | hn
      · rcases Bool.eq_false_or_eq_true (decide ((m:Int) ≤ 14)) with hm14 | hm14
        all_goals
          have HQ : Hid (decide (m ≤ 14) = decide ((m:Int) ≤ 14)) := Lib.hid (by rw [decide_eq_decide]; omega)
          go_wp2_with (go_at_call 37; refine (l6In_any _ _ _ _).mono ?_; rintro e w' ⟨rfl, rfl⟩)
          go_ret
          exact ⟨ret_bool (by rw [HALL.out, hn, HQ.out, hm14]; rfl), HB⟩
      · go_wp2_with (go_at_call 37; refine (l6In_any _ _ _ _).mono ?_; rintro e w' ⟨rfl, rfl⟩)
        go_ret
        exact ⟨ret_bool (by rw [HALL.out, hn]; rfl), HB⟩
end Go.Proofs.Ytnnkdoomjkccgaa
