/- GraphValid of the program and of the reference: both give gOk. -/
import Derived.Test.YtnnkdoomjkccgaaBase
import Derived.Test.YtnnkdoomjkccgaaOwn2
import Derived.Test.YtnnkdoomjkccgaaGrAll
namespace Go.Proofs.Ytnnkdoomjkccgaa
set_option linter.unusedSimpArgs false
set_option linter.unusedVariables false
open Go.RowKit

theorem TriplesAt.form {w : World} {v : Value} {es : List LinkD} (h : TriplesAt w v es) : ∃ a n cap, v = .slice a n cap := let ⟨a, cap, _, _, hv, _⟩ := h; ⟨a, _, cap, hv⟩
set_option maxHeartbeats 4000000 in
theorem iGraphValid (n : Int) (ls : List LinkD) (v : Value) (w : World) (h : TriplesAt w v ls) :
    Calls Try.prog 21 #[.agg #[.int .i64 n, v]] w fun e w' => e = .returned (.bool (gOk n ls)) ∧ Below w.heap.size w w' := by
  obtain ⟨a, cap, b, off, rfl, hcap, hmax, ha, hc⟩ := h
  unfold maxLen at hmax
  obtain ⟨m, hm⟩ : ∃ m, m = ls.length := ⟨_, rfl⟩
  rw [← hm] at hcap ha ⊢
  have HM := Lib.hid hm; clear hm
  have HC := Lib.hid hc; clear hc
  have HA := Lib.hid ha; clear ha
  rcases Bool.eq_false_or_eq_true (inB n 1 8) with hn | hn
  rotate_left
  · go_enter Try.func21, Try.ntmps21
    go_wp2_with (go_at_call 41; refine (within_any _ _ _ _).mono ?_; rintro e w' ⟨rfl, rfl⟩)
    go_ret
    exact ⟨ret_bool (by simp [gOk, hn]), (by with_reducible (repeat (first | (refine below_drewN ?_ _) | (refine Below.drew ?_) | (refine below_alloc ?_ (by first | omega | (simp; done) | (simp; omega)) _) | (refine Below.setCell ?_ (by first | omega | (simp; done) | (simp; omega)) _) | exact Below.refl _ _ | assumption | (refine below_call ?_ (by first | omega | (simp; done) | (simp; omega)) (by assumption)))))⟩
  rcases Bool.eq_false_or_eq_true (decide ((14:Int) < (m:Int))) with hm14 | hm14
  · have HX : Hid (gOk n ls = false) := by show _ = _; unfold gOk; rw [show decide (ls.length ≤ 14) = false from by rw [← HM.out]; simp at hm14 ⊢; omega]; simp
    go_enter Try.func21, Try.ntmps21
    go_wp2_with (go_at_call 41; refine (within_any _ _ _ _).mono ?_; rintro e w' ⟨rfl, rfl⟩)
    go_ret
    exact ⟨ret_bool HX.out.symm, (by with_reducible (repeat (first | (refine below_drewN ?_ _) | (refine Below.drew ?_) | (refine below_alloc ?_ (by first | omega | (simp; done) | (simp; omega)) _) | (refine Below.setCell ?_ (by first | omega | (simp; done) | (simp; omega)) _) | exact Below.refl _ _ | assumption | (refine below_call ?_ (by first | omega | (simp; done) | (simp; omega)) (by assumption)))))⟩
  have HG0 := Lib.hid (box_new w #[.int .i64 n, .slice a m cap] 26)
  go_enter Try.func21, Try.ntmps21
  go_wp2_with (go_at_call 41; refine (within_any _ _ _ _).mono ?_; rintro e w' ⟨rfl, rfl⟩)
  go_loopw [18] (fun i wr => ∃ k : Nat, k ≤ m ∧ i = .int .i64 k ∧ Hid (∀ j, j < k → linkOkB n ls j = true) ∧ Below w.heap.size w wr ∧ Box wr w.heap.size #[.int .i64 n, .slice a m cap] 26)
    (fun i _ => m - (intOf i).toNat)
  case atStart => exact ⟨0, Nat.zero_le _, rfl, Lib.hid (fun j hj => by omega), (by with_reducible (repeat (first | (refine below_drewN ?_ _) | (refine Below.drew ?_) | (refine below_alloc ?_ (by first | omega | (simp; done) | (simp; omega)) _) | (refine Below.setCell ?_ (by first | omega | (simp; done) | (simp; omega)) _) | exact Below.refl _ _ | assumption | (refine below_call ?_ (by first | omega | (simp; done) | (simp; omega)) (by assumption))))), HG0.out⟩
  case round =>
    obtain ⟨k, hk, rfl, HI, HB, hG⟩ := hrel
    clear HG0
    obtain ⟨G_0, G_1, G_2, G_3, G_4⟩ := box2 hG
    have HBX := Lib.hid hG
    by_cases hkn : k < m
    · obtain ⟨⟨x, y, z⟩, hxy⟩ := at_lt HM.out hkn
      have ha := HA.out (by omega)
      subst ha
      obtain ⟨d0, d1, d2⟩ := HC.out k x y z hxy
      have hb : b < w.heap.size := cell_lt d0
      have e0 := cell_below HB d0 hb
      have e1 := cell_below HB d1 hb
      have e2 := cell_below HB d2 hb
      have HE := Lib.hid (linkOkB_at (n := n) hxy)
      have hkl : k < ls.length := by rw [← HM.out]; exact hkn
      have HL := Lib.hid hkl
      have hbr : b < wr.heap.size := by have := HB.size; omega
      have hkI : (k:Int) < (m:Int) := by omega
      clear hxy d0 d1 d2 hkl
      have HBB := Lib.hid HB
      have hsb : w.heap.size ≤ wr.heap.size := HB.size
      have bad : Hid (linkOkB n ls k = false → gOk n ls = false) := Lib.hid fun h => by unfold gOk; rw [all_bad HL.out h]; simp
      clear hG HB
      rcases Bool.eq_false_or_eq_true (decide (x < 0)) with g1 | g1
      · go_wp2_with (go_at_call 41; refine (within_any _ _ _ _).mono ?_; rintro e w' ⟨rfl, rfl⟩)
        go_ret
        exact ⟨ret_bool (bad.out (by rw [HE.out]; simp at g1; simp; omega)).symm, HBB.out.alloc hsb _⟩
      rcases Bool.eq_false_or_eq_true (decide (y ≤ x)) with g2 | g2
      · go_wp2_with (go_at_call 41; refine (within_any _ _ _ _).mono ?_; rintro e w' ⟨rfl, rfl⟩)
        go_ret
        exact ⟨ret_bool (bad.out (by rw [HE.out]; simp at g2; simp; omega)).symm, HBB.out.alloc hsb _⟩
      rcases Bool.eq_false_or_eq_true (decide (n ≤ y)) with g3 | g3
      · go_wp2_with (go_at_call 41; refine (within_any _ _ _ _).mono ?_; rintro e w' ⟨rfl, rfl⟩)
        go_ret
        exact ⟨ret_bool (bad.out (by rw [HE.out]; simp at g3; simp; omega)).symm, HBB.out.alloc hsb _⟩
      rcases Bool.eq_false_or_eq_true (inB z 1 20) with g4 | g4
      rotate_left
      · go_wp2_with (go_at_call 41; refine (within_any _ _ _ _).mono ?_; rintro e w' ⟨rfl, rfl⟩)
        go_ret
        exact ⟨ret_bool (bad.out (by rw [HE.out]; rw [g4]; simp)).symm, HBB.out.alloc hsb _⟩
      have H4 : Hid (decide (0 ≤ x) = true ∧ decide (x < y) = true ∧ decide (y < n) = true) := Lib.hid (by simp at g1 g2 g3 ⊢; omega)
      by_cases hk0 : 0 < k
      · obtain ⟨⟨px, py, pz⟩, hp⟩ := at_lt (l := ls) HM.out (k := k - 1) (by omega)
        obtain ⟨d0, d1, d2⟩ := HC.out (k-1) px py pz hp
        have f0 := cell_below HBB.out d0 hb
        have f1 := cell_below HBB.out d1 hb
        have HP : Hid (ls.getD (k-1) (0,0,0) = (px, py, pz)) := by show _ = _; rw [getD_of hp]
        clear hp d0 d1 d2
        have hd : decide ((0:Int) < (k:Int)) = true := by simp; omega
        have w1 : IntKind.i64.wrap ((k:Int) - 1) = (k:Int) - 1 := IntWalk.i64_in _ (by omega)
        have w2 : (0:Int) ≤ (k:Int) - 1 := by omega
        have w3 : (1:Int) ≤ (k:Int) := by omega
        have w4 : ((k:Int) - 1).toNat = k - 1 := by omega
        have w5 : (k:Int) - 1 < (m:Int) := by omega
        have hlex : ∀ q, lexB (px, py, pz) (x, y, z) = q → linkOkB n ls k = q := fun q hq => by
          rw [HE.out, HP.out, hq, H4.out.1, H4.out.2.1, H4.out.2.2, g4]
          have : (k == 0) = false := by simp; omega
          rw [this]; simp
        have HLX := Lib.hid hlex
        clear hlex
        rcases Bool.eq_false_or_eq_true (decide (x < px)) with p1 | p1
        · go_wp2_with (go_at_call 41; refine (within_any _ _ _ _).mono ?_; rintro e w' ⟨rfl, rfl⟩)
          go_quiet (fail)
          go_wp2_with fail
          go_ret
          exact ⟨ret_bool (bad.out (HLX.out _ (by simp at p1; simp [lexB]; omega))).symm, below_drewN (HBB.out.alloc hsb _) _⟩
        rcases Bool.eq_false_or_eq_true (px == x) with p2 | p2
        · rcases Bool.eq_false_or_eq_true (decide (y ≤ py)) with p3 | p3
          · go_wp2_with (go_at_call 41; refine (within_any _ _ _ _).mono ?_; rintro e w' ⟨rfl, rfl⟩)
            go_quiet (fail)
            go_wp2_with fail
            go_ret
            exact ⟨ret_bool (bad.out (HLX.out _ (by simp at p1 p2 p3; simp [lexB]; omega))).symm, below_drewN (HBB.out.alloc hsb _) _⟩
          · go_wp2_with (go_at_call 41; refine (within_any _ _ _ _).mono ?_; rintro e w' ⟨rfl, rfl⟩)
            go_quiet (fail)
            go_wp2_with fail
            go_roundw
            case rel =>
              exact ⟨k + 1, by omega, by go_num, Lib.hid (upto_succ HI.out (HLX.out _ (by simp at p1 p2 p3; simp [lexB]; omega))), below_drewN (HBB.out.alloc hsb _) _, (HBX.out.alloc _).drewN _⟩
            case measure => simp [intOf]; omega
        · go_wp2_with (go_at_call 41; refine (within_any _ _ _ _).mono ?_; rintro e w' ⟨rfl, rfl⟩)
          go_quiet (fail)
          go_wp2_with fail
          go_roundw
          case rel =>
            exact ⟨k + 1, by omega, by go_num, Lib.hid (upto_succ HI.out (HLX.out _ (by simp at p1 p2; simp [lexB]; omega))), below_drewN (HBB.out.alloc hsb _) _, (HBX.out.alloc _).drewN _⟩
          case measure => simp [intOf]; omega
      · obtain rfl : k = 0 := by omega
        have hd : decide ((0:Int) < (0:Int)) = false := by simp
        simp only [Nat.zero_mul, Nat.add_zero] at e0 e1 e2
        go_wp2_with (go_at_call 41; refine (within_any _ _ _ _).mono ?_; rintro e w' ⟨rfl, rfl⟩)
        go_quiet (fail)
        go_wp2_with fail
        go_roundw
        case rel =>
          exact ⟨0 + 1, by omega, by go_num, Lib.hid (upto_succ HI.out (by rw [HE.out, H4.out.1, H4.out.2.1, H4.out.2.2, g4]; simp)), below_drewN (HBB.out.alloc hsb _) _, (HBX.out.alloc _).drewN _⟩
        case measure => simp [intOf]; omega
    · have hall : gOk n ls = true := by
        unfold gOk
        rw [all_good (fun j hj => HI.out j (by have := HM.out; omega)), hn, show decide (ls.length ≤ 14) = true from by rw [← HM.out]; simp at hm14 ⊢; omega]; rfl
      have HALL := Lib.hid hall
      clear hall
      go_wp2_with fail
      go_ret
      exact ⟨ret_bool HALL.out.symm, HB⟩
end Go.Proofs.Ytnnkdoomjkccgaa
