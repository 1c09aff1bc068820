/- The link between two nodes: linkOf of the program (slices.IndexFunc with its closure), l1Link of the reference. -/
import Derived.Test.YtnnkdoomjkccgaaBase
import Derived.Test.YtnnkdoomjkccgaaOwn2
import Derived.Test.YtnnkdoomjkccgaaGValid
namespace Go.Proofs.Ytnnkdoomjkccgaa
set_option linter.unusedSimpArgs false
set_option linter.unusedVariables false
open Go.RowKit

theorem linkOf1_any (x y z a b : Int) (A B : Nat) (w : World) (ha : w.cell? ⟨A, 0, none⟩ = some (.int .i64 a)) (hb : w.cell? ⟨B, 0, none⟩ = some (.int .i64 b)) :
    Calls Try.prog 76 #[.agg #[.int .i64 x, .int .i64 y, .int .i64 z], .pointer (some ⟨A, 0, none⟩), .pointer (some ⟨B, 0, none⟩)] w fun e w' => e = .returned (.bool (linkAt a b (x, y, z))) ∧ w.alloc (.cells #[.int .i64 x, .int .i64 y, .int .i64 z] 46) = w' := by
  have hA := cell_lt ha
  have hB := cell_lt hb
  have hA1 : A < w.heap.size + 1 := by omega
  have hB1 : B < w.heap.size + 1 := by omega
  have hAn : ¬ A = w.heap.size := by omega
  have hBn : ¬ B = w.heap.size := by omega
  obtain ⟨c1, c2, hx1, hx2⟩ : ∃ c1 c2, min a b = c1 ∧ max a b = c2 := ⟨_, _, rfl, rfl⟩
  have HX : Hid (linkAt a b (x, y, z) = ((x == c1) && (y == c2))) := Lib.hid (by rw [← hx1, ← hx2]; rfl)
  rcases Int.lt_trichotomy a b with h | h | h
  · obtain rfl : c1 = a := by omega
    obtain rfl : c2 = b := by omega
    have d1 : decide (c1 < c2) = true := by simpa using h
    have d2 : decide (c2 < c1) = false := by simp; omega
    rcases Bool.eq_false_or_eq_true (x == c1) with h1 | h1
    all_goals
      rw [h1] at HX
      go_enter Try.func76, Try.ntmps76
      go_wp2_with fail
      go_ret
      exact ⟨ret_bool HX.out.symm, rfl⟩
  · subst h
    obtain rfl : c1 = a := by omega
    obtain rfl : c2 = c1 := by omega
    have d1 : decide (c2 < c2) = false := by simp
    rcases Bool.eq_false_or_eq_true (x == c2) with h1 | h1
    all_goals
      rw [h1] at HX
      go_enter Try.func76, Try.ntmps76
      go_wp2_with fail
      go_ret
      exact ⟨ret_bool HX.out.symm, rfl⟩
  · obtain rfl : c1 = b := by omega
    obtain rfl : c2 = a := by omega
    have d1 : decide (c1 < c2) = true := by simpa using h
    have d2 : decide (c2 < c1) = false := by simp; omega
    rcases Bool.eq_false_or_eq_true (x == c1) with h1 | h1
    all_goals
      rw [h1] at HX
      go_enter Try.func76, Try.ntmps76
      go_wp2_with fail
      go_ret
      exact ⟨ret_bool HX.out.symm, rfl⟩
set_option maxHeartbeats 1000000 in
theorem indexFunc_any (ls : List LinkD) (a b : Int) (A B : Nat) (v : Value) (w : World) (hv : TriplesAt w v ls) (ha : w.cell? ⟨A, 0, none⟩ = some (.int .i64 a)) (hb : w.cell? ⟨B, 0, none⟩ = some (.int .i64 b)) (hl : ls.length ≤ 1048576) :
    Calls Try.prog 75 #[v, .func (.func 76) #[] #[.pointer (some ⟨A, 0, none⟩), .pointer (some ⟨B, 0, none⟩)]] w fun e w' => e = .returned (.int .i64 (lkOf ls a b)) ∧ Below w.heap.size w w' := by
  obtain ⟨u, cap, bl, off, rfl, hcap, hmax, hu, hc⟩ := hv
  unfold maxLen at hmax
  obtain ⟨m, hm⟩ : ∃ m, m = ls.length := ⟨_, rfl⟩
  rw [← hm] at hcap hu hl ⊢
  have HM := Lib.hid hm; clear hm
  have HC := Lib.hid hc; clear hc
  have HU := Lib.hid hu; clear hu
  go_enter Try.func75, Try.ntmps75
  go_wp2_with fail
  go_loopw [8] (fun i wr => ∃ k : Nat, k ≤ m ∧ i = .int .i64 k ∧ Hid (∀ (j : Nat) (l : LinkD), j < k → ls[j]? = some l → linkAt a b l = false) ∧ Below w.heap.size w wr) (fun i _ => m - (intOf i).toNat)
  case atStart => exact ⟨0, Nat.zero_le _, rfl, Lib.hid (fun j l hj => by omega), Below.refl _ _⟩
  case round =>
    obtain ⟨k, hk, rfl, HI, HB⟩ := hrel
    by_cases hkm : k < m
    · obtain ⟨⟨x, y, z⟩, hx⟩ := at_lt HM.out hkm
      have hu := HU.out (by omega)
      subst hu
      obtain ⟨d0, d1, d2⟩ := HC.out k x y z hx
      have hbd := cell_lt d0
      have e0 := cell_below HB d0 hbd
      have e1 := cell_below HB d1 hbd
      have e2 := cell_below HB d2 hbd
      have hkI : (k:Int) < (m:Int) := by omega
      have HA := Lib.hid (cell_below HB ha (cell_lt ha)); have HBB := Lib.hid (cell_below HB hb (cell_lt hb))
      have HX := Lib.hid hx; have HW := Lib.hid HB
      have hsz := HB.size
      obtain ⟨q, hq⟩ : ∃ q, linkAt a b (x, y, z) = q := ⟨_, rfl⟩
      have HQ := Lib.hid hq
      clear hx d0 d1 d2 HB hq
      cases q
      all_goals
        go_wp2_with (go_at_call 76; refine (linkOf1_any _ _ _ a b A B _ HA.out HBB.out).mono ?_; rw [HQ.out]; rintro e w' ⟨rfl, rfl⟩)
      · go_roundw
        case rel =>
          refine ⟨k + 1, by omega, by go_num, Lib.hid fun j l hj hl => ?_, HW.out.alloc hsz _⟩
          rcases Nat.lt_or_ge j k with h1 | h1
          · exact HI.out j l h1 hl
          · obtain rfl : j = k := by omega
            rw [HX.out] at hl
            injection hl with hl
            subst hl
            exact HQ.out
        case measure => simp [intOf]; omega
      · go_ret
        exact ⟨ret_int (lkOf_at HX.out HQ.out fun j l hj hl => HI.out j l hj hl).symm, HW.out.alloc hsz _⟩
    · go_wp2_with fail
      go_ret
      exact ⟨ret_int (lkOf_no fun j l hl => HI.out j l (by have := (List.getElem?_eq_some_iff.1 hl).1; have := HM.out; omega) hl).symm, HB⟩
theorem iLinkOf (n : Int) (ls : List LinkD) (a b : Int) (v : Value) (w : World) (hv : TriplesAt w v ls) (hl : ls.length ≤ 1048576) :
    Calls Try.prog 53 #[.agg #[.int .i64 n, v], .int .i64 a, .int .i64 b] w fun e w' => e = .returned (.int .i64 (lkOf ls a b)) ∧ Below w.heap.size w w' := by
  have HV := Lib.hid hv
  obtain ⟨u, m, cap, rfl⟩ := hv.form
  clear hv
  go_enter Try.func53, Try.ntmps53
  go_wp2_with fail
  refine (indexFunc_any ls a b (w.heap.size + 1) (w.heap.size + 1 + 1) _ _ (HV.out.below (by with_reducible (repeat (first | (refine below_drewN ?_ _) | (refine Below.drew ?_) | (refine below_alloc ?_ (by first | omega | (simp; done) | (simp; omega)) _) | (refine Below.setCell ?_ (by first | omega | (simp; done) | (simp; omega)) _) | exact Below.refl _ _ | assumption | (refine below_call ?_ (by first | omega | (simp; done) | (simp; omega)) (by assumption))))) (Nat.le_refl _)) (by simp [go_sem]) (by simp [go_sem]) hl).mono ?_
  rintro e w1 ⟨rfl, hb⟩
  have BW := Lib.hid (below_call (B := w.heap.size) (a := w) (by with_reducible (repeat (first | (refine below_drewN ?_ _) | (refine Below.drew ?_) | (refine below_alloc ?_ (by first | omega | (simp; done) | (simp; omega)) _) | (refine Below.setCell ?_ (by first | omega | (simp; done) | (simp; omega)) _) | exact Below.refl _ _ | assumption | (refine below_call ?_ (by first | omega | (simp; done) | (simp; omega)) (by assumption))))) (Nat.le_refl _) hb)
  clear hb
  go_wp2_with fail
  go_ret
  exact ⟨rfl, BW.out⟩
set_option maxHeartbeats 1000000 in
theorem sLinkOf (n : Int) (ls : List LinkD) (a b : Int) (v : Value) (w : World) (hv : TriplesAt w v ls) :
    Calls Try.prog 77 #[.agg #[.int .i64 n, v], .int .i64 a, .int .i64 b] w fun e w' => e = .returned (.int .i64 (lkOf ls a b)) ∧ Below w.heap.size w w' := by
  obtain ⟨u, cap, bl, off, rfl, hcap, hmax, hu, hc⟩ := hv
  unfold maxLen at hmax
  obtain ⟨m, hm⟩ : ∃ m, m = ls.length := ⟨_, rfl⟩
  rw [← hm] at hcap hu ⊢
  have HM := Lib.hid hm; clear hm
  have HC := Lib.hid hc; clear hc
  have HU := Lib.hid hu; clear hu
  obtain ⟨c1, c2, hx1, hx2⟩ : ∃ c1 c2, min a b = c1 ∧ max a b = c2 := ⟨_, _, rfl, rfl⟩
  obtain ⟨L, hL⟩ : ∃ L, linkAt a b = L := ⟨_, rfl⟩
  obtain ⟨r, hr⟩ : ∃ r, lkOf ls a b = r := ⟨_, rfl⟩
  have HX : Hid (∀ x y z, L (x, y, z) = ((x == c1) && (y == c2))) := Lib.hid (fun x y z => by rw [← hL, ← hx1, ← hx2]; rfl)
  have HAT : Hid (∀ (i : Nat) (l : LinkD), ls[i]? = some l → L l = true → (∀ (j : Nat) (l' : LinkD), j < i → ls[j]? = some l' → L l' = false) → r = i) := Lib.hid fun i l h1 h2 h3 => by
    rw [← hr]; rw [← hL] at h2 h3; exact lkOf_at h1 h2 h3
  have HNO : Hid ((∀ (j : Nat) (l : LinkD), ls[j]? = some l → L l = false) → r = -1) := Lib.hid fun h => by
    rw [← hr]; rw [← hL] at h; exact lkOf_no h
  rw [hr]
  have HG0 := Lib.hid (box_new w #[.int .i64 n, .slice u m cap] 26)
  have hdec : (a < b ∧ c1 = a ∧ c2 = b) ∨ (a = b ∧ c1 = a ∧ c2 = a) ∨ (b < a ∧ c1 = b ∧ c2 = a) := by omega
  clear hx1 hx2 hL hr
  rcases hdec with ⟨h, rfl, rfl⟩ | ⟨rfl, rfl, rfl⟩ | ⟨h, rfl, rfl⟩
  · have d1 : decide (c1 < c2) = true := by simpa using h
    have d2 : decide (c2 < c1) = false := by simp; omega
    have h2 : ¬ c2 < c1 := by omega
    go_enter Try.func77, Try.ntmps77
    go_wp2_with fail
    go_loopw [7] (fun i wr => ∃ k : Nat, k ≤ m ∧ i = .int .i64 k ∧ Hid (∀ (j : Nat) (l : LinkD), j < k → ls[j]? = some l → L l = false) ∧ Below w.heap.size w wr ∧ Box wr w.heap.size #[.int .i64 n, .slice u m cap] 26) (fun i _ => m - (intOf i).toNat)
    case atStart => exact ⟨0, Nat.zero_le _, rfl, Lib.hid (fun j l hj => by omega), (by with_reducible (repeat (first | (refine below_drewN ?_ _) | (refine Below.drew ?_) | (refine below_alloc ?_ (by first | omega | (simp; done) | (simp; omega)) _) | (refine Below.setCell ?_ (by first | omega | (simp; done) | (simp; omega)) _) | exact Below.refl _ _ | assumption | (refine below_call ?_ (by first | omega | (simp; done) | (simp; omega)) (by assumption))))), HG0.out⟩
    case round =>
      obtain ⟨k, hk, rfl, HI, HB, hG⟩ := hrel
      clear HG0
      obtain ⟨G_0, G_1, G_2, G_3, G_4⟩ := box2 hG
      by_cases hkm : k < m
      · obtain ⟨⟨x, y, z⟩, hx⟩ := at_lt HM.out hkm
        have hu := HU.out (by omega)
        subst hu
        obtain ⟨t0, t1, t2⟩ := HC.out k x y z hx
        have hbd := cell_lt t0
        have e0 := cell_below HB t0 hbd
        have e1 := cell_below HB t1 hbd
        have e2 := cell_below HB t2 hbd
        have hkI : (k:Int) < (m:Int) := by omega
        have HXX := Lib.hid hx; have HW := Lib.hid HB; have HGG := Lib.hid hG
        have hlx := HX.out x y z
        have HLX := Lib.hid hlx
        clear hx t0 t1 t2 HB hG hlx
        have key : Hid (L (x, y, z) = false → ∀ (j : Nat) (l : LinkD), j < k + 1 → ls[j]? = some l → L l = false) := Lib.hid fun h j l hj hl => by
          rcases Nat.lt_or_ge j k with h1 | h1
          · exact HI.out j l h1 hl
          · obtain rfl : j = k := by omega
            rw [HXX.out] at hl
            injection hl with hl
            subst hl
            exact h
        rcases Bool.eq_false_or_eq_true (x == c1) with q1 | q1
        · rcases Bool.eq_false_or_eq_true (y == c2) with q2 | q2
          · rw [q1, q2] at HLX
            go_wp2_with fail
            go_ret
            exact ⟨ret_int (HAT.out k _ HXX.out HLX.out HI.out).symm, HW.out⟩
          · rw [q1, q2] at HLX
            go_wp2_with fail
            go_roundw
            case rel => exact ⟨k + 1, by omega, by go_num, Lib.hid (key.out HLX.out), HW.out, HGG.out⟩
            case measure => simp [intOf]; omega
        · rw [q1] at HLX
          go_wp2_with fail
          go_roundw
          case rel => exact ⟨k + 1, by omega, by go_num, Lib.hid (key.out HLX.out), HW.out, HGG.out⟩
          case measure => simp [intOf]; omega
      · go_wp2_with fail
        go_ret
        exact ⟨ret_int (HNO.out fun j l hl => HI.out j l (by have := (List.getElem?_eq_some_iff.1 hl).1; have := HM.out; omega) hl).symm, HB⟩
  · have d1 : decide (c2 < c2) = false := by simp
    go_enter Try.func77, Try.ntmps77
    go_wp2_with fail
    go_loopw [7] (fun i wr => ∃ k : Nat, k ≤ m ∧ i = .int .i64 k ∧ Hid (∀ (j : Nat) (l : LinkD), j < k → ls[j]? = some l → L l = false) ∧ Below w.heap.size w wr ∧ Box wr w.heap.size #[.int .i64 n, .slice u m cap] 26) (fun i _ => m - (intOf i).toNat)
    case atStart => exact ⟨0, Nat.zero_le _, rfl, Lib.hid (fun j l hj => by omega), (by with_reducible (repeat (first | (refine below_drewN ?_ _) | (refine Below.drew ?_) | (refine below_alloc ?_ (by first | omega | (simp; done) | (simp; omega)) _) | (refine Below.setCell ?_ (by first | omega | (simp; done) | (simp; omega)) _) | exact Below.refl _ _ | assumption | (refine below_call ?_ (by first | omega | (simp; done) | (simp; omega)) (by assumption))))), HG0.out⟩
    case round =>
      obtain ⟨k, hk, rfl, HI, HB, hG⟩ := hrel
      clear HG0
      obtain ⟨G_0, G_1, G_2, G_3, G_4⟩ := box2 hG
      by_cases hkm : k < m
      · obtain ⟨⟨x, y, z⟩, hx⟩ := at_lt HM.out hkm
        have hu := HU.out (by omega)
        subst hu
        obtain ⟨t0, t1, t2⟩ := HC.out k x y z hx
        have hbd := cell_lt t0
        have e0 := cell_below HB t0 hbd
        have e1 := cell_below HB t1 hbd
        have e2 := cell_below HB t2 hbd
        have hkI : (k:Int) < (m:Int) := by omega
        have HXX := Lib.hid hx; have HW := Lib.hid HB; have HGG := Lib.hid hG
        have hlx := HX.out x y z
        have HLX := Lib.hid hlx
        clear hx t0 t1 t2 HB hG hlx
        have key : Hid (L (x, y, z) = false → ∀ (j : Nat) (l : LinkD), j < k + 1 → ls[j]? = some l → L l = false) := Lib.hid fun h j l hj hl => by
          rcases Nat.lt_or_ge j k with h1 | h1
          · exact HI.out j l h1 hl
          · obtain rfl : j = k := by omega
            rw [HXX.out] at hl
            injection hl with hl
            subst hl
            exact h
        rcases Bool.eq_false_or_eq_true (x == c2) with q1 | q1
        · rcases Bool.eq_false_or_eq_true (y == c2) with q2 | q2
          · rw [q1, q2] at HLX
            go_wp2_with fail
            go_ret
            exact ⟨ret_int (HAT.out k _ HXX.out HLX.out HI.out).symm, HW.out⟩
          · rw [q1, q2] at HLX
            go_wp2_with fail
            go_roundw
            case rel => exact ⟨k + 1, by omega, by go_num, Lib.hid (key.out HLX.out), HW.out, HGG.out⟩
            case measure => simp [intOf]; omega
        · rw [q1] at HLX
          go_wp2_with fail
          go_roundw
          case rel => exact ⟨k + 1, by omega, by go_num, Lib.hid (key.out HLX.out), HW.out, HGG.out⟩
          case measure => simp [intOf]; omega
      · go_wp2_with fail
        go_ret
        exact ⟨ret_int (HNO.out fun j l hl => HI.out j l (by have := (List.getElem?_eq_some_iff.1 hl).1; have := HM.out; omega) hl).symm, HB⟩
  · have d1 : decide (c1 < c2) = true := by simpa using h
    have d2 : decide (c2 < c1) = false := by simp; omega
    have h2 : ¬ c2 < c1 := by omega
    go_enter Try.func77, Try.ntmps77
    go_wp2_with fail
    go_loopw [7] (fun i wr => ∃ k : Nat, k ≤ m ∧ i = .int .i64 k ∧ Hid (∀ (j : Nat) (l : LinkD), j < k → ls[j]? = some l → L l = false) ∧ Below w.heap.size w wr ∧ Box wr w.heap.size #[.int .i64 n, .slice u m cap] 26) (fun i _ => m - (intOf i).toNat)
    case atStart => exact ⟨0, Nat.zero_le _, rfl, Lib.hid (fun j l hj => by omega), (by with_reducible (repeat (first | (refine below_drewN ?_ _) | (refine Below.drew ?_) | (refine below_alloc ?_ (by first | omega | (simp; done) | (simp; omega)) _) | (refine Below.setCell ?_ (by first | omega | (simp; done) | (simp; omega)) _) | exact Below.refl _ _ | assumption | (refine below_call ?_ (by first | omega | (simp; done) | (simp; omega)) (by assumption))))), HG0.out⟩
    case round =>
      obtain ⟨k, hk, rfl, HI, HB, hG⟩ := hrel
      clear HG0
      obtain ⟨G_0, G_1, G_2, G_3, G_4⟩ := box2 hG
      by_cases hkm : k < m
      · obtain ⟨⟨x, y, z⟩, hx⟩ := at_lt HM.out hkm
        have hu := HU.out (by omega)
        subst hu
        obtain ⟨t0, t1, t2⟩ := HC.out k x y z hx
        have hbd := cell_lt t0
        have e0 := cell_below HB t0 hbd
        have e1 := cell_below HB t1 hbd
        have e2 := cell_below HB t2 hbd
        have hkI : (k:Int) < (m:Int) := by omega
        have HXX := Lib.hid hx; have HW := Lib.hid HB; have HGG := Lib.hid hG
        have hlx := HX.out x y z
        have HLX := Lib.hid hlx
        clear hx t0 t1 t2 HB hG hlx
        have key : Hid (L (x, y, z) = false → ∀ (j : Nat) (l : LinkD), j < k + 1 → ls[j]? = some l → L l = false) := Lib.hid fun h j l hj hl => by
          rcases Nat.lt_or_ge j k with h1 | h1
          · exact HI.out j l h1 hl
          · obtain rfl : j = k := by omega
            rw [HXX.out] at hl
            injection hl with hl
            subst hl
            exact h
        rcases Bool.eq_false_or_eq_true (x == c1) with q1 | q1
        · rcases Bool.eq_false_or_eq_true (y == c2) with q2 | q2
          · rw [q1, q2] at HLX
            go_wp2_with fail
            go_ret
            exact ⟨ret_int (HAT.out k _ HXX.out HLX.out HI.out).symm, HW.out⟩
          · rw [q1, q2] at HLX
            go_wp2_with fail
            go_roundw
            case rel => exact ⟨k + 1, by omega, by go_num, Lib.hid (key.out HLX.out), HW.out, HGG.out⟩
            case measure => simp [intOf]; omega
        · rw [q1] at HLX
          go_wp2_with fail
          go_roundw
          case rel => exact ⟨k + 1, by omega, by go_num, Lib.hid (key.out HLX.out), HW.out, HGG.out⟩
          case measure => simp [intOf]; omega
      · go_wp2_with fail
        go_ret
        exact ⟨ret_int (HNO.out fun j l hl => HI.out j l (by have := (List.getElem?_eq_some_iff.1 hl).1; have := HM.out; omega) hl).symm, HB⟩
end Go.Proofs.Ytnnkdoomjkccgaa
