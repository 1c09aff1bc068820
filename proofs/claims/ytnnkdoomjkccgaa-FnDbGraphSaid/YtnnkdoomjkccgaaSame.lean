/- sameEnds, sameLsa, sameDb: equality. -/
import Derived.Test.YtnnkdoomjkccgaaBase
import Derived.Test.YtnnkdoomjkccgaaOwn2
namespace Go.Proofs.Ytnnkdoomjkccgaa
set_option linter.unusedSimpArgs false
set_option linter.unusedVariables false
open Go.RowKit

theorem neqEnd (W : World) (s a s' a' : Int) : (binOp .neq 43 (.agg #[.int .i64 s, .int .i64 a]) (.agg #[.int .i64 s', .int .i64 a'])).run Try.prog W = .ok (.bool (!(s == s' && a == a'))) W := by
  have u3 := Try.underlying3
  have a3 := Try.isAgg3
  have z3 := Try.sizeOf3
  have hS : Try.prog.underlying 43 = some (.struct (Try.prog.fieldsOf 43)) := by kernel_rfl
  have hp : Try.prog.stoodInHeld 43 = false := by kernel_rfl
  rw [run_neq_struct, show (10000 : Nat) = 9999 + 1 from rfl, run_equalIn_agg W 9999 43 _ _ hS hp]
  simp only [Program.fieldsOf, Try.underlying43]
  go_simp
  by_cases h1 : s = s' <;> by_cases h2 : a = a' <;> simp [h1, h2]
set_option maxHeartbeats 1000000 in
theorem sameEnds_any (xs ys : List (Int × Int)) (v u : Value) (w : World) (hv : PairsAt w v xs) (hu : PairsAt w u ys) :
    Calls Try.prog 60 #[v, u] w fun e w' => e = .returned (.bool (eqB xs ys)) ∧ Below w.heap.size w w' := by
  obtain ⟨a, cap, b, off, rfl, hcap, hmax, ha, hc⟩ := hv
  obtain ⟨a2, cap2, b2, off2, rfl, hcap2, hmax2, ha2, hc2⟩ := hu
  unfold maxLen at hmax hmax2
  obtain ⟨n, hn⟩ : ∃ n, n = xs.length := ⟨_, rfl⟩
  obtain ⟨n2, hn2⟩ : ∃ n2, n2 = ys.length := ⟨_, rfl⟩
  rw [← hn] at hcap ha ⊢
  rw [← hn2] at hcap2 ha2 ⊢
  have HN := Lib.hid hn; clear hn
  have HC := Lib.hid hc; clear hc
  have HA := Lib.hid ha; clear ha
  have HN2 := Lib.hid hn2; clear hn2
  have HC2 := Lib.hid hc2; clear hc2
  have HA2 := Lib.hid ha2; clear ha2
  by_cases hl : n = n2
  rotate_left
  · have hlb : ((n:Int) != (n2:Int)) = true := by simp; omega
    have hlb2 : ((n:Int) == (n2:Int)) = false := by simp; omega
    have HL := Lib.hid hl; clear hl
    go_enter Try.func60, Try.ntmps60
    go_wp2
    go_ret
    exact ⟨ret_bool (by have h1 := HN.out; have h2 := HN2.out; have : xs ≠ ys := fun e => HL.out (by rw [h1, h2, e]); simp [eqB, this]), (by with_reducible (repeat (first | (refine below_drewN ?_ _) | (refine Below.drew ?_) | (refine below_alloc ?_ (by first | omega | (simp; done) | (simp; omega)) _) | (refine Below.setCell ?_ (by first | omega | (simp; done) | (simp; omega)) _) | exact Below.refl _ _ | assumption | (refine below_call ?_ (by first | omega | (simp; done) | (simp; omega)) (by assumption)))))⟩
  subst hl
  have hlb : ((n:Int) != (n:Int)) = false := by simp
  have hlb2 : ((n:Int) == (n:Int)) = true := by simp
  go_enter Try.func60, Try.ntmps60
  go_wp2
  go_loopw [5] (fun i wr => ∃ k : Nat, k ≤ n ∧ i = .int .i64 k ∧ Hid (∀ j, j < k → xs[j]? = ys[j]?) ∧ Below w.heap.size w wr)
    (fun i _ => n - (intOf i).toNat)
  case atStart => exact ⟨0, Nat.zero_le _, rfl, Lib.hid (fun j hj => by omega), Below.refl _ _⟩
  case round =>
    obtain ⟨k, hk, rfl, HI, HB⟩ := hrel
    by_cases hkn : k < n
    · obtain ⟨⟨x, y⟩, hxy⟩ := at_lt HN.out hkn
      obtain ⟨⟨x2, y2⟩, hxy2⟩ := at_lt HN2.out hkn
      have ha := HA.out (by omega)
      have ha2 := HA2.out (by omega)
      subst ha ha2
      obtain ⟨d0, d1⟩ := HC.out k x y hxy
      obtain ⟨d2, d3⟩ := HC2.out k x2 y2 hxy2
      have e0 := cell_below HB d0 (cell_lt d0)
      have e1 := cell_below HB d1 (cell_lt d0)
      have e2 := cell_below HB d2 (cell_lt d2)
      have e3 := cell_below HB d3 (cell_lt d2)
      have HX := Lib.hid hxy
      have HX2 := Lib.hid hxy2
      have hkI : (k:Int) < (n:Int) := by omega
      clear hxy hxy2 d0 d1 d2 d3
      have hne := fun W => neqEnd W x y x2 y2
      rcases Bool.eq_false_or_eq_true (x == x2 && y == y2) with hq | hq
      all_goals
        rw [hq] at hne
        have HQ := Lib.hid hq
        go_wp2_with fail
        go_quiet (fail)
        go_wp2_with fail
      · go_roundw
        case rel =>
          refine ⟨k + 1, by omega, by go_num, Lib.hid (fun j hj => ?_), below_drewN HB _⟩
          rcases Nat.lt_or_ge j k with h1 | h1
          · exact HI.out j h1
          · obtain rfl : j = k := by omega
            have := HQ.out
            simp at this
            rw [HX.out, HX2.out, this.1, this.2]
        case measure => simp [intOf]; omega
      · go_ret
        refine ⟨ret_bool ?_, below_drewN HB _⟩
        have : xs ≠ ys := fun e => by
          have h1 := HX.out; have h2 := HX2.out
          rw [e] at h1
          rw [h1] at h2
          injection h2 with h2
          simp only [Prod.mk.injEq] at h2
          have := HQ.out
          rw [h2.1, h2.2] at this
          simp at this
        simp [eqB, this]
    · go_wp2
      go_ret
      refine ⟨ret_bool ?_, HB⟩
      have : xs = ys := by
        apply List.ext_getElem?
        intro j
        by_cases hj : j < n
        · exact HI.out j (by omega)
        · rw [List.getElem?_eq_none (by have := HN.out; omega), List.getElem?_eq_none (by have := HN2.out; omega)]
      simp [eqB, this]
set_option maxRecDepth 100000 in
set_option maxHeartbeats 1000000 in
theorem sameLsa_any (o s o' s' : Int) (es es' : List (Int × Int)) (u u' : Value) (w : World) (hu : PairsAt w u es) (hu' : PairsAt w u' es') :
    Calls Try.prog 25 #[.agg #[.int .i64 o, .int .i64 s, u], .agg #[.int .i64 o', .int .i64 s', u']] w fun e w' => e = .returned (.bool (eqB (o, s, es) (o', s', es'))) ∧ Below w.heap.size w w' := by
  have HU := Lib.hid hu; have HU' := Lib.hid hu'
  obtain ⟨ua, un, uc, rfl⟩ := hu.form
  obtain ⟨ua', un', uc', rfl⟩ := hu'.form
  clear hu hu'
  rcases Bool.eq_false_or_eq_true (o == o') with h1 | h1
  rotate_left
  · have HX : Hid (eqB (o, s, es) (o', s', es') = false) := by show _ = _; simp [eqB]; intro h; simp [h] at h1
    go_enter Try.func25, Try.ntmps25
    go_wp2_with fail
    go_ret
    exact ⟨ret_bool HX.out.symm, (by with_reducible (repeat (first | (refine below_drewN ?_ _) | (refine Below.drew ?_) | (refine below_alloc ?_ (by first | omega | (simp; done) | (simp; omega)) _) | (refine Below.setCell ?_ (by first | omega | (simp; done) | (simp; omega)) _) | exact Below.refl _ _ | assumption | (refine below_call ?_ (by first | omega | (simp; done) | (simp; omega)) (by assumption)))))⟩
  rcases Bool.eq_false_or_eq_true (s == s') with h2 | h2
  rotate_left
  · have HX : Hid (eqB (o, s, es) (o', s', es') = false) := by show _ = _; simp [eqB]; intro _ h; simp [h] at h2
    have HH1 := Lib.hid (show o = o' by simpa using h1)
    go_enter Try.func25, Try.ntmps25
    go_wp2_with fail
    go_ret
    exact ⟨ret_bool HX.out.symm, (by with_reducible (repeat (first | (refine below_drewN ?_ _) | (refine Below.drew ?_) | (refine below_alloc ?_ (by first | omega | (simp; done) | (simp; omega)) _) | (refine Below.setCell ?_ (by first | omega | (simp; done) | (simp; omega)) _) | exact Below.refl _ _ | assumption | (refine below_call ?_ (by first | omega | (simp; done) | (simp; omega)) (by assumption)))))⟩
  have HX : Hid (eqB (o, s, es) (o', s', es') = eqB es es') := by
    show _ = _
    have e1 : o = o' := by simpa using h1
    have e2 : s = s' := by simpa using h2
    subst e1 e2
    simp [eqB]
  go_enter Try.func25, Try.ntmps25
  go_wp2_with fail
  refine (sameEnds_any es es' _ _ _ (HU.out.below (by with_reducible (repeat (first | (refine below_drewN ?_ _) | (refine Below.drew ?_) | (refine below_alloc ?_ (by first | omega | (simp; done) | (simp; omega)) _) | (refine Below.setCell ?_ (by first | omega | (simp; done) | (simp; omega)) _) | exact Below.refl _ _ | assumption | (refine below_call ?_ (by first | omega | (simp; done) | (simp; omega)) (by assumption))))) (Nat.le_refl _)) (HU'.out.below (by with_reducible (repeat (first | (refine below_drewN ?_ _) | (refine Below.drew ?_) | (refine below_alloc ?_ (by first | omega | (simp; done) | (simp; omega)) _) | (refine Below.setCell ?_ (by first | omega | (simp; done) | (simp; omega)) _) | exact Below.refl _ _ | assumption | (refine below_call ?_ (by first | omega | (simp; done) | (simp; omega)) (by assumption))))) (Nat.le_refl _))).mono ?_
  rw [← HX.out]
  rintro e w1 ⟨rfl, hb⟩
  have BW := Lib.hid (below_call (B := w.heap.size) (a := w) (by with_reducible (repeat (first | (refine below_drewN ?_ _) | (refine Below.drew ?_) | (refine below_alloc ?_ (by first | omega | (simp; done) | (simp; omega)) _) | (refine Below.setCell ?_ (by first | omega | (simp; done) | (simp; omega)) _) | exact Below.refl _ _ | assumption | (refine below_call ?_ (by first | omega | (simp; done) | (simp; omega)) (by assumption))))) (Nat.le_refl _) hb)
  clear hb
  go_wp2_with fail
  go_ret
  exact ⟨rfl, BW.out⟩
end Go.Proofs.Ytnnkdoomjkccgaa
