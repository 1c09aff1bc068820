/- Copies of arguments in new memory: toIntS, toEndS, toLsa, toLsaS. -/
import Derived.Test.YtnnkdoomjkccgaaExact
import Derived.Test.YtnnkdoomjkccgaaOwn2
import Derived.Test.YtnnkdoomjkccgaaMd
import Derived.Test.YtnnkdoomjkccgaaMakeI
import Derived.Laws.MakeOwn
namespace Go.Proofs.Ytnnkdoomjkccgaa
set_option linter.unusedSimpArgs false
set_option linter.unusedVariables false
open Go.RowKit

set_option maxHeartbeats 400000 in
theorem toEndS (es : List (Int × Int)) (v : Value) (w : World) (hv : PairsAt w v es) (hl : es.length ≤ 1048576) : Calls Try.prog 70 #[v] w (MadePairs w 43 es) := by
  obtain ⟨a, cap, b, off, rfl, hcap, hmax, ha, hc⟩ := hv
  unfold maxLen at hmax
  obtain ⟨i0, hi, hz0, hz1, hz2⟩ := info_parts infoE
  obtain ⟨n, hn⟩ : ∃ n, n = es.length := ⟨_, rfl⟩
  obtain ⟨B, hB⟩ : ∃ B, w.heap.size = B := ⟨_, rfl⟩
  rw [← hn] at hcap ha hl ⊢
  have hby : i0.bytes * n ≤ 281474976710656 := by rw [hz2]; omega
  have HN := Lib.hid hn; clear hn
  have HB := Lib.hid hB; clear hB
  have HC := Lib.hid hc; clear hc
  have HA := Lib.hid ha; clear ha
  have HL := Lib.hid hl
  clear hl
  have HI := Lib.hid hi; have HZ0 := Lib.hid hz0; have HZ1 := Lib.hid hz1; have HY := Lib.hid hby
  clear hi hz0 hz1 hz2 hby
  go_enter Try.func70, Try.ntmps70
  go_wp2_with (at_make; refine wpList_make_full _ rfl _ _ 39 rfl w.heap.size 43 i0 (.agg #[.int .i64 0, .int .i64 0]) 2 Try.underlying39 HI.out HZ0.out HZ1.out _ _ _ _ n rfl rfl rfl rfl HY.out (by unfold maxLen; have := HL.out; omega) (Nat.le_refl _) ?_; intro w1 hown hgr)
  rw [HB.out]
  have HF := Lib.hid (filled_made hown); have HBl := Lib.hid (below_none hgr)
  rw [HB.out] at HF HBl
  clear hown hgr
  go_loopw [4] (fun i wr => ∃ k : Nat, k ≤ n ∧ i = .int .i64 k ∧ Filled wr B 43 (n * 2) (cells2 (es.take k)) ∧ Below B w wr)
    (fun i _ => n - (intOf i).toNat)
  case atStart => exact ⟨0, Nat.zero_le _, rfl, HF.out, HBl.out⟩
  case round =>
    obtain ⟨k, hk, rfl, hf, hb⟩ := hrel
    clear HF HBl
    have hl := HL.out
    by_cases hkn : k < n
    · obtain ⟨⟨x, y⟩, hx⟩ := at_lt HN.out hkn
      have ha := HA.out (by omega)
      subst ha
      obtain ⟨d0, d1⟩ := HC.out k x y hx
      have hbB : b < B := by rw [← HB.out]; exact cell_lt d0
      have e0 := cell_below hb d0 hbB
      have e1 := cell_below hb d1 hbB
      obtain ⟨u0, g0⟩ := hf.cell (k * 2) (by omega)
      obtain ⟨u1, g1⟩ := hf.cell (k * 2 + 1) (by omega)
      have f0 := hf.frozen (k * 2)
      have f1 := hf.frozen (k * 2 + 1)
      have hne : b ≠ B := by omega
      have hlt := hf.lt
      have HX := Lib.hid hx; clear hx d0 d1
      have HF := Lib.hid hf; clear hf
      have hlt1 : B < wr.heap.size + 1 := by omega
      have hlt2 : B < wr.heap.size + 1 + 1 := by omega
      go_wp2_with (go_at_call 86; refine (toEnd _ _ _).mono ?_; rintro e w' ⟨rfl, rfl⟩)
      go_roundw
      case rel =>
        have hBw : B ≤ w.heap.size := by rw [HB.out]; exact Nat.le_refl _
        refine ⟨k + 1, by omega, by go_num, ?_, (by with_reducible (repeat (first | (refine below_drewN ?_ _) | (refine Below.drew ?_) | (refine below_alloc ?_ (by first | omega | (simp; done) | (simp; omega)) _) | (refine Below.setCell ?_ (by first | omega | (simp; done) | (simp; omega)) _) | exact Below.refl _ _ | assumption | (refine below_call ?_ (by first | omega | (simp; done) | (simp; omega)) (by assumption)))))⟩
        rw [take_succ2 HX.out]
        have hlen : (cells2 (es.take k)).length = k * 2 := by rw [cells2_len, List.length_take]; have := HN.out; omega
        exact ((((HF.out.set hlen.symm (by omega) _).set (by simp [hlen]) (by omega) _).alloc _).alloc _).alloc _
      case measure => simp [intOf]; omega
    · obtain rfl : k = n := by omega
      go_wp2
      go_ret
      refine ⟨_, rfl, ?_, by rw [HB.out]; exact hb⟩
      rw [List.take_of_length_le (by have := HN.out; omega)] at hf
      have hlt := hf.lt
      rw [← HN.out, HB.out]
      exact hf.shut (by rw [cells2_len]; rw [HN.out]) (Nat.le_refl _) hlt (Nat.le_refl _) (by unfold maxLen; omega)
end Go.Proofs.Ytnnkdoomjkccgaa
