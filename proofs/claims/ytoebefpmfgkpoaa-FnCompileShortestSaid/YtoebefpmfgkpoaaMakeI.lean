/- What a call that makes a list of integers leaves behind. · Copies of lists of integers in new memory: toIntS. · Marks: every element of a result is written over, and read back: lists of integers. -/
import Derived.Test.YtoebefpmfgkpoaaBase
import Derived.Test.YtoebefpmfgkpoaaApp
import Derived.Test.YtoebefpmfgkpoaaOwn2
import Derived.Laws.MakeOwn
namespace Go.Proofs.Ytoebefpmfgkpoaa
set_option linter.unusedSimpArgs false
set_option linter.unusedVariables false
open Go.RowKit
theorem infoI : (Try.prog.info? 3).map (fun i => (i.zero, i.size, i.bytes)) = some (some (.int .i64 0), 1, 8) := by kernel_rfl
def MadeInts (w : World) (xs : List Int) (e : Ending) (w' : World) : Prop := ∃ v, e = .returned v ∧ OwnR w' w.heap.size w'.heap.size 3 1 v xs.length (xs.map (Value.int .i64)) ∧ Below w.heap.size w w'
def MadePairs (w : World) (t : TypeId) (es : List (Int × Int)) (e : Ending) (w' : World) : Prop := ∃ v, e = .returned v ∧ OwnR w' w.heap.size w'.heap.size t 2 v es.length (cells2 es) ∧ Below w.heap.size w w'
/-- What is left of a budget. -/
def leftOf (n left : Int) : Int := if n ≤ left then left - n else -1
end Go.Proofs.Ytoebefpmfgkpoaa
namespace Go.Proofs.Ytoebefpmfgkpoaa
set_option linter.unusedSimpArgs false
set_option linter.unusedVariables false
open Go.RowKit
theorem filled_made {w : World} {base g n size : Nat} {t : TypeId} {xs : List Value} (h : w.ownsRow base t size (.slice (some ⟨g, 0, none⟩) n n) n xs) : Filled w g t (n * size) [] := by
  rcases h.2 with ⟨h0, _⟩ | ⟨g', cap, cur, h0, _, h2, _, _, h5, _⟩
  · simp at h0
  · simp only [Value.slice.injEq, Option.some.injEq, Addr.mk.injEq] at h0
    obtain ⟨⟨rfl, _⟩, _, rfl⟩ := h0
    exact ⟨cur, h2, h5, by simp, by simp⟩
theorem below_none {w w' : World} (h : w.grownBy w' none) : Below w.heap.size w w' := ⟨h.os, h.tape, h.output, h.size, fun i hi => h.block i hi (by simp)⟩
theorem toIntS (xs : List Int) (v : Value) (w : World) (hv : IntsAt w v xs) (hl : xs.length ≤ 1048576) : Calls Try.prog 26 #[v] w (MadeInts w xs) := by
  obtain ⟨a, cap, b, off, rfl, hcap, hmax, ha, hc⟩ := hv
  unfold maxLen at hmax
  obtain ⟨i0, hi, hz0, hz1, hz2⟩ := info_parts infoI
  obtain ⟨n, hn⟩ : ∃ n, n = xs.length := ⟨_, rfl⟩
  obtain ⟨B, hB⟩ : ∃ B, w.heap.size = B := ⟨_, rfl⟩
  rw [← hn] at hcap ha hl ⊢
  have hby : i0.bytes * n ≤ 281474976710656 := by rw [hz2]; omega
  have HN := Lib.hid hn; clear hn
  have HB := Lib.hid hB; clear hB
  have HC := Lib.hid hc; clear hc
  have HA := Lib.hid ha; clear ha
  have HL := Lib.hid hl
  clear hl
  have HI := Lib.hid hi; have HZ0 := Lib.hid hz0; have HZ1 := Lib.hid hz1; have HY := Lib.hid hby
  clear hi hz0 hz1 hz2 hby
  go_enter Try.func26, Try.ntmps26
  go_wp2_with (at_make; refine wpList_make_full _ rfl _ _ 26 rfl w.heap.size 3 i0 (.int .i64 0) 1 Try.underlying26 HI.out HZ0.out HZ1.out _ _ _ _ n rfl rfl rfl rfl HY.out (by unfold maxLen; have := HL.out; omega) (Nat.le_refl _) ?_; intro w1 hown hgr)
  rw [HB.out]
  have HF := Lib.hid (filled_made hown); have HBl := Lib.hid (below_none hgr)
  rw [HB.out] at HF HBl
  clear hown hgr
  go_loopw [4] (fun i wr => ∃ k : Nat, k ≤ n ∧ i = .int .i64 k ∧ Filled wr B 3 (n * 1) ((xs.take k).map (Value.int .i64)) ∧ Below B w wr)
    (fun i _ => n - (intOf i).toNat)
  case atStart => exact ⟨0, Nat.zero_le _, rfl, HF.out, HBl.out⟩
  case round =>
    obtain ⟨k, hk, rfl, hf, hb⟩ := hrel
    clear HF HBl
    have hl := HL.out
    by_cases hkn : k < n
    · obtain ⟨x, hx⟩ := at_lt HN.out hkn
      have ha := HA.out (by omega)
      subst ha
      have d0 := HC.out k x hx
      have e0 := cell_below hb d0 (by rw [← HB.out]; exact cell_lt d0)
      have hbB : b < B := by rw [← HB.out]; exact cell_lt d0
      obtain ⟨u0, g0⟩ := hf.cell k (by omega)
      have f0 := hf.frozen k
      have hne : b ≠ B := by omega
      have HX := Lib.hid hx; clear hx d0
      have HF := Lib.hid hf; clear hf
      go_wp2
      go_roundw
      case rel =>
        refine ⟨k + 1, by omega, by go_num, ?_, hb.setCell (by simp) _⟩
        rw [take_snoc_of HX.out, List.map_append]
        exact HF.out.set (by simp; have := HN.out; omega) (by omega) _
      case measure => simp [intOf]; omega
    · obtain rfl : k = n := by omega
      go_wp2
      go_ret
      refine ⟨_, rfl, ?_, by rw [HB.out]; exact hb⟩
      rw [List.take_of_length_le (by have := HN.out; omega)] at hf
      have hlt := hf.lt
      rw [← HN.out, HB.out]
      exact hf.shut (by simp; exact HN.out.symm) (Nat.le_refl _) hlt (Nat.le_refl _) (by unfold maxLen; omega)
end Go.Proofs.Ytoebefpmfgkpoaa
namespace Go.Proofs.Ytoebefpmfgkpoaa
set_option linter.unusedSimpArgs false
set_option linter.unusedVariables false
open Go.RowKit
def markI (k : Int) (n : Nat) : List Int := (List.range n).map fun (i : Nat) => k + (i : Int)
theorem markI_len (k : Int) (n : Nat) : (markI k n).length = n := by simp [markI]
theorem markI_snoc (k : Int) (n : Nat) : markI k (n + 1) = markI k n ++ [k + (n : Int)] := by simp [markI, List.range_succ]
theorem markI_at {k : Int} {n i : Nat} (h : i < n) : (markI k n)[i]? = some (k + (i : Int)) := by simp [markI, h]
def markE (k : Int) (n : Nat) : List (Int × Int) := (List.range n).map fun (i : Nat) => (k + 2 * (i : Int), k + 2 * (i : Int) + 1)
theorem markE_len (k : Int) (n : Nat) : (markE k n).length = n := by simp [markE]
theorem markE_snoc (k : Int) (n : Nat) : markE k (n + 1) = markE k n ++ [(k + 2 * (n : Int), k + 2 * (n : Int) + 1)] := by simp [markE, List.range_succ]
theorem markE_at {k : Int} {n i : Nat} (h : i < n) : (markE k n)[i]? = some (k + 2 * (i : Int), k + 2 * (i : Int) + 1) := by simp [markE, h]
def MarkIntsPost (w : World) (lo hi : Nat) (v : Value) (n : Nat) (k : Int) (e : Ending) (w' : World) : Prop :=
  e = .returned (.int .i64 (k + n)) ∧ OwnR w' lo hi 3 1 v n ((markI k n).map (Value.int .i64)) ∧ w.grownBy w' v.ownBlock
theorem markIntS_any (lo hi : Nat) (v : Value) (n : Nat) (xs : List Value) (k : Int) (w : World) (h : OwnR w lo hi 3 1 v n xs) (hk : 0 ≤ k) (hk1 : k + n ≤ 1000000000000) : Calls Try.prog 31 #[v, .int .i64 k] w (MarkIntsPost w lo hi v n k) := by
  rcases h.open_ with ⟨rfl, rfl⟩ | ⟨g, cap, rfl, hlo, hhi, hnc, hcm, hF⟩
  · have hx : xs = [] := List.eq_nil_of_length_eq_zero (by have := h.1.1; simpa using this)
    subst hx
    have H := Lib.hid h
    have hd : decide (((0:Nat):Int) < ((0:Nat):Int)) = false := by simp
    clear h
    go_enter Try.func31, Try.ntmps31
    go_wp2_with fail
    refine wp_loop_rounds 1 ?_
    rw [rounds_succ]
    go_wp2_with fail
    go_ret
    exact ⟨ret_int (by simp), H.out, only_refl _ _⟩
  · have hcm2 : cap ≤ 9223372036854775807 := by unfold maxLen at hcm; omega
    have HF := Lib.hid hF
    clear h hF
    go_enter Try.func31, Try.ntmps31
    go_wp2_with fail
    go_loopw [1, 5] (fun c i wr => ∃ j : Nat, j ≤ n ∧ i = .int .i64 j ∧ c = .int .i64 (k + j) ∧ Filled wr g 3 (cap * 1) ((markI k j).map (Value.int .i64)) ∧ w.grownBy wr (some g)) (fun _ i _ => n - (intOf i).toNat)
    case atStart => exact ⟨0, Nat.zero_le _, rfl, by simp, HF.out, only_refl _ _⟩
    case round =>
      obtain ⟨j, hj, rfl, rfl, hf, hg⟩ := hrel
      clear HF
      by_cases hjn : j < n
      · obtain ⟨u0, c0⟩ := hf.cell j (by omega)
        have f0 := hf.frozen j
        have hjI : (j : Int) < (n : Int) := by omega
        have HF := Lib.hid hf; have HG := Lib.hid hg
        clear hf hg
        go_wp2_with fail
        go_roundw
        case rel =>
          refine ⟨j + 1, by omega, by go_num, ?_, ?_, only_setCell HG.out (.inl rfl) _⟩
          · first | rfl | (congr 1; push_cast; omega) | go_num
          · rw [markI_snoc, List.map_append]
            exact HF.out.set (by simp [markI_len]) (by omega) _
        case measure => simp [intOf]; omega
      · obtain rfl : j = n := by omega
        go_wp2_with fail
        go_ret
        refine ⟨rfl, ?_, hg⟩
        exact hf.shut (by simp [markI_len]) hlo hhi hnc hcm
end Go.Proofs.Ytoebefpmfgkpoaa
