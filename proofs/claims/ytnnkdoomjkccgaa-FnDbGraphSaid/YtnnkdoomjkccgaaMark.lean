/- Marks: every element of a result is written over, and read back. -/
import Derived.Test.YtnnkdoomjkccgaaMd
import Derived.Test.YtnnkdoomjkccgaaMakeI
namespace Go.Proofs.Ytnnkdoomjkccgaa
set_option linter.unusedSimpArgs false
set_option linter.unusedVariables false
open Go.RowKit

def MarkEndsPost (w : World) (lo hi : Nat) (v : Value) (n : Nat) (k : Int) (e : Ending) (w' : World) : Prop :=
  e = .returned (.int .i64 (k + 2 * n)) ∧ OwnR w' lo hi 43 2 v n (cells2 (markE k n)) ∧ w.grownBy w' v.ownBlock
theorem markEndS_any (lo hi : Nat) (v : Value) (n : Nat) (xs : List Value) (k : Int) (w : World) (h : OwnR w lo hi 43 2 v n xs) (hk : 0 ≤ k) (hk1 : k + 2 * n ≤ 1000000000000) : Calls Try.prog 45 #[v, .int .i64 k] w (MarkEndsPost w lo hi v n k) := by
  rcases h.open_ with ⟨rfl, rfl⟩ | ⟨g, cap, rfl, hlo, hhi, hnc, hcm, hF⟩
  · have hx : xs = [] := List.eq_nil_of_length_eq_zero (by have := h.1.1; simpa using this)
    subst hx
    have H := Lib.hid h
    have hd : decide (((0:Nat):Int) < ((0:Nat):Int)) = false := by simp
    clear h
    go_enter Try.func45, Try.ntmps45
    go_wp2_with fail
    refine wp_loop_rounds 1 ?_
    rw [rounds_succ]
    go_wp2_with fail
    go_ret
    exact ⟨ret_int (by simp), H.out, only_refl _ _⟩
  · have hcm2 : cap ≤ 9223372036854775807 := by unfold maxLen at hcm; omega
    have HF := Lib.hid hF
    clear h hF
    go_enter Try.func45, Try.ntmps45
    go_wp2_with fail
    go_loopw [1, 5] (fun c i wr => ∃ j : Nat, j ≤ n ∧ i = .int .i64 j ∧ c = .int .i64 (k + 2 * j) ∧ Filled wr g 43 (cap * 2) (cells2 (markE k j)) ∧ w.grownBy wr (some g)) (fun _ i _ => n - (intOf i).toNat)
    case atStart => exact ⟨0, Nat.zero_le _, rfl, by simp, HF.out, only_refl _ _⟩
    case round =>
      obtain ⟨j, hj, rfl, rfl, hf, hg⟩ := hrel
      clear HF
      by_cases hjn : j < n
      · obtain ⟨u0, c0⟩ := hf.cell (j * 2) (by omega)
        obtain ⟨u1, c1⟩ := hf.cell (j * 2 + 1) (by omega)
        have f0 := hf.frozen (j * 2)
        have f1 := hf.frozen (j * 2 + 1)
        have hjI : (j : Int) < (n : Int) := by omega
        have HF := Lib.hid hf; have HG := Lib.hid hg
        clear hf hg
        go_wp2_with fail
        go_roundw
        case rel =>
          refine ⟨j + 1, by omega, by go_num, ?_, ?_, only_setCell (only_setCell HG.out (.inl rfl) _) (.inl rfl) _⟩
          · first | rfl | (congr 1; push_cast; omega) | go_num
          · rw [markE_snoc, cells2_snoc]
            exact (HF.out.set (by rw [cells2_len, markE_len]) (by omega) _).set (by rw [List.length_append, cells2_len, markE_len]; rfl) (by omega) _
        case measure => simp [intOf]; omega
      · obtain rfl : j = n := by omega
        go_wp2_with fail
        go_ret
        refine ⟨rfl, ?_, hg⟩
        exact hf.shut (by rw [cells2_len, markE_len]) hlo hhi hnc hcm
end Go.Proofs.Ytnnkdoomjkccgaa
