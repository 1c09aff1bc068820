/- Marks: every element of a result is written over, and read back: lists of integers. -/
import Derived.Test.YtoebefpmfgkpoaaMdI
namespace Go.Proofs.Ytoebefpmfgkpoaa
set_option linter.unusedSimpArgs false
set_option linter.unusedVariables false
open Go.RowKit
def markI (k : Int) (n : Nat) : List Int := (List.range n).map fun (i : Nat) => k + (i : Int)
theorem markI_len (k : Int) (n : Nat) : (markI k n).length = n := by simp [markI]
theorem markI_snoc (k : Int) (n : Nat) : markI k (n + 1) = markI k n ++ [k + (n : Int)] := by simp [markI, List.range_succ]
theorem markI_at {k : Int} {n i : Nat} (h : i < n) : (markI k n)[i]? = some (k + (i : Int)) := by simp [markI, h]
def markE (k : Int) (n : Nat) : List (Int × Int) := (List.range n).map fun (i : Nat) => (k + 2 * (i : Int), k + 2 * (i : Int) + 1)
theorem markE_len (k : Int) (n : Nat) : (markE k n).length = n := by simp [markE]
theorem markE_snoc (k : Int) (n : Nat) : markE k (n + 1) = markE k n ++ [(k + 2 * (n : Int), k + 2 * (n : Int) + 1)] := by simp [markE, List.range_succ]
theorem markE_at {k : Int} {n i : Nat} (h : i < n) : (markE k n)[i]? = some (k + 2 * (i : Int), k + 2 * (i : Int) + 1) := by simp [markE, h]
def MarkIntsPost (w : World) (lo hi : Nat) (v : Value) (n : Nat) (k : Int) (e : Ending) (w' : World) : Prop :=
  e = .returned (.int .i64 (k + n)) ∧ OwnR w' lo hi 3 1 v n ((markI k n).map (Value.int .i64)) ∧ w.grownBy w' v.ownBlock
theorem markIntS_any (lo hi : Nat) (v : Value) (n : Nat) (xs : List Value) (k : Int) (w : World) (h : OwnR w lo hi 3 1 v n xs) (hk : 0 ≤ k) (hk1 : k + n ≤ 1000000000000) : Calls Try.prog 31 #[v, .int .i64 k] w (MarkIntsPost w lo hi v n k) := by
  rcases h.open_ with ⟨rfl, rfl⟩ | ⟨g, cap, rfl, hlo, hhi, hnc, hcm, hF⟩
  · have hx : xs = [] := List.eq_nil_of_length_eq_zero (by have := h.1.1; simpa using this)
    subst hx
    have H := Lib.hid h
    have hd : decide (((0:Nat):Int) < ((0:Nat):Int)) = false := by simp
    clear h
    go_enter Try.func31, Try.ntmps31
    go_wp2_with fail
    refine wp_loop_rounds 1 ?_
    rw [rounds_succ]
    go_wp2_with fail
    go_ret
    exact ⟨ret_int (by simp), H.out, only_refl _ _⟩
  · have hcm2 : cap ≤ 9223372036854775807 := by unfold maxLen at hcm; omega
    have HF := Lib.hid hF
    clear h hF
    go_enter Try.func31, Try.ntmps31
    go_wp2_with fail
    go_loopw [1, 5] (fun c i wr => ∃ j : Nat, j ≤ n ∧ i = .int .i64 j ∧ c = .int .i64 (k + j) ∧ Filled wr g 3 (cap * 1) ((markI k j).map (Value.int .i64)) ∧ w.grownBy wr (some g)) (fun _ i _ => n - (intOf i).toNat)
    case atStart => exact ⟨0, Nat.zero_le _, rfl, by simp, HF.out, only_refl _ _⟩
    case round =>
      obtain ⟨j, hj, rfl, rfl, hf, hg⟩ := hrel
      clear HF
      by_cases hjn : j < n
      · obtain ⟨u0, c0⟩ := hf.cell j (by omega)
        have f0 := hf.frozen j
        have hjI : (j : Int) < (n : Int) := by omega
        have HF := Lib.hid hf; have HG := Lib.hid hg
        clear hf hg
        go_wp2_with fail
        go_roundw
        case rel =>
          refine ⟨j + 1, by omega, by go_num, ?_, ?_, only_setCell HG.out (.inl rfl) _⟩
          · first | rfl | (congr 1; push_cast; omega) | go_num
          · rw [markI_snoc, List.map_append]
            exact HF.out.set (by simp [markI_len]) (by omega) _
        case measure => simp [intOf]; omega
      · obtain rfl : j = n := by omega
        go_wp2_with fail
        go_ret
        refine ⟨rfl, ?_, hg⟩
        exact hf.shut (by simp [markI_len]) hlo hhi hnc hcm
end Go.Proofs.Ytoebefpmfgkpoaa
