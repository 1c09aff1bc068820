/- Marks read back: heldEndS, heldLsaS. -/
import Derived.Test.YtnnkdoomjkccgaaMarkL
namespace Go.Proofs.Ytnnkdoomjkccgaa
set_option linter.unusedSimpArgs false
set_option linter.unusedVariables false
open Go.RowKit

theorem heldEndS_any (n : Nat) (v : Value) (k : Int) (w : World) (h : PairsAt w v (markE k n)) (hk : 0 ≤ k) (hk1 : k + 2 * n ≤ 1000000000000) : Calls Try.prog 65 #[v, .int .i64 k] w fun e w' => e = .returned (.int .i64 (k + 2 * n)) ∧ w = w' := by
  obtain ⟨a, cap, b, off, rfl, hcap, hmax, ha, hc⟩ := h
  unfold maxLen at hmax
  rw [markE_len] at hcap ha ⊢
  have HC := Lib.hid hc; clear hc
  have HA := Lib.hid ha; clear ha
  go_enter Try.func65, Try.ntmps65
  go_wp2_with fail
  go_loop [1, 5] (fun c i => ∃ j : Nat, j ≤ n ∧ i = .int .i64 j ∧ c = .int .i64 (k + 2 * j)) (fun _ i => n - (intOf i).toNat)
  case atStart => exact ⟨0, Nat.zero_le _, rfl, by simp⟩
  case round =>
    obtain ⟨j, hj, rfl, rfl⟩ := hrel
    by_cases hjn : j < n
    · have ha := HA.out (by omega)
      subst ha
      obtain ⟨c0, c1⟩ := HC.out j _ _ (markE_at hjn)
      have hjI : (j : Int) < (n : Int) := by omega
      have hne : (k + 2 * (j:Int) != k + 2 * (j:Int)) = false := by simp
      have hne2 : (k + 2 * (j:Int) + 1 != k + 2 * (j:Int) + 1) = false := by simp
      go_wp2_with fail
      go_round
      case rel =>
        refine ⟨j + 1, by omega, by go_num, ?_⟩
        first | rfl | (congr 1; push_cast; omega) | go_num
      case measure => simp [intOf]; omega
    · obtain rfl : j = n := by omega
      go_wp2_with fail
      go_ret
      exact ⟨rfl, rfl⟩
theorem markL_at : ∀ {db : List LsaD} {k : Int} {i : Nat} {d : LsaD}, db[i]? = some d → (markL k db)[i]? = some (endK k (db.take i), endK k (db.take i) + 1, markE (endK k (db.take i) + 2) d.2.2.length)
  | [], _, _, _, h => by simp at h
  | e :: db, k, 0, d, h => by simp at h; subst h; rfl
  | e :: db, k, i + 1, d, h => by
    have := markL_at (db := db) (k := k + 2 + 2 * e.2.2.length) (i := i) (d := d) (by simpa using h)
    simpa [markL, endK] using this
end Go.Proofs.Ytnnkdoomjkccgaa
