/- Marks read back: heldEndS, heldLsaS. -/
import Derived.Test.YtidcpdolcbbnjaaMarkL
namespace Go.Proofs.Ytidcpdolcbbnjaa
open Go.RowKit

theorem heldEndS_any (n : Nat) (v : Value) (k : Int) (w : World) (h : PairsAt w v (markE k n)) (hk : 0 ≤ k) (hk1 : k + 2 * n ≤ 1000000000000) : Calls Try.prog 62 #[v, .int .i64 k] w fun e w' => e = .returned (.int .i64 (k + 2 * n)) ∧ w = w' := by
  obtain ⟨a, cap, b, off, rfl, hcap, hmax, ha, hc⟩ := h
  unfold maxLen at hmax
  rw [markE_len] at hcap ha ⊢
  have HC := Lib.hid hc; clear hc
  have HA := Lib.hid ha; clear ha
  go_enter Try.func62, Try.ntmps62
  go_wp2_with fail
  go_loop [1, 5] (fun c i => ∃ j : Nat, j ≤ n ∧ i = .int .i64 j ∧ c = .int .i64 (k + 2 * j)) (fun _ i => n - (intOf i).toNat)
  case atStart => exact ⟨0, Nat.zero_le _, rfl, by simp⟩
  case round =>
    obtain ⟨j, hj, rfl, rfl⟩ := hrel
    by_cases hjn : j < n
    · have ha := HA.out (by omega)
      subst ha
      obtain ⟨c0, c1⟩ := HC.out j _ _ (markE_at hjn)
      have hjI : (j : Int) < (n : Int) := by omega
      have hne : (k + 2 * (j:Int) != k + 2 * (j:Int)) = false := by simp
      have hne2 : (k + 2 * (j:Int) + 1 != k + 2 * (j:Int) + 1) = false := by simp
      go_wp2_with fail
      go_round
      case rel =>
        refine ⟨j + 1, by omega, by go_num, ?_⟩
        first | rfl | (congr 1; push_cast; omega) | go_num
      case measure => simp [intOf]; omega
    · obtain rfl : j = n := by omega
      go_wp2_with fail
      go_ret
      exact ⟨rfl, rfl⟩
theorem markL_at : ∀ {db : List LsaD} {k : Int} {i : Nat} {d : LsaD}, db[i]? = some d → (markL k db)[i]? = some (endK k (db.take i), endK k (db.take i) + 1, markE (endK k (db.take i) + 2) d.2.2.length)
  | [], _, _, _, h => by simp at h
  | e :: db, k, 0, d, h => by simp at h; subst h; rfl
  | e :: db, k, i + 1, d, h => by
    have := markL_at (db := db) (k := k + 2 + 2 * e.2.2.length) (i := i) (d := d) (by simpa using h)
    simpa [markL, endK] using this
set_option maxHeartbeats 1000000 in
theorem heldLsaS_any (db : List LsaD) (v : Value) (k : Int) (w : World) (h : LsasAt w v (markL k db)) (hk : 0 ≤ k) (hk1 : endK k db ≤ 1000000000000) : Calls Try.prog 39 #[v, .int .i64 k] w fun e w' => e = .returned (.int .i64 (endK k db)) ∧ w = w' := by
  obtain ⟨a, cap, b, off, rfl, hcap, hmax, ha, hc⟩ := h
  unfold maxLen at hmax
  rw [markL_len] at hcap ha ⊢
  obtain ⟨n, hn⟩ : ∃ n, n = db.length := ⟨_, rfl⟩
  rw [← hn] at hcap ha ⊢
  have HN := Lib.hid hn; clear hn
  have HC := Lib.hid hc; clear hc
  have HA := Lib.hid ha; clear ha
  have HK := Lib.hid hk1; clear hk1
  go_enter Try.func39, Try.ntmps39
  go_wp2_with fail
  go_loop [1, 5] (fun c i => ∃ (j : Nat) (x : Int), j ≤ n ∧ i = .int .i64 j ∧ c = .int .i64 x ∧ 0 ≤ x ∧ x ≤ 1000000000000 ∧ Hid (x = endK k (db.take j))) (fun _ i => n - (intOf i).toNat)
  case atStart => exact ⟨0, k, Nat.zero_le _, rfl, rfl, hk, by have := HK.out; have := endK_le db k; omega, Lib.hid (by simp [endK])⟩
  case round =>
    obtain ⟨j, x, hj, rfl, rfl, hx0, hx1, HX⟩ := hrel
    by_cases hjn : j < n
    · obtain ⟨⟨o, s, es⟩, hd⟩ := at_lt HN.out hjn
      have ha := HA.out (by omega)
      subst ha
      have hm := markL_at (k := k) hd
      rw [← HX.out] at hm
      obtain ⟨u, c0, c1, c2, hu⟩ := HC.out j _ _ _ hm
      obtain ⟨ua, un, uc, rfl⟩ := hu.form
      have hnx : x + 2 + 2 * es.length ≤ 1000000000000 := by
        have h1 := endK_take db k (j + 1)
        rw [take_snoc_of hd, endK_snoc] at h1
        have h2 := HX.out
        have h3 := HK.out
        simp only at h1
        omega
      have hjI : (j : Int) < (n : Int) := by omega
      have hne : (x != x) = false := by simp
      have hne2 : (x + 1 != x + 1) = false := by simp
      have hge : 0 ≤ x + 2 + 2 * (es.length : Int) := by omega
      have HX2 : Hid (x + 2 + 2 * es.length = endK k (db.take (j + 1))) := by show _ = _; rw [take_snoc_of hd, endK_snoc, ← HX.out]
      have HU := Lib.hid hu
      obtain ⟨en, hen⟩ : ∃ m, es.length = m := ⟨_, rfl⟩
      have HEN := Lib.hid hen
      clear hm hu hd hen
      go_wp2_with fail
      rw [show x + 1 + 1 = x + 2 by omega]
      refine (heldEndS_any es.length _ (x + 2) _ HU.out (by omega) (by omega)).mono ?_
      rintro e w' ⟨rfl, rfl⟩
      go_wp2_with fail
      go_round
      case rel => exact ⟨j + 1, x + 2 + 2 * es.length, by omega, by go_num, rfl, by omega, hnx, HX2⟩
      case measure => simp [intOf]; omega
    · obtain rfl : j = n := by omega
      have hx := HX.out
      rw [List.take_of_length_le (by have := HN.out; omega)] at hx
      have HXX := Lib.hid hx
      clear hx
      go_wp2_with fail
      go_ret
      exact ⟨ret_int HXX.out, rfl⟩
end Go.Proofs.Ytidcpdolcbbnjaa
