/- The reader of codes: the contracts of l6Open and pick. -/
import Derived.Test.YtnnkdoomjkccgaaBase
namespace Go.Proofs.Ytnnkdoomjkccgaa
set_option linter.unusedSimpArgs false
set_option linter.unusedVariables false
open Go.RowKit

set_option maxHeartbeats 1000000 in
theorem pick_any (B : Nat) (m n : Int) (w : World) (h : RdLe w B m) (hm : m < 1099511627776) : Calls Try.prog 50 #[.pointer (some ⟨B, 0, none⟩), .int .i64 n] w (PickPost w B m n) := by
  obtain ⟨p, hp0, hpm, hR⟩ := h
  obtain ⟨a, l, cap, b, off, c0, c1, f1, hl, ha, hc⟩ := hR
  have HC := Lib.hid hc; clear hc
  have HA := Lib.hid ha; clear ha
  by_cases hn : n < 1
  · go_enter Try.func50, Try.ntmps50
    go_wp2
    go_ret
    exact pick_post hp0 hpm 0 (Int.le_refl _) (.inr rfl)
  have hn1 : 1 ≤ n := by omega
  by_cases hl0 : l = 0
  · subst hl0
    have e0 : (((0:Nat):Int) == 0) = true := rfl
    go_enter Try.func50, Try.ntmps50
    go_wp2
    go_ret
    exact pick_post hp0 hpm 0 (Int.le_refl _) (.inr rfl)
  have e0 : ((l:Int) == 0) = false := by simp; omega
  obtain ⟨ha, hbB⟩ := HA.out (by omega)
  have hbB1 : b ≠ B := by omega
  subst ha
  obtain ⟨k, rfl⟩ := Int.eq_ofNat_of_zero_le hp0
  by_cases hkl : k < l
  · obtain ⟨x, hx, hx0, hx1⟩ := HC.out k hkl
    go_enter Try.func50, Try.ntmps50
    go_wp2
    go_ret
    refine pick_post hp0 hpm 0 ?_ ?_
    · exact Int.emod_nonneg _ (by omega)
    · exact .inl (Int.emod_lt_of_pos _ (by omega))
  · have hlI : (0:Int) < (l:Int) := by omega
    have m1 : k % l < l := Nat.mod_lt _ (by omega)
    have m2 : (k * 7 + 3) % l < l := Nat.mod_lt _ (by omega)
    obtain ⟨x, hx, hx0, hx1⟩ := HC.out _ m1
    obtain ⟨y, hy, hy0, hy1⟩ := HC.out _ m2
    have a1 : (0:Int) ≤ (k:Int) % (l:Int) := Int.emod_nonneg _ (by omega)
    have a2 : (k:Int) % (l:Int) < (l:Int) := Int.emod_lt_of_pos _ hlI
    have a3 : (0:Int) ≤ ((k:Int) * 7 + 3) % (l:Int) := Int.emod_nonneg _ (by omega)
    have a4 : ((k:Int) * 7 + 3) % (l:Int) < (l:Int) := Int.emod_lt_of_pos _ hlI
    have a5 : (0:Int) ≤ (k:Int) / (l:Int) := Int.ediv_nonneg (by omega) (by omega)
    have a6 : (k:Int) / (l:Int) ≤ (k:Int) := Int.ediv_le_self _ (by omega)
    clear m1 m2
    go_enter Try.func50, Try.ntmps50
    go_wp2
    refine wp_region_quiet_lit (by kernel_rfl) (by kernel_rfl) ?_
    repeat (go_big_quiet_step ((fail)))
    refine wpQuiet_nil ?_
    intro _ hw'
    obtain ⟨nq, hw''⟩ := hw'
    subst hw''
    clear hx hy a1 a2 a3 a4
    go_wp2
    go_ret
    have z0 : 0 ≤ bits .xor .i64 (x * 131 + y * 1117 + (k:Int) * 29 + (k:Int) / (l:Int) * 53) ((x * 131 + y * 1117 + (k:Int) * 29 + (k:Int) / (l:Int) * 53) / 64) :=
      xor_nonneg (by omega) (by omega) (by omega) (by omega)
    exact pick_post hp0 hpm nq (Int.tmod_nonneg _ z0) (.inl (Int.tmod_lt_of_pos _ (by omega)))

theorem pick_step {B : Nat} {m n : Int} {w : World} {R : Ending → World → Prop} (h : RdLe w B m) (hm : m < 1099511627776)
    (k : ∀ v p q, 0 ≤ v → (v < n ∨ v = 0) → 0 ≤ p → p ≤ m + 1 → R (.returned (.int .i64 v)) ((w.setCell ⟨B, 1, none⟩ (.int .i64 p)).drewN q)) : Calls Try.prog 50 #[.pointer (some ⟨B, 0, none⟩), .int .i64 n] w R :=
  (pick_any B m n w h hm).mono fun _ _ ⟨v, p, q, he, h0, h1, h2, h3, hw⟩ => he ▸ hw ▸ k v p q h0 h1 h2 h3

/-- The same, the world behind it a letter. -/
theorem pick_op {B : Nat} {m n : Int} {w : World} {R : Ending → World → Prop} (h : RdLe w B m) (hm : m < 1099511627776)
    (k : ∀ v w', 0 ≤ v → (v < n ∨ v = 0) → RdLe w' B (m + 1) → w.grownBy w' (some B) → R (.returned (.int .i64 v)) w') : Calls Try.prog 50 #[.pointer (some ⟨B, 0, none⟩), .int .i64 n] w R :=
  (pick_any B m n w h hm).mono fun _ _ ⟨v, p, q, he, h0, h1, h2, h3, hw⟩ => by
    subst he hw
    exact k v _ h0 h1 (rdLe_drewN (rdLe_set h h2 h3) q) (only_drewN (only_setCell (only_refl _ _) (.inl rfl) _) q)
theorem own_only {w w' : World} {base g : Nat} {e : TypeId} {size : Nat} {v : Value} {n : Nat} {xs : List Value} (h : w.ownsRow base e size v n xs) (hg : w.grownBy w' (some g)) (hb : g < base) : w'.ownsRow base e size v n xs :=
  h.kept hg (by
    cases hv : v.ownBlock with
    | none => exact .inl rfl
    | some k => exact .inr (fun e => by injection e with e; have := own_ge h k hv; omega))

set_option maxHeartbeats 1000000 in
theorem open_any (v : Value) (w : World) (B : Nat) (hB : w.heap.size = B) (h : CodeAt w v) : Calls Try.prog 48 #[v] w fun e w' => e = .returned (.pointer (some ⟨B, 0, none⟩)) ∧ RdLe w' B 0 ∧ Below B w w' ∧ B < w'.heap.size := by
  subst hB
  obtain ⟨a, n, cap, b, off, rfl, hl, hm, ha, hc⟩ := h
  have HC := Lib.hid hc; clear hc
  have HA := Lib.hid ha; clear ha
  unfold maxLen at hm
  by_cases hn : 2000 < n
  · have ha := HA.out (by omega)
    subst ha
    go_enter Try.func48, Try.ntmps48
    go_wp2
    go_ret
    exact ⟨rfl, rd_new (by omega) (fun _ => rfl) (fun k hk => HC.out k (by omega)), (by with_reducible (repeat (first | (refine below_drewN ?_ _) | (refine Below.drew ?_) | (refine below_alloc ?_ (by first | omega | (simp; done) | (simp; omega)) _) | (refine Below.setCell ?_ (by first | omega | (simp; done) | (simp; omega)) _) | exact Below.refl _ _ | assumption | (refine below_call ?_ (by first | omega | (simp; done) | (simp; omega)) (by assumption))))), by simp⟩
  · go_enter Try.func48, Try.ntmps48
    go_wp2
    go_ret
    exact ⟨rfl, rd_new (by omega) HA.out HC.out, (by with_reducible (repeat (first | (refine below_drewN ?_ _) | (refine Below.drew ?_) | (refine below_alloc ?_ (by first | omega | (simp; done) | (simp; omega)) _) | (refine Below.setCell ?_ (by first | omega | (simp; done) | (simp; omega)) _) | exact Below.refl _ _ | assumption | (refine below_call ?_ (by first | omega | (simp; done) | (simp; omega)) (by assumption))))), by simp⟩

end Go.Proofs.Ytnnkdoomjkccgaa
