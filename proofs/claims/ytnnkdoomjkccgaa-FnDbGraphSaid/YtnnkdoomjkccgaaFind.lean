/- l11Find: the first announcement of an origin. -/
import Derived.Test.YtnnkdoomjkccgaaBase
import Derived.Test.YtnnkdoomjkccgaaPureDb
import Derived.Test.YtnnkdoomjkccgaaOwn2
namespace Go.Proofs.Ytnnkdoomjkccgaa
set_option linter.unusedSimpArgs false
set_option linter.unusedVariables false
open Go.RowKit

def findR (db : List LsaD) (o : Int) : LsaD × Bool := match findD db o with | some d => (d, true) | none => ((0, 0, []), false)
theorem findR_yes {db : List LsaD} {o : Int} {d : LsaD} (h : findD db o = some d) : findR db o = (d, true) := by simp [findR, h]
theorem findR_no {db : List LsaD} {o : Int} (h : findD db o = none) : findR db o = ((0, 0, []), false) := by simp [findR, h]
theorem pairsAt_nil (w : World) : PairsAt w (.slice none 0 0) [] := ⟨none, 0, 0, 0, rfl, Nat.le_refl _, by unfold maxLen; omega, fun h => by simp at h, fun k x y h => by simp at h⟩
def FindPost (w : World) (r : LsaD × Bool) (e : Ending) (w' : World) : Prop := ∃ u, e = .returned (.tuple #[.agg #[.int .i64 r.1.1, .int .i64 r.1.2.1, u], .bool r.2]) ∧ PairsAt w' u r.1.2.2 ∧ Below w.heap.size w w'
set_option maxHeartbeats 400000 in
theorem l11Find_any (db : List LsaD) (o : Int) (v : Value) (w : World) (hv : LsasAt w v db) : Calls Try.prog 85 #[v, .int .i64 o] w (FindPost w (findR db o)) := by
  obtain ⟨a, cap, b, off, rfl, hcap, hmax, ha, hc⟩ := hv
  unfold maxLen at hmax
  obtain ⟨n, hn⟩ : ∃ n, n = db.length := ⟨_, rfl⟩
  rw [← hn] at hcap ha ⊢
  have HN := Lib.hid hn; clear hn
  have HC := Lib.hid hc; clear hc
  have HA := Lib.hid ha; clear ha
  go_enter Try.func85, Try.ntmps85
  go_wp2
  go_loop [6] (fun i => ∃ k : Nat, k ≤ n ∧ i = .int .i64 k ∧ Hid (∀ (j : Nat) (d : LsaD), j < k → db[j]? = some d → d.1 ≠ o)) (fun i => n - (intOf i).toNat)
  case atStart => exact ⟨0, Nat.zero_le _, rfl, Lib.hid (fun j d hj => by omega)⟩
  case round =>
    obtain ⟨k, hk, rfl, HI⟩ := hrel
    by_cases hkn : k < n
    · obtain ⟨⟨x, s, es⟩, hx⟩ := at_lt HN.out hkn
      have ha := HA.out (by omega)
      subst ha
      obtain ⟨u, d0, d1, d2, hu⟩ := HC.out k x s es hx
      obtain ⟨ua, un, uc, rfl⟩ := hu.form
      have hb := cell_lt d0
      have HX := Lib.hid hx
      have HU := Lib.hid hu
      clear hx hu
      rcases Bool.eq_false_or_eq_true (x == o) with hxo | hxo
      · go_wp2
        apply bodyPost_ret
        · simp [results, Try.results85, go_sem]
          rfl
        · rfl
        · have hr := findR_yes (find_at HX.out (by simpa using hxo) fun j d hj hd => HI.out j d hj hd)
          rw [hr]
          have hB : Below w.heap.size w (w.alloc (.cells #[.int .i64 x, .int .i64 s, .slice ua un uc] 41)) := (by with_reducible (repeat (first | (refine below_drewN ?_ _) | (refine Below.drew ?_) | (refine below_alloc ?_ (by first | omega | (simp; done) | (simp; omega)) _) | (refine Below.setCell ?_ (by first | omega | (simp; done) | (simp; omega)) _) | exact Below.refl _ _ | assumption | (refine below_call ?_ (by first | omega | (simp; done) | (simp; omega)) (by assumption)))))
          exact ⟨_, rfl, HU.out.below hB (Nat.le_refl _), hB⟩
      · go_wp2
        go_round
        case rel =>
          refine ⟨k + 1, by omega, by go_num, Lib.hid fun j d hj hd => ?_⟩
          rcases Nat.lt_or_ge j k with h1 | h1
          · exact HI.out j d h1 hd
          · obtain rfl : j = k := by omega
            rw [HX.out] at hd
            injection hd with hd
            subst hd
            simpa using hxo
        case measure => simp [intOf]; omega
    · go_wp2
      apply bodyPost_ret
      · simp [results, Try.results85, go_sem]
        rfl
      · rfl
      · have hr := findR_no (find_none (db := db) (o := o) fun j d hd => HI.out j d (by have := (List.getElem?_eq_some_iff.1 hd).1; have := HN.out; omega) hd)
        rw [hr]
        exact ⟨_, rfl, pairsAt_nil _, (by with_reducible (repeat (first | (refine below_drewN ?_ _) | (refine Below.drew ?_) | (refine below_alloc ?_ (by first | omega | (simp; done) | (simp; omega)) _) | (refine Below.setCell ?_ (by first | omega | (simp; done) | (simp; omega)) _) | exact Below.refl _ _ | assumption | (refine below_call ?_ (by first | omega | (simp; done) | (simp; omega)) (by assumption)))))⟩
end Go.Proofs.Ytnnkdoomjkccgaa
