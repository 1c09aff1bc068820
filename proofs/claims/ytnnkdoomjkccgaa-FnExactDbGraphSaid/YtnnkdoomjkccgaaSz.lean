/- Sizes of arguments: szLsa, szLsaS. -/
import Derived.Test.YtnnkdoomjkccgaaExact2
import Derived.Test.YtnnkdoomjkccgaaMakeI
namespace Go.Proofs.Ytnnkdoomjkccgaa
set_option linter.unusedSimpArgs false
set_option linter.unusedVariables false
open Go.RowKit

/-- How many elements an argument has. -/
def totalL : List LsaD → Nat
  | [] => 0
  | d :: db => d.2.2.length + totalL db
theorem totalL_at {db : List LsaD} {k : Nat} {d : LsaD} (h : db[k]? = some d) : totalL (db.take (k + 1)) = totalL (db.take k) + d.2.2.length := by
  induction db generalizing k with
  | nil => simp at h
  | cons e db ih =>
    cases k with
    | zero => simp at h; subst h; simp [totalL]
    | succ k => have := ih (by simpa using h); simp [totalL]; omega
theorem totalL_le (db : List LsaD) (k : Nat) : totalL (db.take k) ≤ totalL db := by
  induction db generalizing k with
  | nil => simp
  | cons e db ih =>
    cases k with
    | zero => simp [totalL]
    | succ k => have := ih k; simp [totalL]; omega
theorem len_le_total {db : List LsaD} {k : Nat} {d : LsaD} (h : db[k]? = some d) : d.2.2.length ≤ totalL db := by
  have := totalL_at h
  have := totalL_le db (k + 1)
  omega

theorem szLsa (o s : Int) (es : List (Int × Int)) (v : Value) (left : Int) (w : World) (hv : PairsAt w v es) (h0 : 0 ≤ left) (h1 : left ≤ 1048576) :
    Calls Try.prog 36 #[.agg #[.int .i64 o, .int .i64 s, v], .int .i64 left] w fun e w' => e = .returned (.int .i64 (leftOf es.length left)) ∧ Below w.heap.size w w' := by
  have hv1 : ∀ a, PairsAt (w.alloc a) v es := fun a => hv.below ((Below.refl _ _).alloc (Nat.le_refl _) _) (Nat.le_refl _)
  have HV := Lib.hid hv1
  obtain ⟨va, vn, vc, rfl⟩ := hv.form
  clear hv hv1
  by_cases hl : (es.length : Int) ≤ left
  all_goals
    have hr : Hid (leftOf es.length left = if (es.length : Int) ≤ left then left - es.length else -1) := Lib.hid rfl
    have hL := Lib.hid hl
    obtain ⟨r, hr2⟩ : ∃ r, (if (es.length : Int) ≤ left then left - es.length else -1) = r := ⟨_, rfl⟩
    have hR := Lib.hid hr2
  · have hp : 0 ≤ r := by rw [← hr2, if_pos hl]; omega
    clear hr2 hl
    go_enter Try.func36, Try.ntmps36
    go_wp2_with (go_at_call 67; refine (szEndS es _ left _ (HV.out _) h0 h1).mono ?_; rw [hR.out]; rintro e w' ⟨rfl, rfl⟩)
    go_ret
    exact ⟨ret_int (by rw [hr.out, hR.out]), (by with_reducible (repeat (first | (refine below_drewN ?_ _) | (refine Below.drew ?_) | (refine below_alloc ?_ (by first | omega | (simp; done) | (simp; omega)) _) | (refine Below.setCell ?_ (by first | omega | (simp; done) | (simp; omega)) _) | exact Below.refl _ _ | assumption | (refine below_call ?_ (by first | omega | (simp; done) | (simp; omega)) (by assumption)))))⟩
  · have hp : r = -1 := by rw [← hr2, if_neg hl]
    subst hp
    clear hr2 hl
    go_enter Try.func36, Try.ntmps36
    go_wp2_with (go_at_call 67; refine (szEndS es _ left _ (HV.out _) h0 h1).mono ?_; rw [hR.out]; rintro e w' ⟨rfl, rfl⟩)
    go_ret
    exact ⟨ret_int (by rw [hr.out, hR.out]), (by with_reducible (repeat (first | (refine below_drewN ?_ _) | (refine Below.drew ?_) | (refine below_alloc ?_ (by first | omega | (simp; done) | (simp; omega)) _) | (refine Below.setCell ?_ (by first | omega | (simp; done) | (simp; omega)) _) | exact Below.refl _ _ | assumption | (refine below_call ?_ (by first | omega | (simp; done) | (simp; omega)) (by assumption)))))⟩

set_option maxHeartbeats 400000 in
theorem szLsaS (db : List LsaD) (v : Value) (left : Int) (w : World) (hv : LsasAt w v db) (h0 : 0 ≤ left) (h1 : left ≤ 1048576) :
    Calls Try.prog 9 #[v, .int .i64 left] w fun e w' => e = .returned (.int .i64 (leftOf ((db.length : Int) + totalL db) left)) ∧ Below w.heap.size w w' := by
  obtain ⟨a, cap, b, off, rfl, hcap, hmax, ha, hc⟩ := hv
  unfold maxLen at hmax
  obtain ⟨n, hn⟩ : ∃ n, n = db.length := ⟨_, rfl⟩
  rw [← hn] at hcap ha ⊢
  have HN := Lib.hid hn; clear hn
  have HC := Lib.hid hc; clear hc
  have HA := Lib.hid ha; clear ha
  by_cases hl : (n : Int) ≤ left
  rotate_left
  · go_enter Try.func9, Try.ntmps9
    go_wp2
    go_ret
    exact ⟨ret_int (by unfold leftOf; rw [if_neg (by omega)]), (by with_reducible (repeat (first | (refine below_drewN ?_ _) | (refine Below.drew ?_) | (refine below_alloc ?_ (by first | omega | (simp; done) | (simp; omega)) _) | (refine Below.setCell ?_ (by first | omega | (simp; done) | (simp; omega)) _) | exact Below.refl _ _ | assumption | (refine below_call ?_ (by first | omega | (simp; done) | (simp; omega)) (by assumption)))))⟩
  go_enter Try.func9, Try.ntmps9
  go_wp2
  go_loopw [1, 5] (fun l i wr => ∃ (k : Nat) (m : Int), k ≤ n ∧ i = .int .i64 k ∧ l = .int .i64 m ∧ 0 ≤ m ∧ m ≤ 1048576 ∧ Hid (m = left - n - totalL (db.take k)) ∧ Below w.heap.size w wr)
    (fun _ i _ => n - (intOf i).toNat)
  case atStart => exact ⟨0, left - n, Nat.zero_le _, rfl, rfl, by omega, by omega, Lib.hid (by simp [totalL]), Below.refl _ _⟩
  case round =>
    obtain ⟨k, m, hk, rfl, rfl, hm0, hm1, HM, HB⟩ := hrel
    by_cases hkn : k < n
    · obtain ⟨⟨x, y, es⟩, hxy⟩ := at_lt HN.out hkn
      have ha := HA.out (by omega)
      subst ha
      obtain ⟨p, d0, d1, d4, hp⟩ := HC.out k x y es hxy
      obtain ⟨pa, pn, pc, rfl⟩ := hp.form
      have e0 := cell_below HB d0 (cell_lt d0)
      have e1 := cell_below HB d1 (cell_lt d0)
      have e4 := cell_below HB d4 (cell_lt d0)
      have HP := Lib.hid (hp.below HB (Nat.le_refl _))
      have HX := Lib.hid (totalL_at hxy)
      have HT := Lib.hid (totalL_le db (k + 1))
      clear hxy d0 d1 d4 hp
      obtain ⟨r, hr2⟩ : ∃ r, leftOf es.length m = r := ⟨_, rfl⟩
      have hR := Lib.hid hr2
      by_cases hl2 : (es.length : Int) ≤ m
      · have hp : 0 ≤ r := by rw [← hr2]; unfold leftOf; rw [if_pos hl2]; omega
        have hp1 : r ≤ 1048576 := by rw [← hr2]; unfold leftOf; rw [if_pos hl2]; omega
        have hp2 : Hid (r = m - es.length) := by show _ = _; rw [← hr2]; unfold leftOf; rw [if_pos hl2]
        clear hr2 hl2
        go_wp2_with (go_at_call 36; refine (szLsa x y es _ m _ HP.out hm0 hm1).mono ?_; rw [hR.out]; rintro e w2 ⟨rfl, hb2⟩)
        go_roundw
        case rel => exact ⟨k + 1, r, by omega, by go_num, rfl, by omega, by omega, Lib.hid (by have := HM.out; have := hp2.out; have : totalL (db.take (k + 1)) = totalL (db.take k) + es.length := HX.out; omega), HB.trans (hb2.mono HB.size)⟩
        case measure => simp [intOf]; omega
      · have hp : r = -1 := by rw [← hr2]; unfold leftOf; rw [if_neg hl2]
        subst hp
        have HL := Lib.hid hl2
        clear hr2 hl2
        go_wp2_with (go_at_call 36; refine (szLsa x y es _ m _ HP.out hm0 hm1).mono ?_; rw [hR.out]; rintro e w2 ⟨rfl, hb2⟩)
        go_ret
        refine ⟨ret_int ?_, HB.trans (hb2.mono HB.size)⟩
        unfold leftOf
        rw [if_neg (by have := HM.out; have : totalL (db.take (k + 1)) = totalL (db.take k) + es.length := HX.out; have := HL.out; have := HT.out; omega)]
    · obtain rfl : k = n := by omega
      go_wp2
      go_ret
      refine ⟨ret_int ?_, HB⟩
      have := HM.out
      rw [List.take_of_length_le (by have := HN.out; omega)] at this
      unfold leftOf
      rw [if_pos (by omega)]
      omega
end Go.Proofs.Ytnnkdoomjkccgaa
