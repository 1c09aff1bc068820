/- dbPlace: the binary search over the origins. -/
import Derived.Test.YtnnkdoomjkccgaaBase
import Derived.Test.YtnnkdoomjkccgaaPureDb
import Derived.Test.YtnnkdoomjkccgaaOwn2
namespace Go.Proofs.Ytnnkdoomjkccgaa
set_option linter.unusedSimpArgs false
set_option linter.unusedVariables false
open Go.RowKit

def cmpI (a b : Int) : Int := if a < b then -1 else if b < a then 1 else 0
theorem isNaN_any (a : Int) (w : World) : Calls Try.prog 96 #[.int .i64 a] w fun e w' => e = .returned (.bool false) ∧ w = w' := by
  have hna : (a != a) = false := by simp
  go_enter Try.func96, Try.ntmps96
  go_wp2
  go_ret
  exact ⟨rfl, rfl⟩
theorem cmp_any (a b : Int) (w : World) : Calls Try.prog 89 #[.int .i64 a, .int .i64 b] w fun e w' => e = .returned (.int .i64 (cmpI a b)) ∧ w = w' := by
  rcases Int.lt_trichotomy a b with h | h | h
  · have hd : decide (a < b) = true := by simpa using h
    have hr : Hid (cmpI a b = -1) := by show _ = _; simp [cmpI, h]
    go_enter Try.func89, Try.ntmps89
    go_wp2_with (go_at_call 96; refine (isNaN_any _ _).mono ?_; rintro e w' ⟨rfl, rfl⟩)
    go_ret
    exact ⟨ret_int hr.out.symm, rfl⟩
  · subst h
    have hd : decide (a < a) = false := by simp
    have hr : Hid (cmpI a a = 0) := by show _ = _; simp [cmpI]
    go_enter Try.func89, Try.ntmps89
    go_wp2_with (go_at_call 96; refine (isNaN_any _ _).mono ?_; rintro e w' ⟨rfl, rfl⟩)
    go_ret
    exact ⟨ret_int hr.out.symm, rfl⟩
  · have hd : decide (a < b) = false := by simp; omega
    have hd2 : decide (b < a) = true := by simpa using h
    have hr : Hid (cmpI a b = 1) := by show _ = _; unfold cmpI; rw [if_neg (by omega), if_pos h]
    go_enter Try.func89, Try.ntmps89
    go_wp2_with (go_at_call 96; refine (isNaN_any _ _).mono ?_; rintro e w' ⟨rfl, rfl⟩)
    go_ret
    exact ⟨ret_int hr.out.symm, rfl⟩
theorem dbPlace1_any (o s t : Int) (a : Option Addr) (n c : Nat) (w : World) : Calls Try.prog 88 #[.agg #[.int .i64 o, .int .i64 s, .slice a n c], .int .i64 t] w fun e w' => e = .returned (.int .i64 (cmpI o t)) ∧ w.alloc (.cells #[.int .i64 o, .int .i64 s, .slice a n c] 41) = w' := by
  go_enter Try.func88, Try.ntmps88
  go_wp2_with (go_at_call 89; refine (cmp_any _ _ _).mono ?_; rintro e w' ⟨rfl, rfl⟩)
  go_ret
  exact ⟨rfl, rfl⟩
def PlacePost (db : List LsaD) (o : Int) (w : World) (e : Ending) (w' : World) : Prop := ∃ (i : Nat) (kn : Bool), e = .returned (.tuple #[.int .i64 i, .bool kn]) ∧ PlaceOk db o i kn ∧ Below w.heap.size w w'
set_option maxRecDepth 100000 in
set_option maxHeartbeats 400000 in
theorem search_any (db : List LsaD) (o : Int) (v : Value) (w : World) (hs : ascD db) (hv : LsasAt w v db) (hsz : db.length ≤ 1048576) :
    Calls Try.prog 87 #[v, .int .i64 o, .func (.func 88) #[] #[]] w (PlacePost db o w) := by
  obtain ⟨a, cap, b, off, rfl, hcap, hmax, ha, hc⟩ := hv
  unfold maxLen at hmax
  obtain ⟨n, hn⟩ : ∃ n, n = db.length := ⟨_, rfl⟩
  rw [← hn] at hcap ha hsz ⊢
  have HN := Lib.hid hn; clear hn
  have HC := Lib.hid hc; clear hc
  have HA := Lib.hid ha; clear ha
  have HS := Lib.hid hs; clear hs
  go_enter Try.func87, Try.ntmps87
  go_wp2
  go_loopw [9, 10] (fun x y wr => ∃ i j : Nat, i ≤ j ∧ j ≤ n ∧ x = .int .i64 i ∧ y = .int .i64 j ∧ Hid (∀ (k : Nat) (d : LsaD), k < i → db[k]? = some d → d.1 < o) ∧ Hid (∀ (k : Nat) (d : LsaD), j ≤ k → db[k]? = some d → o ≤ d.1) ∧ Below w.heap.size w wr)
    (fun x y _ => (intOf y).toNat - (intOf x).toNat)
  case atStart => exact ⟨0, n, Nat.zero_le _, Nat.le_refl _, rfl, rfl, Lib.hid (fun k d hk => by omega), Lib.hid (fun k d hk hd => by have := (List.getElem?_eq_some_iff.1 hd).1; have := HN.out; omega), Below.refl _ _⟩
  case round =>
    obtain ⟨i, j, hij, hjn, rfl, rfl, HI, HJ, HB⟩ := hrel
    by_cases hlt : i < j
    · have hd : decide ((i : Int) < (j : Int)) = true := by simp; omega
      obtain ⟨h, hh, hih, hhj⟩ : ∃ h : Nat, ((i : Int) + (j : Int)) / 2 = (h : Int) ∧ i ≤ h ∧ h < j := ⟨(i + j) / 2, by omega, by omega, by omega⟩
      obtain ⟨⟨xo, xs, xes⟩, hx⟩ := at_lt HN.out (k := h) (by omega)
      have ha := HA.out (by omega)
      subst ha
      obtain ⟨u, d0, d1, d2, hu⟩ := HC.out h xo xs xes hx
      obtain ⟨ua, un, uc, rfl⟩ := hu.form
      have hb := cell_lt d0
      have e0 := cell_below HB d0 hb
      have e1 := cell_below HB d1 hb
      have e2 := cell_below HB d2 hb
      have HX := Lib.hid hx
      have HBB := Lib.hid HB
      have hs1 := HB.size
      clear hx hu d0 d1 d2 HB
      by_cases hlo : xo < o
      · have hcm : cmpI xo o = -1 := by simp [cmpI, hlo]
        have HCM := Lib.hid hcm
        have HLO := Lib.hid hlo
        clear hcm hlo
        go_wp2_with (go_at_call 88; refine (dbPlace1_any _ _ _ _ _ _ _).mono ?_; rw [HCM.out]; rintro e w' ⟨rfl, rfl⟩)
        go_roundw
        case rel =>
          refine ⟨h + 1, j, by omega, by omega, by go_num, rfl, Lib.hid fun k d hk hd => ?_, HJ, HBB.out.alloc hs1 _⟩
          by_cases hkh : k = h
          · subst hkh
            rw [HX.out] at hd
            injection hd with hd
            subst hd
            exact HLO.out
          · exact Int.lt_trans (HS.out k h d _ (by omega) hd HX.out) HLO.out
        case measure => simp [intOf]; omega
      · have hcm : cmpI xo o = 0 ∨ cmpI xo o = 1 := by unfold cmpI; rw [if_neg hlo]; by_cases h2 : o < xo <;> simp [h2]
        have HLO : Hid (o ≤ xo) := Lib.hid (by omega)
        clear hlo
        rcases hcm with hcm | hcm
        all_goals
          have HCM := Lib.hid hcm
          clear hcm
          go_wp2_with (go_at_call 88; refine (dbPlace1_any _ _ _ _ _ _ _).mono ?_; rw [HCM.out]; rintro e w' ⟨rfl, rfl⟩)
          go_roundw
          case rel =>
            refine ⟨i, h, by omega, by omega, rfl, rfl, HI, Lib.hid fun k d hk hd => ?_, HBB.out.alloc hs1 _⟩
            by_cases hkh : k = h
            · subst hkh
              rw [HX.out] at hd
              injection hd with hd
              subst hd
              exact HLO.out
            · exact Int.le_trans HLO.out (Int.le_of_lt (HS.out h k _ d (by omega) HX.out hd))
          case measure => simp [intOf]; omega
    · obtain rfl : i = j := by omega
      by_cases hin : i < n
      · have hd : decide ((i : Int) < (n : Int)) = true := by simp; omega
        obtain ⟨⟨xo, xs, xes⟩, hx⟩ := at_lt HN.out hin
        have ha := HA.out (by omega)
        subst ha
        obtain ⟨u, d0, d1, d2, hu⟩ := HC.out i xo xs xes hx
        obtain ⟨ua, un, uc, rfl⟩ := hu.form
        have hb := cell_lt d0
        have e0 := cell_below HB d0 hb
        have e1 := cell_below HB d1 hb
        have e2 := cell_below HB d2 hb
        have HX := Lib.hid hx
        have HBB := Lib.hid HB
        have hs1 := HB.size
        clear hx hu d0 d1 d2 HB
        have hno : ∀ kn : Bool, (kn = true ↔ xo = o) → PlaceOk db o i kn := fun kn hkn =>
          ⟨by have := HN.out; omega, HI.out, HJ.out, hkn.trans ⟨fun h => ⟨_, HX.out, h⟩, fun ⟨d, hd, ho⟩ => by rw [HX.out] at hd; injection hd with hd; subst hd; exact ho⟩⟩
        have HNO := Lib.hid hno
        clear hno
        rcases (show cmpI xo o = -1 ∨ cmpI xo o = 0 ∨ cmpI xo o = 1 by unfold cmpI; by_cases h1 : xo < o <;> by_cases h2 : o < xo <;> simp [h1, h2]) with hcm | hcm | hcm
        all_goals
          have HCM := Lib.hid hcm
          clear hcm
          go_wp2_with (go_at_call 88; refine (dbPlace1_any _ _ _ _ _ _ _).mono ?_; rw [HCM.out]; rintro e w' ⟨rfl, rfl⟩)
          go_ret2
          refine ⟨i, _, rfl, HNO.out _ ?_, HBB.out.alloc hs1 _⟩
          have := HCM.out
          unfold cmpI at this
          by_cases h1 : xo < o <;> by_cases h2 : o < xo <;> simp [h1, h2] at this <;> simp <;> omega
      · have hd : decide ((i : Int) < (n : Int)) = false := by simp; omega
        go_wp2_with fail
        go_ret2
        exact ⟨i, false, rfl, ⟨by have := HN.out; omega, HI.out, HJ.out, ⟨(fun h => by cases h), fun ⟨d, hd, _⟩ => by have := (List.getElem?_eq_some_iff.1 hd).1; have := HN.out; omega⟩⟩, HB⟩
theorem search_place (db : List LsaD) (o : Int) (v : Value) (w : World) (hs : ascD db) (hv : LsasAt w v db) (hsz : db.length ≤ 1048576) : Calls Try.prog 71 #[v, .int .i64 o] w (PlacePost db o w) := by
  have HS := Lib.hid hs; have HV := Lib.hid hv; have HSZ := Lib.hid hsz
  clear hs hv hsz
  go_enter Try.func71, Try.ntmps71
  go_wp2_with fail
  refine (search_any db o v _ HS.out HV.out HSZ.out).mono ?_
  rintro e w1 ⟨i, kn, rfl, hp, hb⟩
  go_wp2_with fail
  go_ret2
  exact ⟨i, kn, rfl, hp, hb⟩
end Go.Proofs.Ytnnkdoomjkccgaa
