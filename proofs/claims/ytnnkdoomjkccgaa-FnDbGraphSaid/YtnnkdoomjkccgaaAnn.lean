/- announced of the program, l11Cost of the reference: annD. -/
import Derived.Test.YtnnkdoomjkccgaaPlace
import Derived.Test.YtnnkdoomjkccgaaFind
import Derived.Test.YtnnkdoomjkccgaaPureA
namespace Go.Proofs.Ytnnkdoomjkccgaa
set_option linter.unusedSimpArgs false
set_option linter.unusedVariables false
open Go.RowKit

set_option maxRecDepth 100000 in
set_option maxHeartbeats 1000000 in
theorem iAnn (db : List LsaD) (a b : Int) (v : Value) (w : World) (hs : ascD db) (hv : LsasAt w v db) (hsz : db.length ≤ 1048576) :
    Calls Try.prog 43 #[v, .int .i64 a, .int .i64 b] w fun e w' => e = .returned (.int .i64 (annD db a b)) ∧ Below w.heap.size w w' := by
  have HV := Lib.hid hv; have HS := Lib.hid hs; have HSZ := Lib.hid hsz
  obtain ⟨va, cap, bl, off, rfl, hcap, hmax, hva, hc⟩ := hv
  unfold maxLen at hmax
  obtain ⟨n, hn⟩ : ∃ n, n = db.length := ⟨_, rfl⟩
  rw [← hn] at hcap hva HV ⊢
  have HN := Lib.hid hn; have HC := Lib.hid hc; have HA := Lib.hid hva
  clear hn hc hva hs hsz
  go_enter Try.func43, Try.ntmps43
  go_wp2_with fail
  refine (search_place db a _ _ HS.out HV.out HSZ.out).mono ?_
  rintro e w1 ⟨i, kn, rfl, hp, hb⟩
  have HB := Lib.hid hb
  clear hb
  cases kn with
  | false =>
    have HR := Lib.hid (annD_no (b := b) (place_no HS.out hp))
    clear hp
    go_wp2_with fail
    go_ret
    exact ⟨ret_int HR.out.symm, HB.out⟩
  | true =>
    obtain ⟨⟨o, s, es⟩, hd, ho, hf⟩ := place_yes hp
    have hin : i < n := by have := (List.getElem?_eq_some_iff.1 hd).1; have := HN.out; omega
    have hva := HA.out (by omega)
    subst hva
    obtain ⟨u, d0, d1, d2, hu⟩ := HC.out i o s es hd
    obtain ⟨ua, ucap, ub, uoff, rfl, hucap, humax, hua, huc⟩ := hu
    unfold maxLen at humax
    have e2 := cell_below HB.out d2 (cell_lt d2)
    have HR : Hid (annD db a b = endC es b) := Lib.hid (annD_yes hf)
    obtain ⟨m, hm⟩ : ∃ m, m = es.length := ⟨_, rfl⟩
    rw [← hm] at hucap hua e2
    have HM := Lib.hid hm; have HUC := Lib.hid huc; have HUA := Lib.hid hua
    have hiI : (i:Int) < (n:Int) := by omega
    clear hp hd ho hf hm huc hua d0 d1 d2
    go_wp2_with fail
    go_loopw [25] (fun i wr => ∃ k : Nat, k ≤ m ∧ i = .int .i64 k ∧ Hid (∀ (j : Nat) (e : Int × Int), j < k → es[j]? = some e → e.1 ≠ b) ∧ Below w.heap.size w wr) (fun i _ => m - (intOf i).toNat)
    case atStart => exact ⟨0, Nat.zero_le _, rfl, Lib.hid (fun j e hj => by omega), HB.out⟩
    case round =>
      obtain ⟨k, hk, rfl, HI, hBr⟩ := hrel
      clear HB
      by_cases hkm : k < m
      · obtain ⟨⟨x, y⟩, hx⟩ := at_lt HM.out hkm
        have hua := HUA.out (by omega)
        subst hua
        obtain ⟨p0, p1⟩ := HUC.out k x y hx
        have q0 := cell_below hBr p0 (cell_lt p0)
        have q1 := cell_below hBr p1 (cell_lt p0)
        have hbd := cell_lt q0
        have HX := Lib.hid hx
        have hkI : (k:Int) < (m:Int) := by omega
        clear hx p0 p1
        rcases Bool.eq_false_or_eq_true (x == b) with hxb | hxb
        · go_wp2_with fail
          go_ret
          exact ⟨ret_int (by rw [HR.out]; exact (endC_at HX.out (by simpa using hxb) HI.out).symm), (by with_reducible (repeat (first | (refine below_drewN ?_ _) | (refine Below.drew ?_) | (refine below_alloc ?_ (by first | omega | (simp; done) | (simp; omega)) _) | (refine Below.setCell ?_ (by first | omega | (simp; done) | (simp; omega)) _) | exact Below.refl _ _ | assumption | (refine below_call ?_ (by first | omega | (simp; done) | (simp; omega)) (by assumption)))))⟩
        · go_wp2_with fail
          go_roundw
          case rel =>
            refine ⟨k + 1, by omega, by go_num, Lib.hid (fun j e hj he => ?_), (by with_reducible (repeat (first | (refine below_drewN ?_ _) | (refine Below.drew ?_) | (refine below_alloc ?_ (by first | omega | (simp; done) | (simp; omega)) _) | (refine Below.setCell ?_ (by first | omega | (simp; done) | (simp; omega)) _) | exact Below.refl _ _ | assumption | (refine below_call ?_ (by first | omega | (simp; done) | (simp; omega)) (by assumption)))))⟩
            rcases Nat.lt_or_ge j k with h1 | h1
            · exact HI.out j e h1 he
            · obtain rfl : j = k := by omega
              rw [HX.out] at he
              injection he with he
              subst he
              simpa using hxb
          case measure => simp [intOf]; omega
      · obtain rfl : k = m := by omega
        go_wp2_with fail
        go_ret
        exact ⟨ret_int (by rw [HR.out]; exact (endC_no fun j e he => HI.out j e (by have := (List.getElem?_eq_some_iff.1 he).1; have := HM.out; omega) he).symm), hBr⟩
set_option maxRecDepth 100000 in
set_option maxHeartbeats 1000000 in
theorem sAnn (db : List LsaD) (a b : Int) (v : Value) (w : World) (hv : LsasAt w v db) :
    Calls Try.prog 69 #[v, .int .i64 a, .int .i64 b] w fun e w' => e = .returned (.int .i64 (annD db a b)) ∧ Below w.heap.size w w' := by
  have HV := Lib.hid hv
  obtain ⟨va, vn, vc, rfl⟩ := hv.form
  clear hv
  go_enter Try.func69, Try.ntmps69
  go_wp2_with fail
  refine (l11Find_any db a _ _ HV.out).mono ?_
  rintro e w1 ⟨u, rfl, hu, hb⟩
  obtain ⟨⟨⟨o, s, es⟩, kn⟩, hr⟩ : ∃ r, findR db a = r := ⟨_, rfl⟩
  rw [hr] at hu ⊢
  have HR : Hid (annD db a b = endC es b) := Lib.hid (by
    rcases hf : findD db a with _ | d
    · rw [findR_no hf] at hr
      injection hr with h1 h2
      injection h1 with h3 h4
      injection h4 with h5 h6
      rw [annD_no hf, ← h6]
      rfl
    · rw [findR_yes hf] at hr
      injection hr with h1 h2
      rw [annD_yes hf, h1])
  simp only at hu ⊢
  obtain ⟨ua, ucap, ub, uoff, rfl, hucap, humax, hua, huc⟩ := hu
  unfold maxLen at humax
  have HB := Lib.hid hb
  obtain ⟨m, hm⟩ : ∃ m, m = es.length := ⟨_, rfl⟩
  rw [← hm] at hucap hua ⊢
  have HM := Lib.hid hm; have HUC := Lib.hid huc; have HUA := Lib.hid hua
  clear hr hb hm huc hua
  go_wp2_with fail
  go_loop [9] (fun i => ∃ k : Nat, k ≤ m ∧ i = .int .i64 k ∧ Hid (∀ (j : Nat) (e : Int × Int), j < k → es[j]? = some e → e.1 ≠ b)) (fun i => m - (intOf i).toNat)
  case atStart => exact ⟨0, Nat.zero_le _, rfl, Lib.hid (fun j e hj => by omega)⟩
  case round =>
    obtain ⟨k, hk, rfl, HI⟩ := hrel
    have hBB : Below w.heap.size w w1 := HB.out
    by_cases hkm : k < m
    · obtain ⟨⟨x, y⟩, hx⟩ := at_lt HM.out hkm
      have hua := HUA.out (by omega)
      subst hua
      obtain ⟨p0, p1⟩ := HUC.out k x y hx
      have hbd := cell_lt p0
      have hne : ¬ ub = w1.heap.size := by omega
      have HX := Lib.hid hx
      have hkI : (k:Int) < (m:Int) := by omega
      clear hx
      rcases Bool.eq_false_or_eq_true (x == b) with hxb | hxb
      · go_wp2_with fail
        go_ret
        exact ⟨ret_int (by rw [HR.out]; exact (endC_at HX.out (by simpa using hxb) HI.out).symm), (by with_reducible (repeat (first | (refine below_drewN ?_ _) | (refine Below.drew ?_) | (refine below_alloc ?_ (by first | omega | (simp; done) | (simp; omega)) _) | (refine Below.setCell ?_ (by first | omega | (simp; done) | (simp; omega)) _) | exact Below.refl _ _ | assumption | (refine below_call ?_ (by first | omega | (simp; done) | (simp; omega)) (by assumption)))))⟩
      · go_wp2_with fail
        go_round
        case rel =>
          refine ⟨k + 1, by omega, by go_num, Lib.hid (fun j e hj he => ?_)⟩
          rcases Nat.lt_or_ge j k with h1 | h1
          · exact HI.out j e h1 he
          · obtain rfl : j = k := by omega
            rw [HX.out] at he
            injection he with he
            subst he
            simpa using hxb
        case measure => simp [intOf]; omega
    · obtain rfl : k = m := by omega
      go_wp2_with fail
      go_ret
      exact ⟨ret_int (by rw [HR.out]; exact (endC_no fun j e he => HI.out j e (by have := (List.getElem?_eq_some_iff.1 he).1; have := HM.out; omega) he).symm), (by with_reducible (repeat (first | (refine below_drewN ?_ _) | (refine Below.drew ?_) | (refine below_alloc ?_ (by first | omega | (simp; done) | (simp; omega)) _) | (refine Below.setCell ?_ (by first | omega | (simp; done) | (simp; omega)) _) | exact Below.refl _ _ | assumption | (refine below_call ?_ (by first | omega | (simp; done) | (simp; omega)) (by assumption)))))⟩
end Go.Proofs.Ytnnkdoomjkccgaa
