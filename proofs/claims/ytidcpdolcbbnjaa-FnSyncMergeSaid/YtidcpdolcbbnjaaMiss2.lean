/- DbMissing of the program and of the reference: both give missOf. -/
import Derived.Test.YtidcpdolcbbnjaaMiss
namespace Go.Proofs.Ytidcpdolcbbnjaa
open Go.RowKit

theorem own_nil (w : World) (lo hi : Nat) (t : TypeId) (size : Nat) : OwnR w lo hi t size (.slice none 0 0) 0 [] := ⟨World.ownsRow_nil _ _ _ _, fun g hg => by simp [Value.ownBlock] at hg⟩
set_option maxHeartbeats 400000 in
theorem iDbMissing (db other : List LsaD) (v u : Value) (w : World) (hv : LsasAt w v db) (hu : LsasAt w u other) : Calls Try.prog 25 #[v, u] w (MadeInts w (missOf db other)) := by
  have HV := Lib.hid hv; have HU := Lib.hid hu
  obtain ⟨va, vn, vc, rfl⟩ := hv.form
  obtain ⟨ua, un, uc, rfl⟩ := hu.form
  clear hv hu
  rcases Bool.eq_false_or_eq_true (dbOk db) with h1 | h1
  rotate_left
  · have hr := missOf_bad (db := db) (other := other) (by rw [h1]; rfl)
    have HR := Lib.hid hr; have H1 := Lib.hid h1
    clear hr h1
    go_enter Try.func25, Try.ntmps25
    go_wp2_with fail
    refine (iDbValid db _ _ HV.out).mono ?_
    rw [H1.out]
    rintro e w1 ⟨rfl, hb1⟩
    go_wp2_with fail
    go_ret
    rw [HR.out]
    exact ⟨_, rfl, own_nil _ _ _ _ _, hb1⟩
  rcases Bool.eq_false_or_eq_true (dbOk other) with h2 | h2
  rotate_left
  · have hr := missOf_bad (db := db) (other := other) (by rw [h2]; simp)
    have HR := Lib.hid hr; have H1 := Lib.hid h1; have H2 := Lib.hid h2
    clear hr h1 h2
    go_enter Try.func25, Try.ntmps25
    go_wp2_with fail
    refine (iDbValid db _ _ HV.out).mono ?_
    rw [H1.out]
    rintro e w1 ⟨rfl, hb1⟩
    have BW := Lib.hid hb1
    replace HU := Lib.hid (HU.out.below hb1 (Nat.le_refl _))
    clear hb1
    go_wp2_with fail
    refine (iDbValid other _ _ HU.out).mono ?_
    rw [H2.out]
    rintro e w2 ⟨rfl, hb2⟩
    replace BW := Lib.hid (BW.out.trans (hb2.mono BW.out.size))
    clear hb2
    go_wp2_with fail
    go_ret
    rw [HR.out]
    exact ⟨_, rfl, own_nil _ _ _ _ _, BW.out⟩
  have hr := missOf_ok h1 h2
  have hs := (dbOk_iff.1 h1).2
  have hl1 := dbOk_len h1
  have hl2 := dbOk_len h2
  have HR := Lib.hid hr; have H1 := Lib.hid h1; have H2 := Lib.hid h2; have HS := Lib.hid hs; have HL1 := Lib.hid hl1; have HL2 := Lib.hid hl2
  clear hr h1 h2 hs hl1 hl2
  go_enter Try.func25, Try.ntmps25
  go_wp2_with fail
  refine (iDbValid db _ _ HV.out).mono ?_
  rw [H1.out]
  rintro e w1 ⟨rfl, hb1⟩
  have BW := Lib.hid hb1
  replace HU := Lib.hid (HU.out.below hb1 (Nat.le_refl _))
  replace HV := Lib.hid (HV.out.below hb1 (Nat.le_refl _))
  clear hb1
  go_wp2_with fail
  refine (iDbValid other _ _ HU.out).mono ?_
  rw [H2.out]
  rintro e w2 ⟨rfl, hb2⟩
  replace BW := Lib.hid (BW.out.trans (hb2.mono BW.out.size))
  replace HU := Lib.hid (HU.out.below hb2 (Nat.le_refl _))
  replace HV := Lib.hid (HV.out.below hb2 (Nat.le_refl _))
  clear hb2
  go_wp2_with fail
  refine (missing_any db other _ _ _ HV.out HU.out HS.out (by have := HL1.out; omega) (by have := HL2.out; omega)).mono ?_
  rintro e w3 ⟨r, rfl, hO, hb3⟩
  have HO := Lib.hid hO
  have hs3 := BW.out.size
  replace BW := Lib.hid (BW.out.trans (hb3.mono BW.out.size))
  clear hO hb3
  go_wp2_with fail
  go_ret
  rw [HR.out]
  exact ⟨_, rfl, HO.out.mono hs3 (Nat.le_refl _), BW.out⟩

set_option maxRecDepth 100000 in
set_option maxHeartbeats 1000000 in
theorem sDbMissing (db other : List LsaD) (v u : Value) (w : World) (hv : LsasAt w v db) (hu : LsasAt w u other) : Calls Try.prog 56 #[v, u] w (MadeInts w (missOf db other)) := by
  have HV := Lib.hid hv
  obtain ⟨va, vn, vc, rfl⟩ := hv.form
  have HU := Lib.hid hu
  obtain ⟨a, cap, b, off, rfl, hcap, hmax, ha, hc⟩ := hu
  clear hv
  unfold maxLen at hmax
  obtain ⟨i0, hi, hz0, hz1, hz2⟩ := info_parts infoI
  obtain ⟨n, hn⟩ : ∃ n, n = other.length := ⟨_, rfl⟩
  rw [← hn] at hcap ha HU ⊢
  have HN := Lib.hid hn; clear hn
  have HC := Lib.hid hc; clear hc
  have HA := Lib.hid ha; clear ha
  have HI := Lib.hid hi; have HZ0 := Lib.hid hz0; have HZ1 := Lib.hid hz1; have HZ2 := Lib.hid hz2
  clear hi hz0 hz1 hz2
  have hR0 : World.ownsRow (w.alloc (.cells #[] 3)) w.heap.size 3 1 (.slice (some ⟨w.heap.size, 0, none⟩) 0 0) 0 [] := own_new rfl (Nat.le_refl _)
  have HR0 := Lib.hid hR0; clear hR0
  have HU1 := Lib.hid (HU.out.below ((Below.refl _ w).alloc (Nat.le_refl _) (.cells #[] 3)) (Nat.le_refl _))
  have HV1 := Lib.hid (HV.out.below ((Below.refl _ w).alloc (Nat.le_refl _) (.cells #[] 3)) (Nat.le_refl _))
  have hB0 : Below w.heap.size w (w.alloc (.cells #[] 3)) := (by with_reducible (repeat (first | (refine below_drewN ?_ _) | (refine Below.drew ?_) | (refine below_alloc ?_ (by first | omega | (simp; done) | (simp; omega)) _) | (refine Below.setCell ?_ (by first | omega | (simp; done) | (simp; omega)) _) | exact Below.refl _ _ | assumption | (refine below_call ?_ (by first | omega | (simp; done) | (simp; omega)) (by assumption)))))
  have HB0 := Lib.hid hB0
  clear hB0
  rcases Bool.eq_false_or_eq_true (dbOk db && dbOk other) with hok | hok
  rotate_left
  · have hr := missOf_bad hok
    have HR := Lib.hid hr
    clear hr
    by_cases hn0 : n = 0
    · subst hn0
      have hd : decide (((0:Nat):Int) < ((0:Nat):Int)) = false := by simp
      go_enter Try.func56, Try.ntmps56
      go_wp2_with fail
      refine wp_loop_rounds 1 ?_
      rw [rounds_succ]
      go_wp2_with fail
      all_goals
        go_ret
        rw [HR.out]
        exact ⟨_, rfl, OwnR.of HR0.out, HB0.out⟩
    have hd : decide ((0:Int) < (n:Int)) = true := by simp; omega
    have hn1 : 0 < n := by omega
    have hd2 : decide (0 < n) = true := by simp; omega
    rcases Bool.eq_false_or_eq_true (dbOk db) with h1 | h1
    · have h2 : dbOk other = false := by rw [h1] at hok; simpa using hok
      have H1 := Lib.hid h1; have H2 := Lib.hid h2
      clear h1 h2 hok
      go_enter Try.func56, Try.ntmps56
      go_wp2_with fail
      refine wp_loop_rounds 1 ?_
      rw [rounds_succ]
      go_wp2_with fail
      refine (sDbValid db _ _ HV1.out).mono ?_
      rw [H1.out]
      rintro e w1 ⟨rfl, hb1⟩
      have BW := Lib.hid (HB0.out.trans (hb1.mono (by simp)))
      have HU2 := Lib.hid (HU1.out.below hb1 (Nat.le_refl _))
      have HR2 := Lib.hid ((OwnR.of HR0.out).below hb1 (Nat.le_refl _))
      clear hb1
      go_wp2_with fail
      refine (sDbValid other _ _ HU2.out).mono ?_
      rw [H2.out]
      rintro e w2 ⟨rfl, hb2⟩
      have BW2 := Lib.hid (BW.out.trans (hb2.mono BW.out.size))
      have HR3 := Lib.hid ((OwnR.of HR2.out.1).below hb2 (Nat.le_refl _))
      clear hb2
      go_wp2_with fail
      go_ret
      rw [HR.out]
      exact ⟨_, rfl, OwnR.of HR3.out.1, BW2.out⟩
    · have H1 := Lib.hid h1
      clear h1 hok
      go_enter Try.func56, Try.ntmps56
      go_wp2_with fail
      refine wp_loop_rounds 1 ?_
      rw [rounds_succ]
      go_wp2_with fail
      refine (sDbValid db _ _ HV1.out).mono ?_
      rw [H1.out]
      rintro e w1 ⟨rfl, hb1⟩
      have BW := Lib.hid (HB0.out.trans (hb1.mono (by simp)))
      have HR2 := Lib.hid ((OwnR.of HR0.out).below hb1 (Nat.le_refl _))
      clear hb1
      go_wp2_with fail
      go_ret
      rw [HR.out]
      exact ⟨_, rfl, OwnR.of HR2.out.1, BW.out⟩
  simp only [Bool.and_eq_true] at hok
  obtain ⟨h1, h2⟩ := hok
  have hr := missOf_ok h1 h2
  have hl2 := dbOk_len h2
  rw [← HN.out] at hl2
  have HR := Lib.hid hr; have H1 := Lib.hid h1; have H2 := Lib.hid h2
  clear hr h1 h2
  go_enter Try.func56, Try.ntmps56
  go_wp2_with fail
  go_loopw [5, 6] (fun ov i wr => ∃ (k : Nat), k ≤ n ∧ i = .int .i64 k ∧ wr.ownsRow w.heap.size 3 1 ov (missD db (other.take k)).length ((missD db (other.take k)).map (Value.int .i64)) ∧ Below w.heap.size w wr) (fun _ i _ => n - (intOf i).toNat)
  case atStart => exact ⟨0, Nat.zero_le _, rfl, HR0.out, HB0.out⟩
  case round =>
    obtain ⟨k, hk, rfl, hR, hB⟩ := hrel
    clear HR0 HB0 HU1 HV1
    by_cases hkn : k < n
    · obtain ⟨⟨o, s, es⟩, hx⟩ := at_lt HN.out hkn
      have ha := HA.out (by omega)
      subst ha
      obtain ⟨u, d0, d1, d2, hu⟩ := HC.out k o s es hx
      have hb := cell_lt d0
      have hkI : (k : Int) < (n : Int) := by omega
      have hd : decide ((k : Int) < (n : Int)) = true := by simp; omega
      have HX := Lib.hid hx
      obtain ⟨oa, oc, rfl⟩ := own_slice hR
      have hml := missD_len db other k
      have HRR := Lib.hid hR; have HB := Lib.hid hB
      have HV1 := Lib.hid (HV.out.below hB (Nat.le_refl _))
      have HU1 := Lib.hid (HU.out.below hB (Nat.le_refl _))
      obtain ⟨p, hp⟩ : ∃ p, missD db (other.take k) = p := ⟨_, rfl⟩
      rw [hp] at hml
      have HP := Lib.hid hp
      rw [hp] at HRR
      rw [hp]
      have HD0 := Lib.hid d0; have HD1 := Lib.hid d1
      clear hx hu hR hB d0 d1 d2 hp
      go_wp2_with fail
      refine (sDbValid db _ _ HV1.out).mono ?_
      rw [H1.out]
      rintro e w1 ⟨rfl, hb1⟩
      have BW := Lib.hid (HB.out.trans (hb1.mono HB.out.size))
      have HU2 := Lib.hid (HU1.out.below hb1 (Nat.le_refl _))
      have HV2 := Lib.hid (HV1.out.below hb1 (Nat.le_refl _))
      have HR2 := Lib.hid ((OwnR.of HRR.out).below hb1 (Nat.le_refl _)).1
      clear hb1
      go_wp2_with fail
      refine (sDbValid other _ _ HU2.out).mono ?_
      rw [H2.out]
      rintro e w2 ⟨rfl, hb2⟩
      have BW2 := Lib.hid (BW.out.trans (hb2.mono BW.out.size))
      have HV3 := Lib.hid (HV2.out.below hb2 (Nat.le_refl _))
      have HR3 := Lib.hid ((OwnR.of HR2.out).below hb2 (Nat.le_refl _)).1
      have e0 := cell_below BW2.out HD0.out hb
      have e1 := cell_below BW2.out HD1.out hb
      clear hb2
      go_wp2_with fail
      refine (l11Find_any db o _ _ HV3.out).mono ?_
      obtain ⟨m, hm⟩ : ∃ m, missB db (o, s, es) = m := ⟨_, rfl⟩
      have hnext : Hid (missD db (other.take (k + 1)) = if m = true then p ++ [o] else p) := by show _ = _; rw [missD_snoc HX.out, HP.out, hm]
      rintro e w3 ⟨fu, hef, _, hb3⟩
      have BW3 := Lib.hid (BW2.out.trans (hb3.mono BW2.out.size))
      have HR4 := Lib.hid ((OwnR.of HR3.out).below hb3 (Nat.le_refl _)).1
      have x0 := cell_below BW3.out HD0.out hb
      have x1 := cell_below BW3.out HD1.out hb
      have hs3 := BW3.out.size
      have hbw3 : b < w3.heap.size := by omega
      have hbw4 : b < w3.heap.size + 1 := by omega
      clear hb3 e0 e1
      rcases hf : findD db o with _ | ⟨fo, fs, fes⟩
      · obtain rfl : m = true := by rw [← hm]; exact missB_no (d := (o, s, es)) hf
        rw [findR_no hf] at hef
        simp only at hef
        subst hef
        have hshape : ∃ a n c, fu = .slice a n c := by rename_i hpp; exact hpp.form
        obtain ⟨fa, fn, fc, rfl⟩ := hshape
        clear hm hf
        go_wp2_with fail
        go_quiet (fail)
        go_wp2_with (at_builtin; go_loud (refine wpList_append_rd rfl _ _ _ rfl w.heap.size 3 i0 _ 1 8 Try.underlying42 HI.out HZ0.out HZ1.out HZ2.out rfl (by omega) (.slice oa p.length oc) p.length (p.map (Value.int .i64)) rfl (by with_reducible (repeat (first | exact HR4.out | apply own_drewN | apply own_drew | apply World.ownsRow.alloc | (refine own_setCell ?_ (by first | (simp; done) | omega | (simp; omega)) _)))) (some ⟨w3.heap.size + 1, 0, none⟩) 1 1 [.int .i64 o] rfl (srcAt_one (by with_reducible (repeat (first | (refine box_at _ #[.int .i64 o] _ ?_; first | rfl | (simp; done)) | apply Box.drewN))) rfl) (one_ok _ _) (by unfold maxLen; omega) (by omega) (by simp; omega) ?_); intro v' w4 hown3 hgrow hloc)
        have hB3 : Below w.heap.size w w4 := Below.grown (by have := BW3.out; exact (by with_reducible (repeat (first | (refine below_drewN ?_ _) | (refine Below.drew ?_) | (refine below_alloc ?_ (by first | omega | (simp; done) | (simp; omega)) _) | (refine Below.setCell ?_ (by first | omega | (simp; done) | (simp; omega)) _) | exact Below.refl _ _ | assumption | (refine below_call ?_ (by first | omega | (simp; done) | (simp; omega)) (by assumption)))))) hgrow (by simp; omega) (fun j hj => (HR4.out.lt j hj).1)
        have HB3 := Lib.hid hB3; have HO3 := Lib.hid hown3
        clear hB3 hgrow hown3 hloc
        go_wp2_with fail
        go_roundw
        case rel =>
          refine ⟨k + 1, by omega, by go_num, ?_, HB3.out⟩
          rw [hnext.out]; simp only [if_true]
          have := HO3.out
          rw [map_snoc] at this
          simpa using this
        case measure => simp [intOf]; omega
      · obtain rfl : m = decide (fs < s) := by rw [← hm]; exact missB_yes (d := (o, s, es)) hf
        rw [findR_yes hf] at hef
        simp only at hef
        subst hef
        have hshape : ∃ a n c, fu = .slice a n c := by rename_i hpp; exact hpp.form
        obtain ⟨fa, fn, fc, rfl⟩ := hshape
        clear hm hf
        rcases Bool.eq_false_or_eq_true (decide (fs < s)) with hlt | hlt
        · rw [hlt] at hnext
          go_wp2_with fail
          go_quiet (fail)
          go_wp2_with (at_builtin; go_loud (refine wpList_append_rd rfl _ _ _ rfl w.heap.size 3 i0 _ 1 8 Try.underlying42 HI.out HZ0.out HZ1.out HZ2.out rfl (by omega) (.slice oa p.length oc) p.length (p.map (Value.int .i64)) rfl (by with_reducible (repeat (first | exact HR4.out | apply own_drewN | apply own_drew | apply World.ownsRow.alloc | (refine own_setCell ?_ (by first | (simp; done) | omega | (simp; omega)) _)))) (some ⟨w3.heap.size + 1, 0, none⟩) 1 1 [.int .i64 o] rfl (srcAt_one (by with_reducible (repeat (first | (refine box_at _ #[.int .i64 o] _ ?_; first | rfl | (simp; done)) | apply Box.drewN))) rfl) (one_ok _ _) (by unfold maxLen; omega) (by omega) (by simp; omega) ?_); intro v' w4 hown3 hgrow hloc)
          have hB3 : Below w.heap.size w w4 := Below.grown (by have := BW3.out; exact (by with_reducible (repeat (first | (refine below_drewN ?_ _) | (refine Below.drew ?_) | (refine below_alloc ?_ (by first | omega | (simp; done) | (simp; omega)) _) | (refine Below.setCell ?_ (by first | omega | (simp; done) | (simp; omega)) _) | exact Below.refl _ _ | assumption | (refine below_call ?_ (by first | omega | (simp; done) | (simp; omega)) (by assumption)))))) hgrow (by simp; omega) (fun j hj => (HR4.out.lt j hj).1)
          have HB3 := Lib.hid hB3; have HO3 := Lib.hid hown3
          clear hB3 hgrow hown3 hloc
          go_wp2_with fail
          go_roundw
          case rel =>
            refine ⟨k + 1, by omega, by go_num, ?_, HB3.out⟩
            rw [hnext.out]; simp only [if_true]
            have := HO3.out
            rw [map_snoc] at this
            simpa using this
          case measure => simp [intOf]; omega
        · rw [hlt] at hnext
          go_wp2_with fail
          go_quiet (fail)
          go_wp2_with fail
          go_roundw
          case rel =>
            refine ⟨k + 1, by omega, by go_num, ?_, by have := BW3.out; exact (by with_reducible (repeat (first | (refine below_drewN ?_ _) | (refine Below.drew ?_) | (refine below_alloc ?_ (by first | omega | (simp; done) | (simp; omega)) _) | (refine Below.setCell ?_ (by first | omega | (simp; done) | (simp; omega)) _) | exact Below.refl _ _ | assumption | (refine below_call ?_ (by first | omega | (simp; done) | (simp; omega)) (by assumption)))))⟩
            rw [hnext.out]; simp only [Bool.false_eq_true, if_false]
            exact (by with_reducible (repeat (first | exact HR4.out | apply own_drewN | apply own_drew | apply World.ownsRow.alloc | (refine own_setCell ?_ (by first | (simp; done) | omega | (simp; omega)) _))))
          case measure => simp [intOf]; omega
    · obtain rfl : k = n := by omega
      have hd : decide ((k : Int) < (k : Int)) = false := by simp
      go_wp2_with fail
      go_ret
      rw [List.take_of_length_le (by have := HN.out; omega)] at hR
      rw [HR.out]
      exact ⟨_, rfl, OwnR.of hR, hB⟩
end Go.Proofs.Ytidcpdolcbbnjaa
