/- missing, DbMissing of the program and of the reference: both give missOf. -/
import Derived.Test.YtidcpdolcbbnjaaPlace
import Derived.Test.YtidcpdolcbbnjaaFind
import Derived.Test.YtidcpdolcbbnjaaDb
import Derived.Test.YtidcpdolcbbnjaaMd
namespace Go.Proofs.Ytidcpdolcbbnjaa
open Go.RowKit

theorem missB_no {db : List LsaD} {d : LsaD} (h : findD db d.1 = none) : missB db d = true := by simp [missB, h]
theorem missB_yes {db : List LsaD} {d old : LsaD} (h : findD db d.1 = some old) : missB db d = decide (old.2.1 < d.2.1) := by simp [missB, h]
set_option maxHeartbeats 1000000 in
theorem missing_any (db other : List LsaD) (v u : Value) (w : World) (hv : LsasAt w v db) (hu : LsasAt w u other) (hs : ascD db) (hdl : db.length ≤ 1048576) (hol : other.length ≤ 1048576) : Calls Try.prog 53 #[v, u] w (MadeInts w (missD db other)) := by
  have HV := Lib.hid hv
  obtain ⟨va, vcap, vb, voff, rfl, hvcap, hvmax, hva, hvc⟩ := hv
  obtain ⟨a, cap, b, off, rfl, hcap, hmax, ha, hc⟩ := hu
  unfold maxLen at hmax hvmax
  obtain ⟨i0, hi, hz0, hz1, hz2⟩ := info_parts infoI
  obtain ⟨n, hn⟩ : ∃ n, n = other.length := ⟨_, rfl⟩
  obtain ⟨nv, hnv⟩ : ∃ n, n = db.length := ⟨_, rfl⟩
  have HV : Hid (LsasAt w (.slice va nv vcap) db) := by rw [hnv]; exact HV
  rw [← hn] at hcap ha hol ⊢
  rw [← hnv] at hvcap hva ⊢
  have HN := Lib.hid hn; clear hn
  have HNV := Lib.hid hnv; clear hnv
  have HC := Lib.hid hc; clear hc
  have HA := Lib.hid ha; clear ha
  have HVC := Lib.hid hvc; clear hvc
  have HVA := Lib.hid hva; clear hva
  have HS := Lib.hid hs; clear hs
  have HDL := Lib.hid hdl; clear hdl
  have HI := Lib.hid hi; have HZ0 := Lib.hid hz0; have HZ1 := Lib.hid hz1; have HZ2 := Lib.hid hz2
  clear hi hz0 hz1 hz2
  have hR0 : World.ownsRow (w.alloc (.cells #[] 3)) w.heap.size 3 1 (.slice (some ⟨w.heap.size, 0, none⟩) 0 0) 0 [] := own_new rfl (Nat.le_refl _)
  have HR0 := Lib.hid hR0; clear hR0
  go_enter Try.func53, Try.ntmps53
  go_wp2_with fail
  go_loopw [5, 13] (fun ov i wr => ∃ (k : Nat), k ≤ n ∧ i = .int .i64 k ∧ wr.ownsRow w.heap.size 3 1 ov (missD db (other.take k)).length ((missD db (other.take k)).map (Value.int .i64)) ∧ Below w.heap.size w wr) (fun _ i _ => n - (intOf i).toNat)
  case atStart => exact ⟨0, Nat.zero_le _, rfl, HR0.out, (by with_reducible (repeat (first | (refine below_drewN ?_ _) | (refine Below.drew ?_) | (refine below_alloc ?_ (by first | omega | (simp; done) | (simp; omega)) _) | (refine Below.setCell ?_ (by first | omega | (simp; done) | (simp; omega)) _) | exact Below.refl _ _ | assumption | (refine below_call ?_ (by first | omega | (simp; done) | (simp; omega)) (by assumption)))))⟩
  case round =>
    obtain ⟨k, hk, rfl, hR, hB⟩ := hrel
    clear HR0
    by_cases hkn : k < n
    · obtain ⟨⟨o, s, es⟩, hx⟩ := at_lt HN.out hkn
      have ha := HA.out (by omega)
      subst ha
      obtain ⟨u, d0, d1, d2, hu⟩ := HC.out k o s es hx
      obtain ⟨ua, un, uc, rfl⟩ := hu.form
      have hb := cell_lt d0
      have e0 := cell_below hB d0 hb
      have e1 := cell_below hB d1 hb
      have e2 := cell_below hB d2 hb
      have hkI : (k : Int) < (n : Int) := by omega
      have HX := Lib.hid hx
      obtain ⟨oa, oc, rfl⟩ := own_slice hR
      have hml := missD_len db other k
      have HR := Lib.hid hR; have HB := Lib.hid hB
      obtain ⟨p, hp⟩ : ∃ p, missD db (other.take k) = p := ⟨_, rfl⟩
      rw [hp] at hml
      have HP := Lib.hid hp
      rw [hp] at HR
      rw [hp]
      clear hx hu hR hB d0 d1 d2 hp
      go_wp2_with fail
      refine (search_place db o _ _ HS.out (HV.out.below (HB.out.alloc HB.out.size (.cells #[.int .i64 o, .int .i64 s, .slice ua un uc] 26)) (Nat.le_refl _)) HDL.out).mono ?_
      rintro e w2 ⟨i, kn, rfl, hpl, hb2⟩
      have L := Lib.hid (Box.call (b := wr.heap.size) (c := #[.int .i64 o, .int .i64 s, .slice ua un uc]) (t := 26) hb2 (by with_reducible (repeat (first | (refine box_at _ _ _ ?_; first | rfl | (simp; done)) | apply Box.alloc | apply Box.drewN | apply Box.drew))))
      obtain ⟨L_0, L_1, L_2, L_3, L_4, L_5, L_6⟩ := box3 L.out
      have hB2 : Below w.heap.size w w2 := (HB.out.alloc HB.out.size _).trans (hb2.mono (by have := HB.out.size; simp; omega))
      have hR2 : w2.ownsRow w.heap.size 3 1 (.slice oa p.length oc) p.length (p.map (Value.int .i64)) := ((OwnR.of HR.out).below ((below_alloc (Below.refl _ wr) (Nat.le_refl _) _).trans (hb2.mono (by simp))) (Nat.le_refl _)).1
      have hs2 := hB2.size
      have hs3 := hb2.size
      have HR2 := Lib.hid hR2; have HB2 := Lib.hid hB2
      clear hb2 hR2 hB2
      have hil := hpl.1
      rw [← HNV.out] at hil
      obtain ⟨m, hm⟩ : ∃ m, missB db (o, s, es) = m := ⟨_, rfl⟩
      have hnext : Hid (missD db (other.take (k + 1)) = if m = true then p ++ [o] else p) := by show _ = _; rw [missD_snoc HX.out, HP.out, hm]
      cases kn
      · obtain rfl : m = true := by rw [← hm]; exact missB_no (d := (o, s, es)) (place_no HS.out hpl)
        clear hm hpl
        go_wp2_with fail
        go_quiet (fail)
        go_wp2_with (at_builtin; refine wpList_append_rd rfl _ _ _ rfl w.heap.size 3 i0 _ 1 8 Try.underlying42 HI.out HZ0.out HZ1.out HZ2.out rfl (by omega) (.slice oa p.length oc) p.length (p.map (Value.int .i64)) rfl (by with_reducible (repeat (first | exact HR2.out | apply own_drewN | apply own_drew | apply World.ownsRow.alloc | (refine own_setCell ?_ (by first | (simp; done) | omega | (simp; omega)) _)))) (some ⟨w2.heap.size, 0, none⟩) 1 1 [.int .i64 o] rfl (srcAt_one (box_new _ #[.int .i64 o] _) rfl) (one_ok _ _) (by unfold maxLen; omega) (by omega) (by simp; omega) ?_; intro v' w3 hown3 hgrow hloc)
        have hB3 : Below w.heap.size w w3 := Below.grown (by have := HB2.out; exact (by with_reducible (repeat (first | (refine below_drewN ?_ _) | (refine Below.drew ?_) | (refine below_alloc ?_ (by first | omega | (simp; done) | (simp; omega)) _) | (refine Below.setCell ?_ (by first | omega | (simp; done) | (simp; omega)) _) | exact Below.refl _ _ | assumption | (refine below_call ?_ (by first | omega | (simp; done) | (simp; omega)) (by assumption)))))) hgrow (by simp; omega) (fun j hj => (HR2.out.lt j hj).1)
        have HB3 := Lib.hid hB3; have HO3 := Lib.hid hown3
        clear hB3 hgrow hown3 hloc
        go_wp2_with fail
        go_roundw
        case rel =>
          refine ⟨k + 1, by omega, by go_num, ?_, HB3.out⟩
          rw [hnext.out]; simp only [if_true]
          have := HO3.out
          rw [map_snoc] at this
          simpa using this
        case measure => simp [intOf]; omega
      · obtain ⟨⟨xo, xs, xes⟩, hd, ho, hf⟩ := place_yes hpl
        obtain rfl : m = decide (xs < s) := by rw [← hm]; exact missB_yes (d := (o, s, es)) hf
        have hin : i < nv := by have := (List.getElem?_eq_some_iff.1 hd).1; have := HNV.out; omega
        have hva := HVA.out (by omega)
        subst hva
        obtain ⟨xu, x0, x1, x2, hxu⟩ := HVC.out i xo xs xes hd
        have hvb := cell_lt x0
        have y1 := cell_below HB2.out x1 hvb
        have hiI : (i : Int) < (nv : Int) := by omega
        have hi0 : (0 : Int) ≤ (i : Int) := by omega
        clear hm hpl x0 x1 x2 hxu hf hd
        rcases Bool.eq_false_or_eq_true (decide (xs < s)) with hlt | hlt
        · rw [hlt] at hnext
          go_wp2_with fail
          go_quiet (fail)
          go_wp2_with (at_builtin; refine wpList_append_rd rfl _ _ _ rfl w.heap.size 3 i0 _ 1 8 Try.underlying42 HI.out HZ0.out HZ1.out HZ2.out rfl (by omega) (.slice oa p.length oc) p.length (p.map (Value.int .i64)) rfl (by with_reducible (repeat (first | exact HR2.out | apply own_drewN | apply own_drew | apply World.ownsRow.alloc | (refine own_setCell ?_ (by first | (simp; done) | omega | (simp; omega)) _)))) (some ⟨w2.heap.size, 0, none⟩) 1 1 [.int .i64 o] rfl (srcAt_one (box_new _ #[.int .i64 o] _) rfl) (one_ok _ _) (by unfold maxLen; omega) (by omega) (by simp; omega) ?_; intro v' w3 hown3 hgrow hloc)
          have hB3 : Below w.heap.size w w3 := Below.grown (by have := HB2.out; exact (by with_reducible (repeat (first | (refine below_drewN ?_ _) | (refine Below.drew ?_) | (refine below_alloc ?_ (by first | omega | (simp; done) | (simp; omega)) _) | (refine Below.setCell ?_ (by first | omega | (simp; done) | (simp; omega)) _) | exact Below.refl _ _ | assumption | (refine below_call ?_ (by first | omega | (simp; done) | (simp; omega)) (by assumption)))))) hgrow (by simp; omega) (fun j hj => (HR2.out.lt j hj).1)
          have HB3 := Lib.hid hB3; have HO3 := Lib.hid hown3
          clear hB3 hgrow hown3 hloc
          go_wp2_with fail
          go_roundw
          case rel =>
            refine ⟨k + 1, by omega, by go_num, ?_, HB3.out⟩
            rw [hnext.out]; simp only [if_true]
            have := HO3.out
            rw [map_snoc] at this
            simpa using this
          case measure => simp [intOf]; omega
        · rw [hlt] at hnext
          go_wp2_with fail
          go_quiet (fail)
          go_wp2_with fail
          go_roundw
          case rel =>
            refine ⟨k + 1, by omega, by go_num, ?_, below_drewN HB2.out _⟩
            rw [hnext.out]; simp only [Bool.false_eq_true, if_false]
            exact (by with_reducible (repeat (first | exact HR2.out | apply own_drewN | apply own_drew | apply World.ownsRow.alloc | (refine own_setCell ?_ (by first | (simp; done) | omega | (simp; omega)) _))))
          case measure => simp [intOf]; omega
    · obtain rfl : k = n := by omega
      go_wp2_with fail
      go_ret
      rw [List.take_of_length_le (by have := HN.out; omega)] at hR
      exact ⟨_, rfl, OwnR.of hR, hB⟩
end Go.Proofs.Ytidcpdolcbbnjaa
