/- merge, DbMerge of the program and of the reference: what they return is mergeD, mergeOf, in new memory. -/
import Derived.Test.YtidcpdolcbbnjaaIPut
import Derived.Test.YtidcpdolcbbnjaaPureMerge
namespace Go.Proofs.Ytidcpdolcbbnjaa
open Go.RowKit

def MadeMerge (w : World) (r : List LsaD × Bool) (e : Ending) (w' : World) : Prop := ∃ v us, e = .returned (.tuple #[v, .bool r.2]) ∧ OwnLs w' w.heap.size w'.heap.size 26 69 v r.1 us ∧ Below w.heap.size w w'
theorem small_ok {db : List LsaD} (h : dbOk db = true) : SmallDb db := by
  obtain ⟨h1, h2⟩ := tiny_of_ok h
  exact ⟨by omega, fun k d hd => by have := h2 k d hd; omega⟩
theorem merge_take_ok {db other : List LsaD} (h1 : dbOk db = true) (h2 : dbOk other = true) (k : Nat) : dbOk (mergeD db (other.take k)) = true := mergeD_ok h1 fun d hd => ok_mem h2 (List.mem_of_mem_take hd)
theorem mergeD_take {db other : List LsaD} {k : Nat} {l : LsaD} (h : other[k]? = some l) : mergeD db (other.take (k + 1)) = (putD (mergeD db (other.take k)) l).1 := by rw [take_snoc_of h, mergeD_snoc]
theorem mergeOf_bad {db other : List LsaD} (h : (dbOk db && dbOk other) = false) : mergeOf db other = ([], false) := by simp [mergeOf, h]
theorem mergeOf_ok {db other : List LsaD} (h : dbOk db = true) (h2 : dbOk other = true) : mergeOf db other = (mergeD db other, true) := by simp [mergeOf, h, h2]
set_option maxRecDepth 100000 in
set_option maxHeartbeats 1000000 in
theorem merge_any (db other : List LsaD) (v u : Value) (w : World) (hv : LsasAt w v db) (hu : LsasAt w u other) (h1 : dbOk db = true) (h2 : dbOk other = true) : Calls Try.prog 51 #[v, u] w (MadeLs w (mergeD db other)) := by
  have HV := Lib.hid hv
  obtain ⟨va, vn, vc, rfl⟩ := hv.form
  obtain ⟨a, cap, b, off, rfl, hcap, hmax, ha, hc⟩ := hu
  unfold maxLen at hmax
  obtain ⟨n, hn⟩ : ∃ n, n = other.length := ⟨_, rfl⟩
  have hn2 : n ≤ 8 := by rw [hn]; exact dbOk_len h2
  rw [← hn] at hcap ha ⊢
  have HN := Lib.hid hn; clear hn
  have HC := Lib.hid hc; clear hc
  have HA := Lib.hid ha; clear ha
  have H1 := Lib.hid h1; have H2 := Lib.hid h2
  clear hv h1 h2
  go_enter Try.func51, Try.ntmps51
  go_wp2_with fail
  refine (copyDb_any db _ _ HV.out (small_ok H1.out)).mono ?_
  rintro e w1 ⟨r, us, rfl, hO, hb⟩
  have O1 : Hid (OwnLs w1 w.heap.size w1.heap.size 26 69 r (mergeD db (other.take 0)) us) := Lib.hid (by simpa [mergeD] using hO)
  have B1 := Lib.hid hb
  clear hO hb
  go_wp2_with fail
  go_loopw [5, 12] (fun ov i wr => ∃ (k : Nat) (us : List Value), k ≤ n ∧ i = .int .i64 k ∧ OwnLs wr w.heap.size wr.heap.size 26 69 ov (mergeD db (other.take k)) us ∧ Below w.heap.size w wr) (fun _ i _ => n - (intOf i).toNat)
  case atStart => exact ⟨0, us, Nat.zero_le _, rfl, O1.out, B1.out⟩
  case round =>
    clear O1 B1
    obtain ⟨k, us, hk, rfl, hR, hB⟩ := hrel
    obtain ⟨ra, rn, rc, rfl⟩ := hR.at_.form
    have HR := Lib.hid hR; have HB := Lib.hid hB
    clear hR hB
    by_cases hkn : k < n
    · obtain ⟨⟨o, s, es⟩, hx⟩ := at_lt HN.out hkn
      have ha := HA.out (by omega)
      subst ha
      obtain ⟨u, d0, d1, d2, hu⟩ := HC.out k o s es hx
      obtain ⟨ua, un, uc, rfl⟩ := hu.form
      have hb := cell_lt d0
      have e0 := cell_below HB.out d0 hb
      have e1 := cell_below HB.out d1 hb
      have e2 := cell_below HB.out d2 hb
      have hkI : (k : Int) < (n : Int) := by omega
      have HX := Lib.hid hx
      have HU := Lib.hid (hu.below HB.out (Nat.le_refl _))
      have hok := merge_take_ok H1.out H2.out k
      have hel : es.length ≤ 8 := lsaOk_len (ok_mem H2.out (List.mem_of_getElem? hx))
      have HOK := Lib.hid hok
      obtain ⟨m, hm⟩ : ∃ m, mergeD db (other.take k) = m := ⟨_, rfl⟩
      have HNX := Lib.hid (mergeD_take (db := db) hx)
      rw [hm] at HR HOK HNX
      clear hx hu hok d0 d1 d2 hm
      go_wp2_with fail
      have hal : Below wr.heap.size wr (wr.alloc (.cells #[.int .i64 o, .int .i64 s, .slice ua un uc] 26)) := below_alloc (Below.refl _ wr) (Nat.le_refl _) _
      refine (put_any m o s es _ _ _ (HR.out.at_.below hal (Nat.le_refl _)) (HU.out.below hal (Nat.le_refl _)) (dbOk_iff.1 HOK.out).2 (small_ok HOK.out) (by omega)).mono ?_
      obtain ⟨⟨p, pc⟩, hp⟩ : ∃ p, putD m (o, s, es) = p := ⟨_, rfl⟩
      rw [hp]
      have hnx : mergeD db (other.take (k + 1)) = p := by rw [HNX.out, hp]
      rintro e w2 ⟨v2, us2, rfl, hO2, hb2⟩
      have HNX2 := Lib.hid hnx
      have hsz := HB.out.size
      have HO2 := Lib.hid (hO2.mono (Nat.le_trans hsz hal.size) (Nat.le_refl _))
      have HB2 := Lib.hid (HB.out.trans ((hal.mono hsz).trans (hb2.mono (Nat.le_trans hsz hal.size))))
      obtain ⟨ya, yn, yc, rfl⟩ := HO2.out.at_.form
      clear hO2 hb2 hnx hp hal
      go_wp2_with fail
      go_roundw
      case rel =>
        refine ⟨k + 1, us2, by omega, by go_num, ?_, HB2.out⟩
        rw [HNX2.out]
        exact HO2.out
      case measure => simp [intOf]; omega
    · obtain rfl : k = n := by omega
      go_wp2_with fail
      go_ret
      have hR := HR.out
      rw [List.take_of_length_le (by have := HN.out; omega)] at hR
      exact ⟨_, us, rfl, hR, HB.out⟩
set_option maxRecDepth 100000 in
set_option maxHeartbeats 1000000 in
theorem iDbMerge (db other : List LsaD) (v u : Value) (w : World) (hv : LsasAt w v db) (hu : LsasAt w u other) : Calls Try.prog 23 #[v, u] w (MadeMerge w (mergeOf db other)) := by
  have HV := Lib.hid hv; have HU := Lib.hid hu
  obtain ⟨va, vn, vc, rfl⟩ := hv.form
  obtain ⟨ua, un, uc, rfl⟩ := hu.form
  have hnil : ∀ W : World, ∀ hi, OwnLs W w.heap.size hi 26 69 (.slice none 0 0) [] [] := fun W hi => ⟨own_nilE _ _ _ _ _, EndsOwn.nil _ _ _ _⟩
  have HNIL := Lib.hid hnil
  clear hnil hv hu
  rcases Bool.eq_false_or_eq_true (dbOk db) with h1 | h1
  rotate_left
  · have hp := mergeOf_bad (db := db) (other := other) (by rw [h1]; rfl)
    have HP := Lib.hid hp; have H1 := Lib.hid h1
    clear hp h1
    go_enter Try.func23, Try.ntmps23
    go_wp2_with fail
    refine (iDbValid db _ _ HV.out).mono ?_
    rw [H1.out]
    rintro e w1 ⟨rfl, hb⟩
    go_wp2_with fail
    go_ret2
    rw [HP.out]
    exact ⟨_, [], rfl, HNIL.out _ _, hb⟩
  rcases Bool.eq_false_or_eq_true (dbOk other) with h2 | h2
  all_goals
    have H1 := Lib.hid h1; have H2 := Lib.hid h2
    clear h1 h2
    go_enter Try.func23, Try.ntmps23
    go_wp2_with fail
    refine (iDbValid db _ _ HV.out).mono ?_
    rw [H1.out]
    rintro e w1 ⟨rfl, hb⟩
    have BW := Lib.hid hb
    clear hb
    go_wp2_with fail
    refine (iDbValid other _ _ (HU.out.below BW.out (Nat.le_refl _))).mono ?_
    rw [H2.out]
    rintro e w2 ⟨rfl, hb⟩
    have kk := Lib.hid (below_call (B := w1.heap.size) (a := w1) (by with_reducible (repeat (first | (refine below_drewN ?_ _) | (refine Below.drew ?_) | (refine below_alloc ?_ (by first | omega | (simp; done) | (simp; omega)) _) | (refine Below.setCell ?_ (by first | omega | (simp; done) | (simp; omega)) _) | exact Below.refl _ _ | assumption | (refine below_call ?_ (by first | omega | (simp; done) | (simp; omega)) (by assumption))))) (Nat.le_refl _) hb)
    replace BW := Lib.hid (BW.out.trans (kk.out.mono BW.out.size))
    clear hb kk
    go_wp2_with fail
  rotate_left
  · go_ret2
    rw [mergeOf_bad (by rw [H2.out]; simp)]
    exact ⟨_, [], rfl, HNIL.out _ _, BW.out⟩
  refine (merge_any db other _ _ _ (HV.out.below BW.out (Nat.le_refl _)) (HU.out.below BW.out (Nat.le_refl _)) H1.out H2.out).mono ?_
  rintro e w3 ⟨r, us, rfl, hO, hb⟩
  have hs := BW.out.size
  have HO := Lib.hid (hO.mono hs (Nat.le_refl _))
  have kk := Lib.hid (below_call (B := w2.heap.size) (a := w2) (by with_reducible (repeat (first | (refine below_drewN ?_ _) | (refine Below.drew ?_) | (refine below_alloc ?_ (by first | omega | (simp; done) | (simp; omega)) _) | (refine Below.setCell ?_ (by first | omega | (simp; done) | (simp; omega)) _) | exact Below.refl _ _ | assumption | (refine below_call ?_ (by first | omega | (simp; done) | (simp; omega)) (by assumption))))) (Nat.le_refl _) hb)
  replace BW := Lib.hid (BW.out.trans (kk.out.mono BW.out.size))
  clear hb kk hO
  go_wp2_with fail
  go_ret2
  rw [mergeOf_ok H1.out H2.out]
  exact ⟨r, us, rfl, HO.out, BW.out⟩
set_option maxRecDepth 100000 in
set_option maxHeartbeats 1000000 in
theorem l11Merge_any (db other : List LsaD) (v u : Value) (w : World) (hv : LsasAt w v db) (hu : LsasAt w u other) (h1 : dbOk db = true) (h2 : dbOk other = true) : Calls Try.prog 52 #[v, u] w (MadeLs w (mergeD db other)) := by
  have HV := Lib.hid hv
  obtain ⟨va, vn, vc, rfl⟩ := hv.form
  obtain ⟨a, cap, b, off, rfl, hcap, hmax, ha, hc⟩ := hu
  unfold maxLen at hmax
  obtain ⟨n, hn⟩ : ∃ n, n = other.length := ⟨_, rfl⟩
  have hn2 : n ≤ 8 := by rw [hn]; exact dbOk_len h2
  rw [← hn] at hcap ha ⊢
  have HN := Lib.hid hn; clear hn
  have HC := Lib.hid hc; clear hc
  have HA := Lib.hid ha; clear ha
  have H1 := Lib.hid h1; have H2 := Lib.hid h2
  clear hv h1 h2
  go_enter Try.func52, Try.ntmps52
  go_wp2_with fail
  refine (l11Copy_any db _ _ HV.out (small_ok H1.out)).mono ?_
  rintro e w1 ⟨r, us, rfl, hO, hb⟩
  have O1 : Hid (OwnLs w1 w.heap.size w1.heap.size 26 69 r (mergeD db (other.take 0)) us) := Lib.hid (by simpa [mergeD] using hO)
  have B1 := Lib.hid hb
  clear hO hb
  go_wp2_with fail
  go_loopw [5, 6] (fun ov i wr => ∃ (k : Nat) (us : List Value), k ≤ n ∧ i = .int .i64 k ∧ OwnLs wr w.heap.size wr.heap.size 26 69 ov (mergeD db (other.take k)) us ∧ Below w.heap.size w wr) (fun _ i _ => n - (intOf i).toNat)
  case atStart => exact ⟨0, us, Nat.zero_le _, rfl, O1.out, B1.out⟩
  case round =>
    clear O1 B1
    obtain ⟨k, us, hk, rfl, hR, hB⟩ := hrel
    obtain ⟨ra, rn, rc, rfl⟩ := hR.at_.form
    have HR := Lib.hid hR; have HB := Lib.hid hB
    clear hR hB
    by_cases hkn : k < n
    · obtain ⟨⟨o, s, es⟩, hx⟩ := at_lt HN.out hkn
      have ha := HA.out (by omega)
      subst ha
      obtain ⟨u, d0, d1, d2, hu⟩ := HC.out k o s es hx
      obtain ⟨ua, un, uc, rfl⟩ := hu.form
      have hb := cell_lt d0
      have e0 := cell_below HB.out d0 hb
      have e1 := cell_below HB.out d1 hb
      have e2 := cell_below HB.out d2 hb
      have hkI : (k : Int) < (n : Int) := by omega
      have HX := Lib.hid hx
      have HU := Lib.hid (hu.below HB.out (Nat.le_refl _))
      have hok := merge_take_ok H1.out H2.out k
      have hel : es.length ≤ 8 := lsaOk_len (ok_mem H2.out (List.mem_of_getElem? hx))
      have HOK := Lib.hid hok
      obtain ⟨m, hm⟩ : ∃ m, mergeD db (other.take k) = m := ⟨_, rfl⟩
      have HNX := Lib.hid (mergeD_take (db := db) hx)
      rw [hm] at HR HOK HNX
      clear hx hu hok d0 d1 d2 hm
      go_wp2_with fail
      refine (l11Put_any m o s es _ _ _ HR.out.at_ HU.out (dbOk_iff.1 HOK.out).2 (small_ok HOK.out) (by omega)).mono ?_
      obtain ⟨⟨p, pc⟩, hp⟩ : ∃ p, putD m (o, s, es) = p := ⟨_, rfl⟩
      rw [hp]
      have hnx : mergeD db (other.take (k + 1)) = p := by rw [HNX.out, hp]
      rintro e w2 ⟨v2, us2, rfl, hO2, hb2⟩
      have HNX2 := Lib.hid hnx
      have hsz := HB.out.size
      have HO2 := Lib.hid (hO2.mono hsz (Nat.le_refl _))
      have HB2 := Lib.hid (HB.out.trans (hb2.mono hsz))
      obtain ⟨ya, yn, yc, rfl⟩ := HO2.out.at_.form
      clear hO2 hb2 hnx hp
      go_wp2_with fail
      go_roundw
      case rel =>
        refine ⟨k + 1, us2, by omega, by go_num, ?_, HB2.out⟩
        rw [HNX2.out]
        exact HO2.out
      case measure => simp [intOf]; omega
    · obtain rfl : k = n := by omega
      go_wp2_with fail
      go_ret
      have hR := HR.out
      rw [List.take_of_length_le (by have := HN.out; omega)] at hR
      exact ⟨_, us, rfl, hR, HB.out⟩
set_option maxRecDepth 100000 in
set_option maxHeartbeats 1000000 in
theorem sDbMerge (db other : List LsaD) (v u : Value) (w : World) (hv : LsasAt w v db) (hu : LsasAt w u other) : Calls Try.prog 24 #[v, u] w (MadeMerge w (mergeOf db other)) := by
  have HV := Lib.hid hv; have HU := Lib.hid hu
  obtain ⟨va, vn, vc, rfl⟩ := hv.form
  obtain ⟨ua, un, uc, rfl⟩ := hu.form
  have hr0 := fun W : World => rowLs_new (w := W) (g := W.heap.size) (lo := w.heap.size) rfl
  have HR0 := Lib.hid hr0
  clear hr0 hv hu
  rcases Bool.eq_false_or_eq_true (dbOk db) with h1 | h1
  rotate_left
  · have hp := mergeOf_bad (db := db) (other := other) (by rw [h1]; rfl)
    have HP := Lib.hid hp; have H1 := Lib.hid h1
    clear hp h1
    go_enter Try.func24, Try.ntmps24
    go_wp2_with fail
    refine (sDbValid db _ _ HV.out).mono ?_
    rw [H1.out]
    rintro e w1 ⟨rfl, hb⟩
    have hs := hb.size
    go_wp2_with fail
    go_ret2
    rw [HP.out]
    exact ⟨_, [], rfl, (HR0.out w1 hs).own, hb.alloc hs _⟩
  rcases Bool.eq_false_or_eq_true (dbOk other) with h2 | h2
  all_goals
    have H1 := Lib.hid h1; have H2 := Lib.hid h2
    clear h1 h2
    go_enter Try.func24, Try.ntmps24
    go_wp2_with fail
    refine (sDbValid db _ _ HV.out).mono ?_
    rw [H1.out]
    rintro e w1 ⟨rfl, hb⟩
    have BW := Lib.hid hb
    clear hb
    go_wp2_with fail
    refine (sDbValid other _ _ (HU.out.below BW.out (Nat.le_refl _))).mono ?_
    rw [H2.out]
    rintro e w2 ⟨rfl, hb⟩
    have kk := Lib.hid (below_call (B := w1.heap.size) (a := w1) (by with_reducible (repeat (first | (refine below_drewN ?_ _) | (refine Below.drew ?_) | (refine below_alloc ?_ (by first | omega | (simp; done) | (simp; omega)) _) | (refine Below.setCell ?_ (by first | omega | (simp; done) | (simp; omega)) _) | exact Below.refl _ _ | assumption | (refine below_call ?_ (by first | omega | (simp; done) | (simp; omega)) (by assumption))))) (Nat.le_refl _) hb)
    replace BW := Lib.hid (BW.out.trans (kk.out.mono BW.out.size))
    clear hb kk
    go_wp2_with fail
  rotate_left
  · go_ret2
    rw [mergeOf_bad (by rw [H2.out]; simp)]
    have hs := BW.out.size
    exact ⟨_, [], rfl, (HR0.out w2 hs).own, BW.out.alloc hs _⟩
  refine (l11Merge_any db other _ _ _ (HV.out.below BW.out (Nat.le_refl _)) (HU.out.below BW.out (Nat.le_refl _)) H1.out H2.out).mono ?_
  rintro e w3 ⟨r, us, rfl, hO, hb⟩
  have hs := BW.out.size
  have HO := Lib.hid (hO.mono hs (Nat.le_refl _))
  have kk := Lib.hid (below_call (B := w2.heap.size) (a := w2) (by with_reducible (repeat (first | (refine below_drewN ?_ _) | (refine Below.drew ?_) | (refine below_alloc ?_ (by first | omega | (simp; done) | (simp; omega)) _) | (refine Below.setCell ?_ (by first | omega | (simp; done) | (simp; omega)) _) | exact Below.refl _ _ | assumption | (refine below_call ?_ (by first | omega | (simp; done) | (simp; omega)) (by assumption))))) (Nat.le_refl _) hb)
  replace BW := Lib.hid (BW.out.trans (kk.out.mono BW.out.size))
  clear hb kk hO
  go_wp2_with fail
  go_ret2
  rw [mergeOf_ok H1.out H2.out]
  exact ⟨r, us, rfl, HO.out, BW.out⟩
end Go.Proofs.Ytidcpdolcbbnjaa
