/- l11One, l11Copy: announcements in new memory. -/
import Derived.Test.YtnnkdoomjkccgaaMd
namespace Go.Proofs.Ytnnkdoomjkccgaa
set_option linter.unusedSimpArgs false
set_option linter.unusedVariables false
open Go.RowKit

set_option maxRecDepth 100000 in
set_option maxHeartbeats 400000 in
theorem l11One_any (o s : Int) (es : List (Int × Int)) (v : Value) (w : World) (hv : PairsAt w v es) (hl : es.length ≤ 1048576) : Calls Try.prog 98 #[.agg #[.int .i64 o, .int .i64 s, v]] w (MadeLsa w o s es) := by
  obtain ⟨A, m, c, rfl, hm, hsrc⟩ := srcAt_pairs hv
  obtain ⟨i0, hi, hz0, hz1, hz2⟩ := info_parts infoE
  have HS := Lib.hid hsrc
  have HM := Lib.hid hm
  have hl2 : m ≤ 1048576 := by omega
  have HI := Lib.hid hi; have HZ0 := Lib.hid hz0; have HZ1 := Lib.hid hz1; have HZ2 := Lib.hid hz2
  clear hv hsrc hm hi hz0 hz1 hz2 hl
  go_enter Try.func98, Try.ntmps98
  go_wp2_with (at_builtin; refine wpList_append_rd rfl _ _ _ rfl (w.heap.size + 1 + 1) 43 i0 _ 2 16 Try.underlying39 HI.out HZ0.out HZ1.out HZ2.out rfl (by omega) (.slice (some ⟨w.heap.size + 1 + 1, 0, none⟩) 0 0) 0 [] rfl (by with_reducible (repeat (first | exact own_new (g := w.heap.size + 1 + 1) (by simp) (Nat.le_refl _) | apply World.ownsRow.alloc))) A m c (cells2 es) rfl (HS.out.below (by with_reducible (repeat (first | (refine below_drewN ?_ _) | (refine Below.drew ?_) | (refine below_alloc ?_ (by first | omega | (simp; done) | (simp; omega)) _) | (refine Below.setCell ?_ (by first | omega | (simp; done) | (simp; omega)) _) | exact Below.refl _ _ | assumption | (refine below_call ?_ (by first | omega | (simp; done) | (simp; omega)) (by assumption))))) (Nat.le_refl _)) (cells2_one _) (by unfold maxLen; omega) (by omega) (by simp) ?_; intro v' w1 hown hgrow hloc; (have b1 : Box w1 w.heap.size #[.int .i64 o, .int .i64 s, .slice A m c] 41 := Box.grown (by with_reducible (repeat (first | (refine box_at _ _ _ ?_; first | rfl | (simp; done)) | apply Box.alloc))) hgrow (fun j hj => by simp [Value.ownBlock] at hj; omega)); (have b2 : Box w1 (w.heap.size + 1) #[.int .i64 0, .int .i64 0, .slice none 0 0] 41 := Box.grown (by with_reducible (repeat (first | (refine box_at _ _ _ ?_; first | rfl | (simp; done)) | apply Box.alloc))) hgrow (fun j hj => by simp [Value.ownBlock] at hj; omega)); (have hB : Below w.heap.size w w1 := Below.grown (by with_reducible (repeat (first | (refine below_drewN ?_ _) | (refine Below.drew ?_) | (refine below_alloc ?_ (by first | omega | (simp; done) | (simp; omega)) _) | (refine Below.setCell ?_ (by first | omega | (simp; done) | (simp; omega)) _) | exact Below.refl _ _ | assumption | (refine below_call ?_ (by first | omega | (simp; done) | (simp; omega)) (by assumption))))) hgrow (by simp; omega) (fun j hj => by simp [Value.ownBlock] at hj; omega)); obtain ⟨a', c', rfl⟩ := own_slice hown; obtain ⟨c0, c1, c2, f0, f1, f2, l0⟩ := box3 b1; obtain ⟨d0, d1, d2, g0, g1, g2, l1⟩ := box3 b2)
  have HO := Lib.hid hown
  have HBB := Lib.hid hB
  clear b1 b2 hown hgrow hloc hB
  go_wp2_with fail
  apply bodyPost_ret
  · simp [results, Try.results98, go_sem, d0, d1, d2, g0, g1, g2]
    rfl
  · rfl
  · have hB := HBB.out
    refine ⟨_, rfl, (OwnR.of (lo := w.heap.size + 1 + 1) ?_).mono (by omega) (Nat.le_refl _), (by with_reducible (repeat (first | (refine below_drewN ?_ _) | (refine Below.drew ?_) | (refine below_alloc ?_ (by first | omega | (simp; done) | (simp; omega)) _) | (refine Below.setCell ?_ (by first | omega | (simp; done) | (simp; omega)) _) | exact Below.refl _ _ | assumption | (refine below_call ?_ (by first | omega | (simp; done) | (simp; omega)) (by assumption)))))⟩
    rw [← HM.out]
    have := HO.out
    simp only [Nat.zero_add, List.nil_append] at this ⊢
    exact (by with_reducible (repeat (first | exact this | apply own_drewN | apply own_drew | apply World.ownsRow.alloc | (refine own_setCell ?_ (by first | (simp; done) | omega | (simp; omega)) _))))

set_option maxHeartbeats 400000 in
theorem l11Copy_any (db : List LsaD) (v : Value) (w : World) (hv : LsasAt w v db) (hsm : SmallDb db) : Calls Try.prog 97 #[v] w (MadeLs w db) := by
  obtain ⟨a, cap, b, off, rfl, hcap, hmax, ha, hc⟩ := hv
  unfold maxLen at hmax
  obtain ⟨i0, hi, hz0, hz1, hz2⟩ := info_parts infoL
  obtain ⟨n, hn⟩ : ∃ n, n = db.length := ⟨_, rfl⟩
  have hn2 : n ≤ 1048576 := by rw [hn]; exact hsm.1
  rw [← hn] at hcap ha ⊢
  have HN := Lib.hid hn; clear hn
  have HC := Lib.hid hc; clear hc
  have HA := Lib.hid ha; clear ha
  have HSM := Lib.hid hsm.2; clear hsm
  have HI := Lib.hid hi; have HZ0 := Lib.hid hz0; have HZ1 := Lib.hid hz1; have HZ2 := Lib.hid hz2
  clear hi hz0 hz1 hz2
  have hR0 : RowLs (w.alloc (.cells #[] 41)) w.heap.size (.slice (some ⟨w.heap.size, 0, none⟩) 0 0) [] [] := rowLs_new rfl (Nat.le_refl _)
  have HR0 := Lib.hid hR0; clear hR0
  go_enter Try.func97, Try.ntmps97
  go_wp2_with fail
  go_loopw [3, 4] (fun ov i wr => ∃ (k : Nat) (us : List Value), k ≤ n ∧ i = .int .i64 k ∧ RowLs wr w.heap.size ov (db.take k) us ∧ Below w.heap.size w wr) (fun _ i _ => n - (intOf i).toNat)
  case atStart => exact ⟨0, [], Nat.zero_le _, rfl, HR0.out, (by with_reducible (repeat (first | (refine below_drewN ?_ _) | (refine Below.drew ?_) | (refine below_alloc ?_ (by first | omega | (simp; done) | (simp; omega)) _) | (refine Below.setCell ?_ (by first | omega | (simp; done) | (simp; omega)) _) | exact Below.refl _ _ | assumption | (refine below_call ?_ (by first | omega | (simp; done) | (simp; omega)) (by assumption)))))⟩
  case round =>
    obtain ⟨k, us, hk, rfl, hR, hB⟩ := hrel
    clear HR0
    by_cases hkn : k < n
    · obtain ⟨⟨o, s, es⟩, hx⟩ := at_lt HN.out hkn
      have ha := HA.out (by omega)
      subst ha
      obtain ⟨u, d0, d1, d2, hu⟩ := HC.out k o s es hx
      obtain ⟨ua, un, uc, rfl⟩ := hu.form
      have hb := cell_lt d0
      have e0 := cell_below hB d0 hb
      have e1 := cell_below hB d1 hb
      have e2 := cell_below hB d2 hb
      have hkI : (k : Int) < (n : Int) := by omega
      have HX := Lib.hid hx
      have HU := Lib.hid (hu.below hB (Nat.le_refl _))
      have HES := Lib.hid (HSM.out k _ hx)
      have HRR := Lib.hid hR; have HB := Lib.hid hB
      obtain ⟨oa, oc, rfl⟩ := own_slice hR.1
      obtain ⟨p, hp⟩ : ∃ p, db.take k = p := ⟨_, rfl⟩
      have hlen : p.length = k := by rw [← hp, List.length_take]; have := HN.out; omega
      rw [hp] at HRR
      rw [hp]
      have HP := Lib.hid hp; have HLN := Lib.hid hlen
      clear hx hu hR hB d0 d1 d2 hp hlen
      go_wp2_with fail
      refine (l11One_any o s es _ _ HU.out HES.out).mono ?_
      rintro e w2 ⟨u2, rfl, hO2, hb2⟩
      obtain ⟨xa, xn, xc, rfl⟩ := (own_pairs hO2).form
      have hown : w2.ownsRow w.heap.size 41 3 (.slice oa p.length oc) p.length (cellsL p us) := (HRR.out.below hb2).1
      have hs2 := hb2.size
      have hs1 := HB.out.size
      have HO2 := Lib.hid hO2; have HB2 := Lib.hid hb2; have HOW := Lib.hid hown
      clear hO2 hb2 hown
      go_wp2_with (at_builtin; refine wpList_append_rd rfl _ _ _ rfl w.heap.size 41 i0 _ 3 40 Try.underlying29 HI.out HZ0.out HZ1.out HZ2.out rfl (by omega) (.slice oa p.length oc) p.length (cellsL p us) rfl (HOW.out.alloc _) (some ⟨w2.heap.size, 0, none⟩) 1 1 [.int .i64 o, .int .i64 s, .slice xa xn xc] rfl (srcAt_one (box_new w2 _ _) rfl) (by simp [Value.oneCell']) (by unfold maxLen; have := HLN.out; omega) (by have := HLN.out; omega) (by simp; omega) ?_; intro v' w3 hown3 hgrow hloc)
      have hR3 := RowLs.snoc HRR.out HB2.out HO2.out hs1 hown3 hgrow
      have hB3 : Below w.heap.size w w3 := Below.grown ((HB.out.trans (HB2.out.mono hs1)).alloc (by omega) _) hgrow (by simp; omega) (fun j hj => (HOW.out.lt j hj).1)
      have HR3 := Lib.hid hR3; have HB3 := Lib.hid hB3
      clear hR3 hB3 hgrow hown3 hloc
      go_wp2_with fail
      go_roundw
      case rel =>
        refine ⟨k + 1, us ++ [.slice xa xn xc], by omega, by go_num, ?_, HB3.out⟩
        rw [take_snoc_of HX.out, HP.out]
        exact HR3.out
      case measure => simp [intOf]; omega
    · obtain rfl : k = n := by omega
      go_wp2_with fail
      go_ret
      rw [List.take_of_length_le (by have := HN.out; omega)] at hR
      exact ⟨_, us, rfl, hR.own, hB⟩
end Go.Proofs.Ytnnkdoomjkccgaa
