/- Copies of announcements in new memory: toLsa, toLsaS. -/
import Derived.Test.YtnnkdoomjkccgaaMake
import Derived.Test.YtnnkdoomjkccgaaSz
namespace Go.Proofs.Ytnnkdoomjkccgaa
set_option linter.unusedSimpArgs false
set_option linter.unusedVariables false
open Go.RowKit

theorem toLsa (o s : Int) (es : List (Int × Int)) (v : Value) (w : World) (hv : PairsAt w v es) (hl : es.length ≤ 1048576) :
    Calls Try.prog 40 #[.agg #[.int .i64 o, .int .i64 s, v]] w (MadeLsa w o s es) := by
  have hv1 : ∀ a b c, PairsAt (((w.alloc a).alloc b).alloc c) v es := fun a b c => hv.below ((((Below.refl _ _).alloc (Nat.le_refl _) _).alloc (by simp) _).alloc (by simp; omega) _) (Nat.le_refl _)
  have HV := Lib.hid hv1
  have HL := Lib.hid hl
  obtain ⟨va, vn, vc, rfl⟩ := hv.form
  clear hv hv1 hl
  go_enter Try.func40, Try.ntmps40
  go_wp2_with fail
  refine (toEndS es _ _ (HV.out _ _ _) HL.out).mono ?_
  rintro e w1 ⟨u, rfl, hO, hb⟩
  have B1 := (((box_new (w.alloc (.cells #[.int .i64 o, .int .i64 s, .slice va vn vc] 71)) #[.int .i64 0, .int .i64 0, .slice none 0 0] 41).alloc (.cells #[.int .i64 o, .int .i64 s, .slice none 0 0] 41)).below hb (by simp))
  have B2 := ((box_new ((w.alloc (.cells #[.int .i64 o, .int .i64 s, .slice va vn vc] 71)).alloc (.cells #[.int .i64 0, .int .i64 0, .slice none 0 0] 41)) #[.int .i64 o, .int .i64 s, .slice none 0 0] 41).below hb (by simp))
  simp only [World.size_alloc] at B1 B2
  have hW : Below w.heap.size w w1 := (Below.alloc (Below.alloc (Below.alloc (Below.refl w.heap.size w) (Nat.le_refl _) _) (by simp) _) (by simp; omega) _).trans (hb.mono (by simp; omega))
  obtain ⟨c0, c1, c2, f0, f1, f2, l1⟩ := box3 B1
  obtain ⟨d0, d1, d2, g0, g1, g2, l2⟩ := box3 B2
  have HO := Lib.hid hO
  have HW := Lib.hid hW
  have HB := Lib.hid hb
  clear B1 B2 hO hW hb
  obtain ⟨ua, un, uc, rfl⟩ : ∃ a n c, u = .slice a n c := (own_pairs HO.out).form
  go_wp2_with fail
  apply bodyPost_ret
  · simp [results, Try.results40, go_sem, c0, c1, c2, f0, f1, f2]
    rfl
  · rfl
  · have hW := HW.out
    have hO := HO.out
    simp only [World.size_alloc] at hO
    refine ⟨_, rfl, ?_, (by with_reducible (repeat (first | (refine below_drewN ?_ _) | (refine Below.drew ?_) | (refine below_alloc ?_ (by first | omega | (simp; done) | (simp; omega)) _) | (refine Below.setCell ?_ (by first | omega | (simp; done) | (simp; omega)) _) | exact Below.refl _ _ | assumption | (refine below_call ?_ (by first | omega | (simp; done) | (simp; omega)) (by assumption)))))⟩
    refine OwnR.mono (lo := w.heap.size + 1 + 1 + 1) (hi := w1.heap.size) ?_ (by omega) (by simp)
    with_reducible (repeat (first | exact hO | (refine OwnR.set ?_ (by first | (simp; done) | (simp; omega)) _)))

def LsaFill (w : World) (B n : Nat) (db : List LsaD) (k : Nat) (wr : World) : Prop := ∃ us, Filled wr B 41 (n * 3) (cellsL (db.take k) us) ∧ EndsOwn wr (B + 1) wr.heap.size 43 (db.take k) us ∧ Below B w wr
set_option maxHeartbeats 400000 in
theorem toLsaS (db : List LsaD) (v : Value) (w : World) (hv : LsasAt w v db) (hl : db.length ≤ 1048576) (hel : totalL db ≤ 1048576) : Calls Try.prog 11 #[v] w (MadeLs w db) := by
  obtain ⟨a, cap, b, off, rfl, hcap, hmax, ha, hc⟩ := hv
  unfold maxLen at hmax
  obtain ⟨i0, hi, hz0, hz1, hz2⟩ := info_parts infoL
  obtain ⟨n, hn⟩ : ∃ n, n = db.length := ⟨_, rfl⟩
  obtain ⟨B, hB⟩ : ∃ B, w.heap.size = B := ⟨_, rfl⟩
  rw [← hn] at hcap ha hl ⊢
  have hby : i0.bytes * n ≤ 281474976710656 := by rw [hz2]; omega
  have HN := Lib.hid hn; clear hn
  have HB := Lib.hid hB; clear hB
  have HC := Lib.hid hc; clear hc
  have HA := Lib.hid ha; clear ha
  have HL := Lib.hid hl; have HEL := Lib.hid hel
  clear hl hel
  have HI := Lib.hid hi; have HZ0 := Lib.hid hz0; have HZ1 := Lib.hid hz1; have HY := Lib.hid hby
  clear hi hz0 hz1 hz2 hby
  go_enter Try.func11, Try.ntmps11
  go_wp2_with (at_make; refine wpList_make_full _ rfl _ _ 29 rfl w.heap.size 41 i0 (.agg #[.int .i64 0, .int .i64 0, .slice none 0 0]) 3 Try.underlying29 HI.out HZ0.out HZ1.out _ _ _ _ n rfl rfl rfl rfl HY.out (by unfold maxLen; have := HL.out; omega) (Nat.le_refl _) ?_; intro w1 hown hgr)
  rw [HB.out]
  have hF := filled_made hown
  rw [HB.out] at hF
  have HF : Hid (LsaFill w B n db 0 w1) := Lib.hid ⟨[], hF, EndsOwn.nil _ _ _ _, by rw [← HB.out]; exact below_none hgr⟩
  clear hown hgr hF
  go_loopw [4] (fun i wr => ∃ k : Nat, k ≤ n ∧ i = .int .i64 k ∧ LsaFill w B n db k wr)
    (fun i _ => n - (intOf i).toNat)
  case atStart => exact ⟨0, Nat.zero_le _, rfl, HF.out⟩
  case round =>
    obtain ⟨k, hk, rfl, us, hf, hown, hb⟩ := hrel
    clear HF
    by_cases hkn : k < n
    · obtain ⟨⟨o, s, es⟩, hx⟩ := at_lt HN.out hkn
      have ha := HA.out (by omega)
      subst ha
      obtain ⟨p, d0, d1, d2, hp⟩ := HC.out k o s es hx
      obtain ⟨pa, pn, pc, rfl⟩ := hp.form
      have hbB : b < B := by rw [← HB.out]; exact cell_lt d0
      have e0 := cell_below hb d0 hbB
      have e1 := cell_below hb d1 hbB
      have e2 := cell_below hb d2 hbB
      have HP := Lib.hid (hp.below hb (by rw [HB.out]; exact Nat.le_refl _))
      have hesl : Hid (es.length ≤ 1048576) := Lib.hid (Nat.le_trans (len_le_total hx) HEL.out)
      have hlt := hf.lt
      have hne : b ≠ B := by omega
      have HX := Lib.hid hx
      have HF := Lib.hid hf; have HOW := Lib.hid hown; have HBW := Lib.hid hb
      clear hf hx d0 d1 d2 hp hown hb
      go_wp2_with fail
      refine (toLsa o s es _ _ HP.out hesl.out).mono ?_
      rintro e w2 ⟨u, rfl, hO, hb2⟩
      have hF2 := HF.out.below hb2 hlt
      obtain ⟨u0, g0⟩ := hF2.cell (k * 3) (by omega)
      obtain ⟨u1, g1⟩ := hF2.cell (k * 3 + 1) (by omega)
      obtain ⟨u2, g2⟩ := hF2.cell (k * 3 + 2) (by omega)
      have f0 := hF2.frozen (k * 3)
      have f1 := hF2.frozen (k * 3 + 1)
      have f2 := hF2.frozen (k * 3 + 2)
      have hlt2 := hF2.lt
      obtain ⟨ua, un, uc, rfl⟩ : ∃ a n c, u = .slice a n c := (own_pairs hO).form
      have HO := Lib.hid hO; have HF2 := Lib.hid hF2; have HB2 := Lib.hid hb2
      clear hO hF2 hb2
      go_wp2_with fail
      go_roundw
      case rel =>
        refine ⟨k + 1, by omega, by go_num, us ++ [.slice ua un uc], ?_, ?_, ?_⟩
        · have hul := HOW.out.len
          rw [take_snoc_of HX.out, cellsL_snoc _ _ _ _ _ _ hul]
          have hlen : (cellsL (db.take k) us).length = k * 3 := by rw [cellsL_len _ _ hul, List.length_take]; have := HN.out; omega
          have := ((HF2.out.set hlen.symm (by omega) (.int .i64 o)).set (i := k * 3 + 1) (by simp [hlen]) (by omega) (.int .i64 s)).set (i := k * 3 + 2) (by simp [hlen]) (by omega) (.slice ua un uc)
          simpa using this
        · rw [take_snoc_of HX.out]
          have h1 := (HOW.out.below HB2.out (Nat.le_refl _)).snoc (o := o) (s := s) HO.out (Nat.le_refl _) HB2.out.size (by omega)
          exact (((h1.set (p := ⟨B, k * 3, none⟩) (by simp) _).set (p := ⟨B, k * 3 + 1, none⟩) (by simp) _).set (p := ⟨B, k * 3 + 2, none⟩) (by simp) _).mono (Nat.le_refl _) (by simp)
        · exact (((HBW.out.trans (HB2.out.mono (by omega))).setCell (p := ⟨B, k * 3, none⟩) (by simp) _).setCell (p := ⟨B, k * 3 + 1, none⟩) (by simp) _).setCell (p := ⟨B, k * 3 + 2, none⟩) (by simp) _
      case measure => simp [intOf]; omega
    · obtain rfl : k = n := by omega
      go_wp2
      go_ret
      refine ⟨_, us, rfl, ?_, by rw [HB.out]; exact hb⟩
      rw [List.take_of_length_le (by have := HN.out; omega)] at hf hown
      have hlt := hf.lt
      rw [HB.out]
      refine ⟨?_, hown.mono (by omega) (Nat.le_refl _)⟩
      rw [← HN.out]
      exact hf.shut (by rw [cellsL_len _ _ hown.len, HN.out]) (Nat.le_refl _) hlt (Nat.le_refl _) (by unfold maxLen; have := HL.out; omega)
end Go.Proofs.Ytnnkdoomjkccgaa
