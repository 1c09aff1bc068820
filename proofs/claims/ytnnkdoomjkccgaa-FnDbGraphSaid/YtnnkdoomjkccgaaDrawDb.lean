/- Draws of lists of announcements: l91Db, DrawDbMerge, DrawDbMissing, DrawAdjacencySync. -/
import Derived.Test.YtnnkdoomjkccgaaPut2
import Derived.Test.YtnnkdoomjkccgaaDrawL
import Derived.Test.YtnnkdoomjkccgaaDraw
namespace Go.Proofs.Ytnnkdoomjkccgaa
set_option linter.unusedSimpArgs false
set_option linter.unusedVariables false
open Go.RowKit

theorem TinyDb.nil : TinyDb [] := ⟨by simp, fun k d h => by simp at h⟩
def DrawDbPost (w : World) (B : Nat) (m : Int) (e : Ending) (w' : World) : Prop :=
  ∃ v db us, e = .returned v ∧ OwnLs w' w.heap.size w'.heap.size 41 43 v db us ∧ SmallDb db ∧ db.length ≤ 18 ∧ RdLe w' B (m + 400) ∧ w.grownBy w' (some B)
/-- What holds in the loop of l91Db. -/
def DbLoop (w : World) (B : Nat) (m : Int) (ov : Value) (k : Nat) (wr : World) : Prop :=
  ∃ db us, RowLs wr w.heap.size ov db us ∧ TinyDb db ∧ RdLe wr B (m + 1 + 40 * k) ∧ w.grownBy wr (some B)
set_option maxRecDepth 100000 in
set_option maxHeartbeats 1000000 in
theorem drawDb (B : Nat) (m : Int) (w : World) (h : RdLe w B m) (hm : m < 100000000000) : Calls Try.prog 51 #[.pointer (some ⟨B, 0, none⟩)] w (DrawDbPost w B m) := by
  obtain ⟨i0, hi, hz0, hz1, hz2⟩ := info_parts infoL
  have HI := Lib.hid hi; have HZ0 := Lib.hid hz0; have HZ1 := Lib.hid hz1; have HZ2 := Lib.hid hz2
  clear hi hz0 hz1 hz2
  have hB := rdLe_lt h
  have HRd := Lib.hid h
  have hr0 : RowLs (w.alloc (.cells #[] 41)) w.heap.size (.slice (some ⟨w.heap.size, 0, none⟩) 0 0) [] [] := rowLs_new rfl (Nat.le_refl _)
  have HR0 := Lib.hid hr0
  clear hr0
  go_enter Try.func51, Try.ntmps51
  go_wp2_with fail
  apply pick_op
  · (with_reducible (repeat (first | assumption | apply rdLe_alloc | apply rdLe_drewN | apply rdLe_drew | apply rdLe_set | (apply rdLe_setCell; rotate_left; (focus (first | omega | (simp; done) | (simp; omega)))))))
  · exact by omega
  intro n w1 n_0 n_1 w1_R w1_G
  have hr1 := HR0.out.keepOnly w1_G hB
  have hg1 := only_trans (only_alloc (only_refl w (some B)) (.cells #[] 41)) w1_G
  obtain ⟨N, rfl⟩ : ∃ N : Nat, n = (N : Int) := ⟨n.toNat, by omega⟩
  have hN8 : N ≤ 8 := by omega
  have HL0 : Hid (DbLoop w B m (.slice (some ⟨w.heap.size, 0, none⟩) 0 0) 0 w1) := Lib.hid ⟨[], [], hr1, TinyDb.nil, rdLe_mono w1_R (by omega), hg1⟩
  clear hr1 hg1 w1_G w1_R h HRd HR0 n_0 n_1
  go_wp2_with fail
  go_loopw [3, 5] (fun ov i wr => ∃ k : Nat, k ≤ N ∧ i = .int .i64 k ∧ DbLoop w B m ov k wr) (fun _ i _ => N - (intOf i).toNat)
  case atStart => exact ⟨0, Nat.zero_le _, rfl, HL0.out⟩
  case round =>
    obtain ⟨k, hk, rfl, db, us, hR, hT, hRd, hG⟩ := hrel
    clear HL0
    have hsz := hG.size
    have hBr := rdLe_lt hRd
    have HR := Lib.hid hR; have HT := Lib.hid hT; have HRd := Lib.hid hRd; have HG := Lib.hid hG
    obtain ⟨oa, oc, rfl⟩ := own_slice hR.1
    clear hR hT hRd hG
    by_cases hkn : k < N
    · have hkI : (k : Int) < (N : Int) := by omega
      go_wp2_with fail
      refine (drawLsa B (m + 1 + 40 * k) _ HRd.out (by omega)).mono ?_
      rintro e w2 ⟨o, s, u, es, rfl, hel, hO, hR2, hG2⟩
      have hs2 := hG2.size
      have HR2 := Lib.hid (HR.out.keepOnly hG2 hB)
      have HU := Lib.hid (own_pairs hO)
      have HG3 := Lib.hid (only_trans HG.out hG2)
      have HRd2 := Lib.hid hR2
      obtain ⟨ua, un, uc, rfl⟩ := HU.out.form
      clear hO hG2 hR2
      go_wp2_with fail
      refine (sDbPut db o s es _ _ _ HR2.out.own.at_ HU.out).mono ?_
      rintro e w3 ⟨r, us3, rfl, hO3, hb3⟩
      obtain ⟨⟨rdb, c⟩, hrc⟩ : ∃ r, putOf db (o, s, es) = r := ⟨_, rfl⟩
      rw [hrc] at hO3
      rw [hrc]
      have HRC := Lib.hid hrc
      have hs3 := hb3.size
      have HO3 := Lib.hid hO3
      have HR3 := Lib.hid (HR2.out.below hb3)
      have HRd3 := Lib.hid (rdLe_below HRd2.out hb3)
      have HG4 := Lib.hid (only_below HG3.out hb3)
      obtain ⟨ra, rc, rfl⟩ := own_slice hO3.row.1
      clear hb3 hO3 hrc
      rcases Bool.eq_false_or_eq_true (c == 0) with hc | hc
      · have HC := Lib.hid hc
        go_wp2_with fail
        go_roundw
        case rel =>
          refine ⟨k + 1, by omega, by go_num, rdb, us3, rowLs_of (HO3.out.mono (by omega) (Nat.le_refl _)), ?_, rdLe_mono HRd3.out (by omega), HG4.out⟩
          have h1 := HRC.out
          have h2 := putOf_tiny (db := db) (l := (o, s, es)) (by rw [h1]; simpa using HC.out)
          rw [h1] at h2
          exact h2
        case measure => simp [intOf]; omega
      · go_wp2_with fail
        go_roundw
        case rel => exact ⟨k + 1, by omega, by go_num, db, us, HR3.out, HT.out, rdLe_mono HRd3.out (by omega), HG4.out⟩
        case measure => simp [intOf]; omega
    · obtain rfl : k = N := by omega
      have hRd := HRd.out
      go_wp2_with fail
      apply pick_op
      · (with_reducible (repeat (first | assumption | apply rdLe_alloc | apply rdLe_drewN | apply rdLe_drew | apply rdLe_set | (apply rdLe_setCell; rotate_left; (focus (first | omega | (simp; done) | (simp; omega)))))))
      · exact by omega
      intro z w2 z_0 z_1 w2_R w2_G
      have HR2 := Lib.hid (HR.out.keepOnly w2_G hB)
      have HG2 := Lib.hid (only_trans HG.out w2_G)
      have hs2 := w2_G.size
      clear w2_G hRd
      have ht1 := HT.out.1
      rcases Bool.eq_false_or_eq_true (z == 0) with hz | hz
      rotate_left
      · go_wp2_with fail
        go_ret
        exact ⟨_, db, us, rfl, HR2.out.own, HT.out.small, by omega, rdLe_mono w2_R (by omega), HG2.out⟩
      · go_wp2_with fail
        refine (drawLsa B (m + 1 + 40 * k + 1) _ w2_R (by omega)).mono ?_
        rintro e w3 ⟨o, s, u, es, rfl, hel, hO, hR3, hG3⟩
        have hs3 := hG3.size
        obtain ⟨q1, q2⟩ := HR2.out.only hG3 hB
        have HQ1 := Lib.hid q1; have HQ2 := Lib.hid q2
        have HG4 := Lib.hid (only_trans HG2.out hG3)
        have HO := Lib.hid hO
        obtain ⟨ua, un, uc, rfl⟩ := (own_pairs hO).form
        clear q1 q2 hG3 hO
        go_wp2_with (at_builtin; refine wpList_append_rd rfl _ _ _ rfl w.heap.size 41 i0 _ 3 40 Try.underlying29 HI.out HZ0.out HZ1.out HZ2.out rfl (by omega) (.slice oa db.length oc) db.length (cellsL db us) rfl (HQ1.out.alloc _) (some ⟨w3.heap.size, 0, none⟩) 1 1 [.int .i64 o, .int .i64 s, .slice ua un uc] rfl (srcAt_one (box_new w3 _ _) rfl) (by simp [Value.oneCell']) (by unfold maxLen; omega) (by omega) (by simp; omega) ?_; intro v' w4 hown hgrow hloc)
        have hR4 := RowLs.snoc2 (o := o) (s := s) (es := es) HQ1.out HQ2.out HO.out (by omega) hs3 hown hgrow
        have hG5 := only_grown (only_alloc HG4.out _) hgrow (fun j hj => (HQ1.out.lt j hj).1)
        have hR5 := rdLe_grown (rdLe_alloc hR3 _) hgrow (fun j hj => by have := (HQ1.out.lt j hj).1; omega)
        have HR4 := Lib.hid hR4; have HG5 := Lib.hid hG5; have HR5 := Lib.hid hR5
        clear hR4 hG5 hR5 hgrow hown hloc
        go_wp2_with fail
        go_ret
        refine ⟨v', db ++ [(o, s, es)], us ++ [.slice ua un uc], rfl, HR4.out.own, ⟨by simp; omega, fun i d hd => ?_⟩, by simp; omega, rdLe_mono HR5.out (by omega), HG5.out⟩
        rcases Nat.lt_or_ge i db.length with h1 | h1
        · rw [List.getElem?_append_left h1] at hd
          have := HT.out.2 i d hd
          omega
        · rw [List.getElem?_append_right h1] at hd
          have hl := (List.getElem?_eq_some_iff.1 hd).1
          simp at hl
          have e : i - db.length = 0 := by omega
          rw [e] at hd
          simp at hd
          subst hd
          simp only
          omega
end Go.Proofs.Ytnnkdoomjkccgaa
