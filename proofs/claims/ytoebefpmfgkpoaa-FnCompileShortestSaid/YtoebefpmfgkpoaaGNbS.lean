/- GraphNeighbours of the reference, as the draws use it: some short list in new memory. -/
import Derived.Test.YtoebefpmfgkpoaaNb
namespace Go.Proofs.Ytoebefpmfgkpoaa
set_option linter.unusedSimpArgs false
set_option linter.unusedVariables false
open Go.RowKit

set_option maxRecDepth 100000 in
set_option maxHeartbeats 4000000 in
theorem sGNb (n : Int) (ls : List LinkD) (a : Int) (v : Value) (w : World) (hv : TriplesAt w v ls) :
    Calls Try.prog 88 #[.agg #[.int .i64 n, v], .int .i64 a] w fun e w' => ∃ l : List Int, l.length ≤ 8 ∧ MadeInts w l e w' := by
  have HV := Lib.hid hv
  obtain ⟨va, vm, vcap, rfl⟩ := hv.form
  obtain ⟨i0, hi, hz0, hz1, hz2⟩ := info_parts infoI
  have HI := Lib.hid hi; have HZ0 := Lib.hid hz0; have HZ1 := Lib.hid hz1; have HZ2 := Lib.hid hz2
  obtain ⟨gv, hgv⟩ : ∃ b, gOk n ls = b := ⟨_, rfl⟩
  have HGV := Lib.hid hgv
  clear hv hi hz0 hz1 hz2 hgv
  go_enter Try.func88, Try.ntmps88
  go_wp2_with fail
  have HR0 : Hid (((w.alloc (.cells #[.int .i64 n, .slice va vm vcap] 25)).alloc (.cells #[] 3)).ownsRow (w.heap.size + 1) 3 1 (.slice (some ⟨w.heap.size + 1, 0, none⟩) 0 0) 0 []) := Lib.hid (own_new (by simp) (by simp))
  have HB0 : Hid (Below w.heap.size w ((w.alloc (.cells #[.int .i64 n, .slice va vm vcap] 25)).alloc (.cells #[] 3))) := Lib.hid (by with_reducible (repeat (first | (refine below_drewN ?_ _) | (refine Below.drew ?_) | (refine below_alloc ?_ (by first | omega | (simp; done) | (simp; omega)) _) | (refine Below.setCell ?_ (by first | omega | (simp; done) | (simp; omega)) _) | exact Below.refl _ _ | assumption | (refine below_call ?_ (by first | omega | (simp; done) | (simp; omega)) (by assumption)))))
  have HG0 := Lib.hid ((box_new w #[.int .i64 n, .slice va vm vcap] 25).alloc (.cells #[] 3))
  go_loopw [5, 6] (fun ov i wr => ∃ (k g c : Nat) (l : List Int), k ≤ 8 ∧ i = .int .i64 k ∧ l.length ≤ k ∧ ov = .slice (some ⟨g, 0, none⟩) l.length c ∧ wr.ownsRow (w.heap.size + 1) 3 1 ov l.length (l.map (Value.int .i64)) ∧ Below w.heap.size w wr ∧ Box wr w.heap.size #[.int .i64 n, .slice va vm vcap] 25) (fun _ i _ => 8 - (intOf i).toNat)
  case atStart => exact ⟨0, w.heap.size + 1, 0, [], Nat.zero_le _, rfl, Nat.le_refl _, rfl, HR0.out, HB0.out, HG0.out⟩
  case round =>
    obtain ⟨k, g, c, l, hk, rfl, hlk, rfl, hR, hB, hG⟩ := hrel
    clear HR0 HB0 HG0
    have HR := Lib.hid hR; have HB := Lib.hid hB; have HGX := Lib.hid hG
    obtain ⟨G_0, G_1, G_2, G_3, G_4⟩ := box2 hG
    clear hR hB hG
    by_cases hk8 : k < 8
    · have t0 : decide ((k:Int) < 8) = true := by simp; omega
      go_wp2_with fail
      refine (sGraphValid n ls _ _ (HV.out.below HB.out (Nat.le_refl _))).mono ?_
      rw [HGV.out]
      rintro e w1 ⟨rfl, hb⟩
      have HB1 := Lib.hid (HB.out.trans (hb.mono HB.out.size))
      have HR1 := Lib.hid (((OwnR.of HR.out).below hb (Nat.le_refl _)).1)
      have HG1 := Lib.hid (HGX.out.below hb HGX.out.lt)
      clear hb HR HB HGX G_0 G_1 G_2 G_3 G_4
      cases gv with
      | false =>
        go_wp2_with fail
        go_ret
        exact ⟨l, by omega, _, rfl, (OwnR.of HR1.out).mono (by omega) (Nat.le_refl _), HB1.out⟩
      | true =>
        obtain ⟨G_0, G_1, G_2, G_3, G_4⟩ := box2 HG1.out
        go_wp2_with fail
        refine (sLinkOf n ls a (k:Int) _ _ (HV.out.below HB1.out (Nat.le_refl _))).mono ?_
        rintro e w2 ⟨rfl, hb⟩
        obtain ⟨y, hy⟩ : ∃ y, lkOf ls a (k:Int) = y := ⟨_, rfl⟩
        rw [hy]
        have HB2 := Lib.hid (HB1.out.trans (hb.mono HB1.out.size))
        have HR2 := Lib.hid (((OwnR.of HR1.out).below hb (Nat.le_refl _)).1)
        have HG2 := Lib.hid (HG1.out.below hb HG1.out.lt)
        clear hb HR1 HB1 HG1 G_0 G_1 G_2 G_3 G_4 hy
        have hs2 := HB2.out.size
        have hws := HG2.out.lt
        by_cases hy0 : 0 ≤ y
        · have t1 : decide (0 ≤ y) = true := by simpa using hy0
          go_wp2_with (at_builtin; refine wpList_append_rd rfl _ _ _ rfl (w.heap.size + 1) 3 i0 _ 1 8 Try.underlying26 HI.out HZ0.out HZ1.out HZ2.out rfl (by omega) (.slice (some ⟨g, 0, none⟩) l.length c) l.length (l.map (Value.int .i64)) rfl (by with_reducible (repeat (first | exact HR2.out | apply own_drewN | apply own_drew | apply World.ownsRow.alloc | (refine own_setCell ?_ (by first | (simp; done) | omega | (simp; omega)) _)))) (some ⟨w2.heap.size, 0, none⟩) 1 1 [.int .i64 (k:Int)] rfl (srcAt_one (box_new _ #[.int .i64 (k:Int)] _) rfl) (one_ok _ _) (by unfold maxLen; omega) (by omega) (by simp; omega) ?_; intro v' w4 hown3 hgrow hloc)
          have hB3 : Below w.heap.size w w4 := Below.grown (by have := HB2.out; exact (by with_reducible (repeat (first | (refine below_drewN ?_ _) | (refine Below.drew ?_) | (refine below_alloc ?_ (by first | omega | (simp; done) | (simp; omega)) _) | (refine Below.setCell ?_ (by first | omega | (simp; done) | (simp; omega)) _) | exact Below.refl _ _ | assumption | (refine below_call ?_ (by first | omega | (simp; done) | (simp; omega)) (by assumption)))))) hgrow (by simp; omega) (fun j hj => by have := (HR2.out.lt j hj).1; omega)
          have hG3 := (HG2.out.alloc (.cells #[.int .i64 (k:Int)] 3)).grown hgrow (fun j hj => by have := (HR2.out.lt j hj).1; omega)
          obtain ⟨g3, c3, rfl, hlo3⟩ := own_pos hown3 (by omega)
          have HB3 := Lib.hid hB3; have HR3 := Lib.hid hown3; have HG3 := Lib.hid hG3
          clear hB3 hgrow hown3 hloc hG3
          go_wp2_with fail
          go_roundw
          case rel =>
            refine ⟨k + 1, g3, c3, l ++ [(k:Int)], by omega, by go_num, by simp; omega, by simp, ?_, HB3.out, HG3.out⟩
            have := HR3.out
            rw [map_snoc] at this
            simpa using this
          case measure => simp [intOf]; omega
        · have t1 : decide (0 ≤ y) = false := by simpa using hy0
          go_wp2_with fail
          go_roundw
          case rel => exact ⟨k + 1, g, c, l, by omega, by go_num, by omega, rfl, HR2.out, HB2.out, HG2.out⟩
          case measure => simp [intOf]; omega
    · have t0 : decide ((k:Int) < 8) = false := by simp; omega
      go_wp2_with fail
      go_ret
      exact ⟨l, by omega, _, rfl, (OwnR.of HR.out).mono (by omega) (Nat.le_refl _), HB.out⟩
end Go.Proofs.Ytoebefpmfgkpoaa
