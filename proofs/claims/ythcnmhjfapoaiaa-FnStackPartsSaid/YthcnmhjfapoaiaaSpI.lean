/- The shortest path over the smallest next hops: shortestPath of the program: shP. -/
import Derived.Test.YthcnmhjfapoaiaaSpS
import Derived.Deep.RegionHeld3
namespace Go.Proofs.Ythcnmhjfapoaiaa
set_option linter.unusedSimpArgs false
set_option linter.unusedVariables false
open Go.RowKit

set_option maxRecDepth 100000 in
set_option maxHeartbeats 4000000 in
theorem iPath (n : Int) (ls : List LinkD) (a b : Int) (v : Value) (w : World) (hv : TriplesAt w v ls) (h : GOk n ls) (ha : nd n.toNat a) (hb : nd n.toNat b) :
    Calls Try.prog 73 #[.agg #[.int .i64 n, v], .int .i64 a, .int .i64 b] w (MadeInts w (shP n ls a b)) := by
  have HV := Lib.hid hv
  obtain ⟨va, vm, vcap, rfl⟩ := hv.form
  have hn1 := h.n1
  have hn8 := h.n8
  have HG := Lib.hid h; have HA := Lib.hid ha; have HB := Lib.hid hb
  obtain ⟨i0, hi, hz0, hz1, hz2⟩ := info_parts infoI
  have HI := Lib.hid hi; have HZ0 := Lib.hid hz0; have HZ1 := Lib.hid hz1; have HZ2 := Lib.hid hz2
  clear h ha hb hv hi hz0 hz1 hz2
  have hai := HG.out.nN.1 HA.out
  obtain ⟨ha0, ha1⟩ := hai
  obtain ⟨d, hd⟩ : ∃ d, distL n ls b = d := ⟨_, rfl⟩
  have HD := Lib.hid hd
  have HL : Hid (d.length = n.toNat) := Lib.hid (by rw [← hd]; exact distL_len n ls b)
  obtain ⟨F, hF⟩ : ∃ F, atD d a = F := ⟨_, rfl⟩
  have HF := Lib.hid hF
  have HDF : Hid (distG n ls b a = F) := Lib.hid (by unfold distG; rw [hd, hF])
  have had : a < (d.length:Int) := by have := HL.out; omega
  clear hd hF
  go_enter Try.func73, Try.ntmps73
  go_wp2_with fail
  refine (iDist n ls b _ _ (HV.out.below (by with_reducible (repeat (first | (refine below_drewN ?_ _) | (refine Below.drew ?_) | (refine below_alloc ?_ (by first | omega | (simp; done) | (simp; omega)) _) | (refine Below.setCell ?_ (by first | omega | (simp; done) | (simp; omega)) _) | exact Below.refl _ _ | assumption | (refine below_call ?_ (by first | omega | (simp; done) | (simp; omega)) (by assumption))))) (Nat.le_refl _)) HG.out HB.out).mono ?_
  rintro e w1 ⟨v1, rfl, hO, hb⟩
  have G := Lib.hid (Box.call (b := w.heap.size) (c := #[.int .i64 n, .slice va vm vcap]) (t := 30) hb (by with_reducible (repeat (first | (refine box_at _ _ _ ?_; first | rfl | (simp; done)) | apply Box.alloc | apply Box.drewN | apply Box.drew))))
  obtain ⟨G_0, G_1, G_2, G_3, G_4⟩ := box2 G.out
  have BW := Lib.hid (below_call (B := w.heap.size) (a := w) (by with_reducible (repeat (first | (refine below_drewN ?_ _) | (refine Below.drew ?_) | (refine below_alloc ?_ (by first | omega | (simp; done) | (simp; omega)) _) | (refine Below.setCell ?_ (by first | omega | (simp; done) | (simp; omega)) _) | exact Below.refl _ _ | assumption | (refine below_call ?_ (by first | omega | (simp; done) | (simp; omega)) (by assumption))))) (Nat.le_refl _) hb)
  rw [HD.out] at hO
  obtain ⟨g1, c1, hgc, hlo1⟩ := own_pos hO.1 (by omega)
  subst hgc
  obtain ⟨q1, _⟩ := row_at hO.1 rfl (show nd d.length a by rw [HL.out]; exact HA.out)
  rw [HF.out] at q1
  clear hb hO hlo1
  by_cases hF0 : F < 0
  · have t1 : decide (F < 0) = true := by simpa using hF0
    have HP : Hid (shP n ls a b = []) := Lib.hid (by unfold shP; rw [if_neg (by rw [HDF.out]; omega)])
    go_wp2_with fail
    go_ret
    rw [MadeInts, HP.out]
    exact ⟨_, rfl, ⟨⟨rfl, .inl ⟨rfl, rfl⟩⟩, fun g hg => by simp [Value.ownBlock] at hg⟩, BW.out⟩
  have t1 : decide (F < 0) = false := by simpa using hF0
  have HP : Hid (shP n ls a b = a :: spG n ls a b) := Lib.hid (by unfold shP; rw [if_pos (by rw [HDF.out]; omega)])
  have H0 : Hid (0 ≤ distG n ls b a) := Lib.hid (by rw [HDF.out]; omega)
  go_wp2_with fail
  have hsz := BW.out.size
  have HR0 : Hid ((w1.alloc (.cells #[.int .i64 a] 3)).ownsRow (w.heap.size + 1) 3 1 (.slice (some ⟨w1.heap.size, 0, none⟩) 1 1) 1 (([a] : List Int).map (Value.int .i64))) := Lib.hid (own_lit1 (box_new _ _ _) G_4)
  have HB0 : Hid (Below w.heap.size w (w1.alloc (.cells #[.int .i64 a] 3))) := Lib.hid (BW.out.alloc hsz _)
  have HG0 := Lib.hid (G.out.alloc (.cells #[.int .i64 a] 3))
  clear G_0 G_1 G_2 G_3 G_4 q1 hsz
  go_loopw [1, 7] (fun fv ov wr => ∃ (x : Int) (q : List Int) (g c : Nat), fv = .int .i64 x ∧ nd n.toNat x ∧ 0 ≤ distG n ls b x ∧ ov = .slice (some ⟨g, 0, none⟩) (q.length + 1) c ∧ wr.ownsRow (w.heap.size + 1) 3 1 ov (q.length + 1) ((a :: q).map (Value.int .i64)) ∧ spG n ls a b = q ++ spG n ls x b ∧ Below w.heap.size w wr ∧ Box wr w.heap.size #[.int .i64 n, .slice va vm vcap] 30) (fun fv _ _ => rk n.toNat (distG n ls b) (intOf fv))
  case atStart => exact ⟨a, [], w1.heap.size, 1, rfl, HA.out, H0.out, rfl, HR0.out, rfl, HB0.out, HG0.out⟩
  case round =>
    obtain ⟨x, q, g, c, rfl, hx, hx0, rfl, hR, hq, hBl, hG⟩ := hrel
    clear HR0 HB0 HG0 BW G
    have HX := Lib.hid hx; have HX0 := Lib.hid hx0; have HR := Lib.hid hR; have HQ := Lib.hid hq; have HBL := Lib.hid hBl; have HGX := Lib.hid hG
    have hql : q.length ≤ 8 := by
      have h1 := spG_len n ls a b
      rw [hq, List.length_append] at h1
      omega
    obtain ⟨G_0, G_1, G_2, G_3, G_4⟩ := box2 hG
    clear hx hx0 hR hq hBl hG
    by_cases hxb : x = b
    · subst hxb
      have t0 : (x != x) = false := by simp
      go_wp2_with fail
      go_ret
      rw [HP.out, HQ.out, sp_end hn1, List.append_nil]
      exact ⟨_, rfl, (OwnR.of HR.out).mono (by omega) (Nat.le_refl _), HBL.out⟩
    have t0 : (x != b) = true := by simpa using hxb
    obtain ⟨m, t, hh, hsp, hm, hm0, hrk⟩ := sp_step HG.out HX.out HB.out HX0.out hxb
    have HH := Lib.hid hh; have HSP := Lib.hid hsp; have HM := Lib.hid hm; have HM0 := Lib.hid hm0; have HRK := Lib.hid hrk
    clear hxb hh hsp hm hm0 hrk
    go_wp2_with fail
    refine (iHops n ls x b _ _ (HV.out.below HBL.out (Nat.le_refl _)) HG.out HX.out HB.out).mono ?_
    rintro e w2 ⟨v2, rfl, hO, hb⟩
    rw [HH.out] at hO
    obtain ⟨g2, c2, hgc, hlo2⟩ := own_pos hO.1 (by simp)
    subst hgc
    obtain ⟨r0, _⟩ := own_at (q := m :: t) (k := 0) hO.1 rfl
    have tl : ((((m :: t).length : Nat) : Int) == 0) = false := by simp only [List.length_cons, beq_eq_false_iff_ne]; omega
    have tl2 : (0:Int) < (((m :: t).length : Nat) : Int) := by simp only [List.length_cons]; omega
    obtain ⟨L, hL⟩ : ∃ L, (m :: t).length = L := ⟨_, rfl⟩
    rw [hL] at tl tl2 ⊢
    have HB2 := Lib.hid (HBL.out.trans (hb.mono HBL.out.size))
    have HR2 := Lib.hid (((OwnR.of HR.out).below hb (Nat.le_refl _)).1)
    have HG2 := Lib.hid (HGX.out.below hb HGX.out.lt)
    have hs3 := HB2.out.size
    have hws := HG2.out.lt
    clear hb HR HBL HGX hO hL G_0 G_1 G_2 G_3 G_4
    go_wp2_with (at_builtin; refine wpList_append_rd rfl _ _ _ rfl (w.heap.size + 1) 3 i0 _ 1 8 Try.underlying25 HI.out HZ0.out HZ1.out HZ2.out rfl (by omega) (.slice (some ⟨g, 0, none⟩) (q.length + 1) c) (q.length + 1) ((a :: q).map (Value.int .i64)) rfl (by with_reducible (repeat (first | exact HR2.out | apply own_drewN | apply own_drew | apply World.ownsRow.alloc | (refine own_setCell ?_ (by first | (simp; done) | omega | (simp; omega)) _)))) (some ⟨w2.heap.size, 0, none⟩) 1 1 [.int .i64 m] rfl (srcAt_one (box_new _ #[.int .i64 m] _) rfl) (one_ok _ _) (by unfold maxLen; omega) (by omega) (by simp; omega) ?_; intro v' w4 hown3 hgrow hloc)
    have hB3 : Below w.heap.size w w4 := Below.grown (by have := HB2.out; exact (by with_reducible (repeat (first | (refine below_drewN ?_ _) | (refine Below.drew ?_) | (refine below_alloc ?_ (by first | omega | (simp; done) | (simp; omega)) _) | (refine Below.setCell ?_ (by first | omega | (simp; done) | (simp; omega)) _) | exact Below.refl _ _ | assumption | (refine below_call ?_ (by first | omega | (simp; done) | (simp; omega)) (by assumption)))))) hgrow (by simp; omega) (fun j hj => by have := (HR2.out.lt j hj).1; omega)
    have hG3 := (HG2.out.alloc (.cells #[.int .i64 m] 3)).grown hgrow (fun j hj => by have := (HR2.out.lt j hj).1; omega)
    obtain ⟨g3, c3, rfl, hlo3⟩ := own_pos hown3 (by omega)
    have HB3 := Lib.hid hB3; have HR3 := Lib.hid hown3; have HG3 := Lib.hid hG3
    clear hB3 hgrow hown3 hloc hG3
    go_wp2_with fail
    go_roundw
    case rel =>
      refine ⟨m, q ++ [m], g3, c3, rfl, HM.out, HM0.out, ?_, ?_, ?_, HB3.out, HG3.out⟩
      · rw [List.length_append]; rfl
      · have := HR3.out
        rw [map_snoc] at this
        simpa using this
      · rw [HQ.out, HSP.out, List.append_assoc]; rfl
    case measure => exact HRK.out
end Go.Proofs.Ythcnmhjfapoaiaa
