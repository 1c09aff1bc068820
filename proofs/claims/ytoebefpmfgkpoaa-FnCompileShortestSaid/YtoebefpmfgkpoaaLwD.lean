/- Distances, dist, GraphLink and ShortestPath for a valid graph; the costs of a packet. -/
import Derived.Test.YtoebefpmfgkpoaaLwS
import Derived.Test.YtoebefpmfgkpoaaStkCostS
namespace Go.Proofs.Ytoebefpmfgkpoaa
set_option linter.unusedSimpArgs false
set_option linter.unusedVariables false
open Go.RowKit

set_option maxRecDepth 100000 in
set_option maxHeartbeats 1000000 in
theorem iDistances (n : Int) (ls : List LinkD) (a : Int) (v : Value) (w : World) (hv : TriplesAt w v ls) (h : GOk n ls) (ha : nd n.toNat a) :
    Calls Try.prog 60 #[.agg #[.int .i64 n, v], .int .i64 a] w (MadeInts w (distL n ls a)) := by
  have HV := Lib.hid hv
  obtain ⟨va, vm, vc, rfl⟩ := hv.form
  have hi := h.nN.1 ha
  have hg : (gOk n ls && inB a 0 (n - 1)) = true := by rw [gOk_iff.2 h, inB_iff.2 (by omega)]; rfl
  have HG := Lib.hid h; have HA := Lib.hid ha; have HGN := Lib.hid hg
  clear hv h ha hg
  go_enter Try.func60, Try.ntmps60
  go_wp2_with fail
  refine (iHasNode n a ls _ _ (HV.out.below (by with_reducible (repeat (first | (refine below_drewN ?_ _) | (refine Below.drew ?_) | (refine below_alloc ?_ (by first | omega | (simp; done) | (simp; omega)) _) | (refine Below.setCell ?_ (by first | omega | (simp; done) | (simp; omega)) _) | exact Below.refl _ _ | assumption | (refine below_call ?_ (by first | omega | (simp; done) | (simp; omega)) (by assumption))))) (Nat.le_refl _))).mono ?_
  rw [HGN.out]
  rintro e w1 ⟨rfl, hb⟩
  have G := Lib.hid (Box.call (b := w.heap.size) (c := #[.int .i64 n, .slice va vm vc]) (t := 25) hb (by with_reducible (repeat (first | (refine box_at _ _ _ ?_; first | rfl | (simp; done)) | apply Box.alloc | apply Box.drewN | apply Box.drew))))
  obtain ⟨G_0, G_1, G_2, G_3, G_4⟩ := box2 G.out
  have BW := Lib.hid (below_call (B := w.heap.size) (a := w) (by with_reducible (repeat (first | (refine below_drewN ?_ _) | (refine Below.drew ?_) | (refine below_alloc ?_ (by first | omega | (simp; done) | (simp; omega)) _) | (refine Below.setCell ?_ (by first | omega | (simp; done) | (simp; omega)) _) | exact Below.refl _ _ | assumption | (refine below_call ?_ (by first | omega | (simp; done) | (simp; omega)) (by assumption))))) (Nat.le_refl _) hb)
  clear hb
  go_wp2_with fail
  refine (iDist n ls a _ _ (HV.out.below BW.out (Nat.le_refl _)) HG.out HA.out).mono ?_
  rintro e w2 ⟨u, rfl, hO, hb⟩
  have hs := BW.out.size
  have BW2 := Lib.hid (BW.out.trans (hb.mono hs))
  have HO := Lib.hid (hO.mono hs (Nat.le_refl _))
  clear hO hb
  go_wp2_with fail
  go_ret
  exact ⟨_, rfl, HO.out, BW2.out⟩
set_option maxRecDepth 100000 in
set_option maxHeartbeats 1000000 in
theorem dist_any (n : Int) (ls : List LinkD) (a b : Int) (v : Value) (w : World) (hv : TriplesAt w v ls) (h : GOk n ls) (ha : nd n.toNat a) (hb : nd n.toNat b) :
    Calls Try.prog 34 #[.agg #[.int .i64 n, v], .int .i64 a, .int .i64 b] w fun e w' => e = .returned (.int .i64 (distG n ls a b)) ∧ Below w.heap.size w w' := by
  have HV := Lib.hid hv
  obtain ⟨va, vm, vc, rfl⟩ := hv.form
  have HG := Lib.hid h; have HA := Lib.hid ha; have HB := Lib.hid hb
  have hbi := h.nN.1 hb
  obtain ⟨z, hz⟩ : ∃ z, distG n ls a b = z := ⟨_, rfl⟩
  have HZ := Lib.hid hz
  rw [hz]
  clear hv h ha hb hz
  go_enter Try.func34, Try.ntmps34
  go_wp2_with fail
  refine (iDistances n ls a _ _ (HV.out.below (by with_reducible (repeat (first | (refine below_drewN ?_ _) | (refine Below.drew ?_) | (refine below_alloc ?_ (by first | omega | (simp; done) | (simp; omega)) _) | (refine Below.setCell ?_ (by first | omega | (simp; done) | (simp; omega)) _) | exact Below.refl _ _ | assumption | (refine below_call ?_ (by first | omega | (simp; done) | (simp; omega)) (by assumption))))) (Nat.le_refl _)) HG.out HA.out).mono ?_
  rintro e w2 ⟨u, rfl, hO, hb⟩
  have BW := Lib.hid (below_call (B := w.heap.size) (a := w) (by with_reducible (repeat (first | (refine below_drewN ?_ _) | (refine Below.drew ?_) | (refine below_alloc ?_ (by first | omega | (simp; done) | (simp; omega)) _) | (refine Below.setCell ?_ (by first | omega | (simp; done) | (simp; omega)) _) | exact Below.refl _ _ | assumption | (refine below_call ?_ (by first | omega | (simp; done) | (simp; omega)) (by assumption))))) (Nat.le_refl _) hb)
  have hl := distL_len n ls a
  have HL := Lib.hid hl
  obtain ⟨g1, c1, rfl, hlo⟩ := own_pos hO.1 (by omega)
  obtain ⟨r0, r1⟩ := row_at hO.1 rfl (show nd (distL n ls a).length b by rw [HL.out]; exact HB.out)
  rw [show atD (distL n ls a) b = z from HZ.out] at r0
  have hlen : b < ((distL n ls a).length : Int) := by omega
  have hb0 : (0:Int) ≤ b := hbi.1
  clear hO hb hl hbi
  go_wp2_with fail
  go_ret
  exact ⟨rfl, BW.out⟩
set_option maxRecDepth 100000 in
set_option maxHeartbeats 1000000 in
theorem iShortest (n : Int) (ls : List LinkD) (a b : Int) (v : Value) (w : World) (hv : TriplesAt w v ls) (h : GOk n ls) (ha : nd n.toNat a) (hb : nd n.toNat b) :
    Calls Try.prog 21 #[.agg #[.int .i64 n, v], .int .i64 a, .int .i64 b] w (MadeInts w (shP n ls a b)) := by
  have HV := Lib.hid hv
  obtain ⟨va, vm, vc, rfl⟩ := hv.form
  have hi := h.nN.1 ha
  have hi2 := h.nN.1 hb
  have hg : (gOk n ls && inB a 0 (n - 1)) = true := by rw [gOk_iff.2 h, inB_iff.2 (by omega)]; rfl
  have hg2 : (gOk n ls && inB b 0 (n - 1)) = true := by rw [gOk_iff.2 h, inB_iff.2 (by omega)]; rfl
  have HG := Lib.hid h; have HA := Lib.hid ha; have HB := Lib.hid hb; have HGN := Lib.hid hg; have HGN2 := Lib.hid hg2
  clear hv h ha hb hg hg2 hi hi2
  go_enter Try.func21, Try.ntmps21
  go_wp2_with fail
  refine (iHasNode n a ls _ _ (HV.out.below (by with_reducible (repeat (first | (refine below_drewN ?_ _) | (refine Below.drew ?_) | (refine below_alloc ?_ (by first | omega | (simp; done) | (simp; omega)) _) | (refine Below.setCell ?_ (by first | omega | (simp; done) | (simp; omega)) _) | exact Below.refl _ _ | assumption | (refine below_call ?_ (by first | omega | (simp; done) | (simp; omega)) (by assumption))))) (Nat.le_refl _))).mono ?_
  rw [HGN.out]
  rintro e w1 ⟨rfl, hb⟩
  have G := Lib.hid (Box.call (b := w.heap.size) (c := #[.int .i64 n, .slice va vm vc]) (t := 25) hb (by with_reducible (repeat (first | (refine box_at _ _ _ ?_; first | rfl | (simp; done)) | apply Box.alloc | apply Box.drewN | apply Box.drew))))
  obtain ⟨G_0, G_1, G_2, G_3, G_4⟩ := box2 G.out
  have BW := Lib.hid (below_call (B := w.heap.size) (a := w) (by with_reducible (repeat (first | (refine below_drewN ?_ _) | (refine Below.drew ?_) | (refine below_alloc ?_ (by first | omega | (simp; done) | (simp; omega)) _) | (refine Below.setCell ?_ (by first | omega | (simp; done) | (simp; omega)) _) | exact Below.refl _ _ | assumption | (refine below_call ?_ (by first | omega | (simp; done) | (simp; omega)) (by assumption))))) (Nat.le_refl _) hb)
  clear hb
  go_wp2_with fail
  refine (iHasNode n b ls _ _ (HV.out.below BW.out (Nat.le_refl _))).mono ?_
  rw [HGN2.out]
  rintro e w2 ⟨rfl, hb⟩
  have kk := Lib.hid (below_call (B := w1.heap.size) (a := w1) (by with_reducible (repeat (first | (refine below_drewN ?_ _) | (refine Below.drew ?_) | (refine below_alloc ?_ (by first | omega | (simp; done) | (simp; omega)) _) | (refine Below.setCell ?_ (by first | omega | (simp; done) | (simp; omega)) _) | exact Below.refl _ _ | assumption | (refine below_call ?_ (by first | omega | (simp; done) | (simp; omega)) (by assumption))))) (Nat.le_refl _) hb)
  replace BW := Lib.hid (BW.out.trans (kk.out.mono BW.out.size))
  replace G := Lib.hid (G.out.below kk.out G.out.lt)
  clear G_0 G_1 G_2 G_3 G_4
  obtain ⟨G_0, G_1, G_2, G_3, G_4⟩ := box2 G.out
  clear hb kk
  go_wp2_with fail
  refine (iPath n ls a b _ _ (HV.out.below BW.out (Nat.le_refl _)) HG.out HA.out HB.out).mono ?_
  rintro e w3 ⟨u, rfl, hO, hb⟩
  have hs := BW.out.size
  have BW2 := Lib.hid (BW.out.trans (hb.mono hs))
  have HO := Lib.hid (hO.mono hs (Nat.le_refl _))
  clear hO hb
  obtain ⟨ya, yc, rfl⟩ := own_slice HO.out.1
  go_wp2_with fail
  go_ret
  exact ⟨_, rfl, HO.out, BW2.out⟩
theorem iCostNo {n : Int} {ls : List LinkD} {a : Int} {s : List LabelD} {v u : Value} {w : World} (hq : stkOf n ls a s = none) (hv : TriplesAt w v ls) (hu : PairsAt w u s) :
    Calls Try.prog 15 #[.agg #[.int .i64 n, v], .int .i64 a, u] w fun e w' => e = .returned (.int .i64 (-1)) ∧ Below w.heap.size w w' := by
  have h := iStackCost n ls a s v u w hv hu
  rw [show costV n ls a s = -1 by unfold costV; rw [hq]] at h
  exact h
theorem iCostYes {n : Int} {ls : List LinkD} {a : Int} {s : List LabelD} {v u : Value} {w : World} {q : List Int} {z : Int} (hq : stkOf n ls a s = some q) (hz : stkCost n ls a s = z) (hv : TriplesAt w v ls) (hu : PairsAt w u s) :
    Calls Try.prog 15 #[.agg #[.int .i64 n, v], .int .i64 a, u] w fun e w' => e = .returned (.int .i64 z) ∧ Below w.heap.size w w' := by
  have h := iStackCost n ls a s v u w hv hu
  rw [show costV n ls a s = z by unfold costV; rw [hq]; exact hz] at h
  exact h
end Go.Proofs.Ytoebefpmfgkpoaa
