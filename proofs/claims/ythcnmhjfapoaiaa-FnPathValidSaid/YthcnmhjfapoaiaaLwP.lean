/- What the laws on paths carry: the world below, the graph's box, the graph, the path; GraphLink and ShortestPath for a valid graph. -/
import Derived.Test.YthcnmhjfapoaiaaDrawPV
import Derived.Test.YthcnmhjfapoaiaaLwD
namespace Go.Proofs.Ythcnmhjfapoaiaa
set_option linter.unusedSimpArgs false
set_option linter.unusedVariables false
open Go.RowKit

structure LwP (w : World) (R : Nat) (n : Int) (u : Value) (ls : List LinkD) (x : Value) (p : List Int) (W : World) : Prop where
  bw : Below w.heap.size w W
  box : Box W R #[.int .i64 n, u] 30
  tri : TriplesAt W u ls
  ints : IntsAt W x p
section
variable {w : World} {R : Nat} {n : Int} {u : Value} {ls : List LinkD} {x : Value} {p : List Int} {W W' : World}
theorem LwP.below (h : LwP w R n u ls x p W) (hb : Below W.heap.size W W') : LwP w R n u ls x p W' :=
  ⟨h.bw.trans (hb.mono h.bw.size), h.box.below hb h.box.lt, h.tri.below hb (Nat.le_refl _), h.ints.below hb (Nat.le_refl _)⟩
theorem LwP.alloc (h : LwP w R n u ls x p W) (o : Obj) : LwP w R n u ls x p (W.alloc o) := h.below ((Below.refl _ _).alloc (Nat.le_refl _) _)
theorem LwP.drew (h : LwP w R n u ls x p W) : LwP w R n u ls x p W.drew := h.below (Below.refl _ _).drew
theorem LwP.new (hb : Below w.heap.size w W) (hT : TriplesAt W u ls) (hP : IntsAt W x p) : LwP w W.heap.size n u ls x p (W.alloc (.cells #[.int .i64 n, u] 30)) :=
  ⟨hb.alloc hb.size _, box_new _ _ _, hT.below ((Below.refl _ _).alloc (Nat.le_refl _) _) (Nat.le_refl _), hP.below ((Below.refl _ _).alloc (Nat.le_refl _) _) (Nat.le_refl _)⟩
end
set_option maxRecDepth 100000 in
set_option maxHeartbeats 1000000 in
theorem iGraphLink (n : Int) (ls : List LinkD) (a b : Int) (v : Value) (w : World) (hv : TriplesAt w v ls) (h : GOk n ls) :
    Calls Try.prog 24 #[.agg #[.int .i64 n, v], .int .i64 a, .int .i64 b] w fun e w' => e = .returned (.int .i64 (lkOf ls a b)) ∧ Below w.heap.size w w' := by
  have HV := Lib.hid hv
  obtain ⟨va, vm, vc, rfl⟩ := hv.form
  have hg := gOk_iff.2 h
  have HGN := Lib.hid hg
  have hl := h.len
  have HG := Lib.hid h
  clear hv h hg
  go_enter Try.func24, Try.ntmps24
  go_wp2_with fail
  refine (iGraphValid n ls _ _ (HV.out.below (by with_reducible (repeat (first | (refine below_drewN ?_ _) | (refine Below.drew ?_) | (refine below_alloc ?_ (by first | omega | (simp; done) | (simp; omega)) _) | (refine Below.setCell ?_ (by first | omega | (simp; done) | (simp; omega)) _) | exact Below.refl _ _ | assumption | (refine below_call ?_ (by first | omega | (simp; done) | (simp; omega)) (by assumption))))) (Nat.le_refl _))).mono ?_
  rw [HGN.out]
  rintro e w1 ⟨rfl, hb⟩
  have G := Lib.hid (Box.call (b := w.heap.size) (c := #[.int .i64 n, .slice va vm vc]) (t := 30) hb (by with_reducible (repeat (first | (refine box_at _ _ _ ?_; first | rfl | (simp; done)) | apply Box.alloc | apply Box.drewN | apply Box.drew))))
  obtain ⟨G_0, G_1, G_2, G_3, G_4⟩ := box2 G.out
  have BW := Lib.hid (below_call (B := w.heap.size) (a := w) (by with_reducible (repeat (first | (refine below_drewN ?_ _) | (refine Below.drew ?_) | (refine below_alloc ?_ (by first | omega | (simp; done) | (simp; omega)) _) | (refine Below.setCell ?_ (by first | omega | (simp; done) | (simp; omega)) _) | exact Below.refl _ _ | assumption | (refine below_call ?_ (by first | omega | (simp; done) | (simp; omega)) (by assumption))))) (Nat.le_refl _) hb)
  clear hb
  go_wp2_with fail
  refine (iLinkOf n ls a b _ _ (HV.out.below BW.out (Nat.le_refl _)) (by omega)).mono ?_
  rintro e w2 ⟨rfl, hb⟩
  have BW2 := Lib.hid (BW.out.trans (hb.mono BW.out.size))
  clear hb
  go_wp2_with fail
  go_ret
  exact ⟨rfl, BW2.out⟩
set_option maxRecDepth 100000 in
set_option maxHeartbeats 1000000 in
theorem iShortest (n : Int) (ls : List LinkD) (a b : Int) (v : Value) (w : World) (hv : TriplesAt w v ls) (h : GOk n ls) (ha : nd n.toNat a) (hb : nd n.toNat b) :
    Calls Try.prog 38 #[.agg #[.int .i64 n, v], .int .i64 a, .int .i64 b] w (MadeInts w (shP n ls a b)) := by
  have HV := Lib.hid hv
  obtain ⟨va, vm, vc, rfl⟩ := hv.form
  have hi := h.nN.1 ha
  have hi2 := h.nN.1 hb
  have hg : (gOk n ls && inB a 0 (n - 1)) = true := by rw [gOk_iff.2 h, inB_iff.2 (by omega)]; rfl
  have hg2 : (gOk n ls && inB b 0 (n - 1)) = true := by rw [gOk_iff.2 h, inB_iff.2 (by omega)]; rfl
  have HG := Lib.hid h; have HA := Lib.hid ha; have HB := Lib.hid hb; have HGN := Lib.hid hg; have HGN2 := Lib.hid hg2
  clear hv h ha hb hg hg2 hi hi2
  go_enter Try.func38, Try.ntmps38
  go_wp2_with fail
  refine (iHasNode n a ls _ _ (HV.out.below (by with_reducible (repeat (first | (refine below_drewN ?_ _) | (refine Below.drew ?_) | (refine below_alloc ?_ (by first | omega | (simp; done) | (simp; omega)) _) | (refine Below.setCell ?_ (by first | omega | (simp; done) | (simp; omega)) _) | exact Below.refl _ _ | assumption | (refine below_call ?_ (by first | omega | (simp; done) | (simp; omega)) (by assumption))))) (Nat.le_refl _))).mono ?_
  rw [HGN.out]
  rintro e w1 ⟨rfl, hb⟩
  have G := Lib.hid (Box.call (b := w.heap.size) (c := #[.int .i64 n, .slice va vm vc]) (t := 30) hb (by with_reducible (repeat (first | (refine box_at _ _ _ ?_; first | rfl | (simp; done)) | apply Box.alloc | apply Box.drewN | apply Box.drew))))
  obtain ⟨G_0, G_1, G_2, G_3, G_4⟩ := box2 G.out
  have BW := Lib.hid (below_call (B := w.heap.size) (a := w) (by with_reducible (repeat (first | (refine below_drewN ?_ _) | (refine Below.drew ?_) | (refine below_alloc ?_ (by first | omega | (simp; done) | (simp; omega)) _) | (refine Below.setCell ?_ (by first | omega | (simp; done) | (simp; omega)) _) | exact Below.refl _ _ | assumption | (refine below_call ?_ (by first | omega | (simp; done) | (simp; omega)) (by assumption))))) (Nat.le_refl _) hb)
  clear hb
  go_wp2_with fail
  refine (iHasNode n b ls _ _ (HV.out.below BW.out (Nat.le_refl _))).mono ?_
  rw [HGN2.out]
  rintro e w2 ⟨rfl, hb⟩
  have kk := Lib.hid (below_call (B := w1.heap.size) (a := w1) (by with_reducible (repeat (first | (refine below_drewN ?_ _) | (refine Below.drew ?_) | (refine below_alloc ?_ (by first | omega | (simp; done) | (simp; omega)) _) | (refine Below.setCell ?_ (by first | omega | (simp; done) | (simp; omega)) _) | exact Below.refl _ _ | assumption | (refine below_call ?_ (by first | omega | (simp; done) | (simp; omega)) (by assumption))))) (Nat.le_refl _) hb)
  replace BW := Lib.hid (BW.out.trans (kk.out.mono BW.out.size))
  replace G := Lib.hid (G.out.below kk.out G.out.lt)
  clear G_0 G_1 G_2 G_3 G_4
  obtain ⟨G_0, G_1, G_2, G_3, G_4⟩ := box2 G.out
  clear hb kk
  go_wp2_with fail
  refine (iPath n ls a b _ _ (HV.out.below BW.out (Nat.le_refl _)) HG.out HA.out HB.out).mono ?_
  rintro e w3 ⟨u, rfl, hO, hb⟩
  have hs := BW.out.size
  have BW2 := Lib.hid (BW.out.trans (hb.mono hs))
  have HO := Lib.hid (hO.mono hs (Nat.le_refl _))
  clear hO hb
  obtain ⟨ya, yc, rfl⟩ := own_slice HO.out.1
  go_wp2_with fail
  go_ret
  exact ⟨_, rfl, HO.out, BW2.out⟩
end Go.Proofs.Ythcnmhjfapoaiaa
