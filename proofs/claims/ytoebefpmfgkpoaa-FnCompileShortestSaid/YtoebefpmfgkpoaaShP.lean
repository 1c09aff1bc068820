/- ShortestPath for any graph and any two numbers: no nodes where an argument is invalid. -/
import Derived.Test.YtoebefpmfgkpoaaLwC
import Derived.Test.YtoebefpmfgkpoaaDrawSh
namespace Go.Proofs.Ytoebefpmfgkpoaa
set_option linter.unusedSimpArgs false
set_option linter.unusedVariables false
open Go.RowKit

/-- What ShortestPath gives. -/
def shO (n : Int) (ls : List LinkD) (a b : Int) : List Int := if (gOk n ls && inB a 0 (n - 1) && inB b 0 (n - 1)) = true then shP n ls a b else []
theorem shO_yes {n : Int} {ls : List LinkD} {a b : Int} (h : GOk n ls) (ha : nd n.toNat a) (hb : nd n.toNat b) : shO n ls a b = shP n ls a b := by
  have h1 := h.nN.1 ha
  have h2 := h.nN.1 hb
  unfold shO
  rw [if_pos (by rw [gOk_iff.2 h, inB_iff.2 (by omega), inB_iff.2 (by omega)]; rfl)]
theorem shO_no {n : Int} {ls : List LinkD} {a b : Int} (h : (gOk n ls && inB a 0 (n - 1) && inB b 0 (n - 1)) = false) : shO n ls a b = [] := by
  unfold shO
  rw [if_neg (by simp [h])]
theorem two_ok {n : Int} {ls : List LinkD} {a b : Int} (h : (gOk n ls && inB a 0 (n - 1) && inB b 0 (n - 1)) = true) : GOk n ls ∧ nd n.toNat a ∧ nd n.toNat b := by
  simp only [Bool.and_eq_true] at h
  obtain ⟨⟨h1, h2⟩, h3⟩ := h
  have hg := gOk_iff.1 h1
  have := inB_iff.1 h2
  have := inB_iff.1 h3
  exact ⟨hg, hg.nN.2 (by omega), hg.nN.2 (by omega)⟩
theorem MadeInts.nil_none {w w' : World} (hb : Below w.heap.size w w') : MadeInts w [] (.returned (.slice none 0 0)) w' :=
  ⟨_, rfl, ⟨⟨rfl, .inl ⟨rfl, rfl⟩⟩, fun g hg => by simp [Value.ownBlock] at hg⟩, hb⟩
set_option maxRecDepth 100000 in
set_option maxHeartbeats 1000000 in
theorem iShort (n : Int) (ls : List LinkD) (a b : Int) (v : Value) (w : World) (hv : TriplesAt w v ls) :
    Calls Try.prog 21 #[.agg #[.int .i64 n, v], .int .i64 a, .int .i64 b] w (MadeInts w (shO n ls a b)) := by
  rcases Bool.eq_false_or_eq_true (gOk n ls && inB a 0 (n - 1) && inB b 0 (n - 1)) with hq | hq
  · obtain ⟨h1, h2, h3⟩ := two_ok hq
    rw [shO_yes h1 h2 h3]
    exact iShortest n ls a b v w hv h1 h2 h3
  · rw [shO_no hq]
    have HV := Lib.hid hv
    obtain ⟨va, vm, vc, rfl⟩ := hv.form
    obtain ⟨q1, hq1⟩ : ∃ q, (gOk n ls && inB a 0 (n - 1)) = q := ⟨_, rfl⟩
    obtain ⟨q2, hq2⟩ : ∃ q, (gOk n ls && inB b 0 (n - 1)) = q := ⟨_, rfl⟩
    have hq3 : q1 = true → q2 = false := fun h => by
      rw [h] at hq1
      rw [hq1] at hq
      simp only [Bool.and_eq_true] at hq1
      rw [hq1.1] at hq2
      rw [Bool.true_and] at hq hq2
      rw [← hq2, hq]
    have HQ1 := Lib.hid hq1; have HQ2 := Lib.hid hq2; have HQ3 := Lib.hid hq3
    clear hv hq hq1 hq2 hq3
    go_enter Try.func21, Try.ntmps21
    go_wp2_with fail
    refine (iHasNode n a ls _ _ (HV.out.below (by with_reducible (repeat (first | (refine below_drewN ?_ _) | (refine Below.drew ?_) | (refine below_alloc ?_ (by first | omega | (simp; done) | (simp; omega)) _) | (refine Below.setCell ?_ (by first | omega | (simp; done) | (simp; omega)) _) | exact Below.refl _ _ | assumption | (refine below_call ?_ (by first | omega | (simp; done) | (simp; omega)) (by assumption))))) (Nat.le_refl _))).mono ?_
    rw [HQ1.out]
    rintro e w1 ⟨rfl, hb⟩
    have G := Lib.hid (Box.call (b := w.heap.size) (c := #[.int .i64 n, .slice va vm vc]) (t := 25) hb (by with_reducible (repeat (first | (refine box_at _ _ _ ?_; first | rfl | (simp; done)) | apply Box.alloc | apply Box.drewN | apply Box.drew))))
    obtain ⟨G_0, G_1, G_2, G_3, G_4⟩ := box2 G.out
    have BW := Lib.hid (below_call (B := w.heap.size) (a := w) (by with_reducible (repeat (first | (refine below_drewN ?_ _) | (refine Below.drew ?_) | (refine below_alloc ?_ (by first | omega | (simp; done) | (simp; omega)) _) | (refine Below.setCell ?_ (by first | omega | (simp; done) | (simp; omega)) _) | exact Below.refl _ _ | assumption | (refine below_call ?_ (by first | omega | (simp; done) | (simp; omega)) (by assumption))))) (Nat.le_refl _) hb)
    clear hb
    cases q1 with
    | false =>
      go_wp2_with fail
      go_ret
      exact MadeInts.nil_none BW.out
    | true =>
      obtain rfl := HQ3.out rfl
      go_wp2_with fail
      refine (iHasNode n b ls _ _ (HV.out.below BW.out (Nat.le_refl _))).mono ?_
      rw [HQ2.out]
      rintro e w2 ⟨rfl, hb⟩
      have kk := Lib.hid (below_call (B := w1.heap.size) (a := w1) (by with_reducible (repeat (first | (refine below_drewN ?_ _) | (refine Below.drew ?_) | (refine below_alloc ?_ (by first | omega | (simp; done) | (simp; omega)) _) | (refine Below.setCell ?_ (by first | omega | (simp; done) | (simp; omega)) _) | exact Below.refl _ _ | assumption | (refine below_call ?_ (by first | omega | (simp; done) | (simp; omega)) (by assumption))))) (Nat.le_refl _) hb)
      replace BW := Lib.hid (BW.out.trans (kk.out.mono BW.out.size))
      clear hb kk
      go_wp2_with fail
      go_ret
      exact MadeInts.nil_none BW.out
set_option maxRecDepth 100000 in
set_option maxHeartbeats 1000000 in
theorem sTwo (n : Int) (ls : List LinkD) (a b : Int) (v : Value) (w : World) (hv : TriplesAt w v ls) :
    Calls Try.prog 53 #[.agg #[.int .i64 n, v], .int .i64 a, .int .i64 b] w fun e w' => e = .returned (.bool (gOk n ls && inB a 0 (n - 1) && inB b 0 (n - 1))) ∧ Below w.heap.size w w' := by
  have HV := Lib.hid hv
  obtain ⟨va, vm, vc, rfl⟩ := hv.form
  obtain ⟨q, hq⟩ : ∃ q, gOk n ls = q := ⟨_, rfl⟩
  obtain ⟨q1, hq1⟩ : ∃ q, inB a 0 (n - 1) = q := ⟨_, rfl⟩
  obtain ⟨q2, hq2⟩ : ∃ q, inB b 0 (n - 1) = q := ⟨_, rfl⟩
  rw [hq, hq1, hq2]
  have HQ := Lib.hid hq; have HQ1 := Lib.hid hq1; have HQ2 := Lib.hid hq2
  clear hv hq hq1 hq2
  go_enter Try.func53, Try.ntmps53
  go_wp2_with fail
  refine (sGraphValid n ls _ _ (HV.out.below (by with_reducible (repeat (first | (refine below_drewN ?_ _) | (refine Below.drew ?_) | (refine below_alloc ?_ (by first | omega | (simp; done) | (simp; omega)) _) | (refine Below.setCell ?_ (by first | omega | (simp; done) | (simp; omega)) _) | exact Below.refl _ _ | assumption | (refine below_call ?_ (by first | omega | (simp; done) | (simp; omega)) (by assumption))))) (Nat.le_refl _))).mono ?_
  rw [HQ.out]
  rintro e w1 ⟨rfl, hb⟩
  have G := Lib.hid (Box.call (b := w.heap.size) (c := #[.int .i64 n, .slice va vm vc]) (t := 25) hb (by with_reducible (repeat (first | (refine box_at _ _ _ ?_; first | rfl | (simp; done)) | apply Box.alloc | apply Box.drewN | apply Box.drew))))
  obtain ⟨G_0, G_1, G_2, G_3, G_4⟩ := box2 G.out
  have BW := Lib.hid (below_call (B := w.heap.size) (a := w) (by with_reducible (repeat (first | (refine below_drewN ?_ _) | (refine Below.drew ?_) | (refine below_alloc ?_ (by first | omega | (simp; done) | (simp; omega)) _) | (refine Below.setCell ?_ (by first | omega | (simp; done) | (simp; omega)) _) | exact Below.refl _ _ | assumption | (refine below_call ?_ (by first | omega | (simp; done) | (simp; omega)) (by assumption))))) (Nat.le_refl _) hb)
  clear hb
  cases q with
  | false =>
    go_wp2_with fail
    go_ret
    exact ⟨ret_bool (by simp), BW.out⟩
  | true =>
    obtain ⟨hn1, hn8⟩ := gOk_n HQ.out
    go_wp2_with fail
    refine (sNode n a _ _ hn1 hn8).mono ?_
    rw [HQ1.out]
    rintro e w2 ⟨rfl, hb⟩
    have kk := Lib.hid (below_call (B := w1.heap.size) (a := w1) (by with_reducible (repeat (first | (refine below_drewN ?_ _) | (refine Below.drew ?_) | (refine below_alloc ?_ (by first | omega | (simp; done) | (simp; omega)) _) | (refine Below.setCell ?_ (by first | omega | (simp; done) | (simp; omega)) _) | exact Below.refl _ _ | assumption | (refine below_call ?_ (by first | omega | (simp; done) | (simp; omega)) (by assumption))))) (Nat.le_refl _) hb)
    replace BW := Lib.hid (BW.out.trans (kk.out.mono BW.out.size))
    replace G := Lib.hid (G.out.below kk.out G.out.lt)
    clear G_0 G_1 G_2 G_3 G_4
    obtain ⟨G_0, G_1, G_2, G_3, G_4⟩ := box2 G.out
    clear hb kk
    cases q1 with
    | false =>
      go_wp2_with fail
      go_ret
      exact ⟨ret_bool (by simp), BW.out⟩
    | true =>
      go_wp2_with fail
      refine (sNode n b _ _ hn1 hn8).mono ?_
      rw [HQ2.out]
      rintro e w3 ⟨rfl, hb⟩
      have kk := Lib.hid (below_call (B := w2.heap.size) (a := w2) (by with_reducible (repeat (first | (refine below_drewN ?_ _) | (refine Below.drew ?_) | (refine below_alloc ?_ (by first | omega | (simp; done) | (simp; omega)) _) | (refine Below.setCell ?_ (by first | omega | (simp; done) | (simp; omega)) _) | exact Below.refl _ _ | assumption | (refine below_call ?_ (by first | omega | (simp; done) | (simp; omega)) (by assumption))))) (Nat.le_refl _) hb)
      replace BW := Lib.hid (BW.out.trans (kk.out.mono BW.out.size))
      clear hb kk
      go_wp2_with fail
      go_ret
      exact ⟨ret_bool (by simp), BW.out⟩
set_option maxRecDepth 100000 in
set_option maxHeartbeats 1000000 in
theorem sShort (n : Int) (ls : List LinkD) (a b : Int) (v : Value) (w : World) (hv : TriplesAt w v ls) :
    Calls Try.prog 22 #[.agg #[.int .i64 n, v], .int .i64 a, .int .i64 b] w (MadeInts w (shO n ls a b)) := by
  have HV := Lib.hid hv
  obtain ⟨va, vm, vc, rfl⟩ := hv.form
  obtain ⟨q, hq⟩ : ∃ q, (gOk n ls && inB a 0 (n - 1) && inB b 0 (n - 1)) = q := ⟨_, rfl⟩
  have HQ := Lib.hid hq
  clear hv hq
  go_enter Try.func22, Try.ntmps22
  go_wp2_with fail
  refine (sTwo n ls a b _ _ (HV.out.below (by with_reducible (repeat (first | (refine below_drewN ?_ _) | (refine Below.drew ?_) | (refine below_alloc ?_ (by first | omega | (simp; done) | (simp; omega)) _) | (refine Below.setCell ?_ (by first | omega | (simp; done) | (simp; omega)) _) | exact Below.refl _ _ | assumption | (refine below_call ?_ (by first | omega | (simp; done) | (simp; omega)) (by assumption))))) (Nat.le_refl _))).mono ?_
  rw [HQ.out]
  rintro e w1 ⟨rfl, hb⟩
  have G := Lib.hid (Box.call (b := w.heap.size) (c := #[.int .i64 n, .slice va vm vc]) (t := 25) hb (by with_reducible (repeat (first | (refine box_at _ _ _ ?_; first | rfl | (simp; done)) | apply Box.alloc | apply Box.drewN | apply Box.drew))))
  obtain ⟨G_0, G_1, G_2, G_3, G_4⟩ := box2 G.out
  have BW := Lib.hid (below_call (B := w.heap.size) (a := w) (by with_reducible (repeat (first | (refine below_drewN ?_ _) | (refine Below.drew ?_) | (refine below_alloc ?_ (by first | omega | (simp; done) | (simp; omega)) _) | (refine Below.setCell ?_ (by first | omega | (simp; done) | (simp; omega)) _) | exact Below.refl _ _ | assumption | (refine below_call ?_ (by first | omega | (simp; done) | (simp; omega)) (by assumption))))) (Nat.le_refl _) hb)
  clear hb
  cases q with
  | false =>
    go_wp2_with fail
    go_ret
    have hs := BW.out.size
    have hB := BW.out
    rw [shO_no HQ.out]
    exact ⟨_, rfl, OwnR.of (own_empty w1 w.heap.size 3 1 hs), (by with_reducible (repeat (first | (refine below_drewN ?_ _) | (refine Below.drew ?_) | (refine below_alloc ?_ (by first | omega | (simp; done) | (simp; omega)) _) | (refine Below.setCell ?_ (by first | omega | (simp; done) | (simp; omega)) _) | exact Below.refl _ _ | assumption | (refine below_call ?_ (by first | omega | (simp; done) | (simp; omega)) (by assumption)))))⟩
  | true =>
    obtain ⟨h1, h2, h3⟩ := two_ok HQ.out
    have HG := Lib.hid h1; have HA := Lib.hid h2; have HB := Lib.hid h3
    clear h1 h2 h3
    go_wp2_with fail
    refine (sPath n ls a b _ _ (HV.out.below BW.out (Nat.le_refl _)) HG.out HA.out HB.out).mono ?_
    rintro e w3 ⟨u, rfl, hO, hb⟩
    have hs := BW.out.size
    have BW2 := Lib.hid (BW.out.trans (hb.mono hs))
    have HO := Lib.hid (hO.mono hs (Nat.le_refl _))
    clear hO hb
    obtain ⟨ya, yc, rfl⟩ := own_slice HO.out.1
    go_wp2_with fail
    go_ret
    rw [shO_yes HG.out HA.out HB.out]
    exact ⟨_, rfl, HO.out, BW2.out⟩
/-- A shortest path is valid; one label where it is the only one. -/
theorem sh_facts {n : Int} {ls : List LinkD} {a b : Int} (h : GOk n ls) (ha : nd n.toNat a) (hb : nd n.toNat b) (h0 : 0 ≤ distG n ls a b) :
    pathOk n ls (a :: spG n ls a b) = true ∧ 1 ≤ cntG n ls a b ∧ (cntG n ls a b = 1 → (compG n ls a (spG n ls a b)).length = min (spG n ls a b).length 1) := by
  obtain ⟨hw, hc⟩ := spG_sh h ha hb h0
  have hl := isW_last hw
  have hd := h.dst.symm h.fits.ok ha hb
  refine ⟨path_iff.2 ⟨h, a, _, rfl, by have := spG_len n ls a b; have := h.n8; omega, ha, by rw [hl]; exact hw⟩, ?_, fun h1 => ?_⟩
  · exact cnt_pos h.fits.ok h.dst hb _ a ha (by rw [← hd]; exact h0) (rk_le _ _ _)
  · rcases hp : spG n ls a b with _ | ⟨x, p⟩
    · rfl
    · have ho : onlyG n ls a (x :: p) = true := by
        rw [← hp]
        unfold onlyG onlyB
        rw [hl, hc]
        have : cnt n.toNat (cstL ls) (distG n ls b) b n.toNat a = 1 := h1
        rw [this]
        simp
      rw [compG_one ho, List.length_cons]
      simp
/-- What a law on a graph carries: the world below, the graph's box, the graph. -/
structure LwG (w : World) (R : Nat) (n : Int) (u : Value) (ls : List LinkD) (W : World) : Prop where
  bw : Below w.heap.size w W
  box : Box W R #[.int .i64 n, u] 25
  tri : TriplesAt W u ls
section
variable {w : World} {R : Nat} {n : Int} {u : Value} {ls : List LinkD} {W W' : World}
theorem LwG.below (h : LwG w R n u ls W) (hb : Below W.heap.size W W') : LwG w R n u ls W' :=
  ⟨h.bw.trans (hb.mono h.bw.size), h.box.below hb h.box.lt, h.tri.below hb (Nat.le_refl _)⟩
theorem LwG.new (hb : Below w.heap.size w W) (hT : TriplesAt W u ls) : LwG w W.heap.size n u ls (W.alloc (.cells #[.int .i64 n, u] 25)) :=
  ⟨hb.alloc hb.size _, box_new _ _ _, hT.below ((Below.refl _ _).alloc (Nat.le_refl _) _) (Nat.le_refl _)⟩
theorem LwG.path {x : Value} {p : List Int} (h : LwG w R n u ls W) (hP : IntsAt W x p) : LwP w R n u ls x p W := ⟨h.bw, h.box, h.tri, hP⟩
end
end Go.Proofs.Ytoebefpmfgkpoaa
