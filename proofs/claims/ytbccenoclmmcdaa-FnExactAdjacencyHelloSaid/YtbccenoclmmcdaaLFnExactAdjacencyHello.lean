/- FnExactAdjacencyHello: for every argument the call returns true, and the arguments read afterwards as before. No condition. -/
import Derived.Test.YtbccenoclmmcdaaHelloB
import Derived.Test.YtbccenoclmmcdaaEq
import Derived.Test.YtbccenoclmmcdaaMake
import Derived.Test.YtbccenoclmmcdaaRows
import Derived.Test.YtbccenoclmmcdaaOpen
import Derived.ProofKit
import Derived.OpenShut
import Derived.ShutString
import Derived.ChangeOld
import Derived.Lib.SmallJoins
namespace Go.Proofs.Ytbccenoclmmcdaa.lawFnExactAdjacencyHello
open Go.ChangeShapes Go.WideShapes Go.ChangeAt Go.RowKit Go.Joins
set_option maxHeartbeats 1000000 in
theorem walk (s a me : Int) (v : Value) (l : List Int) (w : World) (h : IntsAt w v l) :
    Calls Try.prog 5 #[.agg #[.int .i64 s, .int .i64 a], .int .i64 me, v] w fun e w' => e = .returned (.bool true) ∧ Below w.heap.size w w' := by
  have H := Lib.hid h
  obtain ⟨va, cap, b, off, rfl, _, _, _, _⟩ := h
  by_cases hl : l.length ≤ 1048576
  rotate_left
  · have hl2 : (1048576 : Int) < (l.length : Int) := by omega
    clear hl
    go_enter Try.func5, Try.ntmps5
    go_wp2
    go_ret
    exact ⟨rfl, (by with_reducible (repeat (first | (refine below_drewN ?_ _) | (refine Below.drew ?_) | (refine below_alloc ?_ (by first | omega | (simp; done) | (simp; omega)) _) | (refine Below.setCell ?_ (by first | omega | (simp; done) | (simp; omega)) _) | exact Below.refl _ _ | assumption | (refine below_call ?_ (by first | omega | (simp; done) | (simp; omega)) (by assumption)))))⟩
  have HL := Lib.hid hl
  have hl2 : ¬ (1048576 : Int) < (l.length : Int) := by omega
  have hl3 : decide ((1048576 : Int) < (l.length : Int)) = false := by simp; omega
  obtain ⟨r, hr⟩ : ∃ r, helloSt s a me l = r := ⟨_, rfl⟩
  obtain ⟨q, hq⟩ : ∃ q, helloOk s a me l = q := ⟨_, rfl⟩
  have HR := Lib.hid hr; have HQ := Lib.hid hq
  clear hr hq hl
  go_enter Try.func5, Try.ntmps5
  go_wp2_with (go_at_call 20; refine (toAdj _ _ _).mono ?_; rintro e w' ⟨rfl, rfl⟩)
  refine (toIntS l _ _ (H.out.below (by with_reducible (repeat (first | (refine below_drewN ?_ _) | (refine Below.drew ?_) | (refine below_alloc ?_ (by first | omega | (simp; done) | (simp; omega)) _) | (refine Below.setCell ?_ (by first | omega | (simp; done) | (simp; omega)) _) | exact Below.refl _ _ | assumption | (refine below_call ?_ (by first | omega | (simp; done) | (simp; omega)) (by assumption))))) (Nat.le_refl _)) HL.out).mono ?_
  rintro e w1 ⟨v1, rfl, hO1, hb1⟩
  have BW := Lib.hid (Below.refl w.heap.size w)
  have H1 := H
  have kk := Lib.hid (below_call (B := w.heap.size) (a := w) (by with_reducible (repeat (first | (refine below_drewN ?_ _) | (refine Below.drew ?_) | (refine below_alloc ?_ (by first | omega | (simp; done) | (simp; omega)) _) | (refine Below.setCell ?_ (by first | omega | (simp; done) | (simp; omega)) _) | exact Below.refl _ _ | assumption | (refine below_call ?_ (by first | omega | (simp; done) | (simp; omega)) (by assumption))))) (Nat.le_refl _) hb1)
  replace BW := Lib.hid (BW.out.trans (kk.out.mono BW.out.size))
  replace H := Lib.hid (H.out.below kk.out (Nat.le_refl _))
  have A := Lib.hid (Box.call (b := w.heap.size) (c := #[.int .i64 s, .int .i64 a]) (t := 39) hb1 (by with_reducible (repeat (first | (refine box_at _ _ _ ?_; first | rfl | (simp; done)) | apply Box.alloc | apply Box.drewN | apply Box.drew))))
  obtain ⟨A_0, A_1, A_2, A_3, A_4⟩ := box2 A.out
  have X1 := Lib.hid (own_ints hO1)
  clear hb1 hO1 H1 kk
  go_wp2_with fail
  refine (sHelloAt HR.out HQ.out X1.out).mono ?_
  rintro e w2 ⟨rfl, hb2⟩
  have kk := Lib.hid (below_call (B := w1.heap.size) (a := w1) (by with_reducible (repeat (first | (refine below_drewN ?_ _) | (refine Below.drew ?_) | (refine below_alloc ?_ (by first | omega | (simp; done) | (simp; omega)) _) | (refine Below.setCell ?_ (by first | omega | (simp; done) | (simp; omega)) _) | exact Below.refl _ _ | assumption | (refine below_call ?_ (by first | omega | (simp; done) | (simp; omega)) (by assumption))))) (Nat.le_refl _) hb2)
  replace BW := Lib.hid (BW.out.trans (kk.out.mono BW.out.size))
  replace H := Lib.hid (H.out.below kk.out (Nat.le_refl _))
  replace A := Lib.hid (A.out.below kk.out A.out.lt)
  clear A_0 A_1 A_2 A_3 A_4
  obtain ⟨A_0, A_1, A_2, A_3, A_4⟩ := box2 A.out
  clear hb2 kk X1
  go_wp2_with fail
  refine (toIntS l _ _ (H.out.below (by with_reducible (repeat (first | (refine below_drewN ?_ _) | (refine Below.drew ?_) | (refine below_alloc ?_ (by first | omega | (simp; done) | (simp; omega)) _) | (refine Below.setCell ?_ (by first | omega | (simp; done) | (simp; omega)) _) | exact Below.refl _ _ | assumption | (refine below_call ?_ (by first | omega | (simp; done) | (simp; omega)) (by assumption))))) (Nat.le_refl _)) HL.out).mono ?_
  rintro e w3 ⟨v3, rfl, hO3, hb3⟩
  have kk := Lib.hid (below_call (B := w2.heap.size) (a := w2) (by with_reducible (repeat (first | (refine below_drewN ?_ _) | (refine Below.drew ?_) | (refine below_alloc ?_ (by first | omega | (simp; done) | (simp; omega)) _) | (refine Below.setCell ?_ (by first | omega | (simp; done) | (simp; omega)) _) | exact Below.refl _ _ | assumption | (refine below_call ?_ (by first | omega | (simp; done) | (simp; omega)) (by assumption))))) (Nat.le_refl _) hb3)
  replace BW := Lib.hid (BW.out.trans (kk.out.mono BW.out.size))
  replace H := Lib.hid (H.out.below kk.out (Nat.le_refl _))
  replace A := Lib.hid (A.out.below kk.out A.out.lt)
  clear A_0 A_1 A_2 A_3 A_4
  obtain ⟨A_0, A_1, A_2, A_3, A_4⟩ := box2 A.out
  have Z := Lib.hid (Box.call (b := w2.heap.size) (c := #[.int .i64 r, .int .i64 0]) (t := 41) hb3 (by with_reducible (repeat (first | (refine box_at _ _ _ ?_; first | rfl | (simp; done)) | apply Box.alloc | apply Box.drewN | apply Box.drew))))
  obtain ⟨Z_0, Z_1, Z_2, Z_3, Z_4⟩ := box2 Z.out
  have X3 := Lib.hid (own_ints hO3)
  clear hb3 hO3 kk
  go_wp2_with (go_at_call 20; refine (toAdj _ _ _).mono ?_; rintro e w' ⟨rfl, rfl⟩)
  refine (iHelloAt HR.out HQ.out (X3.out.below (by with_reducible (repeat (first | (refine below_drewN ?_ _) | (refine Below.drew ?_) | (refine below_alloc ?_ (by first | omega | (simp; done) | (simp; omega)) _) | (refine Below.setCell ?_ (by first | omega | (simp; done) | (simp; omega)) _) | exact Below.refl _ _ | assumption | (refine below_call ?_ (by first | omega | (simp; done) | (simp; omega)) (by assumption))))) (Nat.le_refl _))).mono ?_
  rintro e w4 ⟨rfl, hb4⟩
  have kk := Lib.hid (below_call (B := w3.heap.size) (a := w3) (by with_reducible (repeat (first | (refine below_drewN ?_ _) | (refine Below.drew ?_) | (refine below_alloc ?_ (by first | omega | (simp; done) | (simp; omega)) _) | (refine Below.setCell ?_ (by first | omega | (simp; done) | (simp; omega)) _) | exact Below.refl _ _ | assumption | (refine below_call ?_ (by first | omega | (simp; done) | (simp; omega)) (by assumption))))) (Nat.le_refl _) hb4)
  replace BW := Lib.hid (BW.out.trans (kk.out.mono BW.out.size))
  replace H := Lib.hid (H.out.below kk.out (Nat.le_refl _))
  replace X3 := Lib.hid (X3.out.below kk.out (Nat.le_refl _))
  replace A := Lib.hid (A.out.below kk.out A.out.lt)
  clear A_0 A_1 A_2 A_3 A_4
  obtain ⟨A_0, A_1, A_2, A_3, A_4⟩ := box2 A.out
  replace Z := Lib.hid (Z.out.below kk.out Z.out.lt)
  clear Z_0 Z_1 Z_2 Z_3 Z_4
  obtain ⟨Z_0, Z_1, Z_2, Z_3, Z_4⟩ := box2 Z.out
  clear hb4 kk
  have hqq : (q != q) = false := by simp
  have hrr : (r == r && (0:Int) == 0) = true := by simp
  have hr1 : (r == r) = true := by simp
  go_wp2_with (go_at_call 23; refine (eqAdj _ _ _ _ _).mono ?_; rw [hrr]; rintro e w' ⟨rfl, rfl⟩)
  refine (toIntS l _ _ (H.out.below (by with_reducible (repeat (first | (refine below_drewN ?_ _) | (refine Below.drew ?_) | (refine below_alloc ?_ (by first | omega | (simp; done) | (simp; omega)) _) | (refine Below.setCell ?_ (by first | omega | (simp; done) | (simp; omega)) _) | exact Below.refl _ _ | assumption | (refine below_call ?_ (by first | omega | (simp; done) | (simp; omega)) (by assumption))))) (Nat.le_refl _)) HL.out).mono ?_
  rintro e w5 ⟨v5, rfl, hO5, hb5⟩
  have kk := Lib.hid (below_call (B := w4.heap.size) (a := w4) (by with_reducible (repeat (first | (refine below_drewN ?_ _) | (refine Below.drew ?_) | (refine below_alloc ?_ (by first | omega | (simp; done) | (simp; omega)) _) | (refine Below.setCell ?_ (by first | omega | (simp; done) | (simp; omega)) _) | exact Below.refl _ _ | assumption | (refine below_call ?_ (by first | omega | (simp; done) | (simp; omega)) (by assumption))))) (Nat.le_refl _) hb5)
  replace BW := Lib.hid (BW.out.trans (kk.out.mono BW.out.size))
  replace X3 := Lib.hid (X3.out.below kk.out (Nat.le_refl _))
  have X5 := Lib.hid (own_ints hO5)
  clear hb5 hO5 kk
  go_wp2_with fail
  refine (eqIntS l l _ _ _ X3.out X5.out).mono ?_
  rw [eqB_self]
  rintro e w6 ⟨rfl, hb6⟩
  have kk := Lib.hid (below_call (B := w5.heap.size) (a := w5) (by with_reducible (repeat (first | (refine below_drewN ?_ _) | (refine Below.drew ?_) | (refine below_alloc ?_ (by first | omega | (simp; done) | (simp; omega)) _) | (refine Below.setCell ?_ (by first | omega | (simp; done) | (simp; omega)) _) | exact Below.refl _ _ | assumption | (refine below_call ?_ (by first | omega | (simp; done) | (simp; omega)) (by assumption))))) (Nat.le_refl _) hb6)
  replace BW := Lib.hid (BW.out.trans (kk.out.mono BW.out.size))
  clear hb6 kk
  go_wp2_with fail
  go_ret
  exact ⟨rfl, BW.out⟩
theorem own : ownKnob Try.prog.godebug = none := by kernel_rfl
theorem laidOut : laidOutB Try.prog = true := by kernel_rfl
set_option maxRecDepth 100000 in
theorem lifted (os : Os) (started : os.Started) (H : Type) (enc : TypeId × Value → H) :
    ReturnsInHanded {} Try.checked os 5 .any (Rows.fnExactAdjacencyHelloSpec.pre6 enc Try.prog Try.f5 Rows.fnExactAdjacencyHelloRow.domain false) (Rows.fnExactAdjacencyHelloSpec.post enc Try.prog Try.f5 false true false false) := by
  refine returnsInHanded_of_change (C := Try.checked) own started (by kernel_rfl) Try.func5
    (ChangeSpec.witness6 (enc := enc) (C := Try.checked) false ⟨#[], #[.agg #[.int .i64 0, .int .i64 0], .int .i64 0, .slice none 0 0], []⟩ 8 (by kernel_rfl) (by kernel_rfl) (by kernel_rfl) (by kernel_rfl)) ?_
  intro W base args ds gs before hval0 hW hcnd _
  have hval : ∀ (j : Nat) t v, Try.f5.params[j]? = some t → args[j]? = some v → Value.okWide Try.prog W .any base t v := hval0
  have hW' := hW
  obtain ⟨p, q, hA0, hV, rfl, hfz, hnd⟩ := hW
  have hA : DataW.TrodAll enc Try.prog W 0 (fun _ => true) true Try.f5.params.toList args.toList ds p := hA0
  rw [Try.params5] at hA hval
  obtain ⟨v0, vs0, d0, ds0, p0, q0, hargs, rfl, rfl, h0, r0⟩ := trodAll_cons hA
  obtain ⟨v1, vs1, d1, ds1, p1, q1, rfl, rfl, rfl, h1, r1⟩ := trodAll_cons r0
  obtain ⟨v2, vs2, d2, ds2, p2, q2, rfl, rfl, rfl, h2, r2⟩ := trodAll_cons r1
  obtain ⟨rfl, rfl, rfl⟩ := trodAll_nil r2
  obtain rfl : args = #[v0, v1, v2] := by cases args; simp_all
  obtain ⟨rfl, rfl⟩ := trodVars_none hV
  have k0 := h0
  have lt0 : ∀ x ∈ p0, x.block < W.heap.size := by obtain ⟨m, hm⟩ := k0; exact DataW.trod_lt m _ _ _ hm
  obtain ⟨s0, a0, rfl⟩ := adj_of_trod (T := 39) Try.underlying39 (by kernel_rfl) (by kernel_rfl) Try.underlying3 Try.underlying3 (hval 0 39 v0 rfl rfl) h0
  have k1 := h1
  have lt1 : ∀ x ∈ p1, x.block < W.heap.size := by obtain ⟨m, hm⟩ := k1; exact DataW.trod_lt m _ _ _ hm
  obtain ⟨x1, rfl, rfl, rfl, w1⟩ := open_int Try.underlying3 (hval 1 3 v1 rfl rfl) h1
  have k2 := h2
  have lt2 : ∀ x ∈ p2, x.block < W.heap.size := by obtain ⟨m, hm⟩ := k2; exact DataW.trod_lt m _ _ _ hm
  obtain ⟨xs2, w2⟩ := intsAt_of_trod (T := 40) (E := 3) Try.underlying40 Try.underlying3 (by kernel_rfl) (hval 2 40 v2 rfl rfl) h2
  clear hA0 hval0
  refine (walk s0 a0 x1 v2 xs2 W w2).mono fun e W' ⟨he, bel⟩ => ?_
  subst he
  exact ⟨_, rfl, _, _, _, [], _, [], hW', trodAll_mk1 (shut_bool Try.underlying4 _), (trodAll_cons_mk (Below.trod laidOut (by kernel_rfl) (of_decide_eq_true (by kernel_rfl)) k0 bel lt0) (trodAll_cons_mk (shut_int Try.underlying3 w1) (trodAll_cons_mk (Below.trod laidOut (by kernel_rfl) (of_decide_eq_true (by kernel_rfl)) k2 bel lt2) trodAll_mk0))), rfl, bel.frame _, fun h => by cases h⟩
theorem over : Rows.fnExactAdjacencyHelloRow.holds Try.pinned (OpenSpec.ofChange Rows.fnExactAdjacencyHelloSpec) :=
  OpenClaim.holds_of_wide 5 Try.f5 rfl rfl rfl rfl rfl rfl rfl ⟨rfl, rfl, rfl, rfl, rfl⟩ rfl rfl rfl rfl rfl (by kernel_rfl) Try.func5 (by kernel_rfl)
    (of_decide_eq_true (by kernel_rfl)) (by unfold Func.isWrapper; first | (rw [if_pos (by decide +kernel)]; kernel_rfl) | (rw [if_neg (by decide +kernel)]; exact ⟨rfl, rfl⟩))
    (fun os started H enc _ => lifted os started H enc)
end Go.Proofs.Ytbccenoclmmcdaa.lawFnExactAdjacencyHello
namespace Go.Proofs.Ytbccenoclmmcdaa
/-- The statement. -/
theorem FnExactAdjacencyHello_proved : Rows.FnExactAdjacencyHelloSaid := lawFnExactAdjacencyHello.over
#print axioms FnExactAdjacencyHello_proved
end Go.Proofs.Ytbccenoclmmcdaa
