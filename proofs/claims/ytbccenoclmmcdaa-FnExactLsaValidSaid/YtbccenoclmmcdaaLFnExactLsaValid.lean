/- FnExactLsaValid: for every argument the call returns true, and the argument reads afterwards as before. No condition. -/
import Derived.Test.YtbccenoclmmcdaaLsa
import Derived.Test.YtbccenoclmmcdaaExact2
import Derived.Test.YtbccenoclmmcdaaMake2
import Derived.Test.YtbccenoclmmcdaaRows
import Derived.Test.YtbccenoclmmcdaaOpen
import Derived.ProofKit
import Derived.OpenShut
import Derived.ShutString
import Derived.ChangeOld
import Derived.Lib.SmallJoins
namespace Go.Proofs.Ytbccenoclmmcdaa.lawFnExactLsaValid
open Go.ChangeShapes Go.WideShapes Go.ChangeAt Go.RowKit Go.Joins
set_option maxHeartbeats 1000000 in
theorem walk (o s : Int) (v : Value) (es : List (Int × Int)) (w : World) (h : PairsAt w v es) :
    Calls Try.prog 4 #[.agg #[.int .i64 o, .int .i64 s, v]] w fun e w' => e = .returned (.bool true) ∧ Below w.heap.size w w' := by
  have hv1 : ∀ a, PairsAt (w.alloc a) v es := fun a => h.below ((Below.refl _ _).alloc (Nat.le_refl _) _) (Nat.le_refl _)
  have H := Lib.hid hv1
  obtain ⟨a, n, c, rfl⟩ := h.form
  clear h hv1
  by_cases hl : (es.length : Int) ≤ 1048576
  rotate_left
  · have hr : leftOf es.length 1048576 = -1 := by unfold leftOf; rw [if_neg hl]
    have HR := Lib.hid hr
    clear hl hr
    go_enter Try.func4, Try.ntmps4
    go_wp2_with (go_at_call 16; refine (szLsa o s es _ 1048576 _ (H.out _) (by omega) (by omega)).mono ?_; rw [HR.out]; rintro e w1 ⟨rfl, hb1⟩)
    go_ret
    exact ⟨rfl, ((Below.refl _ _).alloc (Nat.le_refl _) _).trans (hb1.mono (by simp))⟩
  have h1 : Hid (es.length ≤ 1048576) := Lib.hid (by omega)
  obtain ⟨r, hr, hr0⟩ : ∃ r, leftOf es.length 1048576 = r ∧ 0 ≤ r := ⟨_, rfl, by unfold leftOf; rw [if_pos hl]; omega⟩
  have HR := Lib.hid hr
  clear hl hr
  obtain ⟨q, hq⟩ : ∃ q, lsaOk o s es = q := ⟨_, rfl⟩
  have HQ := Lib.hid hq
  clear hq
  go_enter Try.func4, Try.ntmps4
  go_wp2_with fail
  refine (szLsa o s es _ 1048576 _ (H.out _) (by omega) (by omega)).mono ?_
  rw [HR.out]
  rintro e w1 ⟨rfl, hb1⟩
  have H1 := Lib.hid ((H.out _).below hb1 (Nat.le_refl _))
  have B1 := Lib.hid (((Below.refl _ _).alloc (Nat.le_refl _) (.cells #[.int .i64 o, .int .i64 s, .slice a n c] 33)).trans (hb1.mono (by simp)))
  have A1 := Lib.hid ((box_new w #[.int .i64 o, .int .i64 s, .slice a n c] 33).below hb1 (by simp))
  obtain ⟨c0, c1, c2, f0, f1, f2, l0⟩ := box3 A1.out
  clear hb1
  go_wp2_with fail
  refine (toLsa o s es _ _ H1.out h1.out).mono ?_
  rintro e w2 ⟨v2, rfl, hO2, hb2⟩
  have H2 := Lib.hid (H1.out.below hb2 (Nat.le_refl _))
  have B2 := Lib.hid (B1.out.trans (hb2.mono B1.out.size))
  have A2 := Lib.hid (A1.out.below hb2 A1.out.lt)
  have X2 := Lib.hid (own_pairs hO2)
  obtain ⟨a2, n2, p2, rfl⟩ := X2.out.form
  clear hb2 hO2
  go_wp2_with fail
  refine (sLsaValid o s _ es _ X2.out).mono ?_
  rw [HQ.out]
  rintro e w3 ⟨rfl, hb3⟩
  have H3 := Lib.hid (H2.out.below hb3 (Nat.le_refl _))
  have B3 := Lib.hid (B2.out.trans (hb3.mono B2.out.size))
  have A3 := Lib.hid (A2.out.below hb3 A2.out.lt)
  clear hb3 c0 c1 c2 f0 f1 f2 l0
  obtain ⟨c0, c1, c2, f0, f1, f2, l0⟩ := box3 A3.out
  go_wp2_with fail
  refine (toLsa o s es _ _ H3.out h1.out).mono ?_
  rintro e w4 ⟨v4, rfl, hO4, hb4⟩
  have H4 := Lib.hid (H3.out.below hb4 (Nat.le_refl _))
  have B4 := Lib.hid (B3.out.trans (hb4.mono B3.out.size))
  have A4 := Lib.hid (A3.out.below hb4 A3.out.lt)
  have X4 := Lib.hid (own_pairs hO4)
  obtain ⟨a4, n4, p4, rfl⟩ := X4.out.form
  clear hb4 hO4 c0 c1 c2 f0 f1 f2 l0
  obtain ⟨c0, c1, c2, f0, f1, f2, l0⟩ := box3 A4.out
  have X4' := Lib.hid fun b => X4.out.below ((Below.refl _ w4).alloc (Nat.le_refl _) b) (Nat.le_refl _)
  go_wp2_with fail
  refine (iLsaValid o s _ es _ (X4'.out _)).mono ?_
  rw [HQ.out]
  rintro e w5 ⟨rfl, hb5⟩
  have H5 := Lib.hid ((H4.out.below ((Below.refl _ w4).alloc (Nat.le_refl _) (.cells #[.int .i64 o, .int .i64 s, .slice a4 n4 p4] 25)) (Nat.le_refl _)).below hb5 (Nat.le_refl _))
  have B5 := Lib.hid ((B4.out.alloc B4.out.size (.cells #[.int .i64 o, .int .i64 s, .slice a4 n4 p4] 25)).trans (hb5.mono (Nat.le_trans B4.out.size (by simp))))
  have A5 := Lib.hid ((A4.out.alloc (.cells #[.int .i64 o, .int .i64 s, .slice a4 n4 p4] 25)).below hb5 (by have := A4.out.lt; simp; omega))
  have Z5 := Lib.hid ((box_new w4 #[.int .i64 o, .int .i64 s, .slice a4 n4 p4] 25).below hb5 (by simp))
  have X5 := Lib.hid ((X4'.out _).below hb5 (Nat.le_refl _))
  clear hb5 c0 c1 c2 f0 f1 f2 l0
  obtain ⟨c0, c1, c2, f0, f1, f2, l0⟩ := box3 A5.out
  obtain ⟨d0, d1, d2, g0, g1, g2, l1⟩ := box3 Z5.out
  have hqq : (q != q) = false := by simp
  have HD : Hid (PairsAt w5.drew (.slice a n c) es) := H5
  have XD : Hid (PairsAt w5.drew (.slice a4 n4 p4) es) := X5
  have BD : Hid (Below w.heap.size w w5.drew) := Lib.hid B5.out.drew
  have ZD : Hid (Box w5.drew w4.heap.size #[.int .i64 o, .int .i64 s, .slice a4 n4 p4] 25) := Z5
  go_wp2_with fail
  go_region_with (first
    | (go_at_call 17; refine (toLsa o s es _ _ HD.out h1.out).mono ?_; rintro e w6 ⟨v6, rfl, hO6, hb6⟩; have B6 := Lib.hid (BD.out.trans (hb6.mono BD.out.size)); have X6 := Lib.hid (XD.out.below hb6 (Nat.le_refl _)); have Y6 := Lib.hid (own_pairs hO6); obtain ⟨a6, n6, p6, rfl⟩ := Y6.out.form; have Z6 := box3 (ZD.out.below hb6 ZD.out.lt); clear hb6 hO6)
    | (go_at_call 18; refine (eqLsa o s o s es es _ _ _ X6.out Y6.out).mono ?_; rw [eqB_self]; rintro e w7 ⟨rfl, hb7⟩))
  all_goals
    have B7 := Lib.hid (B6.out.trans (hb7.mono B6.out.size))
    clear hb7
    go_wp2_with fail
    go_ret
    exact ⟨rfl, B7.out⟩
theorem own : ownKnob Try.prog.godebug = none := by kernel_rfl
theorem laidOut : laidOutB Try.prog = true := by kernel_rfl
set_option maxRecDepth 100000 in
theorem lifted (os : Os) (started : os.Started) (H : Type) (enc : TypeId × Value → H) :
    ReturnsInHanded {} Try.checked os 4 .any (Rows.fnExactLsaValidSpec.pre6 enc Try.prog Try.f4 Rows.fnExactLsaValidRow.domain false) (Rows.fnExactLsaValidSpec.post enc Try.prog Try.f4 false true false false) := by
  refine returnsInHanded_of_change (C := Try.checked) own started (by kernel_rfl) Try.func4
    (ChangeSpec.witness6 (enc := enc) (C := Try.checked) false ⟨#[], #[.agg #[.int .i64 0, .int .i64 0, .slice none 0 0]], []⟩ 8 (by kernel_rfl) (by kernel_rfl) (by kernel_rfl) (by kernel_rfl)) ?_
  intro W base args ds gs before hval0 hW hcnd _
  have hval : ∀ (j : Nat) t v, Try.f4.params[j]? = some t → args[j]? = some v → Value.okWide Try.prog W .any base t v := hval0
  have hW' := hW
  obtain ⟨p, q, hA0, hV, rfl, hfz, hnd⟩ := hW
  have hA : DataW.TrodAll enc Try.prog W 0 (fun _ => true) true Try.f4.params.toList args.toList ds p := hA0
  rw [Try.params4] at hA hval
  obtain ⟨v0, vs0, d0, ds0, p0, q0, hargs, rfl, rfl, h0, r0⟩ := trodAll_cons hA
  obtain ⟨rfl, rfl, rfl⟩ := trodAll_nil r0
  obtain rfl : args = #[v0] := by cases args; simp_all
  obtain ⟨rfl, rfl⟩ := trodVars_none hV
  have k0 := h0
  have lt0 : ∀ x ∈ p0, x.block < W.heap.size := by obtain ⟨m, hm⟩ := k0; exact DataW.trod_lt m _ _ _ hm
  obtain ⟨o0, s0, u0, es0, rfl, w0⟩ := lsa_of_trod (L := 33) (E := 87) Try.underlying33 (by kernel_rfl) (by kernel_rfl) Try.underlying3 Try.underlying3 Try.underlying31 Try.underlying87 (by kernel_rfl) (by kernel_rfl) Try.underlying3 Try.underlying3 (hval 0 33 v0 rfl rfl) h0
  clear hA0 hval0
  refine (walk o0 s0 u0 es0 W w0).mono fun e W' ⟨he, bel⟩ => ?_
  subst he
  exact ⟨_, rfl, _, _, _, [], _, [], hW', trodAll_mk1 (shut_bool Try.underlying4 _), (trodAll_cons_mk (Below.trod laidOut (by kernel_rfl) (of_decide_eq_true (by kernel_rfl)) k0 bel lt0) trodAll_mk0), rfl, bel.frame _, fun h => by cases h⟩
theorem over : Rows.fnExactLsaValidRow.holds Try.pinned (OpenSpec.ofChange Rows.fnExactLsaValidSpec) :=
  OpenClaim.holds_of_wide 4 Try.f4 rfl rfl rfl rfl rfl rfl rfl ⟨rfl, rfl, rfl, rfl, rfl⟩ rfl rfl rfl rfl rfl (by kernel_rfl) Try.func4 (by kernel_rfl)
    (of_decide_eq_true (by kernel_rfl)) (by unfold Func.isWrapper; first | (rw [if_pos (by decide +kernel)]; kernel_rfl) | (rw [if_neg (by decide +kernel)]; exact ⟨rfl, rfl⟩))
    (fun os started H enc _ => lifted os started H enc)
end Go.Proofs.Ytbccenoclmmcdaa.lawFnExactLsaValid
namespace Go.Proofs.Ytbccenoclmmcdaa
/-- The statement. -/
theorem FnExactLsaValid_proved : Rows.FnExactLsaValidSaid := lawFnExactLsaValid.over
#print axioms FnExactLsaValid_proved
end Go.Proofs.Ytbccenoclmmcdaa
