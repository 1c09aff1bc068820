/- FnExactDbValid: for every argument the call returns true, and the argument reads afterwards as before. No condition. -/
import Derived.Test.YtbccenoclmmcdaaDb
import Derived.Test.YtbccenoclmmcdaaEq
import Derived.Test.YtbccenoclmmcdaaMake2
import Derived.Test.YtbccenoclmmcdaaRows
import Derived.Test.YtbccenoclmmcdaaOpen
import Derived.ProofKit
import Derived.OpenShut
import Derived.ShutString
import Derived.ChangeOld
import Derived.Lib.SmallJoins
namespace Go.Proofs.Ytbccenoclmmcdaa.lawFnExactDbValid
open Go.ChangeShapes Go.WideShapes Go.ChangeAt Go.RowKit Go.Joins
set_option maxHeartbeats 1000000 in
theorem walk (v : Value) (db : List LsaD) (w : World) (h : LsasAt w v db) :
    Calls Try.prog 6 #[v] w fun e w' => e = .returned (.bool true) ∧ Below w.heap.size w w' := by
  have H := Lib.hid h
  obtain ⟨a, n, c, rfl⟩ := h.form
  clear h
  by_cases hl : (db.length : Int) + totalL db ≤ 1048576
  rotate_left
  · have hr : leftOf ((db.length : Int) + totalL db) 1048576 = -1 := by unfold leftOf; rw [if_neg hl]
    have HR := Lib.hid hr
    clear hl hr
    go_enter Try.func6, Try.ntmps6
    go_wp2_with (go_at_call 25; refine (szLsaS db _ 1048576 _ H.out (by omega) (by omega)).mono ?_; rw [HR.out]; rintro e w1 ⟨rfl, hb1⟩)
    go_ret
    exact ⟨rfl, hb1⟩
  have h1 : Hid (db.length ≤ 1048576) := Lib.hid (by omega)
  have h2 : Hid (totalL db ≤ 1048576) := Lib.hid (by omega)
  obtain ⟨r, hr, hr0⟩ : ∃ r, leftOf ((db.length : Int) + totalL db) 1048576 = r ∧ 0 ≤ r := ⟨_, rfl, by unfold leftOf; rw [if_pos hl]; omega⟩
  have HR := Lib.hid hr
  clear hl hr
  obtain ⟨q, hq⟩ : ∃ q, dbOk db = q := ⟨_, rfl⟩
  have HQ := Lib.hid hq
  clear hq
  go_enter Try.func6, Try.ntmps6
  go_wp2_with fail
  refine (szLsaS db _ 1048576 _ H.out (by omega) (by omega)).mono ?_
  rw [HR.out]
  rintro e w1 ⟨rfl, hb1⟩
  have H1 := Lib.hid (H.out.below hb1 (Nat.le_refl _))
  have B1 := Lib.hid hb1
  clear hb1
  go_wp2_with fail
  refine (toLsaS db _ _ H1.out h1.out h2.out).mono ?_
  rintro e w2 ⟨v2, us2, rfl, hO2, hb2⟩
  have H2 := Lib.hid (H1.out.below hb2 (Nat.le_refl _))
  have B2 := Lib.hid (B1.out.trans (hb2.mono B1.out.size))
  have X2 := Lib.hid hO2.at_
  clear hb2 hO2
  go_wp2_with fail
  refine (sDbValid db _ _ X2.out).mono ?_
  rw [HQ.out]
  rintro e w3 ⟨rfl, hb3⟩
  have H3 := Lib.hid (H2.out.below hb3 (Nat.le_refl _))
  have B3 := Lib.hid (B2.out.trans (hb3.mono B2.out.size))
  clear hb3
  go_wp2_with fail
  refine (toLsaS db _ _ H3.out h1.out h2.out).mono ?_
  rintro e w4 ⟨v4, us4, rfl, hO4, hb4⟩
  have H4 := Lib.hid (H3.out.below hb4 (Nat.le_refl _))
  have B4 := Lib.hid (B3.out.trans (hb4.mono B3.out.size))
  have X4 := Lib.hid hO4.at_
  clear hb4 hO4
  go_wp2_with fail
  refine (iDbValid db _ _ X4.out).mono ?_
  rw [HQ.out]
  rintro e w5 ⟨rfl, hb5⟩
  have H5 := Lib.hid (H4.out.below hb5 (Nat.le_refl _))
  have B5 := Lib.hid (B4.out.trans (hb5.mono B4.out.size))
  have X5 := Lib.hid (X4.out.below hb5 (Nat.le_refl _))
  clear hb5
  have hqq : (q != q) = false := by simp
  go_wp2_with fail
  refine (toLsaS db _ _ H5.out h1.out h2.out).mono ?_
  rintro e w6 ⟨v6, us6, rfl, hO6, hb6⟩
  have B6 := Lib.hid (B5.out.trans (hb6.mono B5.out.size))
  have X6 := Lib.hid (X5.out.below hb6 (Nat.le_refl _))
  have Y6 := Lib.hid hO6.at_
  clear hb6 hO6
  go_wp2_with fail
  refine (eqLsaS db db _ _ _ X6.out Y6.out).mono ?_
  rw [eqB_self]
  rintro e w7 ⟨rfl, hb7⟩
  have B7 := Lib.hid (B6.out.trans (hb7.mono B6.out.size))
  clear hb7
  go_wp2_with fail
  go_ret
  exact ⟨rfl, B7.out⟩
theorem own : ownKnob Try.prog.godebug = none := by kernel_rfl
theorem laidOut : laidOutB Try.prog = true := by kernel_rfl
set_option maxRecDepth 100000 in
theorem lifted (os : Os) (started : os.Started) (H : Type) (enc : TypeId × Value → H) :
    ReturnsInHanded {} Try.checked os 6 .any (Rows.fnExactDbValidSpec.pre6 enc Try.prog Try.f6 Rows.fnExactDbValidRow.domain false) (Rows.fnExactDbValidSpec.post enc Try.prog Try.f6 false true false false) := by
  refine returnsInHanded_of_change (C := Try.checked) own started (by kernel_rfl) Try.func6
    (ChangeSpec.witness6 (enc := enc) (C := Try.checked) false ⟨#[], #[.slice none 0 0], []⟩ 8 (by kernel_rfl) (by kernel_rfl) (by kernel_rfl) (by kernel_rfl)) ?_
  intro W base args ds gs before hval0 hW hcnd _
  have hval : ∀ (j : Nat) t v, Try.f6.params[j]? = some t → args[j]? = some v → Value.okWide Try.prog W .any base t v := hval0
  have hW' := hW
  obtain ⟨p, q, hA0, hV, rfl, hfz, hnd⟩ := hW
  have hA : DataW.TrodAll enc Try.prog W 0 (fun _ => true) true Try.f6.params.toList args.toList ds p := hA0
  rw [Try.params6] at hA hval
  obtain ⟨v0, vs0, d0, ds0, p0, q0, hargs, rfl, rfl, h0, r0⟩ := trodAll_cons hA
  obtain ⟨rfl, rfl, rfl⟩ := trodAll_nil r0
  obtain rfl : args = #[v0] := by cases args; simp_all
  obtain ⟨rfl, rfl⟩ := trodVars_none hV
  have k0 := h0
  have lt0 : ∀ x ∈ p0, x.block < W.heap.size := by obtain ⟨m, hm⟩ := k0; exact DataW.trod_lt m _ _ _ hm
  obtain ⟨db0, w0⟩ := lsas_of_trod (T := 49) (L := 33) (E := 87) Try.underlying49 Try.underlying33 (by kernel_rfl) (by kernel_rfl) Try.underlying3 Try.underlying3 Try.underlying31 Try.underlying87 (by kernel_rfl) (by kernel_rfl) Try.underlying3 Try.underlying3 (hval 0 49 v0 rfl rfl) h0
  clear hA0 hval0
  refine (walk v0 db0 W w0).mono fun e W' ⟨he, bel⟩ => ?_
  subst he
  exact ⟨_, rfl, _, _, _, [], _, [], hW', trodAll_mk1 (shut_bool Try.underlying4 _), (trodAll_cons_mk (Below.trod laidOut (by kernel_rfl) (of_decide_eq_true (by kernel_rfl)) k0 bel lt0) trodAll_mk0), rfl, bel.frame _, fun h => by cases h⟩
theorem over : Rows.fnExactDbValidRow.holds Try.pinned (OpenSpec.ofChange Rows.fnExactDbValidSpec) :=
  OpenClaim.holds_of_wide 6 Try.f6 rfl rfl rfl rfl rfl rfl rfl ⟨rfl, rfl, rfl, rfl, rfl⟩ rfl rfl rfl rfl rfl (by kernel_rfl) Try.func6 (by kernel_rfl)
    (of_decide_eq_true (by kernel_rfl)) (by unfold Func.isWrapper; first | (rw [if_pos (by decide +kernel)]; kernel_rfl) | (rw [if_neg (by decide +kernel)]; exact ⟨rfl, rfl⟩))
    (fun os started H enc _ => lifted os started H enc)
end Go.Proofs.Ytbccenoclmmcdaa.lawFnExactDbValid
namespace Go.Proofs.Ytbccenoclmmcdaa
/-- The statement. -/
theorem FnExactDbValid_proved : Rows.FnExactDbValidSaid := lawFnExactDbValid.over
#print axioms FnExactDbValid_proved
end Go.Proofs.Ytbccenoclmmcdaa
