/- FnCompileOther: for every input the call returns true, and the argument reads afterwards as before. No condition. -/
import Derived.Test.YtoebefpmfgkpoaaLwC
import Derived.Test.YtoebefpmfgkpoaaUniqI
import Derived.Test.YtoebefpmfgkpoaaRows
import Derived.Test.YtoebefpmfgkpoaaOpen
import Derived.ProofKit
import Derived.OpenShut
import Derived.ShutString
import Derived.ChangeOld
import Derived.Lib.SmallJoins
namespace Go.Proofs.Ytoebefpmfgkpoaa.lawFnCompileOther
set_option linter.unusedSimpArgs false
set_option linter.unusedVariables false
open Go.ChangeShapes Go.WideShapes Go.ChangeAt Go.RowKit Go.Joins
set_option maxRecDepth 100000 in
set_option maxHeartbeats 4000000 in
theorem walk (v : Value) (w : World) (h : CodeAt w v) :
    Calls Try.prog 10 #[v] w fun e w' => e = .returned (.bool true) ∧ Below w.heap.size w w' := by
  obtain ⟨a0, n0, cap0, b0, off0, rfl, hcap0, hmax0, ha0, hc0⟩ := id h
  unfold maxLen at hmax0
  clear ha0 hc0
  have H := Lib.hid h
  clear h
  by_cases hn : 1048576 < n0
  · go_enter Try.func10, Try.ntmps10
    go_wp2
    go_ret
    exact ⟨rfl, Below.refl _ _⟩
  go_enter Try.func10, Try.ntmps10
  go_wp2_with fail
  refine (drawSU _ _ H.out).mono ?_
  rintro e w1 ⟨⟨n, u, ls, a, x, s, rfl, hls, hT, hs, hP, _, _⟩, hb⟩
  have L1 : LwS w w1.heap.size n u ls x s (w1.alloc (.cells #[.int .i64 n, u] 25)) := LwS.new hb hT hP
  obtain ⟨ua, uc, rfl, hul, hum⟩ := hT.form2
  obtain ⟨xa, xc, rfl, hxl, hxm⟩ := hP.form2
  unfold maxLen at hum hxm
  have HL := Lib.hid L1
  clear hb L1 hT hP
  obtain ⟨U, hU⟩ : ∃ U, unqV n ls a s = U := ⟨_, rfl⟩
  have HUV := Lib.hid hU
  clear hU
  go_wp2_with fail
  refine (iStackUnique n ls a s _ _ _ HL.out.tri HL.out.prs).mono ?_
  rw [HUV.out]
  rintro e w2 ⟨rfl, hb⟩
  replace HL := Lib.hid (HL.out.below hb)
  obtain ⟨c0, c1, f0, f1, l0⟩ := box2 HL.out.box
  clear hb
  go_wp2_with fail
  refine (sStackUnique n ls a s _ _ _ HL.out.tri HL.out.prs).mono ?_
  rw [HUV.out]
  rintro e w3 ⟨rfl, hb⟩
  replace HL := Lib.hid (HL.out.below hb)
  clear hb c0 c1 f0 f1 l0
  cases U with
  | false =>
    go_wp2_with fail
    go_ret
    exact ⟨rfl, HL.out.bw⟩
  | true =>
    obtain ⟨q, hq⟩ : ∃ q, stkOf n ls a s = some q := by
      rcases h : stkOf n ls a s with _ | q
      · have := HUV.out; rw [unqV_none h] at this; cases this
      · exact ⟨q, rfl⟩
    have hun : uniqS n ls a s = true := by rw [← unqV_some hq]; exact HUV.out
    obtain ⟨L, hL⟩ : ∃ L, stkPV n ls a s = L := ⟨_, rfl⟩
    have hLP : L = a :: stkPath n ls a s := by rw [← hL]; unfold stkPV; rw [hq]
    have hF := stkOf_some hq
    have hlen : (compG n ls a (stkPath n ls a s)).length ≤ s.length := compG_other hF.ok hF.nd hF.run hun
    obtain ⟨q2, hq2⟩ : ∃ q2, pathOk n ls L = q2 := ⟨_, rfl⟩
    obtain ⟨O2, hO2⟩ : ∃ O2, compO n ls L = O2 := ⟨_, rfl⟩
    have hle : O2.length ≤ s.length := by
      rcases hb : pathOk n ls L with _ | _
      · rw [← hO2, compO_no hb]; simp
      · rw [← hO2, hLP, compO_yes (by rw [← hLP]; exact hb)]; exact hlen
    have HLL := Lib.hid hL; have HQ2 := Lib.hid hq2; have HO2 := Lib.hid hO2
    have g1 : decide ((O2.length:Int) ≤ (s.length:Int)) = true := decide_eq_true (by omega)
    have g2 : decide (O2.length ≤ s.length) = true := decide_eq_true hle
    clear hL hLP hF hlen hq2 hO2 hle hq hun
    obtain ⟨c0, c1, f0, f1, l0⟩ := box2 HL.out.box
    go_wp2_with fail
    refine (iPathAny HLL.out HL.out.tri HL.out.prs).mono ?_
    rintro e w4 ⟨oA, oc, rfl, ho, hb⟩
    replace HL := Lib.hid (HL.out.below hb)
    have HOA := Lib.hid ho
    clear hb ho c0 c1 f0 f1 l0
    obtain ⟨c0, c1, f0, f1, l0⟩ := box2 HL.out.box
    go_wp2_with fail
    refine (iComp HQ2.out HO2.out HL.out.tri HOA.out).mono ?_
    rintro e w5 ⟨o3, k3, rfl, hp3, hb⟩
    replace HL := Lib.hid (HL.out.below hb)
    clear hb hp3 c0 c1 f0 f1 l0
    cases q2 with
    | false =>
      go_wp2_with fail
      go_ret
      exact ⟨rfl, HL.out.bw⟩
    | true =>
      go_wp2_with fail
      go_ret
      exact ⟨rfl, HL.out.bw⟩
theorem own : ownKnob Try.prog.godebug = none := by kernel_rfl
theorem laidOut : laidOutB Try.prog = true := by kernel_rfl
set_option maxRecDepth 100000 in
theorem lifted (os : Os) (started : os.Started) (H : Type) (enc : TypeId × Value → H) :
    ReturnsInHanded {} Try.checked os 10 .any (Rows.fnCompileOtherSpec.pre6 enc Try.prog Try.f10 Rows.fnCompileOtherRow.domain false) (Rows.fnCompileOtherSpec.post enc Try.prog Try.f10 false true false false) := by
  refine returnsInHanded_of_change (C := Try.checked) own started (by kernel_rfl) Try.func10
    (ChangeSpec.witness6 (enc := enc) (C := Try.checked) false ⟨#[], #[.slice none 0 0], []⟩ 8 (by kernel_rfl) (by kernel_rfl) (by kernel_rfl) (by kernel_rfl)) ?_
  intro W base args ds gs before hval0 hW hcnd _
  have hval : ∀ (j : Nat) t v, Try.f10.params[j]? = some t → args[j]? = some v → Value.okWide Try.prog W .any base t v := hval0
  have hW' := hW
  obtain ⟨p, q, hA0, hV, rfl, hfz, hnd⟩ := hW
  have hA : DataW.TrodAll enc Try.prog W 0 (fun _ => true) true Try.f10.params.toList args.toList ds p := hA0
  rw [Try.params10] at hA hval
  obtain ⟨v0, vs0, d0, ds0, p0, q0, hargs, rfl, rfl, h0, r0⟩ := trodAll_cons hA
  obtain ⟨rfl, rfl, rfl⟩ := trodAll_nil r0
  obtain rfl : args = #[v0] := by cases args; simp_all
  obtain ⟨rfl, rfl⟩ := trodVars_none hV
  have k0 := h0
  have lt0 : ∀ x ∈ p0, x.block < W.heap.size := by obtain ⟨m, hm⟩ := k0; exact DataW.trod_lt m _ _ _ hm
  have w0 : CodeAt W v0 := codeAt_of_trod (T := 22) (E := 5) Try.underlying22 Try.underlying5 (by kernel_rfl) (hval 0 22 v0 rfl rfl) h0
  clear hA0 hval0
  refine (walk v0 W w0).mono fun e W' ⟨he, bel⟩ => ?_
  subst he
  exact ⟨_, rfl, _, _, _, [], _, [], hW', trodAll_mk1 (shut_bool Try.underlying4 _), (trodAll_cons_mk (Below.trod laidOut (by kernel_rfl) (of_decide_eq_true (by kernel_rfl)) k0 bel lt0) trodAll_mk0), rfl, bel.frame _, fun h => by cases h⟩
theorem over : Rows.fnCompileOtherRow.holds Try.pinned (OpenSpec.ofChange Rows.fnCompileOtherSpec) :=
  OpenClaim.holds_of_wide 10 Try.f10 rfl rfl rfl rfl rfl rfl rfl ⟨rfl, rfl, rfl, rfl, rfl⟩ rfl rfl rfl rfl rfl (by kernel_rfl) Try.func10 (by kernel_rfl)
    (of_decide_eq_true (by kernel_rfl)) (by unfold Func.isWrapper; first | (rw [if_pos (by decide +kernel)]; kernel_rfl) | (rw [if_neg (by decide +kernel)]; exact ⟨rfl, rfl⟩))
    (fun os started H enc _ => lifted os started H enc)
end Go.Proofs.Ytoebefpmfgkpoaa.lawFnCompileOther
namespace Go.Proofs.Ytoebefpmfgkpoaa
set_option linter.unusedSimpArgs false
set_option linter.unusedVariables false
/-- The statement. -/
theorem FnCompileOther_proved : Rows.FnCompileOtherSaid := lawFnCompileOther.over
#print axioms FnCompileOther_proved
end Go.Proofs.Ytoebefpmfgkpoaa
