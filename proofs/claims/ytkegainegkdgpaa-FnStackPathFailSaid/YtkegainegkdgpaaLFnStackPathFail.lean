/- FnStackPathFail: for every input the call returns true, and the argument reads afterwards as before. No condition. -/
import Derived.Test.YtkegainegkdgpaaLwH
import Derived.Test.YtkegainegkdgpaaStkCost
import Derived.Test.YtkegainegkdgpaaRows
import Derived.Test.YtkegainegkdgpaaOpen
import Derived.ProofKit
import Derived.OpenShut
import Derived.ShutString
import Derived.ChangeOld
import Derived.Lib.SmallJoins
namespace Go.Proofs.Ytkegainegkdgpaa.lawFnStackPathFail
set_option linter.unusedSimpArgs false
set_option linter.unusedVariables false
open Go.ChangeShapes Go.WideShapes Go.ChangeAt Go.RowKit Go.Joins
set_option maxRecDepth 100000 in
set_option maxHeartbeats 4000000 in
theorem walk (v : Value) (w : World) (h : CodeAt w v) :
    Calls Try.prog 4 #[v] w fun e w' => e = .returned (.bool true) ∧ Below w.heap.size w w' := by
  obtain ⟨a0, n0, cap0, b0, off0, rfl, hcap0, hmax0, ha0, hc0⟩ := id h
  unfold maxLen at hmax0
  clear ha0 hc0
  have H := Lib.hid h
  clear h
  by_cases hn : 1048576 < n0
  · go_enter Try.func4, Try.ntmps4
    go_wp2
    go_ret
    exact ⟨rfl, Below.refl _ _⟩
  go_enter Try.func4, Try.ntmps4
  go_wp2_with fail
  refine (drawSP _ _ H.out).mono ?_
  rintro e w1 ⟨⟨n, u, ls, a, x, s, rfl, hls, hT, hs, hP, _, _⟩, hb⟩
  have L1 : LwS w w1.heap.size n u ls x s (w1.alloc (.cells #[.int .i64 n, u] 25)) := LwS.new hb hT hP
  obtain ⟨ua, uc, rfl, hul, hum⟩ := hT.form2
  obtain ⟨xa, xc, rfl, hxl, hxm⟩ := hP.form2
  unfold maxLen at hum hxm
  have HL := Lib.hid L1
  clear hb L1 hT hP
  obtain ⟨L, hL⟩ : ∃ L, stkPV n ls a s = L := ⟨_, rfl⟩
  have HLL := Lib.hid hL
  go_wp2_with fail
  refine (iPathAny HLL.out HL.out.tri HL.out.prs).mono ?_
  rintro e w2 ⟨oA, oc, rfl, ho, hb⟩
  have HO : Hid (LwH w w1.heap.size n (.slice ua ls.length uc) ls (.slice xa s.length xc) s (.slice oA L.length oc) L w2) := Lib.hid ⟨HL.out.below hb, ho⟩
  obtain ⟨c0, c1, f0, f1, l0⟩ := box2 HO.out.st.box
  clear hb HL ho
  go_wp2_with fail
  refine (sPathAny HLL.out HO.out.st.tri HO.out.st.prs).mono ?_
  rintro e w3 ⟨wA, wc', rfl, hw3, hb⟩
  replace HO := Lib.hid (HO.out.below hb)
  have HW := Lib.hid hw3
  clear hb hw3 c0 c1 f0 f1 l0
  go_wp2_with fail
  refine (sameInts_self HO.out.out HW.out).mono ?_
  rintro e w4 ⟨rfl, hb⟩
  replace HO := Lib.hid (HO.out.below hb)
  replace HW := Lib.hid (HW.out.below hb (Nat.le_refl _))
  clear hb
  obtain ⟨c0, c1, f0, f1, l0⟩ := box2 HO.out.st.box
  rcases hq : stkOf n ls a s with _ | q
  · have hL0 : L = [] := by rw [← hL]; exact stkPV_no hq
    subst hL0
    have HQ := Lib.hid hq
    clear hq hL
    go_wp2_with fail
    refine (iEndNo HQ.out HO.out.st.tri HO.out.st.prs).mono ?_
    rintro e w5 ⟨rfl, hb⟩
    replace HO := Lib.hid (HO.out.below hb)
    clear hb c0 c1 f0 f1 l0
    obtain ⟨c0, c1, f0, f1, l0⟩ := box2 HO.out.st.box
    go_wp2_with fail
    refine (iCostNo HQ.out HO.out.st.tri HO.out.st.prs).mono ?_
    rintro e w6 ⟨rfl, hb⟩
    replace HO := Lib.hid (HO.out.below hb)
    clear hb c0 c1 f0 f1 l0
    go_wp2_with fail
    go_ret
    exact ⟨rfl, HO.out.st.bw⟩
  · obtain ⟨P, hPF⟩ := stkPV_yes hq
    have hLP : L = a :: P := by rw [← hL]; exact hPF.pv
    have hLl : L.length = P.length + 1 := by rw [hLP]; rfl
    have t1 : decide ((0:Int) < (L.length:Int)) = true := decide_eq_true (by omega)
    have t1' : 0 < L.length := by omega
    obtain ⟨z, hz⟩ : ∃ z, lastN a q = z := ⟨_, rfl⟩
    obtain ⟨cc, hcc⟩ : ∃ cc, stkCost n ls a s = cc := ⟨_, rfl⟩
    have hc0 : 0 ≤ cc := by rw [← hcc]; exact hPF.pos
    have t2 : decide (0 ≤ cc) = true := decide_eq_true hc0
    have HQ := Lib.hid hq; have HZ := Lib.hid hz; have HCC := Lib.hid hcc
    clear hq hz hPF hLP hL hLl hcc
    go_wp2_with fail
    refine (iEndYes HQ.out HZ.out HO.out.st.tri HO.out.st.prs).mono ?_
    rintro e w5 ⟨rfl, hb⟩
    replace HO := Lib.hid (HO.out.below hb)
    clear hb c0 c1 f0 f1 l0
    obtain ⟨c0, c1, f0, f1, l0⟩ := box2 HO.out.st.box
    go_wp2_with fail
    refine (iCostYes HQ.out HCC.out HO.out.st.tri HO.out.st.prs).mono ?_
    rintro e w6 ⟨rfl, hb⟩
    replace HO := Lib.hid (HO.out.below hb)
    clear hb c0 c1 f0 f1 l0
    go_wp2_with fail
    go_ret
    exact ⟨rfl, HO.out.st.bw⟩
theorem own : ownKnob Try.prog.godebug = none := by kernel_rfl
theorem laidOut : laidOutB Try.prog = true := by kernel_rfl
set_option maxRecDepth 100000 in
theorem lifted (os : Os) (started : os.Started) (H : Type) (enc : TypeId × Value → H) :
    ReturnsInHanded {} Try.checked os 4 .any (Rows.fnStackPathFailSpec.pre6 enc Try.prog Try.f4 Rows.fnStackPathFailRow.domain false) (Rows.fnStackPathFailSpec.post enc Try.prog Try.f4 false true false false) := by
  refine returnsInHanded_of_change (C := Try.checked) own started (by kernel_rfl) Try.func4
    (ChangeSpec.witness6 (enc := enc) (C := Try.checked) false ⟨#[], #[.slice none 0 0], []⟩ 8 (by kernel_rfl) (by kernel_rfl) (by kernel_rfl) (by kernel_rfl)) ?_
  intro W base args ds gs before hval0 hW hcnd _
  have hval : ∀ (j : Nat) t v, Try.f4.params[j]? = some t → args[j]? = some v → Value.okWide Try.prog W .any base t v := hval0
  have hW' := hW
  obtain ⟨p, q, hA0, hV, rfl, hfz, hnd⟩ := hW
  have hA : DataW.TrodAll enc Try.prog W 0 (fun _ => true) true Try.f4.params.toList args.toList ds p := hA0
  rw [Try.params4] at hA hval
  obtain ⟨v0, vs0, d0, ds0, p0, q0, hargs, rfl, rfl, h0, r0⟩ := trodAll_cons hA
  obtain ⟨rfl, rfl, rfl⟩ := trodAll_nil r0
  obtain rfl : args = #[v0] := by cases args; simp_all
  obtain ⟨rfl, rfl⟩ := trodVars_none hV
  have k0 := h0
  have lt0 : ∀ x ∈ p0, x.block < W.heap.size := by obtain ⟨m, hm⟩ := k0; exact DataW.trod_lt m _ _ _ hm
  have w0 : CodeAt W v0 := codeAt_of_trod (T := 22) (E := 5) Try.underlying22 Try.underlying5 (by kernel_rfl) (hval 0 22 v0 rfl rfl) h0
  clear hA0 hval0
  refine (walk v0 W w0).mono fun e W' ⟨he, bel⟩ => ?_
  subst he
  exact ⟨_, rfl, _, _, _, [], _, [], hW', trodAll_mk1 (shut_bool Try.underlying4 _), (trodAll_cons_mk (Below.trod laidOut (by kernel_rfl) (of_decide_eq_true (by kernel_rfl)) k0 bel lt0) trodAll_mk0), rfl, bel.frame _, fun h => by cases h⟩
theorem over : Rows.fnStackPathFailRow.holds Try.pinned (OpenSpec.ofChange Rows.fnStackPathFailSpec) :=
  OpenClaim.holds_of_wide 4 Try.f4 rfl rfl rfl rfl rfl rfl rfl ⟨rfl, rfl, rfl, rfl, rfl⟩ rfl rfl rfl rfl rfl (by kernel_rfl) Try.func4 (by kernel_rfl)
    (of_decide_eq_true (by kernel_rfl)) (by unfold Func.isWrapper; first | (rw [if_pos (by decide +kernel)]; kernel_rfl) | (rw [if_neg (by decide +kernel)]; exact ⟨rfl, rfl⟩))
    (fun os started H enc _ => lifted os started H enc)
end Go.Proofs.Ytkegainegkdgpaa.lawFnStackPathFail
namespace Go.Proofs.Ytkegainegkdgpaa
set_option linter.unusedSimpArgs false
set_option linter.unusedVariables false
/-- The statement. -/
theorem FnStackPathFail_proved : Rows.FnStackPathFailSaid := lawFnStackPathFail.over
#print axioms FnStackPathFail_proved
end Go.Proofs.Ytkegainegkdgpaa
