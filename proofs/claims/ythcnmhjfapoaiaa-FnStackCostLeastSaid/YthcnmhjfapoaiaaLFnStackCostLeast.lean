/- FnStackCostLeast: for every input the call returns true, and the argument reads afterwards as before. No condition. -/
import Derived.Test.YthcnmhjfapoaiaaLwD
import Derived.Test.YthcnmhjfapoaiaaRows
import Derived.Test.YthcnmhjfapoaiaaOpen
import Derived.ProofKit
import Derived.OpenShut
import Derived.ShutString
import Derived.ChangeOld
import Derived.Lib.SmallJoins
namespace Go.Proofs.Ythcnmhjfapoaiaa.lawFnStackCostLeast
set_option linter.unusedSimpArgs false
set_option linter.unusedVariables false
open Go.ChangeShapes Go.WideShapes Go.ChangeAt Go.RowKit Go.Joins
set_option maxRecDepth 100000 in
set_option maxHeartbeats 2000000 in
theorem walk (v : Value) (w : World) (h : CodeAt w v) :
    Calls Try.prog 11 #[v] w fun e w' => e = .returned (.bool true) ∧ Below w.heap.size w w' := by
  obtain ⟨a0, n0, cap0, b0, off0, rfl, hcap0, hmax0, ha0, hc0⟩ := id h
  unfold maxLen at hmax0
  clear ha0 hc0
  have H := Lib.hid h
  clear h
  by_cases hn : 1048576 < n0
  · go_enter Try.func11, Try.ntmps11
    go_wp2
    go_ret
    exact ⟨rfl, Below.refl _ _⟩
  go_enter Try.func11, Try.ntmps11
  go_wp2_with fail
  refine (drawSC _ _ H.out).mono ?_
  rintro e w1 ⟨⟨n, u, ls, a, x, s, rfl, hls, hT, hs, hP, _, _⟩, hb⟩
  have L1 : LwS w w1.heap.size n u ls x s (w1.alloc (.cells #[.int .i64 n, u] 30)) := LwS.new hb hT hP
  obtain ⟨ua, uc, rfl, hul, hum⟩ := hT.form2
  obtain ⟨xa, xc, rfl, hxl, hxm⟩ := hP.form2
  unfold maxLen at hum hxm
  have HL := Lib.hid L1
  have hsz := hb.size
  clear hb L1 hT hP
  rcases hq : stkOf n ls a s with _ | q
  · have HQ := Lib.hid hq
    clear hq
    go_wp2_with fail
    refine (iCostNo HQ.out HL.out.tri HL.out.prs).mono ?_
    rintro e w2 ⟨rfl, hb⟩
    replace HL := Lib.hid (HL.out.below hb)
    obtain ⟨c0, c1, f0, f1, l0⟩ := box2 HL.out.box
    clear hb
    go_wp2_with fail
    refine (sCostNo HQ.out HL.out.tri HL.out.prs).mono ?_
    rintro e w3 ⟨rfl, hb⟩
    replace HL := Lib.hid (HL.out.below hb)
    clear hb c0 c1 f0 f1 l0
    go_wp2_with fail
    go_ret
    exact ⟨rfl, HL.out.bw⟩
  · have HQ := Lib.hid hq
    obtain ⟨g1, g2, g3, g4⟩ := stk_least hq
    have hF := stkOf_some hq
    have HF := Lib.hid hF
    obtain ⟨y, hy⟩ : ∃ y, lastN a q = y := ⟨_, rfl⟩
    obtain ⟨z, hz⟩ : ∃ z, stkCost n ls a s = z := ⟨_, rfl⟩
    obtain ⟨d, hd⟩ : ∃ d, distG n ls a y = d := ⟨_, rfl⟩
    have hyn : nd n.toNat y := by rw [← hy]; exact hF.last
    rw [hy] at g1 g3 g4
    rw [hz] at g1 g2
    rw [hd] at g1 g4
    have HY := Lib.hid hy; have HZ := Lib.hid hz; have HD := Lib.hid hd; have HG3 := Lib.hid g3; have HG4 := Lib.hid g4; have HYN := Lib.hid hyn
    have e1 : (z != z) = false := by simp
    have e2 : decide (z < 0) = false := decide_eq_false (by omega)
    have e3 : decide (d ≤ z) = true := decide_eq_true g1
    have e4 : (d == d) = true := by simp
    clear hq hF hy hz hd g3 g4 hyn
    go_wp2_with fail
    refine (iCostYes HQ.out HZ.out HL.out.tri HL.out.prs).mono ?_
    rintro e w2 ⟨rfl, hb⟩
    replace HL := Lib.hid (HL.out.below hb)
    obtain ⟨c0, c1, f0, f1, l0⟩ := box2 HL.out.box
    clear hb
    go_wp2_with fail
    refine (sCostYes HQ.out HZ.out HL.out.tri HL.out.prs).mono ?_
    rintro e w3 ⟨rfl, hb⟩
    replace HL := Lib.hid (HL.out.below hb)
    clear hb c0 c1 f0 f1 l0
    obtain ⟨c0, c1, f0, f1, l0⟩ := box2 HL.out.box
    go_wp2_with fail
    refine (iEndYes HQ.out HY.out HL.out.tri HL.out.prs).mono ?_
    rintro e w4 ⟨rfl, hb⟩
    replace HL := Lib.hid (HL.out.below hb)
    clear hb c0 c1 f0 f1 l0
    obtain ⟨c0, c1, f0, f1, l0⟩ := box2 HL.out.box
    go_wp2_with fail
    have hP1 : Hid (PairsAt (w4.alloc (.cells #[.int .i64 1, .int .i64 y] 48)) (.slice (some ⟨w4.heap.size, 0, none⟩) 1 1) [(1, y)]) := Lib.hid (pairsAt_box (box_new _ _ _))
    replace HL := Lib.hid (HL.out.alloc (.cells #[.int .i64 1, .int .i64 y] 48))
    refine (iCostYes HG3.out HG4.out HL.out.tri hP1.out).mono ?_
    rintro e w5 ⟨rfl, hb⟩
    replace HL := Lib.hid (HL.out.below hb)
    clear hb c0 c1 f0 f1 l0 hP1
    obtain ⟨c0, c1, f0, f1, l0⟩ := box2 HL.out.box
    go_wp2_with fail
    refine (dist_any n ls a y _ _ HL.out.tri HF.out.ok HF.out.nd HYN.out).mono ?_
    rw [HD.out]
    rintro e w6 ⟨rfl, hb⟩
    replace HL := Lib.hid (HL.out.below hb)
    clear hb c0 c1 f0 f1 l0
    obtain ⟨c0, c1, f0, f1, l0⟩ := box2 HL.out.box
    go_wp2_with fail
    refine (dist_any n ls a y _ _ HL.out.tri HF.out.ok HF.out.nd HYN.out).mono ?_
    rw [HD.out]
    rintro e w7 ⟨rfl, hb⟩
    replace HL := Lib.hid (HL.out.below hb)
    clear hb c0 c1 f0 f1 l0
    go_wp2_with fail
    go_ret
    exact ⟨rfl, HL.out.bw⟩
theorem own : ownKnob Try.prog.godebug = none := by kernel_rfl
theorem laidOut : laidOutB Try.prog = true := by kernel_rfl
set_option maxRecDepth 100000 in
theorem lifted (os : Os) (started : os.Started) (H : Type) (enc : TypeId × Value → H) :
    ReturnsInHanded {} Try.checked os 11 .any (Rows.fnStackCostLeastSpec.pre6 enc Try.prog Try.f11 Rows.fnStackCostLeastRow.domain false) (Rows.fnStackCostLeastSpec.post enc Try.prog Try.f11 false true false false) := by
  refine returnsInHanded_of_change (C := Try.checked) own started (by kernel_rfl) Try.func11
    (ChangeSpec.witness6 (enc := enc) (C := Try.checked) false ⟨#[], #[.slice none 0 0], []⟩ 8 (by kernel_rfl) (by kernel_rfl) (by kernel_rfl) (by kernel_rfl)) ?_
  intro W base args ds gs before hval0 hW hcnd _
  have hval : ∀ (j : Nat) t v, Try.f11.params[j]? = some t → args[j]? = some v → Value.okWide Try.prog W .any base t v := hval0
  have hW' := hW
  obtain ⟨p, q, hA0, hV, rfl, hfz, hnd⟩ := hW
  have hA : DataW.TrodAll enc Try.prog W 0 (fun _ => true) true Try.f11.params.toList args.toList ds p := hA0
  rw [Try.params11] at hA hval
  obtain ⟨v0, vs0, d0, ds0, p0, q0, hargs, rfl, rfl, h0, r0⟩ := trodAll_cons hA
  obtain ⟨rfl, rfl, rfl⟩ := trodAll_nil r0
  obtain rfl : args = #[v0] := by cases args; simp_all
  obtain ⟨rfl, rfl⟩ := trodVars_none hV
  have k0 := h0
  have lt0 : ∀ x ∈ p0, x.block < W.heap.size := by obtain ⟨m, hm⟩ := k0; exact DataW.trod_lt m _ _ _ hm
  have w0 : CodeAt W v0 := codeAt_of_trod (T := 37) (E := 5) Try.underlying37 Try.underlying5 (by kernel_rfl) (hval 0 37 v0 rfl rfl) h0
  clear hA0 hval0
  refine (walk v0 W w0).mono fun e W' ⟨he, bel⟩ => ?_
  subst he
  exact ⟨_, rfl, _, _, _, [], _, [], hW', trodAll_mk1 (shut_bool Try.underlying4 _), (trodAll_cons_mk (Below.trod laidOut (by kernel_rfl) (of_decide_eq_true (by kernel_rfl)) k0 bel lt0) trodAll_mk0), rfl, bel.frame _, fun h => by cases h⟩
theorem over : Rows.fnStackCostLeastRow.holds Try.pinned (OpenSpec.ofChange Rows.fnStackCostLeastSpec) :=
  OpenClaim.holds_of_wide 11 Try.f11 rfl rfl rfl rfl rfl rfl rfl ⟨rfl, rfl, rfl, rfl, rfl⟩ rfl rfl rfl rfl rfl (by kernel_rfl) Try.func11 (by kernel_rfl)
    (of_decide_eq_true (by kernel_rfl)) (by unfold Func.isWrapper; first | (rw [if_pos (by decide +kernel)]; kernel_rfl) | (rw [if_neg (by decide +kernel)]; exact ⟨rfl, rfl⟩))
    (fun os started H enc _ => lifted os started H enc)
end Go.Proofs.Ythcnmhjfapoaiaa.lawFnStackCostLeast
namespace Go.Proofs.Ythcnmhjfapoaiaa
set_option linter.unusedSimpArgs false
set_option linter.unusedVariables false
/-- The statement. -/
theorem FnStackCostLeast_proved : Rows.FnStackCostLeastSaid := lawFnStackCostLeast.over
#print axioms FnStackCostLeast_proved
end Go.Proofs.Ythcnmhjfapoaiaa
