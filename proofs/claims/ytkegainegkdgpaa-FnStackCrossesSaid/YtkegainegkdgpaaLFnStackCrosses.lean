/- FnStackCrosses: for every input the call returns true, and the argument reads afterwards as before. No condition. -/
import Derived.Test.YtkegainegkdgpaaLwH
import Derived.Test.YtkegainegkdgpaaCrossS
import Derived.Test.YtkegainegkdgpaaRows
import Derived.Test.YtkegainegkdgpaaOpen
import Derived.ProofKit
import Derived.OpenShut
import Derived.ShutString
import Derived.ChangeOld
import Derived.Lib.SmallJoins
namespace Go.Proofs.Ytkegainegkdgpaa.lawFnStackCrosses
set_option linter.unusedSimpArgs false
set_option linter.unusedVariables false
open Go.ChangeShapes Go.WideShapes Go.ChangeAt Go.RowKit Go.Joins
set_option maxRecDepth 100000 in
set_option maxHeartbeats 4000000 in
theorem walk (v : Value) (w : World) (h : CodeAt w v) :
    Calls Try.prog 10 #[v] w fun e w' => e = .returned (.bool true) ∧ Below w.heap.size w w' := by
  obtain ⟨a0, n0, cap0, b0, off0, rfl, hcap0, hmax0, ha0, hc0⟩ := id h
  unfold maxLen at hmax0
  clear ha0 hc0
  have H := Lib.hid h
  clear h
  by_cases hn : 1048576 < n0
  · go_enter Try.func10, Try.ntmps10
    go_wp2
    go_ret
    exact ⟨rfl, Below.refl _ _⟩
  go_enter Try.func10, Try.ntmps10
  go_wp2_with fail
  refine (drawSP _ _ H.out).mono ?_
  rintro e w1 ⟨⟨n, u, ls, a, x, s, rfl, hls, hT, hs, hP, _, _⟩, hb⟩
  have L1 : LwS w w1.heap.size n u ls x s (w1.alloc (.cells #[.int .i64 n, u] 25)) := LwS.new hb hT hP
  obtain ⟨ua, uc, rfl, hul, hum⟩ := hT.form2
  obtain ⟨xa, xc, rfl, hxl, hxm⟩ := hP.form2
  unfold maxLen at hum hxm
  have HL := Lib.hid L1
  clear hb L1 hT hP
  obtain ⟨L, hL⟩ : ∃ L, stkPV n ls a s = L := ⟨_, rfl⟩
  have HLL := Lib.hid hL
  go_wp2_with fail
  refine (iPathAny HLL.out HL.out.tri HL.out.prs).mono ?_
  rintro e w2 ⟨oA, oc, rfl, ho, hb⟩
  have HO : Hid (LwH w w1.heap.size n (.slice ua ls.length uc) ls (.slice xa s.length xc) s (.slice oA L.length oc) L w2) := Lib.hid ⟨HL.out.below hb, ho⟩
  obtain ⟨c0, c1, f0, f1, l0⟩ := box2 HO.out.st.box
  clear hb HL ho
  go_wp2_with fail
  refine (sPathAny HLL.out HO.out.st.tri HO.out.st.prs).mono ?_
  rintro e w3 ⟨wA, wc', rfl, hw3, hb⟩
  replace HO := Lib.hid (HO.out.below hb)
  have HW := Lib.hid hw3
  clear hb hw3 c0 c1 f0 f1 l0
  go_wp2_with fail
  refine (sameInts_self HO.out.out HW.out).mono ?_
  rintro e w4 ⟨rfl, hb⟩
  replace HO := Lib.hid (HO.out.below hb)
  replace HW := Lib.hid (HW.out.below hb (Nat.le_refl _))
  clear hb
  rcases hq : stkOf n ls a s with _ | q
  · have hL0 : L = [] := by rw [← hL]; exact stkPV_no hq
    subst hL0
    clear hq hL
    go_wp2_with fail
    go_loopw [8] (fun i wr => i = .int .i64 1 ∧ w4 = wr) (fun _ _ => 0)
    case atStart => exact ⟨rfl, rfl⟩
    case round =>
      obtain ⟨rfl, rfl⟩ := hrel
      go_wp2_with fail
      go_ret
      exact ⟨rfl, HO.out.st.bw⟩
  · obtain ⟨P, hPF⟩ := stkPV_yes hq
    have hLP : L = a :: P := by rw [← hL]; exact hPF.pv
    have hF := stkOf_some hq
    have hLl : L.length = P.length + 1 := by rw [hLP]; rfl
    have hL65 : L.length ≤ 65 := by have := hPF.len; omega
    have hL1 : 1 ≤ L.length := by omega
    obtain ⟨ob, oo, rfl, hob⟩ := HO.out.out.some (by omega)
    have HQ := Lib.hid hq; have HPF := Lib.hid hPF; have HLP := Lib.hid hLP; have HFF := Lib.hid hF
    clear hq hPF hLP hL hF hLl
    go_wp2_with fail
    go_loopw [8] (fun i wr => ∃ J : Int, 1 ≤ J ∧ J ≤ (L.length:Int) ∧ i = .int .i64 J ∧ Below w4.heap.size w4 wr) (fun i _ => L.length - (intOf i).toNat)
    case atStart => exact ⟨1, by omega, by omega, rfl, Below.refl _ _⟩
    case round =>
      obtain ⟨J, hJ1, hJ2, rfl, hB⟩ := hrel
      have HB := Lib.hid hB
      have HOr := Lib.hid (HO.out.below hB)
      clear hB
      by_cases hJM : J < (L.length:Int)
      · have t1 : decide (J < (L.length:Int)) = true := decide_eq_true hJM
        obtain ⟨x, y, i, l, hx, hy, hk, hli, _, _⟩ := link_at (J := J) HFF.out.ok HPF.out.walk hJ1 (by rw [← HLP.out]; exact hJM)
        have hon : onP ls i a (stkPath n ls a s) = true := by
          rw [HPF.out.eq]
          exact onP_at hx (by rw [show J.toNat - 1 + 1 = J.toNat by omega]; exact hy) hk
        have hcr := on_cross HFF.out.ok HFF.out.nd HFF.out.run hon
        have hcv : crossV n ls a s (i:Int) = true := by rw [crossV_in HQ.out (List.getElem?_eq_some_iff.1 hli).1]; exact hcr
        rw [← HLP.out] at hx hy
        have wJ : IntKind.i64.wrap (J - 1) = J - 1 := IntWalk.i64_in _ (by omega)
        have wJ2 : IntKind.i64.wrap (J + 1) = J + 1 := IntWalk.i64_in _ (by omega)
        have hI2 : 0 ≤ J - 1 := by omega
        have hI3 : J - 1 < (L.length:Int) := by omega
        have hI5 : J < (L.length:Int) + 1 := by omega
        have hI6 : 0 ≤ J := by omega
        have HKK := Lib.hid hk; have HCV := Lib.hid hcv
        have d0 := HOr.out.out.get hx
        have d1 := HOr.out.out.get hy
        clear hx hy hk hli hon hcr hcv
        go_wp2_with fail
        obtain ⟨I, φ, h0, hφ, hmk⟩ := famOf (wr).heap.size (wr)
        haveI : Nonempty I := h0.elim fun i _ => ⟨i⟩
        have H0 := Lib.hid h0; have HF := Lib.hid hφ; have HMK := Lib.hid hmk; have HBs : Hid ((wr).heap.size ≤ (wr).heap.size) := Lib.hid (Nat.le_refl _)
        clear h0 hφ hmk
        obtain ⟨G_0, G_1, G_2, G_3, G_4⟩ := box2F fun i => HOr.out.st.box.below (HF.out i) HOr.out.st.box.lt
        have e0 : ∀ i, (φ i).cell? ⟨ob, oo + J.toNat, none⟩ = some (.int .i64 y) := fun i => cell_below (HF.out i) d1 (cell_lt d1)
        have e2 : ∀ i, (φ i).cell? ⟨ob, oo + (J.toNat - 1), none⟩ = some (.int .i64 x) := fun i => cell_below (HF.out i) d0 (cell_lt d0)
        have HC : Hid (∀ j, Calls Try.prog 18 #[.agg #[.int .i64 n, .slice ua ls.length uc], .int .i64 x, .int .i64 y] (φ j) fun e w' => e = .returned (.int .i64 (i:Int)) ∧ Below (φ j).heap.size (φ j) w') := Lib.hid fun j => by rw [← HKK.out]; exact iGraphLink n ls x y _ _ (HOr.out.st.tri.below (HF.out j) (Nat.le_refl _)) HFF.out.ok
        have HC2 : Hid (∀ j, Calls Try.prog 34 #[.agg #[.int .i64 n, .slice ua ls.length uc], .int .i64 a, .slice xa s.length xc, .int .i64 (i:Int)] (φ j) fun e w' => e = .returned (.bool true) ∧ Below (φ j).heap.size (φ j) w') := Lib.hid fun j => by rw [← HCV.out]; exact iStackCrosses n ls a s (i:Int) _ _ _ (HOr.out.st.tri.below (HF.out j) (Nat.le_refl _)) (HOr.out.st.prs.below (HF.out j) (Nat.le_refl _))
        clear d0 d1
        refine wp_region_fam φ H0.out (by kernel_rfl) (by kernel_rfl) ?_
        repeat (go_big_quiet_step (first | (go_at_call 18; exact quiet_fam HF.out HBs.out HMK.out (HC.out _)) | (go_at_call 34; exact quiet_fam HF.out HBs.out HMK.out (HC2.out _))))
        refine wpQuiet_nil ?_
        intro _ hw'
        obtain ⟨nq, hw''⟩ := hw'
        subst hw''
        have hb := HF.out nq
        obtain ⟨w6, hw2⟩ : ∃ x, φ nq = x := ⟨_, rfl⟩
        rw [hw2] at hb ⊢
        clear hw2
        go_wp2_with fail
        go_roundw
        case rel => exact ⟨J + 1, by omega, by omega, rfl, HB.out.trans (hb.mono HB.out.size)⟩
        case measure => simp [intOf]; omega
      · have t1 : decide (J < (L.length:Int)) = false := decide_eq_false hJM
        go_wp2_with fail
        go_ret
        exact ⟨rfl, HOr.out.st.bw⟩
theorem own : ownKnob Try.prog.godebug = none := by kernel_rfl
theorem laidOut : laidOutB Try.prog = true := by kernel_rfl
set_option maxRecDepth 100000 in
theorem lifted (os : Os) (started : os.Started) (H : Type) (enc : TypeId × Value → H) :
    ReturnsInHanded {} Try.checked os 10 .any (Rows.fnStackCrossesSpec.pre6 enc Try.prog Try.f10 Rows.fnStackCrossesRow.domain false) (Rows.fnStackCrossesSpec.post enc Try.prog Try.f10 false true false false) := by
  refine returnsInHanded_of_change (C := Try.checked) own started (by kernel_rfl) Try.func10
    (ChangeSpec.witness6 (enc := enc) (C := Try.checked) false ⟨#[], #[.slice none 0 0], []⟩ 8 (by kernel_rfl) (by kernel_rfl) (by kernel_rfl) (by kernel_rfl)) ?_
  intro W base args ds gs before hval0 hW hcnd _
  have hval : ∀ (j : Nat) t v, Try.f10.params[j]? = some t → args[j]? = some v → Value.okWide Try.prog W .any base t v := hval0
  have hW' := hW
  obtain ⟨p, q, hA0, hV, rfl, hfz, hnd⟩ := hW
  have hA : DataW.TrodAll enc Try.prog W 0 (fun _ => true) true Try.f10.params.toList args.toList ds p := hA0
  rw [Try.params10] at hA hval
  obtain ⟨v0, vs0, d0, ds0, p0, q0, hargs, rfl, rfl, h0, r0⟩ := trodAll_cons hA
  obtain ⟨rfl, rfl, rfl⟩ := trodAll_nil r0
  obtain rfl : args = #[v0] := by cases args; simp_all
  obtain ⟨rfl, rfl⟩ := trodVars_none hV
  have k0 := h0
  have lt0 : ∀ x ∈ p0, x.block < W.heap.size := by obtain ⟨m, hm⟩ := k0; exact DataW.trod_lt m _ _ _ hm
  have w0 : CodeAt W v0 := codeAt_of_trod (T := 22) (E := 5) Try.underlying22 Try.underlying5 (by kernel_rfl) (hval 0 22 v0 rfl rfl) h0
  clear hA0 hval0
  refine (walk v0 W w0).mono fun e W' ⟨he, bel⟩ => ?_
  subst he
  exact ⟨_, rfl, _, _, _, [], _, [], hW', trodAll_mk1 (shut_bool Try.underlying4 _), (trodAll_cons_mk (Below.trod laidOut (by kernel_rfl) (of_decide_eq_true (by kernel_rfl)) k0 bel lt0) trodAll_mk0), rfl, bel.frame _, fun h => by cases h⟩
theorem over : Rows.fnStackCrossesRow.holds Try.pinned (OpenSpec.ofChange Rows.fnStackCrossesSpec) :=
  OpenClaim.holds_of_wide 10 Try.f10 rfl rfl rfl rfl rfl rfl rfl ⟨rfl, rfl, rfl, rfl, rfl⟩ rfl rfl rfl rfl rfl (by kernel_rfl) Try.func10 (by kernel_rfl)
    (of_decide_eq_true (by kernel_rfl)) (by unfold Func.isWrapper; first | (rw [if_pos (by decide +kernel)]; kernel_rfl) | (rw [if_neg (by decide +kernel)]; exact ⟨rfl, rfl⟩))
    (fun os started H enc _ => lifted os started H enc)
end Go.Proofs.Ytkegainegkdgpaa.lawFnStackCrosses
namespace Go.Proofs.Ytkegainegkdgpaa
set_option linter.unusedSimpArgs false
set_option linter.unusedVariables false
/-- The statement. -/
theorem FnStackCrosses_proved : Rows.FnStackCrossesSaid := lawFnStackCrosses.over
#print axioms FnStackCrosses_proved
end Go.Proofs.Ytkegainegkdgpaa
