/- FnStackCost: for every input the call returns true, and the argument reads afterwards as before. No condition. -/
import Derived.Test.YtkegainegkdgpaaLwH
import Derived.Test.YtkegainegkdgpaaRows
import Derived.Test.YtkegainegkdgpaaOpen
import Derived.ProofKit
import Derived.OpenShut
import Derived.ShutString
import Derived.ChangeOld
import Derived.Lib.SmallJoins
namespace Go.Proofs.Ytkegainegkdgpaa.lawFnStackCost
set_option linter.unusedSimpArgs false
set_option linter.unusedVariables false
open Go.ChangeShapes Go.WideShapes Go.ChangeAt Go.RowKit Go.Joins
set_option maxRecDepth 100000 in
set_option maxHeartbeats 4000000 in
theorem walk (v : Value) (w : World) (h : CodeAt w v) :
    Calls Try.prog 5 #[v] w fun e w' => e = .returned (.bool true) ∧ Below w.heap.size w w' := by
  obtain ⟨a0, n0, cap0, b0, off0, rfl, hcap0, hmax0, ha0, hc0⟩ := id h
  unfold maxLen at hmax0
  clear ha0 hc0
  have H := Lib.hid h
  clear h
  by_cases hn : 1048576 < n0
  · go_enter Try.func5, Try.ntmps5
    go_wp2
    go_ret
    exact ⟨rfl, Below.refl _ _⟩
  go_enter Try.func5, Try.ntmps5
  go_wp2_with fail
  refine (drawSC _ _ H.out).mono ?_
  rintro e w1 ⟨⟨n, u, ls, a, x, s, rfl, hls, hT, hs, hP, _, _⟩, hb⟩
  have L1 : LwS w w1.heap.size n u ls x s (w1.alloc (.cells #[.int .i64 n, u] 25)) := LwS.new hb hT hP
  obtain ⟨ua, uc, rfl, hul, hum⟩ := hT.form2
  obtain ⟨xa, xc, rfl, hxl, hxm⟩ := hP.form2
  unfold maxLen at hum hxm
  have HL := Lib.hid L1
  clear hb L1 hT hP
  rcases hq : stkOf n ls a s with _ | q
  · have HQ := Lib.hid hq
    clear hq
    go_wp2_with fail
    refine (iCostNo HQ.out HL.out.tri HL.out.prs).mono ?_
    rintro e w2 ⟨rfl, hb⟩
    replace HL := Lib.hid (HL.out.below hb)
    obtain ⟨c0, c1, f0, f1, l0⟩ := box2 HL.out.box
    clear hb
    go_wp2_with fail
    refine (sCostNo HQ.out HL.out.tri HL.out.prs).mono ?_
    rintro e w3 ⟨rfl, hb⟩
    replace HL := Lib.hid (HL.out.below hb)
    clear hb c0 c1 f0 f1 l0
    go_wp2_with fail
    go_ret
    exact ⟨rfl, HL.out.bw⟩
  · obtain ⟨P, hPF⟩ := stkPV_yes hq
    obtain ⟨L, hL⟩ : ∃ L, stkPV n ls a s = L := ⟨_, rfl⟩
    have hLP : L = a :: P := by rw [← hL]; exact hPF.pv
    have hF := stkOf_some hq
    have hLl : L.length = P.length + 1 := by rw [hLP]; rfl
    have hL65 : L.length ≤ 65 := by have := hPF.len; omega
    have hL1 : 1 ≤ L.length := by omega
    obtain ⟨cc, hcc⟩ : ∃ cc, stkCost n ls a s = cc := ⟨_, rfl⟩
    have hcp : 0 ≤ cc := by rw [← hcc]; exact hPF.pos
    have e1 : (cc != cc) = false := by simp
    have e2 : decide (cc < 0) = false := decide_eq_false (by omega)
    have e3 : (cc == cc) = true := by simp
    have HQ := Lib.hid hq; have HPF := Lib.hid hPF; have HLP := Lib.hid hLP; have HFF := Lib.hid hF; have HLl := Lib.hid hLl; have HLL := Lib.hid hL; have HCC := Lib.hid hcc
    clear hq hPF hLP hL hF hLl hcc
    go_wp2_with fail
    refine (iCostYes HQ.out HCC.out HL.out.tri HL.out.prs).mono ?_
    rintro e w2 ⟨rfl, hb⟩
    replace HL := Lib.hid (HL.out.below hb)
    obtain ⟨c0, c1, f0, f1, l0⟩ := box2 HL.out.box
    clear hb
    go_wp2_with fail
    refine (sCostYes HQ.out HCC.out HL.out.tri HL.out.prs).mono ?_
    rintro e w3 ⟨rfl, hb⟩
    replace HL := Lib.hid (HL.out.below hb)
    clear hb c0 c1 f0 f1 l0
    obtain ⟨c0, c1, f0, f1, l0⟩ := box2 HL.out.box
    go_wp2_with fail
    refine (iPathAny HLL.out HL.out.tri HL.out.prs).mono ?_
    rintro e w4 ⟨oA, oc, rfl, ho, hb⟩
    have HO : Hid (LwH w w1.heap.size n (.slice ua ls.length uc) ls (.slice xa s.length xc) s (.slice oA L.length oc) L w4) := Lib.hid ⟨HL.out.below hb, ho⟩
    clear hb HL ho c0 c1 f0 f1 l0
    obtain ⟨ob, oo, rfl, hob⟩ := HO.out.out.some (by omega)
    obtain ⟨s0, hs0⟩ : ∃ s0, pcostK ls L (Int.toNat 1 - 1) = s0 := ⟨_, rfl⟩
    have hs00 : s0 = 0 := by rw [← hs0]; rfl
    subst hs00
    have HS0 := Lib.hid hs0
    clear hs0
    go_wp2_with fail
    go_loopw [9, 10] (fun nv i wr => ∃ J : Int, 1 ≤ J ∧ J ≤ (L.length:Int) ∧ i = .int .i64 J ∧ nv = .int .i64 (pcostK ls L (J.toNat - 1)) ∧ Below w4.heap.size w4 wr) (fun _ i _ => L.length - (intOf i).toNat)
    case atStart => exact ⟨1, by omega, by omega, rfl, by rw [HS0.out], Below.refl _ _⟩
    case round =>
      obtain ⟨J, hJ1, hJ2, rfl, rfl, hB⟩ := hrel
      have HB := Lib.hid hB
      have HOr := Lib.hid (HO.out.below hB)
      have hpb := pcost_le HFF.out.ok L (J.toNat - 1)
      obtain ⟨S, hS⟩ : ∃ S, pcostK ls L (J.toNat - 1) = S := ⟨_, rfl⟩
      rw [hS] at hpb ⊢
      have HS := Lib.hid hS
      have hS0 : 0 ≤ S := hpb.1
      have hS1 : S ≤ 1300 := by have := hpb.2; omega
      clear hB hS hpb
      by_cases hJM : J < (L.length:Int)
      · have t1 : decide (J < (L.length:Int)) = true := decide_eq_true hJM
        obtain ⟨x, y, i, ⟨m1, m2, m3⟩, hx, hy, hk, hli, _, hcst⟩ := link_at (J := J) HFF.out.ok HPF.out.walk hJ1 (by rw [← HLP.out]; exact hJM)
        rw [← HLP.out] at hx hy
        have hlk := HFF.out.ok.link i _ hli
        have hil := (List.getElem?_eq_some_iff.1 hli).1
        have hpn : pcostK ls L (J.toNat - 1 + 1) = S + m3 := by
          have h1 : pcostK ls L (J.toNat - 1 + 1) = pcostK ls L (J.toNat - 1) + cstL ls (L.getD (J.toNat - 1) 0) (L.getD (J.toNat - 1 + 1) 0) := rfl
          rw [h1, HS.out, getD_of hx, show J.toNat - 1 + 1 = J.toNat by omega, getD_of hy, hcst]
        have HPN := Lib.hid hpn
        simp only at hlk
        obtain ⟨_, _, _, hm1, hm20⟩ := hlk
        obtain ⟨ub, uo, rfl, hub⟩ := HO.out.st.tri.some (by omega)
        obtain ⟨_, _, g2⟩ := HOr.out.st.tri.get hli
        have wJ : IntKind.i64.wrap (J - 1) = J - 1 := IntWalk.i64_in _ (by omega)
        have wJ2 : IntKind.i64.wrap (J + 1) = J + 1 := IntWalk.i64_in _ (by omega)
        have wS : IntKind.i64.wrap (S + m3) = S + m3 := IntWalk.i64_in _ (by omega)
        have hI2 : 0 ≤ J - 1 := by omega
        have hI3 : J - 1 < (L.length:Int) := by omega
        have hI5 : J < (L.length:Int) + 1 := by omega
        have hI6 : 0 ≤ J := by omega
        have hi0 : (0:Int) ≤ (i:Int) := by omega
        have hi1 : (i:Int) < (ls.length:Int) := by omega
        have HKK := Lib.hid hk
        have d0 := HOr.out.out.get hx
        have d1 := HOr.out.out.get hy
        clear hx hy hk hli hcst hpn
        go_wp2_with fail
        obtain ⟨I, φ, h0, hφ, hmk⟩ := famOf (wr).heap.size (wr)
        haveI : Nonempty I := h0.elim fun i _ => ⟨i⟩
        have H0 := Lib.hid h0; have HF := Lib.hid hφ; have HMK := Lib.hid hmk; have HBs : Hid ((wr).heap.size ≤ (wr).heap.size) := Lib.hid (Nat.le_refl _)
        clear h0 hφ hmk
        obtain ⟨G_0, G_1, G_2, G_3, G_4⟩ := box2F fun i => HOr.out.st.box.below (HF.out i) HOr.out.st.box.lt
        have e0 : ∀ i, (φ i).cell? ⟨ob, oo + J.toNat, none⟩ = some (.int .i64 y) := fun i => cell_below (HF.out i) d1 (cell_lt d1)
        have e2 : ∀ i, (φ i).cell? ⟨ob, oo + (J.toNat - 1), none⟩ = some (.int .i64 x) := fun i => cell_below (HF.out i) d0 (cell_lt d0)
        have e4 : ∀ j, (φ j).cell? ⟨ub, uo + i * 3 + 2, none⟩ = some (.int .i64 m3) := fun j => cell_below (HF.out j) g2 (cell_lt g2)
        have HC : Hid (∀ j, Calls Try.prog 18 #[.agg #[.int .i64 n, .slice (some ⟨ub, uo, none⟩) ls.length uc], .int .i64 x, .int .i64 y] (φ j) fun e w' => e = .returned (.int .i64 (i:Int)) ∧ Below (φ j).heap.size (φ j) w') := Lib.hid fun j => by rw [← HKK.out]; exact iGraphLink n ls x y _ _ (HOr.out.st.tri.below (HF.out j) (Nat.le_refl _)) HFF.out.ok
        clear d0 d1 g2
        refine wp_region_fam φ H0.out (by kernel_rfl) (by kernel_rfl) ?_
        repeat (go_big_quiet_step (first | (go_at_call 18; exact quiet_fam HF.out HBs.out HMK.out (HC.out _))))
        refine wpQuiet_nil ?_
        intro _ hw'
        obtain ⟨nq, hw''⟩ := hw'
        subst hw''
        have hb := HF.out nq
        obtain ⟨w6, hw2⟩ : ∃ x, φ nq = x := ⟨_, rfl⟩
        rw [hw2] at hb ⊢
        clear hw2
        go_wp2_with fail
        go_roundw
        case rel => exact ⟨J + 1, by omega, by omega, rfl, by rw [show (J + 1).toNat - 1 = J.toNat - 1 + 1 by omega, HPN.out], HB.out.trans (hb.mono HB.out.size)⟩
        case measure => simp [intOf]; omega
      · have t1 : decide (J < (L.length:Int)) = false := decide_eq_false hJM
        have hSc : S = cc := by
          rw [← HS.out, ← HCC.out, ← HPF.out.cost, HLP.out, ← pcost_wc]
          congr 1
          have := HLl.out; omega
        subst hSc
        go_wp2_with fail
        go_ret
        exact ⟨rfl, HOr.out.st.bw⟩
theorem own : ownKnob Try.prog.godebug = none := by kernel_rfl
theorem laidOut : laidOutB Try.prog = true := by kernel_rfl
set_option maxRecDepth 100000 in
theorem lifted (os : Os) (started : os.Started) (H : Type) (enc : TypeId × Value → H) :
    ReturnsInHanded {} Try.checked os 5 .any (Rows.fnStackCostSpec.pre6 enc Try.prog Try.f5 Rows.fnStackCostRow.domain false) (Rows.fnStackCostSpec.post enc Try.prog Try.f5 false true false false) := by
  refine returnsInHanded_of_change (C := Try.checked) own started (by kernel_rfl) Try.func5
    (ChangeSpec.witness6 (enc := enc) (C := Try.checked) false ⟨#[], #[.slice none 0 0], []⟩ 8 (by kernel_rfl) (by kernel_rfl) (by kernel_rfl) (by kernel_rfl)) ?_
  intro W base args ds gs before hval0 hW hcnd _
  have hval : ∀ (j : Nat) t v, Try.f5.params[j]? = some t → args[j]? = some v → Value.okWide Try.prog W .any base t v := hval0
  have hW' := hW
  obtain ⟨p, q, hA0, hV, rfl, hfz, hnd⟩ := hW
  have hA : DataW.TrodAll enc Try.prog W 0 (fun _ => true) true Try.f5.params.toList args.toList ds p := hA0
  rw [Try.params5] at hA hval
  obtain ⟨v0, vs0, d0, ds0, p0, q0, hargs, rfl, rfl, h0, r0⟩ := trodAll_cons hA
  obtain ⟨rfl, rfl, rfl⟩ := trodAll_nil r0
  obtain rfl : args = #[v0] := by cases args; simp_all
  obtain ⟨rfl, rfl⟩ := trodVars_none hV
  have k0 := h0
  have lt0 : ∀ x ∈ p0, x.block < W.heap.size := by obtain ⟨m, hm⟩ := k0; exact DataW.trod_lt m _ _ _ hm
  have w0 : CodeAt W v0 := codeAt_of_trod (T := 22) (E := 5) Try.underlying22 Try.underlying5 (by kernel_rfl) (hval 0 22 v0 rfl rfl) h0
  clear hA0 hval0
  refine (walk v0 W w0).mono fun e W' ⟨he, bel⟩ => ?_
  subst he
  exact ⟨_, rfl, _, _, _, [], _, [], hW', trodAll_mk1 (shut_bool Try.underlying4 _), (trodAll_cons_mk (Below.trod laidOut (by kernel_rfl) (of_decide_eq_true (by kernel_rfl)) k0 bel lt0) trodAll_mk0), rfl, bel.frame _, fun h => by cases h⟩
theorem over : Rows.fnStackCostRow.holds Try.pinned (OpenSpec.ofChange Rows.fnStackCostSpec) :=
  OpenClaim.holds_of_wide 5 Try.f5 rfl rfl rfl rfl rfl rfl rfl ⟨rfl, rfl, rfl, rfl, rfl⟩ rfl rfl rfl rfl rfl (by kernel_rfl) Try.func5 (by kernel_rfl)
    (of_decide_eq_true (by kernel_rfl)) (by unfold Func.isWrapper; first | (rw [if_pos (by decide +kernel)]; kernel_rfl) | (rw [if_neg (by decide +kernel)]; exact ⟨rfl, rfl⟩))
    (fun os started H enc _ => lifted os started H enc)
end Go.Proofs.Ytkegainegkdgpaa.lawFnStackCost
namespace Go.Proofs.Ytkegainegkdgpaa
set_option linter.unusedSimpArgs false
set_option linter.unusedVariables false
/-- The statement. -/
theorem FnStackCost_proved : Rows.FnStackCostSaid := lawFnStackCost.over
#print axioms FnStackCost_proved
end Go.Proofs.Ytkegainegkdgpaa
