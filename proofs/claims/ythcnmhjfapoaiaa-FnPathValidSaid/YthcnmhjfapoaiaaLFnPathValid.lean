/- FnPathValid: for every input the call returns true, and the argument reads afterwards as before. No condition. -/
import Derived.Test.YthcnmhjfapoaiaaLwP
import Derived.Test.YthcnmhjfapoaiaaRows
import Derived.Test.YthcnmhjfapoaiaaOpen
import Derived.ProofKit
import Derived.OpenShut
import Derived.ShutString
import Derived.ChangeOld
import Derived.Lib.SmallJoins
namespace Go.Proofs.Ythcnmhjfapoaiaa.lawFnPathValid
set_option linter.unusedSimpArgs false
set_option linter.unusedVariables false
open Go.ChangeShapes Go.WideShapes Go.ChangeAt Go.RowKit Go.Joins
theorem rev_of {p ys : List Int} (hy : ys.length = p.length) (h : ∀ (j : Nat) (y : Int), ys[j]? = some y → p[p.length - 1 - j]? = some y) : ys = p.reverse := by
  apply List.ext_getElem?
  intro k
  by_cases hk : k < ys.length
  · obtain ⟨y, hyk⟩ := at_lt (l := ys) (n := ys.length) rfl hk
    rw [hyk, List.getElem?_reverse (by omega)]
    exact (h k y hyk).symm
  · rw [List.getElem?_eq_none (by omega), List.getElem?_eq_none (by simp; omega)]
set_option maxRecDepth 100000 in
set_option maxHeartbeats 4000000 in
theorem walk (v : Value) (w : World) (h : CodeAt w v) :
    Calls Try.prog 5 #[v] w fun e w' => e = .returned (.bool true) ∧ Below w.heap.size w w' := by
  obtain ⟨a0, n0, cap0, b0, off0, rfl, hcap0, hmax0, ha0, hc0⟩ := id h
  unfold maxLen at hmax0
  clear ha0 hc0
  have H := Lib.hid h
  obtain ⟨i0, hi, hz0, hz1, hz2⟩ := info_parts infoI
  have HI := Lib.hid hi; have HZ0 := Lib.hid hz0; have HZ1 := Lib.hid hz1; have HZ2 := Lib.hid hz2
  clear h hi hz0 hz1 hz2
  by_cases hn : 1048576 < n0
  · go_enter Try.func5, Try.ntmps5
    go_wp2
    go_ret
    exact ⟨rfl, Below.refl _ _⟩
  go_enter Try.func5, Try.ntmps5
  go_wp2_with fail
  refine (drawPV _ _ H.out).mono ?_
  rintro e w1 ⟨⟨n, u, ls, x, p, rfl, hls, hT, hs, hP, _, _⟩, hb⟩
  have L1 : LwP w w1.heap.size n u ls x p (w1.alloc (.cells #[.int .i64 n, u] 30)) := LwP.new hb hT hP
  obtain ⟨ua, uc, rfl, hul, hum⟩ := hT.form2
  obtain ⟨xa, xc, rfl, hxl, hxm⟩ := hP.form2
  unfold maxLen at hum hxm
  have HL := Lib.hid L1
  clear hb L1 hT hP
  obtain ⟨ok, hok⟩ : ∃ ok, pathOk n ls p = ok := ⟨_, rfl⟩
  have HOK := Lib.hid hok
  clear hok
  go_wp2_with fail
  refine (iPathValid n ls p _ _ _ HL.out.tri HL.out.ints).mono ?_
  rw [HOK.out]
  rintro e w2 ⟨rfl, hb⟩
  replace HL := Lib.hid (HL.out.below hb)
  obtain ⟨c0, c1, f0, f1, l0⟩ := box2 HL.out.box
  clear hb
  go_wp2_with fail
  refine (sPathValid n ls p _ _ _ HL.out.tri HL.out.ints).mono ?_
  rw [HOK.out]
  rintro e w3 ⟨rfl, hb⟩
  replace HL := Lib.hid (HL.out.below hb)
  clear hb c0 c1 f0 f1 l0
  cases ok with
  | false =>
    go_wp2_with fail
    go_ret
    exact ⟨rfl, HL.out.bw⟩
  | true =>
    obtain ⟨hG, hp1, hp9⟩ := pathOk_gok HOK.out
    obtain ⟨r1, r2⟩ := path_rev HOK.out
    have HG := Lib.hid hG; have HR1 := Lib.hid r1; have HR2 := Lib.hid r2
    obtain ⟨xb, xo, rfl, hxb⟩ := HL.out.ints.some (by omega)
    obtain ⟨m, hm⟩ : ∃ m, p.length = m := ⟨_, rfl⟩
    have HM := Lib.hid hm
    rw [hm] at hp1 hp9 hxl ⊢
    rw [hm] at HL
    have wm : IntKind.i64.wrap ((m : Int) - 1) = (m : Int) - 1 := IntWalk.i64_in _ (by omega)
    have e9 : decide ((m:Int) ≤ 9) = true := decide_eq_true (by omega)
    have HR0 : Hid ((w3.alloc (.cells #[] 3)).ownsRow w3.heap.size 3 1 (.slice (some ⟨w3.heap.size, 0, none⟩) 0 0) 0 (([] : List Int).map (Value.int .i64))) := Lib.hid (own_new rfl (Nat.le_refl _))
    have HB0 : Hid (Below w3.heap.size w3 (w3.alloc (.cells #[] 3))) := Lib.hid ((Below.refl _ _).alloc (Nat.le_refl _) _)
    clear hG r1 r2 hm hs
    go_wp2_with fail
    go_loopw [7, 8] (fun bv i wr => ∃ (k : Nat) (J : Int) (ys : List Int), k ≤ m ∧ i = .int .i64 J ∧ J + k = (m:Int) - 1 ∧ ys.length = k ∧ wr.ownsRow w3.heap.size 3 1 bv k (ys.map (Value.int .i64)) ∧ Hid (∀ (j : Nat) (y : Int), ys[j]? = some y → p[m - 1 - j]? = some y) ∧ Below w3.heap.size w3 wr) (fun _ i _ => (intOf i + 1).toNat)
    case atStart => exact ⟨0, _, [], by omega, rfl, by omega, rfl, HR0.out, Lib.hid (fun j y h => by simp at h), HB0.out⟩
    case round =>
      obtain ⟨k, J, ys, hk, rfl, hI, hyl, hR, hys, hB⟩ := hrel
      clear HR0 HB0
      have HI1 := Lib.hid hI; have HR := Lib.hid hR; have HB := Lib.hid hB; have HYL := Lib.hid hyl
      obtain ⟨ba, bc, rfl⟩ := own_slice hR
      by_cases hI0 : 0 ≤ J
      · have hkm : k < m := by omega
        have hIm : J ≤ 8 := by omega
        have hIm2 : J < (m:Int) := by omega
        obtain ⟨y, hy⟩ := at_lt (l := p) (n := p.length) rfl (k := J.toNat) (by have := HM.out; omega)
        have hIk : J.toNat = m - 1 - k := by omega
        have d0 := (HL.out.ints.below HB.out (Nat.le_refl _)).get hy
        have hbd := cell_lt d0
        have HY := Lib.hid hy
        have HIK := Lib.hid hIk
        have t1 : decide (0 ≤ J) = true := decide_eq_true hI0
        have wI : IntKind.i64.wrap (J - 1) = J - 1 := IntWalk.i64_in _ (by omega)
        clear hR hB hI hyl hy hIk
        go_upto_region 12 with fail
        go_cut [7] (fun s7 wc => ∃ ba' bc', s7 = .slice ba' (k + 1) bc' ∧ wc.ownsRow w3.heap.size 3 1 (.slice ba' (k + 1) bc') (k + 1) ((ys ++ [y]).map (Value.int .i64)) ∧ Below w3.heap.size w3 wc)
        case first =>
          go_wp2_with (at_builtin; refine wpList_append_rd rfl _ _ _ rfl w3.heap.size 3 i0 _ 1 8 Try.underlying25 HI.out HZ0.out HZ1.out HZ2.out rfl (by omega) (.slice ba k bc) k (ys.map (Value.int .i64)) rfl (by with_reducible (repeat (first | exact HR.out | apply own_drewN | apply own_drew | apply World.ownsRow.alloc | (refine own_setCell ?_ (by first | (simp; done) | omega | (simp; omega)) _)))) (some ⟨wr.heap.size, 0, none⟩) 1 1 [.int .i64 y] rfl (srcAt_one (box_new _ #[.int .i64 y] _) rfl) (one_ok _ _) (by unfold maxLen; omega) (by omega) (by have := HB.out.size; simp; omega) ?_; intro v' w4 hown3 hgrow hloc)
          go_meet
          obtain ⟨ba', bc', rfl⟩ := own_slice hown3
          refine ⟨ba', bc', rfl, ?_, Below.grown (HB.out.alloc HB.out.size _) hgrow (by have := HB.out.size; simp; omega) (fun i hi => (HR.out.lt i hi).1)⟩
          rw [map_snoc] at hown3
          exact hown3
        case rest =>
          obtain ⟨ba', bc', rfl, hO, hB⟩ := hcut
          clear HR HB d0
          have HO := Lib.hid hO; have HB := Lib.hid hB
          clear hO hB
          have hys2 : Hid (∀ (j : Nat) (z : Int), (ys ++ [y])[j]? = some z → p[m - 1 - j]? = some z) := Lib.hid fun j z hj => by
            by_cases hik : j < ys.length
            · rw [List.getElem?_append_left hik] at hj
              exact hys.out j z hj
            · have hil := (List.getElem?_eq_some_iff.1 hj).1
              have hie : j = k := by have := HYL.out; simp at hil; omega
              rw [List.getElem?_append_right (by omega), HYL.out, hie] at hj
              simp at hj
              rw [← hj, hie, ← HIK.out]; exact HY.out
          have HLc := Lib.hid (HL.out.below HB.out)
          go_upto_region 13 with fail
          obtain ⟨I, φ, h0, hφ, hmk⟩ := famOf (wc).heap.size (wc)
          haveI : Nonempty I := h0.elim fun i _ => ⟨i⟩
          have H0 := Lib.hid h0; have HF := Lib.hid hφ; have HMK := Lib.hid hmk; have HBs : Hid ((wc).heap.size ≤ (wc).heap.size) := Lib.hid (Nat.le_refl _)
          clear h0 hφ hmk
          obtain ⟨G_0, G_1, G_2, G_3, G_4⟩ := box2F fun i => HLc.out.box.below (HF.out i) HLc.out.box.lt
          by_cases hI1 : J = 0
          · subst hI1
            refine wp_region_fam φ H0.out (by kernel_rfl) (by kernel_rfl) ?_
            repeat (go_big_quiet_step (fail))
            refine wpQuiet_nil ?_
            intro _ hw'
            obtain ⟨nq, hw''⟩ := hw'
            subst hw''
            have hb := HF.out nq
            obtain ⟨w6, hw2⟩ : ∃ x, φ nq = x := ⟨_, rfl⟩
            rw [hw2] at hb ⊢
            clear hw2
            go_wp2_with fail
            go_roundw
            case rel => exact ⟨k + 1, -1, ys ++ [y], by omega, rfl, by have := HI1.out; omega, by rw [List.length_append, HYL.out]; rfl, ((OwnR.of HO.out).below hb (Nat.le_refl _)).1, hys2, HB.out.trans (hb.mono HB.out.size)⟩
            case measure => simp [intOf]
          · have t2 : decide (0 < J) = true := decide_eq_true (by omega)
            obtain ⟨y1, hy1⟩ := at_lt (l := p) (n := p.length) rfl (k := (J - 1).toNat) (by have := HM.out; omega)
            have e0 : ∀ i, (φ i).cell? ⟨xb, xo + J.toNat, none⟩ = some (.int .i64 y) := fun i => (HLc.out.ints.below (HF.out i) (Nat.le_refl _)).get HY.out
            have e1 : ∀ i, (φ i).cell? ⟨xb, xo + (J - 1).toNat, none⟩ = some (.int .i64 y1) := fun i => (HLc.out.ints.below (HF.out i) (Nat.le_refl _)).get hy1
            have e2 : ∀ i, (φ i).cell? ⟨xb, xo + (J.toNat - 1), none⟩ = some (.int .i64 y1) := fun i => by rw [show J.toNat - 1 = (J - 1).toNat by omega]; exact e1 i
            have hI2 : 0 ≤ J - 1 := by omega
            have hI3 : J - 1 < (m:Int) := by omega
            have hI4 : 1 ≤ J := by omega
            have hI5 : J < (m:Int) + 1 := by omega
            obtain ⟨i1, l1, hk1, _, _⟩ := pathOk_link HOK.out hy1 (show p[(J - 1).toNat + 1]? = some y by rw [show (J - 1).toNat + 1 = J.toNat by omega]; exact HY.out)
            obtain ⟨kk, hkk⟩ : ∃ kk, lkOf ls y1 y = kk := ⟨_, rfl⟩
            have t3 : decide (kk < 0) = false := decide_eq_false (by omega)
            have HC : Hid (∀ i, Calls Try.prog 24 #[.agg #[.int .i64 n, .slice ua ls.length uc], .int .i64 y1, .int .i64 y] (φ i) fun e w' => e = .returned (.int .i64 kk) ∧ Below (φ i).heap.size (φ i) w') := Lib.hid fun i => by rw [← hkk]; exact iGraphLink n ls y1 y _ _ (HLc.out.tri.below (HF.out i) (Nat.le_refl _)) HG.out
            clear hy1 hk1 hkk
            refine wp_region_fam φ H0.out (by kernel_rfl) (by kernel_rfl) ?_
            repeat (go_big_quiet_step (first | (go_at_call 24; exact quiet_fam HF.out HBs.out HMK.out (HC.out _))))
            refine wpQuiet_nil ?_
            intro _ hw'
            obtain ⟨nq, hw''⟩ := hw'
            subst hw''
            have hb := HF.out nq
            obtain ⟨w6, hw2⟩ : ∃ x, φ nq = x := ⟨_, rfl⟩
            rw [hw2] at hb ⊢
            clear hw2
            go_wp2_with fail
            go_roundw
            case rel => exact ⟨k + 1, J - 1, ys ++ [y], by omega, rfl, by have := HI1.out; omega, by rw [List.length_append, HYL.out]; rfl, ((OwnR.of HO.out).below hb (Nat.le_refl _)).1, hys2, HB.out.trans (hb.mono HB.out.size)⟩
            case measure => simp [intOf]; omega
      · have t1 : decide (0 ≤ J) = false := decide_eq_false hI0
        have hkm : k = m := by omega
        have hyr : ys = p.reverse := rev_of (by rw [hyl, hkm, HM.out]) (by rw [HM.out]; exact hys.out)
        subst hkm
        have HYR := Lib.hid hyr
        obtain ⟨cc, hcc⟩ : ∃ cc, costD n ls p = cc := ⟨_, rfl⟩
        have HCC := Lib.hid hcc
        have e5 : (cc == cc) = true := by simp
        have HLc := Lib.hid (HL.out.below HB.out)
        have hIy : IntsAt wr (.slice ba k bc) p.reverse := by
          rw [← hyr]
          exact ints_of_owns (by rw [hyl]; exact hR)
        have HIY := Lib.hid hIy
        clear hR hB hI hyl hyr hcc hIy
        obtain ⟨b0, b1, f0, f1, hb0⟩ := box2 HLc.out.box
        go_wp2_with fail
        obtain ⟨I, φ, h0, hφ, hmk⟩ := famOf (wr).heap.size (wr)
        haveI : Nonempty I := h0.elim fun i _ => ⟨i⟩
        have H0 := Lib.hid h0; have HF := Lib.hid hφ; have HMK := Lib.hid hmk; have HBs : Hid ((wr).heap.size ≤ (wr).heap.size) := Lib.hid (Nat.le_refl _)
        clear h0 hφ hmk
        obtain ⟨G_0, G_1, G_2, G_3, G_4⟩ := box2F fun i => HLc.out.box.below (HF.out i) HLc.out.box.lt
        have HC1 : Hid (∀ i, Calls Try.prog 18 #[.agg #[.int .i64 n, .slice ua ls.length uc], .slice ba k bc] (φ i) fun e w' => e = .returned (.bool true) ∧ Below (φ i).heap.size (φ i) w') := Lib.hid fun i => by rw [← HR1.out]; exact iPathValid n ls _ _ _ _ (HLc.out.tri.below (HF.out i) (Nat.le_refl _)) (HIY.out.below (HF.out i) (Nat.le_refl _))
        have HC2 : Hid (∀ i, Calls Try.prog 22 #[.agg #[.int .i64 n, .slice ua ls.length uc], .slice ba k bc] (φ i) fun e w' => e = .returned (.int .i64 cc) ∧ Below (φ i).heap.size (φ i) w') := Lib.hid fun i => by rw [← HCC.out, ← HR2.out]; exact iPathCost n ls _ _ _ _ (HLc.out.tri.below (HF.out i) (Nat.le_refl _)) (HIY.out.below (HF.out i) (Nat.le_refl _))
        have HC3 : Hid (∀ i, Calls Try.prog 22 #[.agg #[.int .i64 n, .slice ua ls.length uc], .slice (some ⟨xb, xo, none⟩) k xc] (φ i) fun e w' => e = .returned (.int .i64 cc) ∧ Below (φ i).heap.size (φ i) w') := Lib.hid fun i => by rw [← HCC.out]; exact iPathCost n ls _ _ _ _ (HLc.out.tri.below (HF.out i) (Nat.le_refl _)) (HLc.out.ints.below (HF.out i) (Nat.le_refl _))
        clear b0 b1 f0 f1 hb0
        refine wp_region_fam φ H0.out (by kernel_rfl) (by kernel_rfl) ?_
        repeat (go_big_quiet_step (first | (go_at_call 18; exact quiet_fam HF.out HBs.out HMK.out (HC1.out _)) | (go_at_call 22; first | (with_reducible exact quiet_fam HF.out HBs.out HMK.out (HC2.out _)) | (with_reducible exact quiet_fam HF.out HBs.out HMK.out (HC3.out _)))))
        refine wpQuiet_nil ?_
        intro _ hw'
        obtain ⟨nq, hw''⟩ := hw'
        subst hw''
        have hb := HF.out nq
        obtain ⟨w6, hw2⟩ : ∃ x, φ nq = x := ⟨_, rfl⟩
        rw [hw2] at hb ⊢
        clear hw2
        go_wp2_with fail
        go_ret
        exact ⟨rfl, (HLc.out.below hb).bw⟩
theorem own : ownKnob Try.prog.godebug = none := by kernel_rfl
theorem laidOut : laidOutB Try.prog = true := by kernel_rfl
set_option maxRecDepth 100000 in
theorem lifted (os : Os) (started : os.Started) (H : Type) (enc : TypeId × Value → H) :
    ReturnsInHanded {} Try.checked os 5 .any (Rows.fnPathValidSpec.pre6 enc Try.prog Try.f5 Rows.fnPathValidRow.domain false) (Rows.fnPathValidSpec.post enc Try.prog Try.f5 false true false false) := by
  refine returnsInHanded_of_change (C := Try.checked) own started (by kernel_rfl) Try.func5
    (ChangeSpec.witness6 (enc := enc) (C := Try.checked) false ⟨#[], #[.slice none 0 0], []⟩ 8 (by kernel_rfl) (by kernel_rfl) (by kernel_rfl) (by kernel_rfl)) ?_
  intro W base args ds gs before hval0 hW hcnd _
  have hval : ∀ (j : Nat) t v, Try.f5.params[j]? = some t → args[j]? = some v → Value.okWide Try.prog W .any base t v := hval0
  have hW' := hW
  obtain ⟨p, q, hA0, hV, rfl, hfz, hnd⟩ := hW
  have hA : DataW.TrodAll enc Try.prog W 0 (fun _ => true) true Try.f5.params.toList args.toList ds p := hA0
  rw [Try.params5] at hA hval
  obtain ⟨v0, vs0, d0, ds0, p0, q0, hargs, rfl, rfl, h0, r0⟩ := trodAll_cons hA
  obtain ⟨rfl, rfl, rfl⟩ := trodAll_nil r0
  obtain rfl : args = #[v0] := by cases args; simp_all
  obtain ⟨rfl, rfl⟩ := trodVars_none hV
  have k0 := h0
  have lt0 : ∀ x ∈ p0, x.block < W.heap.size := by obtain ⟨m, hm⟩ := k0; exact DataW.trod_lt m _ _ _ hm
  have w0 : CodeAt W v0 := codeAt_of_trod (T := 37) (E := 5) Try.underlying37 Try.underlying5 (by kernel_rfl) (hval 0 37 v0 rfl rfl) h0
  clear hA0 hval0
  refine (walk v0 W w0).mono fun e W' ⟨he, bel⟩ => ?_
  subst he
  exact ⟨_, rfl, _, _, _, [], _, [], hW', trodAll_mk1 (shut_bool Try.underlying4 _), (trodAll_cons_mk (Below.trod laidOut (by kernel_rfl) (of_decide_eq_true (by kernel_rfl)) k0 bel lt0) trodAll_mk0), rfl, bel.frame _, fun h => by cases h⟩
theorem over : Rows.fnPathValidRow.holds Try.pinned (OpenSpec.ofChange Rows.fnPathValidSpec) :=
  OpenClaim.holds_of_wide 5 Try.f5 rfl rfl rfl rfl rfl rfl rfl ⟨rfl, rfl, rfl, rfl, rfl⟩ rfl rfl rfl rfl rfl (by kernel_rfl) Try.func5 (by kernel_rfl)
    (of_decide_eq_true (by kernel_rfl)) (by unfold Func.isWrapper; first | (rw [if_pos (by decide +kernel)]; kernel_rfl) | (rw [if_neg (by decide +kernel)]; exact ⟨rfl, rfl⟩))
    (fun os started H enc _ => lifted os started H enc)
end Go.Proofs.Ythcnmhjfapoaiaa.lawFnPathValid
namespace Go.Proofs.Ythcnmhjfapoaiaa
set_option linter.unusedSimpArgs false
set_option linter.unusedVariables false
/-- The statement. -/
theorem FnPathValid_proved : Rows.FnPathValidSaid := lawFnPathValid.over
#print axioms FnPathValid_proved
end Go.Proofs.Ythcnmhjfapoaiaa
