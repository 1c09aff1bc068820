/- FnCompileBack: for every input the call returns true, and the argument reads afterwards as before. No condition. -/
import Derived.Test.YtoebefpmfgkpoaaLwC
import Derived.Test.YtoebefpmfgkpoaaRows
import Derived.Test.YtoebefpmfgkpoaaOpen
import Derived.ProofKit
import Derived.OpenShut
import Derived.ShutString
import Derived.ChangeOld
import Derived.Lib.SmallJoins
namespace Go.Proofs.Ytoebefpmfgkpoaa.lawFnCompileBack
set_option linter.unusedSimpArgs false
set_option linter.unusedVariables false
open Go.ChangeShapes Go.WideShapes Go.ChangeAt Go.RowKit Go.Joins
theorem rev_of {p ys : List Int} (hy : ys.length = p.length) (h : ∀ (j : Nat) (y : Int), ys[j]? = some y → p[p.length - 1 - j]? = some y) : ys = p.reverse := by
  apply List.ext_getElem?
  intro k
  by_cases hk : k < ys.length
  · obtain ⟨y, hyk⟩ := at_lt (l := ys) (n := ys.length) rfl hk
    rw [hyk, List.getElem?_reverse (by omega)]
    exact (h k y hyk).symm
  · rw [List.getElem?_eq_none (by omega), List.getElem?_eq_none (by simp; omega)]
set_option maxRecDepth 100000 in
set_option maxHeartbeats 4000000 in
theorem walk (v : Value) (w : World) (h : CodeAt w v) :
    Calls Try.prog 6 #[v] w fun e w' => e = .returned (.bool true) ∧ Below w.heap.size w w' := by
  obtain ⟨a0, n0, cap0, b0, off0, rfl, hcap0, hmax0, ha0, hc0⟩ := id h
  unfold maxLen at hmax0
  clear ha0 hc0
  have H := Lib.hid h
  clear h
  obtain ⟨i0, hi, hz0, hz1, hz2⟩ := info_parts infoIntC
  have HI := Lib.hid hi; have HZ0 := Lib.hid hz0; have HZ1 := Lib.hid hz1; have HZ2 := Lib.hid hz2
  clear hi hz0 hz1 hz2
  by_cases hn : 1048576 < n0
  · go_enter Try.func6, Try.ntmps6
    go_wp2
    go_ret
    exact ⟨rfl, Below.refl _ _⟩
  go_enter Try.func6, Try.ntmps6
  go_wp2_with fail
  refine (drawSCo _ _ H.out).mono ?_
  rintro e w1 ⟨⟨n, u, ls, x, p, rfl, hls, hT, hs, hP, _, _⟩, hb⟩
  have L1 : LwP w w1.heap.size n u ls x p (w1.alloc (.cells #[.int .i64 n, u] 25)) := LwP.new hb hT hP
  obtain ⟨ua, uc, rfl, hul, hum⟩ := hT.form2
  obtain ⟨xa, xc, rfl, hxl, hxm⟩ := hP.form2
  unfold maxLen at hum hxm
  have HL := Lib.hid L1
  clear hb L1 hT hP
  obtain ⟨ok, hok⟩ : ∃ ok, pathOk n ls p = ok := ⟨_, rfl⟩
  have HOK := Lib.hid hok
  obtain ⟨O, hO⟩ : ∃ O, compO n ls p = O := ⟨_, rfl⟩
  have HO := Lib.hid hO
  clear hok hO
  go_wp2_with fail
  refine (iComp HOK.out HO.out HL.out.tri HL.out.ints).mono ?_
  rintro e w2 ⟨o1, k1, rfl, hp1, hb⟩
  have HC : Hid (LwC w w1.heap.size n (.slice ua ls.length uc) ls (.slice xa p.length xc) p (.slice o1 O.length k1) O w2) := Lib.hid ⟨HL.out.below hb, hp1⟩
  clear hb HL hp1
  obtain ⟨c0, c1, f0, f1, l0⟩ := box2 HC.out.st.box
  go_wp2_with fail
  refine (sComp HOK.out HO.out HC.out.st.tri HC.out.st.ints).mono ?_
  rintro e w3 ⟨o2, k2, rfl, hp2, hb⟩
  replace HC := Lib.hid (HC.out.below hb)
  have HW := Lib.hid hp2
  clear hb hp2 c0 c1 f0 f1 l0
  cases ok with
  | false =>
    go_wp2_with fail
    refine (sameLabels_self HC.out.out HW.out).mono ?_
    rintro e w4 ⟨rfl, hb⟩
    replace HC := Lib.hid (HC.out.below hb)
    replace HW := Lib.hid (HW.out.below hb (Nat.le_refl _))
    clear hb
    go_wp2_with fail
    refine (sameLabels_self HC.out.out HW.out).mono ?_
    rintro e w5 ⟨rfl, hb⟩
    replace HC := Lib.hid (HC.out.below hb)
    clear hb
    go_wp2_with fail
    go_ret
    exact ⟨rfl, HC.out.st.bw⟩
  | true =>
    obtain ⟨a, P, hpp⟩ := pathOk_cons HOK.out
    have HPP := Lib.hid hpp
    obtain ⟨q, hF⟩ := comp_facts (n := n) (ls := ls) (a := a) (p := P) (by rw [← hpp]; exact HOK.out)
    have hG : compG n ls a P = O := by rw [← HO.out, hpp]; exact (compO_yes (by rw [← hpp]; exact HOK.out)).symm
    have HOG := Lib.hid hG
    have HF := Lib.hid hF
    have HRN : Hid (stkOf n ls a O = some q) := Lib.hid (by rw [← hG]; exact hF.run)
    have hpl : p.length = P.length + 1 := by rw [hpp]; rfl
    have hP8 : P.length ≤ 8 := hF.len
    have hp1 : 0 < p.length := by omega
    obtain ⟨xb, xo, rfl, hxb⟩ := HC.out.st.ints.some hp1
    have HA0 : Hid (p[0]? = some a) := Lib.hid (by rw [hpp]; rfl)
    have hpI : (0:Int) < (p.length:Int) := by omega
    have HPL := Lib.hid hpl
    have hp9 : p.length ≤ 9 := by omega
    clear hpp hF hG hpl
    go_wp2_with fail
    refine (sameLabels_self HC.out.out HW.out).mono ?_
    rintro e w4 ⟨rfl, hb⟩
    replace HC := Lib.hid (HC.out.below hb)
    replace HW := Lib.hid (HW.out.below hb (Nat.le_refl _))
    clear hb
    have wm : IntKind.i64.wrap ((p.length : Int) - 1) = (p.length : Int) - 1 := IntWalk.i64_in _ (by omega)
    have HR0 : Hid ((w4.alloc (.cells #[] 3)).ownsRow w4.heap.size 3 1 (.slice (some ⟨w4.heap.size, 0, none⟩) 0 0) 0 (([] : List Int).map (Value.int .i64))) := Lib.hid (own_new rfl (Nat.le_refl _))
    have HB0 : Hid (Below w4.heap.size w4 (w4.alloc (.cells #[] 3))) := Lib.hid ((Below.refl _ _).alloc (Nat.le_refl _) _)
    clear HW
    go_wp2_with fail
    go_loopw [9, 10] (fun bv i wr => ∃ (k : Nat) (J : Int) (ys : List Int), k ≤ p.length ∧ i = .int .i64 J ∧ J + k = (p.length:Int) - 1 ∧ ys.length = k ∧ wr.ownsRow w4.heap.size 3 1 bv k (ys.map (Value.int .i64)) ∧ Hid (∀ (j : Nat) (y : Int), ys[j]? = some y → p[p.length - 1 - j]? = some y) ∧ Below w4.heap.size w4 wr) (fun _ i _ => (intOf i + 1).toNat)
    case atStart => exact ⟨0, _, [], by omega, rfl, by omega, rfl, HR0.out, Lib.hid (fun j y h => by simp at h), HB0.out⟩
    case round =>
      obtain ⟨k, J, ys, hk, rfl, hI, hyl, hR, hys, hB⟩ := hrel
      clear HR0 HB0
      have HI1 := Lib.hid hI; have HR := Lib.hid hR; have HB := Lib.hid hB; have HYL := Lib.hid hyl
      obtain ⟨ba, bc, rfl⟩ := own_slice hR
      by_cases hI0 : 0 ≤ J
      · have hkm : k < p.length := by omega
        have hIm2 : J < (p.length:Int) := by omega
        obtain ⟨y, hy⟩ := at_lt (l := p) (n := p.length) rfl (k := J.toNat) (by omega)
        have hIk : J.toNat = p.length - 1 - k := by omega
        have d0 := (HC.out.st.ints.below HB.out (Nat.le_refl _)).get hy
        have hbd := cell_lt d0
        have HY := Lib.hid hy
        have HIK := Lib.hid hIk
        have t1 : decide (0 ≤ J) = true := decide_eq_true hI0
        have wI : IntKind.i64.wrap (J - 1) = J - 1 := IntWalk.i64_in _ (by omega)
        clear hR hB hI hyl hy hIk
        go_wp2_with (at_builtin; refine wpList_append_rd rfl _ _ _ rfl w4.heap.size 3 i0 _ 1 8 Try.underlying26 HI.out HZ0.out HZ1.out HZ2.out rfl (by omega) (.slice ba k bc) k (ys.map (Value.int .i64)) rfl (by with_reducible (repeat (first | exact HR.out | apply own_drewN | apply own_drew | apply World.ownsRow.alloc | (refine own_setCell ?_ (by first | (simp; done) | omega | (simp; omega)) _)))) (some ⟨wr.heap.size, 0, none⟩) 1 1 [.int .i64 y] rfl (srcAt_one (box_new _ #[.int .i64 y] _) rfl) (one_ok _ _) (by unfold maxLen; omega) (by omega) (by have := HB.out.size; simp; omega) ?_; intro v' w5 hown3 hgrow hloc)
        obtain ⟨ba', bc', rfl⟩ := own_slice hown3
        have B5 := Lib.hid (Below.grown (HB.out.alloc HB.out.size _) hgrow (by have := HB.out.size; simp; omega) (fun i hi => (HR.out.lt i hi).1))
        rw [map_snoc] at hown3
        have HO5 := Lib.hid hown3
        clear hown3 hgrow hloc d0 hbd HR HB
        go_wp2_with fail
        go_roundw
        case rel =>
          refine ⟨k + 1, J - 1, ys ++ [y], by omega, rfl, by have := HI1.out; omega, by rw [List.length_append, HYL.out]; rfl, HO5.out, Lib.hid fun j z hj => ?_, B5.out⟩
          by_cases hik : j < ys.length
          · rw [List.getElem?_append_left hik] at hj
            exact hys.out j z hj
          · have hil := (List.getElem?_eq_some_iff.1 hj).1
            have hie : j = k := by have := HYL.out; simp at hil; omega
            rw [List.getElem?_append_right (by omega), HYL.out, hie] at hj
            simp at hj
            rw [← hj, hie, ← HIK.out]; exact HY.out
        case measure => simp [intOf]; omega
      · have hke : k = p.length := by omega
        have hrev : ys = p.reverse := rev_of (by omega) hys.out
        obtain ⟨b, r, e1, e2, e3⟩ := comp_rev (n := n) (ls := ls) (a := a) (p := P) (by rw [← HPP.out]; exact HOK.out)
        rw [← HPP.out, ← hrev] at e1
        rw [← e1] at e2
        have e4 : (compO n ls ys).length = O.length := by rw [← HOG.out, ← e3, e1]; rw [e1] at e2; rw [compO_yes e2]
        obtain ⟨O2, hO2⟩ : ∃ O2, compO n ls ys = O2 := ⟨_, rfl⟩
        rw [hO2] at e4
        have HO2 := Lib.hid hO2; have HOK2 := Lib.hid e2
        have HIY : Hid (IntsAt wr (.slice ba k bc) ys) := Lib.hid (ints_of_owns (by rw [hyl]; exact hR))
        replace HC := Lib.hid (HC.out.below hB)
        have t1 : decide (0 ≤ J) = false := decide_eq_false hI0
        have ht : ((O2.length:Int) == (O.length:Int)) = true := by rw [e4]; simp
        obtain ⟨c0, c1, f0, f1, l0⟩ := box2 HC.out.st.box
        clear hO2 e1 e2 e3 e4 hR hB hrev hyl hI hke hys
        go_wp2_with fail
        refine (iComp HOK2.out HO2.out HC.out.st.tri HIY.out).mono ?_
        rintro e w5 ⟨o3, k3, rfl, hp3, hb⟩
        replace HC := Lib.hid (HC.out.below hb)
        clear hb hp3 c0 c1 f0 f1 l0
        go_wp2_with fail
        go_ret
        exact ⟨rfl, HC.out.st.bw⟩
theorem own : ownKnob Try.prog.godebug = none := by kernel_rfl
theorem laidOut : laidOutB Try.prog = true := by kernel_rfl
set_option maxRecDepth 100000 in
theorem lifted (os : Os) (started : os.Started) (H : Type) (enc : TypeId × Value → H) :
    ReturnsInHanded {} Try.checked os 6 .any (Rows.fnCompileBackSpec.pre6 enc Try.prog Try.f6 Rows.fnCompileBackRow.domain false) (Rows.fnCompileBackSpec.post enc Try.prog Try.f6 false true false false) := by
  refine returnsInHanded_of_change (C := Try.checked) own started (by kernel_rfl) Try.func6
    (ChangeSpec.witness6 (enc := enc) (C := Try.checked) false ⟨#[], #[.slice none 0 0], []⟩ 8 (by kernel_rfl) (by kernel_rfl) (by kernel_rfl) (by kernel_rfl)) ?_
  intro W base args ds gs before hval0 hW hcnd _
  have hval : ∀ (j : Nat) t v, Try.f6.params[j]? = some t → args[j]? = some v → Value.okWide Try.prog W .any base t v := hval0
  have hW' := hW
  obtain ⟨p, q, hA0, hV, rfl, hfz, hnd⟩ := hW
  have hA : DataW.TrodAll enc Try.prog W 0 (fun _ => true) true Try.f6.params.toList args.toList ds p := hA0
  rw [Try.params6] at hA hval
  obtain ⟨v0, vs0, d0, ds0, p0, q0, hargs, rfl, rfl, h0, r0⟩ := trodAll_cons hA
  obtain ⟨rfl, rfl, rfl⟩ := trodAll_nil r0
  obtain rfl : args = #[v0] := by cases args; simp_all
  obtain ⟨rfl, rfl⟩ := trodVars_none hV
  have k0 := h0
  have lt0 : ∀ x ∈ p0, x.block < W.heap.size := by obtain ⟨m, hm⟩ := k0; exact DataW.trod_lt m _ _ _ hm
  have w0 : CodeAt W v0 := codeAt_of_trod (T := 22) (E := 5) Try.underlying22 Try.underlying5 (by kernel_rfl) (hval 0 22 v0 rfl rfl) h0
  clear hA0 hval0
  refine (walk v0 W w0).mono fun e W' ⟨he, bel⟩ => ?_
  subst he
  exact ⟨_, rfl, _, _, _, [], _, [], hW', trodAll_mk1 (shut_bool Try.underlying4 _), (trodAll_cons_mk (Below.trod laidOut (by kernel_rfl) (of_decide_eq_true (by kernel_rfl)) k0 bel lt0) trodAll_mk0), rfl, bel.frame _, fun h => by cases h⟩
theorem over : Rows.fnCompileBackRow.holds Try.pinned (OpenSpec.ofChange Rows.fnCompileBackSpec) :=
  OpenClaim.holds_of_wide 6 Try.f6 rfl rfl rfl rfl rfl rfl rfl ⟨rfl, rfl, rfl, rfl, rfl⟩ rfl rfl rfl rfl rfl (by kernel_rfl) Try.func6 (by kernel_rfl)
    (of_decide_eq_true (by kernel_rfl)) (by unfold Func.isWrapper; first | (rw [if_pos (by decide +kernel)]; kernel_rfl) | (rw [if_neg (by decide +kernel)]; exact ⟨rfl, rfl⟩))
    (fun os started H enc _ => lifted os started H enc)
end Go.Proofs.Ytoebefpmfgkpoaa.lawFnCompileBack
namespace Go.Proofs.Ytoebefpmfgkpoaa
set_option linter.unusedSimpArgs false
set_option linter.unusedVariables false
/-- The statement. -/
theorem FnCompileBack_proved : Rows.FnCompileBackSaid := lawFnCompileBack.over
#print axioms FnCompileBack_proved
end Go.Proofs.Ytoebefpmfgkpoaa
