/- FnStackUnique: for every input the call returns true, and the argument reads afterwards as before. No condition. -/
import Derived.Test.YtkegainegkdgpaaLwH
import Derived.Test.YtkegainegkdgpaaUniqI
import Derived.Test.YtkegainegkdgpaaCrossS
import Derived.Test.YtkegainegkdgpaaRows
import Derived.Test.YtkegainegkdgpaaOpen
import Derived.ProofKit
import Derived.OpenShut
import Derived.ShutString
import Derived.ChangeOld
import Derived.Lib.SmallJoins
namespace Go.Proofs.Ytkegainegkdgpaa.lawFnStackUnique
set_option linter.unusedSimpArgs false
set_option linter.unusedVariables false
open Go.ChangeShapes Go.WideShapes Go.ChangeAt Go.RowKit Go.Joins
set_option maxRecDepth 100000 in
set_option maxHeartbeats 4000000 in
theorem walk (v : Value) (w : World) (h : CodeAt w v) :
    Calls Try.prog 11 #[v] w fun e w' => e = .returned (.bool true) ∧ Below w.heap.size w w' := by
  obtain ⟨a0, n0, cap0, b0, off0, rfl, hcap0, hmax0, ha0, hc0⟩ := id h
  unfold maxLen at hmax0
  clear ha0 hc0
  have H := Lib.hid h
  clear h
  by_cases hn : 1048576 < n0
  · go_enter Try.func11, Try.ntmps11
    go_wp2
    go_ret
    exact ⟨rfl, Below.refl _ _⟩
  go_enter Try.func11, Try.ntmps11
  go_wp2_with fail
  refine (drawSU _ _ H.out).mono ?_
  rintro e w1 ⟨⟨n, u, ls, a, x, s, rfl, hls, hT, hs, hP, _, _⟩, hb⟩
  have L1 : LwS w w1.heap.size n u ls x s (w1.alloc (.cells #[.int .i64 n, u] 25)) := LwS.new hb hT hP
  obtain ⟨ua, uc, rfl, hul, hum⟩ := hT.form2
  obtain ⟨xa, xc, rfl, hxl, hxm⟩ := hP.form2
  unfold maxLen at hum hxm
  have HL := Lib.hid L1
  clear hb L1 hT hP
  obtain ⟨U, hU⟩ : ∃ U, unqV n ls a s = U := ⟨_, rfl⟩
  have HUV := Lib.hid hU
  clear hU
  go_wp2_with fail
  refine (iStackUnique n ls a s _ _ _ HL.out.tri HL.out.prs).mono ?_
  rw [HUV.out]
  rintro e w2 ⟨rfl, hb⟩
  replace HL := Lib.hid (HL.out.below hb)
  obtain ⟨c0, c1, f0, f1, l0⟩ := box2 HL.out.box
  clear hb
  go_wp2_with fail
  refine (sStackUnique n ls a s _ _ _ HL.out.tri HL.out.prs).mono ?_
  rw [HUV.out]
  rintro e w3 ⟨rfl, hb⟩
  replace HL := Lib.hid (HL.out.below hb)
  clear hb c0 c1 f0 f1 l0
  cases U with
  | false =>
    go_wp2_with fail
    go_ret
    exact ⟨rfl, HL.out.bw⟩
  | true =>
    obtain ⟨q, hq⟩ : ∃ q, stkOf n ls a s = some q := by
      rcases h : stkOf n ls a s with _ | q
      · have := HUV.out; rw [unqV_none h] at this; cases this
      · exact ⟨q, rfl⟩
    have hun : uniqS n ls a s = true := by rw [← unqV_some hq]; exact HUV.out
    obtain ⟨P, hPF⟩ := stkPV_yes hq
    obtain ⟨L, hL⟩ : ∃ L, stkPV n ls a s = L := ⟨_, rfl⟩
    have hLP : L = a :: P := by rw [← hL]; exact hPF.pv
    have hLl : L.length = P.length + 1 := by rw [hLP]; rfl
    have hL65 : L.length ≤ 65 := by have := hPF.len; omega
    have hL1 : 1 ≤ L.length := by omega
    have HPF := Lib.hid hPF; have HLP := Lib.hid hLP; have HFF := Lib.hid (stkOf_some hq); have HLl := Lib.hid hLl; have HLL := Lib.hid hL; have HUN := Lib.hid hun; have HQ := Lib.hid hq
    clear hPF hLP hL hLl hun hq
    obtain ⟨c0, c1, f0, f1, l0⟩ := box2 HL.out.box
    go_wp2_with fail
    refine (iPathAny HLL.out HL.out.tri HL.out.prs).mono ?_
    rintro e w4 ⟨oA, oc, rfl, ho, hb⟩
    have HO : Hid (LwH w w1.heap.size n (.slice ua ls.length uc) ls (.slice xa s.length xc) s (.slice oA L.length oc) L w4) := Lib.hid ⟨HL.out.below hb, ho⟩
    clear hb HL ho c0 c1 f0 f1 l0
    obtain ⟨ob, oo, rfl, hob⟩ := HO.out.out.some (by omega)
    obtain ⟨vm, hvm⟩ : ∃ vm, ls.length = vm := ⟨_, rfl⟩
    have HVM := Lib.hid hvm
    rw [hvm] at HO hul hls ⊢
    clear hvm
    go_wp2_with fail
    go_loopw [9] (fun kv wr => ∃ k : Nat, k ≤ vm ∧ kv = .int .i64 k ∧ Below w4.heap.size w4 wr) (fun kv _ => vm - (intOf kv).toNat)
    case atStart => exact ⟨0, by omega, rfl, Below.refl _ _⟩
    case round =>
      obtain ⟨k, hk, rfl, hB⟩ := hrel
      have HB := Lib.hid hB
      have HOr := Lib.hid (HO.out.below hB)
      clear hB
      obtain ⟨b0, b1, f0, f1, hb0⟩ := box2 HOr.out.st.box
      by_cases hkm : k < vm
      rotate_left
      · have t1 : decide ((k:Int) < (vm:Int)) = false := decide_eq_false (by omega)
        go_wp2_with fail
        go_ret
        exact ⟨rfl, HOr.out.st.bw⟩
      have t1 : decide ((k:Int) < (vm:Int)) = true := decide_eq_true (by omega)
      have wk : IntKind.i64.wrap ((k:Int) + 1) = (k:Int) + 1 := IntWalk.i64_in _ (by omega)
      go_wp2_with fail
      clear b0 b1 f0 f1 hb0
      go_loopw [10, 11] (fun ov i w6 => True ∧ ∃ J : Int, 1 ≤ J ∧ J ≤ (L.length:Int) ∧ i = .int .i64 J ∧ ov = .bool (onP ls k a (P.take (J.toNat - 1))) ∧ Below wr.heap.size wr w6) (fun _ i _ => L.length - (intOf i).toNat)
      case atStart => exact ⟨trivial, 1, by omega, by omega, rfl, rfl, Below.refl _ _⟩
      case round =>
        obtain ⟨_, J, hJ1, hJ2, rfl, rfl, hB2⟩ := hrel
        have HB2 := Lib.hid hB2
        have HOs := Lib.hid (HOr.out.below hB2)
        obtain ⟨O, hO⟩ : ∃ O, onP ls k a (P.take (J.toNat - 1)) = O := ⟨_, rfl⟩
        rw [hO]
        have HON := Lib.hid hO
        clear hB2 hO
        by_cases hJM : J < (L.length:Int)
        · have t2 : decide (J < (L.length:Int)) = true := decide_eq_true hJM
          obtain ⟨x, y, i, l, hx, hy, hkl, hli, _, _⟩ := link_at (J := J) HFF.out.ok HPF.out.walk hJ1 (by rw [← HLP.out]; exact hJM)
          have hsn := onP_snoc (ls := ls) (j := k) (k := J.toNat - 1) hx (by rw [show J.toNat - 1 + 1 = J.toNat by omega]; exact hy)
          rw [HON.out, show J.toNat - 1 + 1 = (J + 1).toNat - 1 by omega] at hsn
          rw [← HLP.out] at hx hy
          have wJ : IntKind.i64.wrap (J - 1) = J - 1 := IntWalk.i64_in _ (by omega)
          have wJ2 : IntKind.i64.wrap (J + 1) = J + 1 := IntWalk.i64_in _ (by omega)
          have hI2 : 0 ≤ J - 1 := by omega
          have hI3 : J - 1 < (L.length:Int) := by omega
          have hI5 : J < (L.length:Int) + 1 := by omega
          have hI6 : 0 ≤ J := by omega
          obtain ⟨kk, hkk⟩ : ∃ kk, lkOf ls x y = kk := ⟨_, rfl⟩
          rw [hkk] at hsn
          have HKK := Lib.hid hkk; have HSN := Lib.hid hsn
          have d0 := HOs.out.out.get hx
          have d1 := HOs.out.out.get hy
          clear hx hy hkl hli hsn hkk
          go_wp2_with fail
          obtain ⟨I, φ, h0, hφ, hmk⟩ := famOf (wr).heap.size (wr)
          haveI : Nonempty I := h0.elim fun i _ => ⟨i⟩
          have H0 := Lib.hid h0; have HF := Lib.hid hφ; have HMK := Lib.hid hmk; have HBs : Hid ((wr).heap.size ≤ (wr).heap.size) := Lib.hid (Nat.le_refl _)
          clear h0 hφ hmk
          obtain ⟨G_0, G_1, G_2, G_3, G_4⟩ := box2F fun i => HOs.out.st.box.below (HF.out i) HOs.out.st.box.lt
          have e0 : ∀ i, (φ i).cell? ⟨ob, oo + J.toNat, none⟩ = some (.int .i64 y) := fun i => cell_below (HF.out i) d1 (cell_lt d1)
          have e2 : ∀ i, (φ i).cell? ⟨ob, oo + (J.toNat - 1), none⟩ = some (.int .i64 x) := fun i => cell_below (HF.out i) d0 (cell_lt d0)
          have HC : Hid (∀ j, Calls Try.prog 18 #[.agg #[.int .i64 n, .slice ua vm uc], .int .i64 x, .int .i64 y] (φ j) fun e w' => e = .returned (.int .i64 kk) ∧ Below (φ j).heap.size (φ j) w') := Lib.hid fun j => by rw [← HKK.out]; exact iGraphLink n ls x y _ _ (HOs.out.st.tri.below (HF.out j) (Nat.le_refl _)) HFF.out.ok
          clear d0 d1
          cases O with
          | true =>
            refine wp_region_fam φ H0.out (by kernel_rfl) (by kernel_rfl) ?_
            repeat (go_big_quiet_step (fail))
            refine wpQuiet_nil ?_
            intro _ hw'
            obtain ⟨nq, hw''⟩ := hw'
            subst hw''
            have hb := HF.out nq
            obtain ⟨w6, hw2⟩ : ∃ x, φ nq = x := ⟨_, rfl⟩
            rw [hw2] at hb ⊢
            clear hw2
            go_wp2_with fail
            go_roundw
            case rel => exact ⟨trivial, J + 1, by omega, by omega, rfl, by rw [HSN.out]; rfl, HB2.out.trans (hb.mono HB2.out.size)⟩
            case measure => simp [intOf]; omega
          | false =>
            by_cases hkk2 : kk = (k:Int)
            · have t3 : (kk == (k:Int)) = true := by simpa using hkk2
              have HK2 := Lib.hid hkk2
              clear hkk2
              refine wp_region_fam φ H0.out (by kernel_rfl) (by kernel_rfl) ?_
              repeat (go_big_quiet_step (first | (go_at_call 18; exact quiet_fam HF.out HBs.out HMK.out (HC.out _))))
              refine wpQuiet_nil ?_
              intro _ hw'
              obtain ⟨nq, hw''⟩ := hw'
              subst hw''
              have hb := HF.out nq
              obtain ⟨w6, hw2⟩ : ∃ x, φ nq = x := ⟨_, rfl⟩
              rw [hw2] at hb ⊢
              clear hw2
              go_wp2_with fail
              go_roundw
              case rel => exact ⟨trivial, J + 1, by omega, by omega, rfl, by rw [HSN.out, HK2.out]; simp, HB2.out.trans (hb.mono HB2.out.size)⟩
              case measure => simp [intOf]; omega
            · have t3 : (kk == (k:Int)) = false := by simpa using hkk2
              have HK2 := Lib.hid hkk2
              clear hkk2
              refine wp_region_fam φ H0.out (by kernel_rfl) (by kernel_rfl) ?_
              repeat (go_big_quiet_step (first | (go_at_call 18; exact quiet_fam HF.out HBs.out HMK.out (HC.out _))))
              refine wpQuiet_nil ?_
              intro _ hw'
              obtain ⟨nq, hw''⟩ := hw'
              subst hw''
              have hb := HF.out nq
              obtain ⟨w6, hw2⟩ : ∃ x, φ nq = x := ⟨_, rfl⟩
              rw [hw2] at hb ⊢
              clear hw2
              go_wp2_with fail
              go_roundw
              case rel => exact ⟨trivial, J + 1, by omega, by omega, rfl, by rw [HSN.out]; simp [HK2.out], HB2.out.trans (hb.mono HB2.out.size)⟩
              case measure => simp [intOf]; omega
        · have t2 : decide (J < (L.length:Int)) = false := decide_eq_false hJM
          have hOP : onP ls k a P = O := by
            rw [← HON.out, List.take_of_length_le]
            have := HLl.out; omega
          have hkl : k < ls.length := by have := HVM.out; omega
          obtain ⟨m, hm⟩ := at_lt (l := ls) (n := ls.length) rfl hkl
          have hcr : crossS n ls k a s = O := by
            rw [← hOP, ← HPF.out.eq, Bool.eq_iff_iff]
            exact ⟨fun h => cross_on HFF.out.ok hm HFF.out.nd HFF.out.run HUN.out h, fun h => on_cross HFF.out.ok HFF.out.nd HFF.out.run h⟩
          have hcv : crossV n ls a s (k:Int) = O := by rw [crossV_in HQ.out hkl]; exact hcr
          have HCV := Lib.hid hcv
          have e5 : (O != O) = false := by simp
          clear hOP hm hcr hcv
          obtain ⟨b0, b1, f0, f1, hb0⟩ := box2 HOs.out.st.box
          go_wp2_with fail
          refine (iStackCrosses n ls a s (k:Int) _ _ _ HOs.out.st.tri HOs.out.st.prs).mono ?_
          rw [HCV.out]
          rintro e w7 ⟨rfl, hb⟩
          have HB3 := Lib.hid (HB.out.trans ((HB2.out.trans (hb.mono HB2.out.size)).mono HB.out.size))
          clear hb b0 b1 f0 f1 hb0
          go_wp2_with fail
          go_roundw
          case rel => exact ⟨k + 1, by omega, by go_num, HB3.out⟩
          case measure => simp [intOf]; omega
theorem own : ownKnob Try.prog.godebug = none := by kernel_rfl
theorem laidOut : laidOutB Try.prog = true := by kernel_rfl
set_option maxRecDepth 100000 in
theorem lifted (os : Os) (started : os.Started) (H : Type) (enc : TypeId × Value → H) :
    ReturnsInHanded {} Try.checked os 11 .any (Rows.fnStackUniqueSpec.pre6 enc Try.prog Try.f11 Rows.fnStackUniqueRow.domain false) (Rows.fnStackUniqueSpec.post enc Try.prog Try.f11 false true false false) := by
  refine returnsInHanded_of_change (C := Try.checked) own started (by kernel_rfl) Try.func11
    (ChangeSpec.witness6 (enc := enc) (C := Try.checked) false ⟨#[], #[.slice none 0 0], []⟩ 8 (by kernel_rfl) (by kernel_rfl) (by kernel_rfl) (by kernel_rfl)) ?_
  intro W base args ds gs before hval0 hW hcnd _
  have hval : ∀ (j : Nat) t v, Try.f11.params[j]? = some t → args[j]? = some v → Value.okWide Try.prog W .any base t v := hval0
  have hW' := hW
  obtain ⟨p, q, hA0, hV, rfl, hfz, hnd⟩ := hW
  have hA : DataW.TrodAll enc Try.prog W 0 (fun _ => true) true Try.f11.params.toList args.toList ds p := hA0
  rw [Try.params11] at hA hval
  obtain ⟨v0, vs0, d0, ds0, p0, q0, hargs, rfl, rfl, h0, r0⟩ := trodAll_cons hA
  obtain ⟨rfl, rfl, rfl⟩ := trodAll_nil r0
  obtain rfl : args = #[v0] := by cases args; simp_all
  obtain ⟨rfl, rfl⟩ := trodVars_none hV
  have k0 := h0
  have lt0 : ∀ x ∈ p0, x.block < W.heap.size := by obtain ⟨m, hm⟩ := k0; exact DataW.trod_lt m _ _ _ hm
  have w0 : CodeAt W v0 := codeAt_of_trod (T := 22) (E := 5) Try.underlying22 Try.underlying5 (by kernel_rfl) (hval 0 22 v0 rfl rfl) h0
  clear hA0 hval0
  refine (walk v0 W w0).mono fun e W' ⟨he, bel⟩ => ?_
  subst he
  exact ⟨_, rfl, _, _, _, [], _, [], hW', trodAll_mk1 (shut_bool Try.underlying4 _), (trodAll_cons_mk (Below.trod laidOut (by kernel_rfl) (of_decide_eq_true (by kernel_rfl)) k0 bel lt0) trodAll_mk0), rfl, bel.frame _, fun h => by cases h⟩
theorem over : Rows.fnStackUniqueRow.holds Try.pinned (OpenSpec.ofChange Rows.fnStackUniqueSpec) :=
  OpenClaim.holds_of_wide 11 Try.f11 rfl rfl rfl rfl rfl rfl rfl ⟨rfl, rfl, rfl, rfl, rfl⟩ rfl rfl rfl rfl rfl (by kernel_rfl) Try.func11 (by kernel_rfl)
    (of_decide_eq_true (by kernel_rfl)) (by unfold Func.isWrapper; first | (rw [if_pos (by decide +kernel)]; kernel_rfl) | (rw [if_neg (by decide +kernel)]; exact ⟨rfl, rfl⟩))
    (fun os started H enc _ => lifted os started H enc)
end Go.Proofs.Ytkegainegkdgpaa.lawFnStackUnique
namespace Go.Proofs.Ytkegainegkdgpaa
set_option linter.unusedSimpArgs false
set_option linter.unusedVariables false
/-- The statement. -/
theorem FnStackUnique_proved : Rows.FnStackUniqueSaid := lawFnStackUnique.over
#print axioms FnStackUnique_proved
end Go.Proofs.Ytkegainegkdgpaa
