/- FnCompileShortest: for every input the call returns true, and the argument reads afterwards as before. No condition. -/
import Derived.Test.YtoebefpmfgkpoaaShP
import Derived.Test.YtoebefpmfgkpoaaRows
import Derived.Test.YtoebefpmfgkpoaaOpen
import Derived.ProofKit
import Derived.OpenShut
import Derived.ShutString
import Derived.ChangeOld
import Derived.Lib.SmallJoins
namespace Go.Proofs.Ytoebefpmfgkpoaa.lawFnCompileShortest
set_option linter.unusedSimpArgs false
set_option linter.unusedVariables false
open Go.ChangeShapes Go.WideShapes Go.ChangeAt Go.RowKit Go.Joins
set_option maxRecDepth 100000 in
set_option maxHeartbeats 4000000 in
theorem walk (v : Value) (w : World) (h : CodeAt w v) :
    Calls Try.prog 5 #[v] w fun e w' => e = .returned (.bool true) ∧ Below w.heap.size w w' := by
  obtain ⟨a0, n0, cap0, b0, off0, rfl, hcap0, hmax0, ha0, hc0⟩ := id h
  unfold maxLen at hmax0
  clear ha0 hc0
  have H := Lib.hid h
  clear h
  by_cases hn : 1048576 < n0
  · go_enter Try.func5, Try.ntmps5
    go_wp2
    go_ret
    exact ⟨rfl, Below.refl _ _⟩
  go_enter Try.func5, Try.ntmps5
  go_wp2_with fail
  refine (drawSh _ _ H.out).mono ?_
  rintro e w1 ⟨⟨n, u, ls, a, b, rfl, hls, hT, _⟩, hb⟩
  have L1 : LwG w w1.heap.size n u ls (w1.alloc (.cells #[.int .i64 n, u] 25)) := LwG.new hb hT
  obtain ⟨ua, uc, rfl, hul, hum⟩ := hT.form2
  unfold maxLen at hum
  have HL := Lib.hid L1
  clear hb L1 hT
  obtain ⟨O, hO⟩ : ∃ O, shO n ls a b = O := ⟨_, rfl⟩
  have HO := Lib.hid hO
  clear hO
  obtain ⟨c0, c1, f0, f1, l0⟩ := box2 HL.out.box
  go_wp2_with fail
  refine (iShort n ls a b _ _ HL.out.tri).mono ?_
  rintro e w2 ⟨v2, rfl, hO, hb⟩
  rw [HO.out] at hO
  obtain ⟨o1, k1, rfl⟩ := own_slice hO.1
  have HC : Hid (LwP w w1.heap.size n (.slice ua ls.length uc) ls (.slice o1 O.length k1) O w2) := Lib.hid ((HL.out.below hb).path (own_ints hO))
  have hOm : O.length ≤ 9223372036854775807 := by
    obtain ⟨_, _, e1, e2, e3⟩ := HC.out.ints.form2
    unfold maxLen at e3
    omega
  clear hb HL hO c0 c1 f0 f1 l0
  obtain ⟨c0, c1, f0, f1, l0⟩ := box2 HC.out.box
  go_wp2_with fail
  refine (sShort n ls a b _ _ HC.out.tri).mono ?_
  rintro e w3 ⟨v3, rfl, hO, hb⟩
  rw [HO.out] at hO
  obtain ⟨o2, k2, rfl⟩ := own_slice hO.1
  replace HC := Lib.hid (HC.out.below hb)
  have HW := Lib.hid (own_ints hO)
  clear hb hO c0 c1 f0 f1 l0
  by_cases h0 : O = []
  · have h1 : ((O.length : Int) == 0) = true := by rw [h0]; rfl
    clear h0
    go_wp2_with fail
    refine (sameInts_self HC.out.ints HW.out).mono ?_
    rintro e w4 ⟨rfl, hb⟩
    replace HC := Lib.hid (HC.out.below hb)
    replace HW := Lib.hid (HW.out.below hb (Nat.le_refl _))
    clear hb
    go_wp2_with fail
    refine (sameInts_self HC.out.ints HW.out).mono ?_
    rintro e w5 ⟨rfl, hb⟩
    replace HC := Lib.hid (HC.out.below hb)
    clear hb
    go_wp2_with fail
    go_ret
    exact ⟨rfl, HC.out.bw⟩
  · have h1 : ((O.length : Int) == 0) = false := by
      rw [beq_eq_false_iff_ne]
      intro h
      exact h0 (List.eq_nil_of_length_eq_zero (by omega))
    have hq : (gOk n ls && inB a 0 (n - 1) && inB b 0 (n - 1)) = true := by
      rcases Bool.eq_false_or_eq_true (gOk n ls && inB a 0 (n - 1) && inB b 0 (n - 1)) with h | h
      · exact h
      · exact absurd (HO.out.symm.trans (shO_no h)) h0
    obtain ⟨hg, ha, hb⟩ := two_ok hq
    have hd : 0 ≤ distG n ls a b := by
      have h2 := HO.out
      rw [shO_yes hg ha hb] at h2
      unfold shP at h2
      split at h2
      · rename_i h3
        rw [hg.dst.symm hg.fits.ok ha hb]
        exact h3
      · exact absurd h2.symm h0
    have hOP : O = a :: spG n ls a b := by
      have h2 := HO.out
      rw [shO_yes hg ha hb] at h2
      unfold shP at h2
      rw [hg.dst.symm hg.fits.ok hb ha, if_pos hd] at h2
      exact h2.symm
    obtain ⟨s1, s2, s3⟩ := sh_facts hg ha hb hd
    rw [← hOP] at s1
    obtain ⟨C, hC⟩ : ∃ C, compO n ls O = C := ⟨_, rfl⟩
    have hCl : cntG n ls a b = 1 → (C.length : Int) = min ((O.length : Int) - 1) 1 := fun h => by
      have h4 := s3 h
      have h5 : compO n ls O = compG n ls a (spG n ls a b) := by rw [hOP]; exact compO_yes (by rw [← hOP]; exact s1)
      rw [← h5, hC] at h4
      rw [hOP, List.length_cons]
      omega
    obtain ⟨K, hK⟩ : ∃ K, cntG n ls a b = K := ⟨_, rfl⟩
    rw [hK] at s2 hCl
    have HG := Lib.hid hg; have HA := Lib.hid ha; have HB := Lib.hid hb; have HOK := Lib.hid s1; have HCC := Lib.hid hC; have HK := Lib.hid hK; have HCL := Lib.hid hCl
    have wp : IntKind.i64.wrap ((O.length:Int) - 1) = (O.length:Int) - 1 := IntWalk.i64_in _ (by omega)
    clear h0 hq hg ha hb hd hOP s1 s3 hC hCl hK
    go_wp2_with fail
    refine (sameInts_self HC.out.ints HW.out).mono ?_
    rintro e w4 ⟨rfl, hb⟩
    replace HC := Lib.hid (HC.out.below hb)
    clear hb HW
    obtain ⟨c0, c1, f0, f1, l0⟩ := box2 HC.out.box
    go_wp2_with fail
    refine (iComp HOK.out HCC.out HC.out.tri HC.out.ints).mono ?_
    rintro e w5 ⟨o3, k3, rfl, hp3, hb⟩
    replace HC := Lib.hid (HC.out.below hb)
    clear hb hp3 c0 c1 f0 f1 l0
    obtain ⟨c0, c1, f0, f1, l0⟩ := box2 HC.out.box
    go_wp2_with fail
    refine (iPathCount n ls a b _ _ HC.out.tri HG.out HA.out HB.out).mono ?_
    rw [HK.out]
    rintro e w6 ⟨rfl, hb⟩
    replace HC := Lib.hid (HC.out.below hb)
    clear hb c0 c1 f0 f1 l0
    by_cases h2 : 1 < K
    · have t1 : decide (1 < K) = true := decide_eq_true h2
      go_wp2_with fail
      go_ret
      exact ⟨rfl, HC.out.bw⟩
    · have t1 : decide (1 < K) = false := decide_eq_false h2
      have hm := HCL.out (by omega)
      by_cases h3 : 2 ≤ (O.length:Int)
      · have h4 : (1:Int) ≤ (O.length:Int) - 1 := by omega
        have h5 : min ((O.length:Int) - 1) 1 = 1 := by omega
        rw [h5] at hm
        have ht : ((C.length:Int) == 1) = true := by rw [hm]; rfl
        have HM1 := Lib.hid hm
        clear hm h3
        go_wp2_with fail
        all_goals
          go_ret
          first
            | exact ⟨rfl, HC.out.bw⟩
            | exact ⟨ret_bool (by have := HM1.out; simp; omega), HC.out.bw⟩
      · have h4 : (O.length:Int) - 1 ≤ 1 := by omega
        have h5 : min ((O.length:Int) - 1) 1 = (O.length:Int) - 1 := by omega
        rw [h5] at hm
        have ht : ((C.length:Int) == (O.length:Int) - 1) = true := by rw [hm]; simp
        clear hm h3
        go_wp2_with fail
        all_goals
          go_ret
          first
            | exact ⟨rfl, HC.out.bw⟩
            | exact ⟨ret_bool ht, HC.out.bw⟩
theorem own : ownKnob Try.prog.godebug = none := by kernel_rfl
theorem laidOut : laidOutB Try.prog = true := by kernel_rfl
set_option maxRecDepth 100000 in
theorem lifted (os : Os) (started : os.Started) (H : Type) (enc : TypeId × Value → H) :
    ReturnsInHanded {} Try.checked os 5 .any (Rows.fnCompileShortestSpec.pre6 enc Try.prog Try.f5 Rows.fnCompileShortestRow.domain false) (Rows.fnCompileShortestSpec.post enc Try.prog Try.f5 false true false false) := by
  refine returnsInHanded_of_change (C := Try.checked) own started (by kernel_rfl) Try.func5
    (ChangeSpec.witness6 (enc := enc) (C := Try.checked) false ⟨#[], #[.slice none 0 0], []⟩ 8 (by kernel_rfl) (by kernel_rfl) (by kernel_rfl) (by kernel_rfl)) ?_
  intro W base args ds gs before hval0 hW hcnd _
  have hval : ∀ (j : Nat) t v, Try.f5.params[j]? = some t → args[j]? = some v → Value.okWide Try.prog W .any base t v := hval0
  have hW' := hW
  obtain ⟨p, q, hA0, hV, rfl, hfz, hnd⟩ := hW
  have hA : DataW.TrodAll enc Try.prog W 0 (fun _ => true) true Try.f5.params.toList args.toList ds p := hA0
  rw [Try.params5] at hA hval
  obtain ⟨v0, vs0, d0, ds0, p0, q0, hargs, rfl, rfl, h0, r0⟩ := trodAll_cons hA
  obtain ⟨rfl, rfl, rfl⟩ := trodAll_nil r0
  obtain rfl : args = #[v0] := by cases args; simp_all
  obtain ⟨rfl, rfl⟩ := trodVars_none hV
  have k0 := h0
  have lt0 : ∀ x ∈ p0, x.block < W.heap.size := by obtain ⟨m, hm⟩ := k0; exact DataW.trod_lt m _ _ _ hm
  have w0 : CodeAt W v0 := codeAt_of_trod (T := 22) (E := 5) Try.underlying22 Try.underlying5 (by kernel_rfl) (hval 0 22 v0 rfl rfl) h0
  clear hA0 hval0
  refine (walk v0 W w0).mono fun e W' ⟨he, bel⟩ => ?_
  subst he
  exact ⟨_, rfl, _, _, _, [], _, [], hW', trodAll_mk1 (shut_bool Try.underlying4 _), (trodAll_cons_mk (Below.trod laidOut (by kernel_rfl) (of_decide_eq_true (by kernel_rfl)) k0 bel lt0) trodAll_mk0), rfl, bel.frame _, fun h => by cases h⟩
theorem over : Rows.fnCompileShortestRow.holds Try.pinned (OpenSpec.ofChange Rows.fnCompileShortestSpec) :=
  OpenClaim.holds_of_wide 5 Try.f5 rfl rfl rfl rfl rfl rfl rfl ⟨rfl, rfl, rfl, rfl, rfl⟩ rfl rfl rfl rfl rfl (by kernel_rfl) Try.func5 (by kernel_rfl)
    (of_decide_eq_true (by kernel_rfl)) (by unfold Func.isWrapper; first | (rw [if_pos (by decide +kernel)]; kernel_rfl) | (rw [if_neg (by decide +kernel)]; exact ⟨rfl, rfl⟩))
    (fun os started H enc _ => lifted os started H enc)
end Go.Proofs.Ytoebefpmfgkpoaa.lawFnCompileShortest
namespace Go.Proofs.Ytoebefpmfgkpoaa
set_option linter.unusedSimpArgs false
set_option linter.unusedVariables false
/-- The statement. -/
theorem FnCompileShortest_proved : Rows.FnCompileShortestSaid := lawFnCompileShortest.over
#print axioms FnCompileShortest_proved
end Go.Proofs.Ytoebefpmfgkpoaa
