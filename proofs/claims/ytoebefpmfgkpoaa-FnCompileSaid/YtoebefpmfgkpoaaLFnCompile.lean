/- FnCompile: for every input the call returns true, and the argument reads afterwards as before. No condition. -/
import Derived.Test.YtoebefpmfgkpoaaLwC
import Derived.Test.YtoebefpmfgkpoaaUniqI
import Derived.Test.YtoebefpmfgkpoaaRows
import Derived.Test.YtoebefpmfgkpoaaOpen
import Derived.ProofKit
import Derived.OpenShut
import Derived.ShutString
import Derived.ChangeOld
import Derived.Lib.SmallJoins
namespace Go.Proofs.Ytoebefpmfgkpoaa.lawFnCompile
set_option linter.unusedSimpArgs false
set_option linter.unusedVariables false
open Go.ChangeShapes Go.WideShapes Go.ChangeAt Go.RowKit Go.Joins
set_option maxRecDepth 100000 in
set_option maxHeartbeats 4000000 in
theorem walk (v : Value) (w : World) (h : CodeAt w v) :
    Calls Try.prog 4 #[v] w fun e w' => e = .returned (.bool true) ∧ Below w.heap.size w w' := by
  obtain ⟨a0, n0, cap0, b0, off0, rfl, hcap0, hmax0, ha0, hc0⟩ := id h
  unfold maxLen at hmax0
  clear ha0 hc0
  have H := Lib.hid h
  clear h
  by_cases hn : 1048576 < n0
  · go_enter Try.func4, Try.ntmps4
    go_wp2
    go_ret
    exact ⟨rfl, Below.refl _ _⟩
  go_enter Try.func4, Try.ntmps4
  go_wp2_with fail
  refine (drawSCo _ _ H.out).mono ?_
  rintro e w1 ⟨⟨n, u, ls, x, p, rfl, hls, hT, hs, hP, _, _⟩, hb⟩
  have L1 : LwP w w1.heap.size n u ls x p (w1.alloc (.cells #[.int .i64 n, u] 25)) := LwP.new hb hT hP
  obtain ⟨ua, uc, rfl, hul, hum⟩ := hT.form2
  obtain ⟨xa, xc, rfl, hxl, hxm⟩ := hP.form2
  unfold maxLen at hum hxm
  have HL := Lib.hid L1
  clear hb L1 hT hP
  obtain ⟨ok, hok⟩ : ∃ ok, pathOk n ls p = ok := ⟨_, rfl⟩
  have HOK := Lib.hid hok
  obtain ⟨O, hO⟩ : ∃ O, compO n ls p = O := ⟨_, rfl⟩
  have HO := Lib.hid hO
  clear hok hO
  go_wp2_with fail
  refine (iComp HOK.out HO.out HL.out.tri HL.out.ints).mono ?_
  rintro e w2 ⟨o1, k1, rfl, hp1, hb⟩
  have HC : Hid (LwC w w1.heap.size n (.slice ua ls.length uc) ls (.slice xa p.length xc) p (.slice o1 O.length k1) O w2) := Lib.hid ⟨HL.out.below hb, hp1⟩
  clear hb HL hp1
  obtain ⟨c0, c1, f0, f1, l0⟩ := box2 HC.out.st.box
  go_wp2_with fail
  refine (sComp HOK.out HO.out HC.out.st.tri HC.out.st.ints).mono ?_
  rintro e w3 ⟨o2, k2, rfl, hp2, hb⟩
  replace HC := Lib.hid (HC.out.below hb)
  have HW := Lib.hid hp2
  clear hb hp2 c0 c1 f0 f1 l0
  cases ok with
  | false =>
    go_wp2_with fail
    refine (sameLabels_self HC.out.out HW.out).mono ?_
    rintro e w4 ⟨rfl, hb⟩
    replace HC := Lib.hid (HC.out.below hb)
    replace HW := Lib.hid (HW.out.below hb (Nat.le_refl _))
    clear hb
    go_wp2_with fail
    refine (sameLabels_self HC.out.out HW.out).mono ?_
    rintro e w5 ⟨rfl, hb⟩
    replace HC := Lib.hid (HC.out.below hb)
    clear hb
    go_wp2_with fail
    go_ret
    exact ⟨rfl, HC.out.st.bw⟩
  | true =>
    obtain ⟨a, P, hpp⟩ := pathOk_cons HOK.out
    have HPP := Lib.hid hpp
    obtain ⟨q, hF⟩ := comp_facts (n := n) (ls := ls) (a := a) (p := P) (by rw [← hpp]; exact HOK.out)
    have hG : compG n ls a P = O := by rw [← HO.out, hpp]; exact (compO_yes (by rw [← hpp]; exact HOK.out)).symm
    have HOG := Lib.hid hG
    have HF := Lib.hid hF
    have HRN : Hid (stkOf n ls a O = some q) := Lib.hid (by rw [← hG]; exact hF.run)
    have hpl : p.length = P.length + 1 := by rw [hpp]; rfl
    have hP8 : P.length ≤ 8 := hF.len
    have hp1 : 0 < p.length := by omega
    obtain ⟨xb, xo, rfl, hxb⟩ := HC.out.st.ints.some hp1
    have HA0 : Hid (p[0]? = some a) := Lib.hid (by rw [hpp]; rfl)
    have hpI : (0:Int) < (p.length:Int) := by omega
    have HPL := Lib.hid hpl
    have hp9 : p.length ≤ 9 := by omega
    clear hpp hF hG hpl
    go_wp2_with fail
    refine (sameLabels_self HC.out.out HW.out).mono ?_
    rintro e w4 ⟨rfl, hb⟩
    replace HC := Lib.hid (HC.out.below hb)
    replace HW := Lib.hid (HW.out.below hb (Nat.le_refl _))
    clear hb
    have HPV : Hid (stkPV n ls a O = p) := Lib.hid (by rw [← HOG.out, HF.out.path, ← HPP.out])
    have HUQ : Hid (unqV n ls a O = true) := Lib.hid (by rw [← HOG.out]; exact HF.out.unq)
    go_wp2_with fail
    replace HC := Lib.hid HC.out.drew
    have d0 := HC.out.st.ints.get HA0.out
    rw [Nat.add_zero] at d0
    obtain ⟨c0, c1, f0, f1, l0⟩ := box2 HC.out.st.box
    refine wp_region_noPanic ?_
    refine wp_region_held_drew (S := (fun w' => w'.cell? ⟨w1.heap.size, 0, none⟩ = some (.int .i64 n) ∧ w'.cell? ⟨w1.heap.size, 1, none⟩ = some (.slice ua ls.length uc) ∧ w'.cell? ⟨xb, xo, none⟩ = some (.int .i64 a))) (by kernel_rfl) (by ((try dsimp only); (first | go_keep | exact ⟨c0, c1, d0⟩))) (fun hHeld => ?_)
    refine wpAnyH_take (i := 0) (oi := _) (v := ?_) rfl (by kernel_rfl) (by kernel_rfl) (by kernel_rfl) (fun _ _ _ h => h) (Or.inl ⟨by rfl, ?_⟩) (by assumption) ?_
    rotate_left
    focus (intro w hSw; (try dsimp only at hSw); go_simp; try (with_reducible rfl))
    try simp only [List.getElem_toArray, List.getElem_cons_zero, List.getElem_cons_succ, Act.put, List.setIfInBounds_toArray, List.set_cons_zero, List.set_cons_succ]
    refine wpAnyH_take (i := 1) (oi := _) (v := ?_) rfl (by kernel_rfl) (by kernel_rfl) (by kernel_rfl) (fun _ _ _ h => h) (Or.inl ⟨by rfl, ?_⟩) (by assumption) ?_
    rotate_left
    focus (intro w hSw; (try dsimp only at hSw); go_simp; try (with_reducible rfl))
    try simp only [List.getElem_toArray, List.getElem_cons_zero, List.getElem_cons_succ, Act.put, List.setIfInBounds_toArray, List.set_cons_zero, List.set_cons_succ]
    refine wpAnyH_take (i := 2) (oi := _) (v := ?_) rfl (by kernel_rfl) (by kernel_rfl) (by kernel_rfl) (fun _ _ _ h => h) (Or.inl ⟨by rfl, ?_⟩) (by assumption) ?_
    rotate_left
    focus (intro w hSw; (try dsimp only at hSw); go_simp; try (with_reducible rfl))
    try simp only [List.getElem_toArray, List.getElem_cons_zero, List.getElem_cons_succ, Act.put, List.setIfInBounds_toArray, List.set_cons_zero, List.set_cons_succ]
    refine wpAnyH_take (i := 3) (oi := _) (v := ?_) rfl (by kernel_rfl) (by kernel_rfl) (by kernel_rfl) (fun _ _ _ h => h) (Or.inl ⟨by rfl, ?_⟩) (by assumption) ?_
    rotate_left
    focus (intro w hSw; (try dsimp only at hSw); go_simp; try (with_reducible rfl))
    try simp only [List.getElem_toArray, List.getElem_cons_zero, List.getElem_cons_succ, Act.put, List.setIfInBounds_toArray, List.set_cons_zero, List.set_cons_succ]
    refine wpAnyH_take (i := 4) (oi := _) (v := ?_) rfl (by kernel_rfl) (by kernel_rfl) (by kernel_rfl) (fun _ _ _ h => h) (Or.inl ⟨by rfl, ?_⟩) (by assumption) ?_
    rotate_left
    focus (intro w hSw; (try dsimp only at hSw); go_simp; try (with_reducible rfl))
    try simp only [List.getElem_toArray, List.getElem_cons_zero, List.getElem_cons_succ, Act.put, List.setIfInBounds_toArray, List.set_cons_zero, List.set_cons_succ]
    refine wpAnyH_take (i := 6) (oi := _) (v := ?_) rfl (by kernel_rfl) (by kernel_rfl) (by kernel_rfl) (fun _ _ _ h => h) (Or.inl ⟨by rfl, ?_⟩) (by assumption) ?_
    rotate_left
    focus (intro w hSw; (try dsimp only at hSw); go_simp; try (with_reducible rfl))
    try simp only [List.getElem_toArray, List.getElem_cons_zero, List.getElem_cons_succ, Act.put, List.setIfInBounds_toArray, List.set_cons_zero, List.set_cons_succ]
    refine wpAnyH_ready (rs := [5]) (by kernel_rfl) (by simp) ?_
    refine AllReadyH.cons (o := _) rfl (fun K hK => ?_) AllReadyH.nil
    go_simp
    (go_at_call 18; refine (iPathAny HPV.out HC.out.st.tri HC.out.out).mono ?_; rintro e w5 ⟨oA, oc, rfl, ho, hb⟩; have HOA := Lib.hid ho; clear ho; replace HC := Lib.hid (HC.out.below hb); replace d0 := cell_below hb d0 (cell_lt d0); clear hb c0 c1 f0 f1 l0; obtain ⟨c0, c1, f0, f1, l0⟩ := box2 HC.out.st.box)
    refine hK.out _ _ (by ((try dsimp only); (first | go_keep | exact ⟨c0, c1, d0⟩))) (fun hHeld => ?_)
    clear hK K
    try simp only [List.getElem_toArray, List.getElem_cons_zero, List.getElem_cons_succ, Act.put, List.setIfInBounds_toArray, List.set_cons_zero, List.set_cons_succ]
    refine wpAnyH_ready (rs := [7]) (by kernel_rfl) (by simp) ?_
    refine AllReadyH.cons (o := _) rfl (fun K hK => ?_) AllReadyH.nil
    go_simp
    (go_at_call 17; refine (sameInts_self HOA.out HC.out.st.ints).mono ?_; rintro e w6 ⟨rfl, hb⟩; clear HOA; replace HC := Lib.hid (HC.out.below hb); replace d0 := cell_below hb d0 (cell_lt d0); clear hb c0 c1 f0 f1 l0; obtain ⟨c0, c1, f0, f1, l0⟩ := box2 HC.out.st.box)
    refine hK.out _ _ (by ((try dsimp only); (first | go_keep | exact ⟨c0, c1, d0⟩))) (fun hHeld => ?_)
    clear hK K
    try simp only [List.getElem_toArray, List.getElem_cons_zero, List.getElem_cons_succ, Act.put, List.setIfInBounds_toArray, List.set_cons_zero, List.set_cons_succ]
    refine wpAnyH_take (i := 8) (oi := _) (v := ?_) rfl (by kernel_rfl) (by kernel_rfl) (by kernel_rfl) (fun _ _ _ h => h) (Or.inl ⟨by rfl, ?_⟩) (by assumption) ?_
    rotate_left
    focus (intro w hSw; (try dsimp only at hSw); go_simp; try (with_reducible rfl))
    try simp only [List.getElem_toArray, List.getElem_cons_zero, List.getElem_cons_succ, Act.put, List.setIfInBounds_toArray, List.set_cons_zero, List.set_cons_succ]
    refine wpAnyH_take (i := 9) (oi := _) (v := ?_) rfl (by kernel_rfl) (by kernel_rfl) (by kernel_rfl) (fun _ _ _ h => h) (Or.inl ⟨by rfl, ?_⟩) (by assumption) ?_
    rotate_left
    focus (intro w hSw; (try dsimp only at hSw); go_simp; try (with_reducible rfl))
    try simp only [List.getElem_toArray, List.getElem_cons_zero, List.getElem_cons_succ, Act.put, List.setIfInBounds_toArray, List.set_cons_zero, List.set_cons_succ]
    refine wpAnyH_take (i := 10) (oi := _) (v := ?_) rfl (by kernel_rfl) (by kernel_rfl) (by kernel_rfl) (fun _ _ _ h => h) (Or.inl ⟨by rfl, ?_⟩) (by assumption) ?_
    rotate_left
    focus (intro w hSw; (try dsimp only at hSw); go_simp; try (with_reducible rfl))
    try simp only [List.getElem_toArray, List.getElem_cons_zero, List.getElem_cons_succ, Act.put, List.setIfInBounds_toArray, List.set_cons_zero, List.set_cons_succ]
    refine wpAnyH_take (i := 11) (oi := _) (v := ?_) rfl (by kernel_rfl) (by kernel_rfl) (by kernel_rfl) (fun _ _ _ h => h) (Or.inl ⟨by rfl, ?_⟩) (by assumption) ?_
    rotate_left
    focus (intro w hSw; (try dsimp only at hSw); go_simp; try (with_reducible rfl))
    try simp only [List.getElem_toArray, List.getElem_cons_zero, List.getElem_cons_succ, Act.put, List.setIfInBounds_toArray, List.set_cons_zero, List.set_cons_succ]
    refine wpAnyH_take (i := 12) (oi := _) (v := ?_) rfl (by kernel_rfl) (by kernel_rfl) (by kernel_rfl) (fun _ _ _ h => h) (Or.inl ⟨by rfl, ?_⟩) (by assumption) ?_
    rotate_left
    focus (intro w hSw; (try dsimp only at hSw); go_simp; try (with_reducible rfl))
    try simp only [List.getElem_toArray, List.getElem_cons_zero, List.getElem_cons_succ, Act.put, List.setIfInBounds_toArray, List.set_cons_zero, List.set_cons_succ]
    refine wpAnyH_take (i := 13) (oi := _) (v := ?_) rfl (by kernel_rfl) (by kernel_rfl) (by kernel_rfl) (fun _ _ _ h => h) (Or.inl ⟨by rfl, ?_⟩) (by assumption) ?_
    rotate_left
    focus (intro w hSw; (try dsimp only at hSw); go_simp; try (with_reducible rfl))
    try simp only [List.getElem_toArray, List.getElem_cons_zero, List.getElem_cons_succ, Act.put, List.setIfInBounds_toArray, List.set_cons_zero, List.set_cons_succ]
    refine wpAnyH_ready (rs := [14]) (by kernel_rfl) (by simp) ?_
    refine AllReadyH.cons (o := _) rfl (fun K hK => ?_) AllReadyH.nil
    go_simp
    (go_at_call 19; refine (iStackUnique n ls a O _ _ _ HC.out.st.tri HC.out.out).mono ?_; rw [HUQ.out]; rintro e w7 ⟨rfl, hb⟩; replace HC := Lib.hid (HC.out.below hb); replace d0 := cell_below hb d0 (cell_lt d0); clear hb c0 c1 f0 f1 l0; obtain ⟨c0, c1, f0, f1, l0⟩ := box2 HC.out.st.box)
    refine hK.out _ _ (by ((try dsimp only); (first | go_keep | exact ⟨c0, c1, d0⟩))) (fun hHeld => ?_)
    clear hK K
    try simp only [List.getElem_toArray, List.getElem_cons_zero, List.getElem_cons_succ, Act.put, List.setIfInBounds_toArray, List.set_cons_zero, List.set_cons_succ]
    refine wpAnyH_take (i := 15) (oi := _) (v := ?_) rfl (by kernel_rfl) (by kernel_rfl) (by kernel_rfl) (fun _ _ _ h => h) (Or.inl ⟨by rfl, ?_⟩) (by assumption) ?_
    rotate_left
    focus (intro w hSw; (try dsimp only at hSw); go_simp; try (with_reducible rfl))
    try simp only [List.getElem_toArray, List.getElem_cons_zero, List.getElem_cons_succ, Act.put, List.setIfInBounds_toArray, List.set_cons_zero, List.set_cons_succ]
    refine wpAnyH_take (i := 16) (oi := _) (v := ?_) rfl (by kernel_rfl) (by kernel_rfl) (by kernel_rfl) (fun _ _ _ h => h) (Or.inl ⟨by rfl, ?_⟩) (by assumption) ?_
    rotate_left
    focus (intro w hSw; (try dsimp only at hSw); go_simp; try (with_reducible rfl))
    try simp only [List.getElem_toArray, List.getElem_cons_zero, List.getElem_cons_succ, Act.put, List.setIfInBounds_toArray, List.set_cons_zero, List.set_cons_succ]
    refine wpAnyH_done (by kernel_rfl) ?_ _
    refine NoPanic.normal ?_
    go_wp2_with fail
    go_ret
    exact ⟨rfl, HC.out.st.bw⟩
theorem own : ownKnob Try.prog.godebug = none := by kernel_rfl
theorem laidOut : laidOutB Try.prog = true := by kernel_rfl
set_option maxRecDepth 100000 in
theorem lifted (os : Os) (started : os.Started) (H : Type) (enc : TypeId × Value → H) :
    ReturnsInHanded {} Try.checked os 4 .any (Rows.fnCompileSpec.pre6 enc Try.prog Try.f4 Rows.fnCompileRow.domain false) (Rows.fnCompileSpec.post enc Try.prog Try.f4 false true false false) := by
  refine returnsInHanded_of_change (C := Try.checked) own started (by kernel_rfl) Try.func4
    (ChangeSpec.witness6 (enc := enc) (C := Try.checked) false ⟨#[], #[.slice none 0 0], []⟩ 8 (by kernel_rfl) (by kernel_rfl) (by kernel_rfl) (by kernel_rfl)) ?_
  intro W base args ds gs before hval0 hW hcnd _
  have hval : ∀ (j : Nat) t v, Try.f4.params[j]? = some t → args[j]? = some v → Value.okWide Try.prog W .any base t v := hval0
  have hW' := hW
  obtain ⟨p, q, hA0, hV, rfl, hfz, hnd⟩ := hW
  have hA : DataW.TrodAll enc Try.prog W 0 (fun _ => true) true Try.f4.params.toList args.toList ds p := hA0
  rw [Try.params4] at hA hval
  obtain ⟨v0, vs0, d0, ds0, p0, q0, hargs, rfl, rfl, h0, r0⟩ := trodAll_cons hA
  obtain ⟨rfl, rfl, rfl⟩ := trodAll_nil r0
  obtain rfl : args = #[v0] := by cases args; simp_all
  obtain ⟨rfl, rfl⟩ := trodVars_none hV
  have k0 := h0
  have lt0 : ∀ x ∈ p0, x.block < W.heap.size := by obtain ⟨m, hm⟩ := k0; exact DataW.trod_lt m _ _ _ hm
  have w0 : CodeAt W v0 := codeAt_of_trod (T := 22) (E := 5) Try.underlying22 Try.underlying5 (by kernel_rfl) (hval 0 22 v0 rfl rfl) h0
  clear hA0 hval0
  refine (walk v0 W w0).mono fun e W' ⟨he, bel⟩ => ?_
  subst he
  exact ⟨_, rfl, _, _, _, [], _, [], hW', trodAll_mk1 (shut_bool Try.underlying4 _), (trodAll_cons_mk (Below.trod laidOut (by kernel_rfl) (of_decide_eq_true (by kernel_rfl)) k0 bel lt0) trodAll_mk0), rfl, bel.frame _, fun h => by cases h⟩
theorem over : Rows.fnCompileRow.holds Try.pinned (OpenSpec.ofChange Rows.fnCompileSpec) :=
  OpenClaim.holds_of_wide 4 Try.f4 rfl rfl rfl rfl rfl rfl rfl ⟨rfl, rfl, rfl, rfl, rfl⟩ rfl rfl rfl rfl rfl (by kernel_rfl) Try.func4 (by kernel_rfl)
    (of_decide_eq_true (by kernel_rfl)) (by unfold Func.isWrapper; first | (rw [if_pos (by decide +kernel)]; kernel_rfl) | (rw [if_neg (by decide +kernel)]; exact ⟨rfl, rfl⟩))
    (fun os started H enc _ => lifted os started H enc)
end Go.Proofs.Ytoebefpmfgkpoaa.lawFnCompile
namespace Go.Proofs.Ytoebefpmfgkpoaa
set_option linter.unusedSimpArgs false
set_option linter.unusedVariables false
/-- The statement. -/
theorem FnCompile_proved : Rows.FnCompileSaid := lawFnCompile.over
#print axioms FnCompile_proved
end Go.Proofs.Ytoebefpmfgkpoaa
