/- FnStackBack: for every input the call returns true, and the argument reads afterwards as before. No condition. -/
import Derived.Test.YthcnmhjfapoaiaaLwD
import Derived.Test.YthcnmhjfapoaiaaRows
import Derived.Test.YthcnmhjfapoaiaaOpen
import Derived.ProofKit
import Derived.OpenShut
import Derived.ShutString
import Derived.ChangeOld
import Derived.Lib.SmallJoins
namespace Go.Proofs.Ythcnmhjfapoaiaa.lawFnStackBack
set_option linter.unusedSimpArgs false
set_option linter.unusedVariables false
open Go.ChangeShapes Go.WideShapes Go.ChangeAt Go.RowKit Go.Joins
theorem back_of {m : Nat} {s : List LabelD} {ys : List Int} {p a : Int} (hm : s.length = m + 1) (hy : ys.length = m) (h : ∀ j y, ys[j]? = some y → s[m - 1 - j]? = some (1, y)) (hp : s[m]? = some (1, p)) :
    s = nodeS (ys.reverse ++ [p]) ∧ nodeS ys ++ [(1, a)] = nodeS (rv a (ys.reverse ++ [p])) := by
  constructor
  · apply List.ext_getElem?
    intro k
    unfold nodeS
    rw [List.getElem?_map]
    rcases Nat.lt_trichotomy k m with hk | hk | hk
    · rw [List.getElem?_append_left (by simp; omega), List.getElem?_reverse (by omega)]
      obtain ⟨y, hyk⟩ := at_lt (l := ys) (n := ys.length) rfl (k := ys.length - 1 - k) (by omega)
      rw [hyk]
      have := h _ _ hyk
      rw [show m - 1 - (ys.length - 1 - k) = k by omega] at this
      rw [this]; rfl
    · subst hk
      rw [List.getElem?_append_right (by simp; omega), hp]
      simp [hy]
    · rw [List.getElem?_eq_none (by omega), List.getElem?_eq_none (by simp; omega)]; rfl
  · have h1 := rv_reverse (ys.reverse ++ [p]) a
    have h2 : (a :: (ys.reverse ++ [p])).reverse = p :: (ys ++ [a]) := by simp
    rw [h2] at h1
    injection h1 with _ h1
    rw [← h1]
    simp [nodeS]
set_option maxRecDepth 100000 in
set_option maxHeartbeats 4000000 in
theorem walk (v : Value) (w : World) (h : CodeAt w v) :
    Calls Try.prog 9 #[v] w fun e w' => e = .returned (.bool true) ∧ Below w.heap.size w w' := by
  obtain ⟨a0, n0, cap0, b0, off0, rfl, hcap0, hmax0, ha0, hc0⟩ := id h
  unfold maxLen at hmax0
  clear ha0 hc0
  have H := Lib.hid h
  obtain ⟨i0, hi, hz0, hz1, hz2⟩ := info_parts infoLab
  have HI := Lib.hid hi; have HZ0 := Lib.hid hz0; have HZ1 := Lib.hid hz1; have HZ2 := Lib.hid hz2
  clear h hi hz0 hz1 hz2
  by_cases hn : 1048576 < n0
  · go_enter Try.func9, Try.ntmps9
    go_wp2
    go_ret
    exact ⟨rfl, Below.refl _ _⟩
  go_enter Try.func9, Try.ntmps9
  go_wp2_with fail
  refine (drawSE _ _ H.out).mono ?_
  rintro e w1 ⟨⟨n, u, ls, a, x, s, rfl, hls, hT, hs, hP, _, _⟩, hb⟩
  have L1 : LwS w w1.heap.size n u ls x s (w1.alloc (.cells #[.int .i64 n, u] 30)) := LwS.new hb hT hP
  obtain ⟨ua, uc, rfl, hul, hum⟩ := hT.form2
  obtain ⟨xa, xc, rfl, hxl, hxm⟩ := hP.form2
  unfold maxLen at hum hxm
  have HL := Lib.hid L1
  have hsz := hb.size
  clear hb L1 hT hP
  rcases hq : stkOf n ls a s with _ | q
  · have HQ := Lib.hid hq
    clear hq
    go_wp2_with fail
    refine (iEndNo HQ.out HL.out.tri HL.out.prs).mono ?_
    rintro e w2 ⟨rfl, hb⟩
    replace HL := Lib.hid (HL.out.below hb)
    obtain ⟨c0, c1, f0, f1, l0⟩ := box2 HL.out.box
    clear hb
    go_wp2_with fail
    refine (sEndNo HQ.out HL.out.tri HL.out.prs).mono ?_
    rintro e w3 ⟨rfl, hb⟩
    replace HL := Lib.hid (HL.out.below hb)
    clear hb c0 c1 f0 f1 l0
    go_wp2_with fail
    go_ret
    exact ⟨rfl, HL.out.bw⟩
  · have HQ := Lib.hid hq
    obtain ⟨z, hz⟩ : ∃ z, lastN a q = z := ⟨_, rfl⟩
    have HZ := Lib.hid hz
    have hs8 : s.length ≤ 8 := (stkOf_some hq).len
    clear hq hz
    go_wp2_with fail
    refine (iEndYes HQ.out HZ.out HL.out.tri HL.out.prs).mono ?_
    rintro e w2 ⟨rfl, hb⟩
    replace HL := Lib.hid (HL.out.below hb)
    obtain ⟨c0, c1, f0, f1, l0⟩ := box2 HL.out.box
    clear hb
    go_wp2_with fail
    refine (sEndYes HQ.out HZ.out HL.out.tri HL.out.prs).mono ?_
    rintro e w3 ⟨rfl, hb⟩
    replace HL := Lib.hid (HL.out.below hb)
    clear hb c0 c1 f0 f1 l0
    have e1 : (z != z) = false := by simp
    have e2 : (z == z) = true := by simp
    by_cases hs0 : s.length = 0
    · have t0 : ((s.length:Int) == 0) = true := by simpa using hs0
      have HS0 := Lib.hid hs0
      clear hs0
      go_wp2_with fail
      go_ret
      exact ⟨rfl, HL.out.bw⟩
    obtain ⟨m, hm⟩ : ∃ m, s.length = m + 1 := ⟨s.length - 1, by omega⟩
    have t0 : ((s.length:Int) == 0) = false := by simpa using hs0
    have HM := Lib.hid hm
    have wm : IntKind.i64.wrap ((s.length : Int) - 2) = (m : Int) - 1 := by rw [IntWalk.i64_in _ (by omega)]; omega
    have wm1 : IntKind.i64.wrap ((s.length : Int) - 1) = (m : Int) := by rw [IntWalk.i64_in _ (by omega)]; omega
    have hml : m < s.length := by omega
    have hml2 : (m:Int) < (s.length:Int) := by omega
    have hm0 : (0:Int) ≤ (m:Int) := by omega
    have hm7 : m ≤ 7 := by omega
    clear hs0 hm
    have HR0 : Hid ((w3.alloc (.cells #[] 48)).ownsRow w3.heap.size 48 2 (.slice (some ⟨w3.heap.size, 0, none⟩) 0 0) 0 (cells2 (nodeS []))) := Lib.hid (own_new rfl (Nat.le_refl _))
    have HB0 : Hid (Below w3.heap.size w3 (w3.alloc (.cells #[] 48))) := Lib.hid ((Below.refl _ _).alloc (Nat.le_refl _) _)
    go_wp2_with fail
    go_loopw [10, 11] (fun bv i wr => ∃ (k : Nat) (I : Int) (ys : List Int), k ≤ m ∧ i = .int .i64 I ∧ I + k = (m:Int) - 1 ∧ ys.length = k ∧ wr.ownsRow w3.heap.size 48 2 bv k (cells2 (nodeS ys)) ∧ Hid (∀ j y, ys[j]? = some y → s[m - 1 - j]? = some (1, y)) ∧ Below w3.heap.size w3 wr) (fun _ i _ => (intOf i + 1).toNat)
    case atStart => exact ⟨0, _, [], by omega, rfl, by omega, rfl, HR0.out, Lib.hid (fun j y h => by simp at h), HB0.out⟩
    case round =>
      obtain ⟨k, I, ys, hk, rfl, hI, hyl, hR, hys, hB⟩ := hrel
      clear HR0 HB0
      have HI1 := Lib.hid hI; have HR := Lib.hid hR; have HB := Lib.hid hB; have HYL := Lib.hid hyl
      clear hI hyl
      obtain ⟨ba, bc, rfl⟩ := own_slice hR
      clear hR hB
      by_cases hI0 : 0 ≤ I
      · have t1 : decide (0 ≤ I) = true := decide_eq_true hI0
        obtain ⟨j, rfl⟩ : ∃ j : Nat, I = (j:Int) := ⟨I.toNat, by omega⟩
        have hjm : j = m - 1 - k := by have := HI1.out; omega
        have hkm : k < m := by have := HI1.out; omega
        have hjl : j < s.length := by omega
        have hjl2 : (j:Int) < (s.length:Int) := by omega
        have wj : IntKind.i64.wrap ((j:Int) - 1) = (j:Int) - 1 := IntWalk.i64_in _ (by omega)
        obtain ⟨⟨p1, p2⟩, hp⟩ := at_lt (l := s) (n := s.length) rfl hjl
        obtain ⟨xb, xo, rfl, hxb⟩ := HL.out.prs.some (by omega)
        obtain ⟨d0, d1⟩ := (HL.out.prs.below HB.out (Nat.le_refl _)).get hp
        have hbd := cell_lt d0
        have HPJ := Lib.hid hp
        have HJM := Lib.hid hjm
        clear hp hjm
        by_cases hp1 : p1 = 1
        · subst hp1
          go_wp2_with (at_builtin; refine wpList_append_rd rfl _ _ _ rfl w3.heap.size 48 i0 _ 2 16 Try.underlying42 HI.out HZ0.out HZ1.out HZ2.out rfl (by omega) (.slice ba k bc) k (cells2 (nodeS ys)) rfl (by with_reducible (repeat (first | exact HR.out | apply own_drewN | apply own_drew | apply World.ownsRow.alloc | (refine own_setCell ?_ (by first | (simp; done) | omega | (simp; omega)) _)))) (some ⟨wr.heap.size, 0, none⟩) 1 1 [.int .i64 1, .int .i64 p2] rfl (srcAt_one (n := 1) (o := 2) (box_new _ #[.int .i64 1, .int .i64 p2] _) rfl) (by simp [Value.oneCell']) (by unfold maxLen; omega) (by omega) (by have := HB.out.size; simp; omega) ?_; intro v' w4 hown3 hgrow hloc)
          go_roundw
          case rel =>
            refine ⟨k + 1, (j:Int) - 1, ys ++ [p2], by omega, rfl, by have := HI1.out; omega, by rw [List.length_append, HYL.out]; rfl, ?_, Lib.hid (fun i y hi => ?_), ?_⟩
            · have e : cells2 (nodeS (ys ++ [p2])) = cells2 (nodeS ys) ++ [.int .i64 1, .int .i64 p2] := by simp [nodeS, cells2]
              rw [e]; exact hown3
            · by_cases hik : i < ys.length
              · rw [List.getElem?_append_left hik] at hi
                exact hys.out i y hi
              · have hil := (List.getElem?_eq_some_iff.1 hi).1
                have hie : i = k := by have := HYL.out; simp at hil; omega
                rw [List.getElem?_append_right (by omega), HYL.out, hie] at hi
                simp at hi
                rw [← hi, hie, ← HJM.out]; exact HPJ.out
            · exact Below.grown (HB.out.alloc HB.out.size _) hgrow (by have := HB.out.size; simp; omega) (fun i hi => (HR.out.lt i hi).1)
          case measure => simp [intOf]
        · have e3 : (p1 != 1) = true := by simpa using hp1
          go_wp2_with fail
          go_ret
          exact ⟨rfl, (HL.out.below HB.out).bw⟩
      · have t1 : decide (0 ≤ I) = false := decide_eq_false hI0
        have hkm : k = m := by have := HI1.out; omega
        subst hkm
        obtain ⟨⟨p1, p2⟩, hp⟩ := at_lt (l := s) (n := s.length) rfl hml
        obtain ⟨xb, xo, rfl, hxb⟩ := HL.out.prs.some (by omega)
        obtain ⟨d0, d1⟩ := (HL.out.prs.below HB.out (Nat.le_refl _)).get hp
        have hbd := cell_lt d0
        have HPJ := Lib.hid hp
        clear hp
        by_cases hp1 : p1 = 1
        rotate_left
        · have e3 : (p1 != 1) = true := by simpa using hp1
          go_wp2_with fail
          go_ret
          exact ⟨rfl, (HL.out.below HB.out).bw⟩
        subst hp1
        obtain ⟨g1, g2⟩ := back_of (a := a) HM.out HYL.out hys.out HPJ.out
        have HG1 := Lib.hid g1; have HG2 := Lib.hid g2
        clear g1 g2
        have hq2 := HQ.out
        rw [HG1.out] at hq2
        obtain ⟨r1, r2, r3, r4⟩ := stk_back hq2
        rw [← r1] at r2 r3 r4 HG2
        rw [HZ.out] at r2 r3 r4
        obtain ⟨cc, hcc⟩ : ∃ cc, stkCost n ls a s = cc := ⟨_, rfl⟩
        have r5 : stkCost n ls z (nodeS (rv a q)) = cc := by rw [r4, r1, ← HG1.out, hcc]
        have R2 := Lib.hid r2; have R3 := Lib.hid r3; have R5 := Lib.hid r5; have HCC := Lib.hid hcc
        have e4 : (a == a) = true := by simp
        have e5 : (cc == cc) = true := by simp
        clear hq2 r1 r2 r3 r4 r5 hcc
        go_wp2_with (at_builtin; refine wpList_append_rd rfl _ _ _ rfl w3.heap.size 48 i0 _ 2 16 Try.underlying42 HI.out HZ0.out HZ1.out HZ2.out rfl (by omega) (.slice ba k bc) k (cells2 (nodeS ys)) rfl (by with_reducible (repeat (first | exact HR.out | apply own_drewN | apply own_drew | apply World.ownsRow.alloc | (refine own_setCell ?_ (by first | (simp; done) | omega | (simp; omega)) _)))) (some ⟨wr.heap.size, 0, none⟩) 1 1 [.int .i64 1, .int .i64 a] rfl (srcAt_one (n := 1) (o := 2) (box_new _ #[.int .i64 1, .int .i64 a] _) rfl) (by simp [Value.oneCell']) (by unfold maxLen; omega) (by omega) (by have := HB.out.size; simp; omega) ?_; intro v' w4 hown3 hgrow hloc; have B4 : Below w3.heap.size w3 w4 := Below.grown (HB.out.alloc HB.out.size _) hgrow (by have := HB.out.size; simp; omega) (fun i hi => (HR.out.lt i hi).1); have q4 := box2 (HL.out.below B4).box)
        have o4 : w4.ownsRow w3.heap.size 48 2 v' (nodeS (rv a q)).length (cells2 (nodeS (rv a q))) := by
          rw [← HG2.out]
          have e : cells2 (nodeS ys ++ [(1, a)]) = cells2 (nodeS ys) ++ [.int .i64 1, .int .i64 a] := by simp [cells2]
          have e' : (nodeS ys ++ [(1, a)]).length = k + 1 := by simp [nodeS, HYL.out]
          rw [e, e']; exact hown3
        have HP4 := Lib.hid (pairs_of_owns o4)
        have HL4 := Lib.hid (HL.out.below B4)
        obtain ⟨ga, gc, rfl⟩ := own_slice hown3
        clear B4 q4 hown3 hgrow hloc o4 HR HB d0 d1 HL
        refine (iEndYes R2.out R3.out HL4.out.tri HP4.out).mono ?_
        rintro e w5 ⟨rfl, hb⟩
        have HP5 := Lib.hid (HP4.out.below hb (Nat.le_refl _))
        have HL5 := Lib.hid (HL4.out.below hb)
        clear hb HP4 HL4
        go_wp2_with fail
        obtain ⟨I, φ, h0, hφ, hmk⟩ := famOf (w5).heap.size (w5)
        haveI : Nonempty I := h0.elim fun i _ => ⟨i⟩
        have H0 := Lib.hid h0; have HF := Lib.hid hφ; have HMK := Lib.hid hmk; have HBs : Hid ((w5).heap.size ≤ (w5).heap.size) := Lib.hid (Nat.le_refl _)
        clear h0 hφ hmk
        obtain ⟨G_0, G_1, G_2, G_3, G_4⟩ := box2F fun i => HL5.out.box.below (HF.out i) HL5.out.box.lt
        have HC1 : Hid (∀ i, Calls Try.prog 31 #[.agg #[.int .i64 n, .slice ua ls.length uc], .int .i64 z, .slice ga (k + 1) gc] (φ i) fun e w' => e = .returned (.int .i64 cc) ∧ Below (φ i).heap.size (φ i) w') := Lib.hid fun i => iCostYes R2.out R5.out (HL5.out.below (HF.out i)).tri (HP5.out.below (HF.out i) (Nat.le_refl _))
        have HC2 : Hid (∀ i, Calls Try.prog 31 #[.agg #[.int .i64 n, .slice ua ls.length uc], .int .i64 a, .slice (some ⟨xb, xo, none⟩) s.length xc] (φ i) fun e w' => e = .returned (.int .i64 cc) ∧ Below (φ i).heap.size (φ i) w') := Lib.hid fun i => iCostYes HQ.out HCC.out (HL5.out.below (HF.out i)).tri (HL5.out.below (HF.out i)).prs
        refine wp_region_fam φ H0.out (by kernel_rfl) (by kernel_rfl) ?_
        repeat (go_big_quiet_step (first | (go_at_call 31; first | (with_reducible exact quiet_fam HF.out HBs.out HMK.out (HC1.out _)) | (with_reducible exact quiet_fam HF.out HBs.out HMK.out (HC2.out _)))))
        refine wpQuiet_nil ?_
        intro _ hw'
        obtain ⟨nq, hw''⟩ := hw'
        subst hw''
        have hb := HF.out nq
        obtain ⟨w6, hw2⟩ : ∃ x, φ nq = x := ⟨_, rfl⟩
        rw [hw2] at hb ⊢
        clear hw2
        go_wp2_with fail
        go_ret
        exact ⟨rfl, (HL5.out.below hb).bw⟩
theorem own : ownKnob Try.prog.godebug = none := by kernel_rfl
theorem laidOut : laidOutB Try.prog = true := by kernel_rfl
set_option maxRecDepth 100000 in
theorem lifted (os : Os) (started : os.Started) (H : Type) (enc : TypeId × Value → H) :
    ReturnsInHanded {} Try.checked os 9 .any (Rows.fnStackBackSpec.pre6 enc Try.prog Try.f9 Rows.fnStackBackRow.domain false) (Rows.fnStackBackSpec.post enc Try.prog Try.f9 false true false false) := by
  refine returnsInHanded_of_change (C := Try.checked) own started (by kernel_rfl) Try.func9
    (ChangeSpec.witness6 (enc := enc) (C := Try.checked) false ⟨#[], #[.slice none 0 0], []⟩ 8 (by kernel_rfl) (by kernel_rfl) (by kernel_rfl) (by kernel_rfl)) ?_
  intro W base args ds gs before hval0 hW hcnd _
  have hval : ∀ (j : Nat) t v, Try.f9.params[j]? = some t → args[j]? = some v → Value.okWide Try.prog W .any base t v := hval0
  have hW' := hW
  obtain ⟨p, q, hA0, hV, rfl, hfz, hnd⟩ := hW
  have hA : DataW.TrodAll enc Try.prog W 0 (fun _ => true) true Try.f9.params.toList args.toList ds p := hA0
  rw [Try.params9] at hA hval
  obtain ⟨v0, vs0, d0, ds0, p0, q0, hargs, rfl, rfl, h0, r0⟩ := trodAll_cons hA
  obtain ⟨rfl, rfl, rfl⟩ := trodAll_nil r0
  obtain rfl : args = #[v0] := by cases args; simp_all
  obtain ⟨rfl, rfl⟩ := trodVars_none hV
  have k0 := h0
  have lt0 : ∀ x ∈ p0, x.block < W.heap.size := by obtain ⟨m, hm⟩ := k0; exact DataW.trod_lt m _ _ _ hm
  have w0 : CodeAt W v0 := codeAt_of_trod (T := 37) (E := 5) Try.underlying37 Try.underlying5 (by kernel_rfl) (hval 0 37 v0 rfl rfl) h0
  clear hA0 hval0
  refine (walk v0 W w0).mono fun e W' ⟨he, bel⟩ => ?_
  subst he
  exact ⟨_, rfl, _, _, _, [], _, [], hW', trodAll_mk1 (shut_bool Try.underlying4 _), (trodAll_cons_mk (Below.trod laidOut (by kernel_rfl) (of_decide_eq_true (by kernel_rfl)) k0 bel lt0) trodAll_mk0), rfl, bel.frame _, fun h => by cases h⟩
theorem over : Rows.fnStackBackRow.holds Try.pinned (OpenSpec.ofChange Rows.fnStackBackSpec) :=
  OpenClaim.holds_of_wide 9 Try.f9 rfl rfl rfl rfl rfl rfl rfl ⟨rfl, rfl, rfl, rfl, rfl⟩ rfl rfl rfl rfl rfl (by kernel_rfl) Try.func9 (by kernel_rfl)
    (of_decide_eq_true (by kernel_rfl)) (by unfold Func.isWrapper; first | (rw [if_pos (by decide +kernel)]; kernel_rfl) | (rw [if_neg (by decide +kernel)]; exact ⟨rfl, rfl⟩))
    (fun os started H enc _ => lifted os started H enc)
end Go.Proofs.Ythcnmhjfapoaiaa.lawFnStackBack
namespace Go.Proofs.Ythcnmhjfapoaiaa
set_option linter.unusedSimpArgs false
set_option linter.unusedVariables false
/-- The statement. -/
theorem FnStackBack_proved : Rows.FnStackBackSaid := lawFnStackBack.over
#print axioms FnStackBack_proved
end Go.Proofs.Ythcnmhjfapoaiaa
