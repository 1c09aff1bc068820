/- FnDbMissing: for every input the call returns true, and the argument reads afterwards as before. No condition. -/
import Derived.Test.YtidcpdolcbbnjaaDrawDb2
import Derived.Test.YtidcpdolcbbnjaaMerge
import Derived.Test.YtidcpdolcbbnjaaSame
import Derived.Test.YtidcpdolcbbnjaaPureMerge
import Derived.Test.YtidcpdolcbbnjaaSeq
import Derived.Test.YtidcpdolcbbnjaaMiss2
import Derived.Test.YtidcpdolcbbnjaaRows
import Derived.Test.YtidcpdolcbbnjaaOpen
import Derived.ProofKit
import Derived.OpenShut
import Derived.ShutString
import Derived.ChangeOld
import Derived.Lib.SmallJoins
namespace Go.Proofs.Ytidcpdolcbbnjaa.lawFnDbMissing
open Go.ChangeShapes Go.WideShapes Go.ChangeAt Go.RowKit Go.Joins
set_option maxRecDepth 100000 in
set_option maxHeartbeats 4000000 in
theorem walk (v : Value) (w : World) (h : CodeAt w v) :
    Calls Try.prog 10 #[v] w fun e w' => e = .returned (.bool true) ∧ Below w.heap.size w w' := by
  obtain ⟨a0, n, cap, b, off, rfl, hcap, hmax, ha, hc⟩ := id h
  unfold maxLen at hmax
  clear ha hc
  have H := Lib.hid h
  clear h
  by_cases hn : 1048576 < n
  · go_enter Try.func10, Try.ntmps10
    go_wp2
    go_ret
    exact ⟨rfl, Below.refl _ _⟩
  go_enter Try.func10, Try.ntmps10
  go_wp2_with fail
  refine (drawDbMerge _ _ H.out).mono ?_
  rintro e w1 ⟨va, vb, db, ob, rfl, h1, h2, hb1⟩
  have BW := Lib.hid hb1
  obtain ⟨xa, xn, xc, rfl⟩ := h1.form
  obtain ⟨ya, yn, yc, rfl⟩ := h2.form
  have X := Lib.hid h1; have Y := Lib.hid h2
  obtain ⟨⟨p, k⟩, hp⟩ : ∃ p, mergeOf db ob = p := ⟨_, rfl⟩
  have HP := Lib.hid hp
  clear hb1 h1 h2 hp
  go_wp2_with fail
  refine (iDbMerge db ob _ _ _ X.out Y.out).mono ?_
  rw [HP.out]
  rintro e w2 ⟨v2, us2, rfl, hO, hb⟩
  have kk := Lib.hid (below_call (B := w1.heap.size) (a := w1) (by with_reducible (repeat (first | (refine below_drewN ?_ _) | (refine Below.drew ?_) | (refine below_alloc ?_ (by first | omega | (simp; done) | (simp; omega)) _) | (refine Below.setCell ?_ (by first | omega | (simp; done) | (simp; omega)) _) | exact Below.refl _ _ | assumption | (refine below_call ?_ (by first | omega | (simp; done) | (simp; omega)) (by assumption))))) (Nat.le_refl _) hb)
  replace BW := Lib.hid (BW.out.trans (kk.out.mono BW.out.size))
  replace X := Lib.hid (X.out.below kk.out (Nat.le_refl _))
  replace Y := Lib.hid (Y.out.below kk.out (Nat.le_refl _))
  have P2 := Lib.hid hO.at_
  simp only at P2
  obtain ⟨pa, pn, pc, rfl⟩ := P2.out.form
  clear hb hO kk
  go_wp2_with fail
  refine (sDbMerge db ob _ _ _ X.out Y.out).mono ?_
  rw [HP.out]
  rintro e w3 ⟨v3, us3, rfl, hO, hb⟩
  have kk := Lib.hid (below_call (B := w2.heap.size) (a := w2) (by with_reducible (repeat (first | (refine below_drewN ?_ _) | (refine Below.drew ?_) | (refine below_alloc ?_ (by first | omega | (simp; done) | (simp; omega)) _) | (refine Below.setCell ?_ (by first | omega | (simp; done) | (simp; omega)) _) | exact Below.refl _ _ | assumption | (refine below_call ?_ (by first | omega | (simp; done) | (simp; omega)) (by assumption))))) (Nat.le_refl _) hb)
  replace BW := Lib.hid (BW.out.trans (kk.out.mono BW.out.size))
  replace X := Lib.hid (X.out.below kk.out (Nat.le_refl _))
  replace Y := Lib.hid (Y.out.below kk.out (Nat.le_refl _))
  replace P2 := Lib.hid (P2.out.below kk.out (Nat.le_refl _))
  have P3 := Lib.hid hO.at_
  simp only at P3
  obtain ⟨qa, qn, qc, rfl⟩ := P3.out.form
  clear hb hO kk
  have hcc : (k != k) = false := by simp
  have hcc2 : (k == k) = true := by simp
  go_wp2_with fail
  refine (sameDb_any p p _ _ _ P2.out P3.out).mono ?_
  rw [eqB_self]
  rintro e w4 ⟨rfl, hb⟩
  have kk := Lib.hid (below_call (B := w3.heap.size) (a := w3) (by with_reducible (repeat (first | (refine below_drewN ?_ _) | (refine Below.drew ?_) | (refine below_alloc ?_ (by first | omega | (simp; done) | (simp; omega)) _) | (refine Below.setCell ?_ (by first | omega | (simp; done) | (simp; omega)) _) | exact Below.refl _ _ | assumption | (refine below_call ?_ (by first | omega | (simp; done) | (simp; omega)) (by assumption))))) (Nat.le_refl _) hb)
  replace BW := Lib.hid (BW.out.trans (kk.out.mono BW.out.size))
  replace X := Lib.hid (X.out.below kk.out (Nat.le_refl _))
  replace Y := Lib.hid (Y.out.below kk.out (Nat.le_refl _))
  replace P2 := Lib.hid (P2.out.below kk.out (Nat.le_refl _))
  replace P3 := Lib.hid (P3.out.below kk.out (Nat.le_refl _))
  clear hb kk
  cases k
  · go_wp2_with fail
    refine (sameDb_any p p _ _ _ P2.out P3.out).mono ?_
    rw [eqB_self]
    rintro e w5 ⟨rfl, hb⟩
    have kk := Lib.hid (below_call (B := w4.heap.size) (a := w4) (by with_reducible (repeat (first | (refine below_drewN ?_ _) | (refine Below.drew ?_) | (refine below_alloc ?_ (by first | omega | (simp; done) | (simp; omega)) _) | (refine Below.setCell ?_ (by first | omega | (simp; done) | (simp; omega)) _) | exact Below.refl _ _ | assumption | (refine below_call ?_ (by first | omega | (simp; done) | (simp; omega)) (by assumption))))) (Nat.le_refl _) hb)
    replace BW := Lib.hid (BW.out.trans (kk.out.mono BW.out.size))
    clear hb kk
    go_wp2_with fail
    go_ret
    exact ⟨rfl, BW.out⟩
  have hok : dbOk db = true ∧ dbOk ob = true := by
    rcases Bool.eq_false_or_eq_true (dbOk db && dbOk ob) with h | h
    · simpa using h
    · have := HP.out
      rw [mergeOf_bad h] at this
      injection this with _ e
      cases e
  have hpm : mergeD db ob = p := by
    have := HP.out
    rw [mergeOf_ok hok.1 hok.2] at this
    injection this
  have hpo : dbOk p = true := by rw [← hpm]; exact mergeD_ok hok.1 fun d hd => ok_mem hok.2 hd
  have hsq : ∀ x, seqB p x = max (seqB db x) (seqB ob x) := fun x => by rw [← hpm]; exact mergeD_seq hok.1 hok.2 x
  have HOK := Lib.hid hok; have HPM := Lib.hid hpm; have HPO := Lib.hid hpo; have HSQ := Lib.hid hsq
  clear hok hpm hpo hsq P3
  have hm1 : missOf p ob = [] := by rw [missOf_ok HPO.out HOK.out.2]; exact miss_none HOK.out.2 fun o => by rw [HSQ.out]; omega
  have hm2 : missOf p db = [] := by rw [missOf_ok HPO.out HOK.out.1]; exact miss_none HOK.out.1 fun o => by rw [HSQ.out]; omega
  have HM1 := Lib.hid hm1; have HM2 := Lib.hid hm2
  have e0 : (((0:Nat):Int) == 0) = true := rfl
  clear hm1 hm2
  go_wp2_with fail
  refine (iDbMissing p ob _ _ _ P2.out Y.out).mono ?_
  rw [HM1.out]
  rintro e w5 ⟨v6, rfl, hO, hb⟩
  have kk := Lib.hid (below_call (B := w4.heap.size) (a := w4) (by with_reducible (repeat (first | (refine below_drewN ?_ _) | (refine Below.drew ?_) | (refine below_alloc ?_ (by first | omega | (simp; done) | (simp; omega)) _) | (refine Below.setCell ?_ (by first | omega | (simp; done) | (simp; omega)) _) | exact Below.refl _ _ | assumption | (refine below_call ?_ (by first | omega | (simp; done) | (simp; omega)) (by assumption))))) (Nat.le_refl _) hb)
  replace BW := Lib.hid (BW.out.trans (kk.out.mono BW.out.size))
  replace X := Lib.hid (X.out.below kk.out (Nat.le_refl _))
  replace P2 := Lib.hid (P2.out.below kk.out (Nat.le_refl _))
  obtain ⟨ta, tc, rfl⟩ := own_slice hO.1
  rw [List.length_nil]
  clear hO
  clear hb kk
  go_wp2_with fail
  refine (iDbMissing p db _ _ _ P2.out X.out).mono ?_
  rw [HM2.out]
  rintro e w6 ⟨v7, rfl, hO, hb⟩
  have kk := Lib.hid (below_call (B := w5.heap.size) (a := w5) (by with_reducible (repeat (first | (refine below_drewN ?_ _) | (refine Below.drew ?_) | (refine below_alloc ?_ (by first | omega | (simp; done) | (simp; omega)) _) | (refine Below.setCell ?_ (by first | omega | (simp; done) | (simp; omega)) _) | exact Below.refl _ _ | assumption | (refine below_call ?_ (by first | omega | (simp; done) | (simp; omega)) (by assumption))))) (Nat.le_refl _) hb)
  replace BW := Lib.hid (BW.out.trans (kk.out.mono BW.out.size))
  obtain ⟨ua, uc, rfl⟩ := own_slice hO.1
  rw [List.length_nil]
  clear hO
  clear hb kk
  go_wp2_with fail
  go_ret
  exact ⟨rfl, BW.out⟩
theorem own : ownKnob Try.prog.godebug = none := by kernel_rfl
theorem laidOut : laidOutB Try.prog = true := by kernel_rfl
set_option maxRecDepth 100000 in
theorem lifted (os : Os) (started : os.Started) (H : Type) (enc : TypeId × Value → H) :
    ReturnsInHanded {} Try.checked os 10 .any (Rows.fnDbMissingSpec.pre6 enc Try.prog Try.f10 Rows.fnDbMissingRow.domain false) (Rows.fnDbMissingSpec.post enc Try.prog Try.f10 false true false false) := by
  refine returnsInHanded_of_change (C := Try.checked) own started (by kernel_rfl) Try.func10
    (ChangeSpec.witness6 (enc := enc) (C := Try.checked) false ⟨#[], #[.slice none 0 0], []⟩ 8 (by kernel_rfl) (by kernel_rfl) (by kernel_rfl) (by kernel_rfl)) ?_
  intro W base args ds gs before hval0 hW hcnd _
  have hval : ∀ (j : Nat) t v, Try.f10.params[j]? = some t → args[j]? = some v → Value.okWide Try.prog W .any base t v := hval0
  have hW' := hW
  obtain ⟨p, q, hA0, hV, rfl, hfz, hnd⟩ := hW
  have hA : DataW.TrodAll enc Try.prog W 0 (fun _ => true) true Try.f10.params.toList args.toList ds p := hA0
  rw [Try.params10] at hA hval
  obtain ⟨v0, vs0, d0, ds0, p0, q0, hargs, rfl, rfl, h0, r0⟩ := trodAll_cons hA
  obtain ⟨rfl, rfl, rfl⟩ := trodAll_nil r0
  obtain rfl : args = #[v0] := by cases args; simp_all
  obtain ⟨rfl, rfl⟩ := trodVars_none hV
  have k0 := h0
  have lt0 : ∀ x ∈ p0, x.block < W.heap.size := by obtain ⟨m, hm⟩ := k0; exact DataW.trod_lt m _ _ _ hm
  have w0 : CodeAt W v0 := codeAt_of_trod (T := 22) (E := 5) Try.underlying22 Try.underlying5 (by kernel_rfl) (hval 0 22 v0 rfl rfl) h0
  clear hA0 hval0
  refine (walk v0 W w0).mono fun e W' ⟨he, bel⟩ => ?_
  subst he
  exact ⟨_, rfl, _, _, _, [], _, [], hW', trodAll_mk1 (shut_bool Try.underlying4 _), (trodAll_cons_mk (Below.trod laidOut (by kernel_rfl) (of_decide_eq_true (by kernel_rfl)) k0 bel lt0) trodAll_mk0), rfl, bel.frame _, fun h => by cases h⟩
theorem over : Rows.fnDbMissingRow.holds Try.pinned (OpenSpec.ofChange Rows.fnDbMissingSpec) :=
  OpenClaim.holds_of_wide 10 Try.f10 rfl rfl rfl rfl rfl rfl rfl ⟨rfl, rfl, rfl, rfl, rfl⟩ rfl rfl rfl rfl rfl (by kernel_rfl) Try.func10 (by kernel_rfl)
    (of_decide_eq_true (by kernel_rfl)) (by unfold Func.isWrapper; first | (rw [if_pos (by decide +kernel)]; kernel_rfl) | (rw [if_neg (by decide +kernel)]; exact ⟨rfl, rfl⟩))
    (fun os started H enc _ => lifted os started H enc)
end Go.Proofs.Ytidcpdolcbbnjaa.lawFnDbMissing
namespace Go.Proofs.Ytidcpdolcbbnjaa
/-- The statement. -/
theorem FnDbMissing_proved : Rows.FnDbMissingSaid := lawFnDbMissing.over
#print axioms FnDbMissing_proved
end Go.Proofs.Ytidcpdolcbbnjaa
