/- FnDbPutCodes: for every input the call returns true, and the argument reads afterwards as before. No condition. -/
import Derived.Test.YtidcpdolcbbnjaaDrawPut
import Derived.Test.YtidcpdolcbbnjaaIPut
import Derived.Test.YtidcpdolcbbnjaaSame
import Derived.Test.YtidcpdolcbbnjaaPureMerge
import Derived.Test.YtidcpdolcbbnjaaSeq
import Derived.Test.YtidcpdolcbbnjaaRows
import Derived.Test.YtidcpdolcbbnjaaOpen
import Derived.ProofKit
import Derived.OpenShut
import Derived.ShutString
import Derived.ChangeOld
import Derived.Lib.SmallJoins
namespace Go.Proofs.Ytidcpdolcbbnjaa.lawFnDbPutCodes
open Go.ChangeShapes Go.WideShapes Go.ChangeAt Go.RowKit Go.Joins
set_option maxRecDepth 100000 in
set_option maxHeartbeats 4000000 in
theorem walk (v : Value) (w : World) (h : CodeAt w v) :
    Calls Try.prog 6 #[v] w fun e w' => e = .returned (.bool true) ∧ Below w.heap.size w w' := by
  obtain ⟨a0, n, cap, b, off, rfl, hcap, hmax, ha, hc⟩ := id h
  unfold maxLen at hmax
  clear ha hc
  have H := Lib.hid h
  clear h
  by_cases hn : 1048576 < n
  · go_enter Try.func6, Try.ntmps6
    go_wp2
    go_ret
    exact ⟨rfl, Below.refl _ _⟩
  go_enter Try.func6, Try.ntmps6
  go_wp2_with fail
  refine (drawDbPut _ _ H.out).mono ?_
  rintro e w1 ⟨va, vu, db, o, s, es, rfl, h1, h2, hb1⟩
  have BW := Lib.hid hb1
  obtain ⟨xa, xn, xc, rfl⟩ := h1.form
  obtain ⟨ya, yn, yc, rfl⟩ := h2.form
  have X := Lib.hid h1; have Y := Lib.hid h2
  obtain ⟨⟨p, c⟩, hp⟩ : ∃ p, putOf db (o, s, es) = p := ⟨_, rfl⟩
  have HP := Lib.hid hp
  clear hb1 h1 h2 hp
  go_wp2_with fail
  refine (iDbPut db o s es _ _ _ (X.out.below (by with_reducible (repeat (first | (refine below_drewN ?_ _) | (refine Below.drew ?_) | (refine below_alloc ?_ (by first | omega | (simp; done) | (simp; omega)) _) | (refine Below.setCell ?_ (by first | omega | (simp; done) | (simp; omega)) _) | exact Below.refl _ _ | assumption | (refine below_call ?_ (by first | omega | (simp; done) | (simp; omega)) (by assumption))))) (Nat.le_refl _)) (Y.out.below (by with_reducible (repeat (first | (refine below_drewN ?_ _) | (refine Below.drew ?_) | (refine below_alloc ?_ (by first | omega | (simp; done) | (simp; omega)) _) | (refine Below.setCell ?_ (by first | omega | (simp; done) | (simp; omega)) _) | exact Below.refl _ _ | assumption | (refine below_call ?_ (by first | omega | (simp; done) | (simp; omega)) (by assumption))))) (Nat.le_refl _))).mono ?_
  rw [HP.out]
  rintro e w2 ⟨v2, us2, rfl, hO, hb⟩
  have kk := Lib.hid (below_call (B := w1.heap.size) (a := w1) (by with_reducible (repeat (first | (refine below_drewN ?_ _) | (refine Below.drew ?_) | (refine below_alloc ?_ (by first | omega | (simp; done) | (simp; omega)) _) | (refine Below.setCell ?_ (by first | omega | (simp; done) | (simp; omega)) _) | exact Below.refl _ _ | assumption | (refine below_call ?_ (by first | omega | (simp; done) | (simp; omega)) (by assumption))))) (Nat.le_refl _) hb)
  replace BW := Lib.hid (BW.out.trans (kk.out.mono BW.out.size))
  replace X := Lib.hid (X.out.below kk.out (Nat.le_refl _))
  replace Y := Lib.hid (Y.out.below kk.out (Nat.le_refl _))
  have L := Lib.hid (Box.call (b := w1.heap.size) (c := #[.int .i64 o, .int .i64 s, .slice ya yn yc]) (t := 26) hb (by with_reducible (repeat (first | (refine box_at _ _ _ ?_; first | rfl | (simp; done)) | apply Box.alloc | apply Box.drewN | apply Box.drew))))
  obtain ⟨L_0, L_1, L_2, L_3, L_4, L_5, L_6⟩ := box3 L.out
  have P2 := Lib.hid hO.at_
  simp only at P2
  obtain ⟨pa, pn, pc, rfl⟩ := P2.out.form
  clear hb hO kk
  go_wp2_with fail
  refine (sDbPut db o s es _ _ _ X.out Y.out).mono ?_
  rw [HP.out]
  rintro e w3 ⟨v3, us3, rfl, hO, hb⟩
  have kk := Lib.hid (below_call (B := w2.heap.size) (a := w2) (by with_reducible (repeat (first | (refine below_drewN ?_ _) | (refine Below.drew ?_) | (refine below_alloc ?_ (by first | omega | (simp; done) | (simp; omega)) _) | (refine Below.setCell ?_ (by first | omega | (simp; done) | (simp; omega)) _) | exact Below.refl _ _ | assumption | (refine below_call ?_ (by first | omega | (simp; done) | (simp; omega)) (by assumption))))) (Nat.le_refl _) hb)
  replace BW := Lib.hid (BW.out.trans (kk.out.mono BW.out.size))
  replace X := Lib.hid (X.out.below kk.out (Nat.le_refl _))
  replace Y := Lib.hid (Y.out.below kk.out (Nat.le_refl _))
  replace P2 := Lib.hid (P2.out.below kk.out (Nat.le_refl _))
  replace L := Lib.hid (L.out.below kk.out L.out.lt)
  clear L_0 L_1 L_2 L_3 L_4 L_5 L_6
  obtain ⟨L_0, L_1, L_2, L_3, L_4, L_5, L_6⟩ := box3 L.out
  have P3 := Lib.hid hO.at_
  simp only at P3
  obtain ⟨qa, qn, qc, rfl⟩ := P3.out.form
  clear hb hO kk
  have hcc : (c != c) = false := by simp
  have hcc2 : (c == c) = true := by simp
  go_wp2_with fail
  refine (sameDb_any p p _ _ _ P2.out P3.out).mono ?_
  rw [eqB_self]
  rintro e w4 ⟨rfl, hb⟩
  have kk := Lib.hid (below_call (B := w3.heap.size) (a := w3) (by with_reducible (repeat (first | (refine below_drewN ?_ _) | (refine Below.drew ?_) | (refine below_alloc ?_ (by first | omega | (simp; done) | (simp; omega)) _) | (refine Below.setCell ?_ (by first | omega | (simp; done) | (simp; omega)) _) | exact Below.refl _ _ | assumption | (refine below_call ?_ (by first | omega | (simp; done) | (simp; omega)) (by assumption))))) (Nat.le_refl _) hb)
  replace BW := Lib.hid (BW.out.trans (kk.out.mono BW.out.size))
  replace X := Lib.hid (X.out.below kk.out (Nat.le_refl _))
  replace Y := Lib.hid (Y.out.below kk.out (Nat.le_refl _))
  replace P2 := Lib.hid (P2.out.below kk.out (Nat.le_refl _))
  replace P3 := Lib.hid (P3.out.below kk.out (Nat.le_refl _))
  replace L := Lib.hid (L.out.below kk.out L.out.lt)
  clear L_0 L_1 L_2 L_3 L_4 L_5 L_6
  obtain ⟨L_0, L_1, L_2, L_3, L_4, L_5, L_6⟩ := box3 L.out
  clear hb kk
  rcases Bool.eq_false_or_eq_true (c == 3) with h3 | h3
  · go_wp2_with fail
    refine (sameDb_any p p _ _ _ P2.out P3.out).mono ?_
    rw [eqB_self]
    rintro e w5 ⟨rfl, hb⟩
    have kk := Lib.hid (below_call (B := w4.heap.size) (a := w4) (by with_reducible (repeat (first | (refine below_drewN ?_ _) | (refine Below.drew ?_) | (refine below_alloc ?_ (by first | omega | (simp; done) | (simp; omega)) _) | (refine Below.setCell ?_ (by first | omega | (simp; done) | (simp; omega)) _) | exact Below.refl _ _ | assumption | (refine below_call ?_ (by first | omega | (simp; done) | (simp; omega)) (by assumption))))) (Nat.le_refl _) hb)
    replace BW := Lib.hid (BW.out.trans (kk.out.mono BW.out.size))
    clear hb kk
    go_wp2_with fail
    go_ret
    exact ⟨rfl, BW.out⟩
  have hok : dbOk db = true ∧ lsaOk o s es = true := by
    rcases Bool.eq_false_or_eq_true (dbOk db && lsaOk o s es) with h | h
    · simpa using h
    · have := HP.out
      rw [putOf_bad h] at this
      injection this with _ e
      rw [← e] at h3
      simp at h3
  have hpd : putD db (o, s, es) = (p, c) := by rw [← HP.out]; exact (putOf_ok (l := (o, s, es)) hok.1 hok.2).symm
  have hpo : dbOk p = true := by have := putD_ok (l := (o, s, es)) hok.1 hok.2; rw [hpd] at this; exact this
  have hs1 : 1 ≤ s := lsa_seq (l := (o, s, es)) hok.2
  have hsq : ∀ x, seqB p x = if x = o then max (seqB db x) s else seqB db x := fun x => by
    have := putD_seq (l := (o, s, es)) (dbOk_iff.1 hok.1).2 hs1 x
    rw [hpd] at this
    exact this
  have hcd : c = if seqB db o < s then 0 else if seqB db o = s then 1 else 2 := by
    have := putD_code (db := db) (l := (o, s, es)) hs1
    rw [hpd] at this
    exact this
  obtain ⟨q, hq⟩ : ∃ q, seqB db o = q := ⟨_, rfl⟩
  rw [hq] at hcd
  have hkeep : s ≤ q → p = db := fun h => by
    have := putD_keeps (db := db) (l := (o, s, es)) hs1 (by show s ≤ seqB db o; rw [hq]; exact h)
    rw [hpd] at this
    exact this
  have HQ := Lib.hid hq; have HKEEP := Lib.hid hkeep; have HCD := Lib.hid hcd
  clear hok hpd hpo hs1 hsq hq hkeep hcd
  go_wp2_with fail
  refine (seqOf_any db o _ _ X.out).mono ?_
  rw [HQ.out]
  rintro e w' ⟨rfl, rfl⟩
  rcases Int.lt_trichotomy q s with hc | hc | hc
  · have e1 : (q == s) = false := by simp; omega
    have e2 : decide (s < q) = false := by simp; omega
    obtain rfl : c = 0 := by rw [HCD.out, if_pos hc]
    clear hc HCD
    go_wp2_with fail
    go_ret
    exact ⟨rfl, BW.out⟩
  · subst hc
    have e1 : (q == q) = true := by simp
    obtain rfl : c = 1 := by rw [HCD.out, if_neg (by omega), if_pos rfl]
    obtain rfl : p = db := HKEEP.out (by omega)
    clear HCD
    go_wp2_with fail
    refine (sameDb_any p p _ _ _ P2.out X.out).mono ?_
    rw [eqB_self]
    rintro e w5 ⟨rfl, hb⟩
    have kk := Lib.hid (below_call (B := w4.heap.size) (a := w4) (by with_reducible (repeat (first | (refine below_drewN ?_ _) | (refine Below.drew ?_) | (refine below_alloc ?_ (by first | omega | (simp; done) | (simp; omega)) _) | (refine Below.setCell ?_ (by first | omega | (simp; done) | (simp; omega)) _) | exact Below.refl _ _ | assumption | (refine below_call ?_ (by first | omega | (simp; done) | (simp; omega)) (by assumption))))) (Nat.le_refl _) hb)
    replace BW := Lib.hid (BW.out.trans (kk.out.mono BW.out.size))
    clear hb kk
    go_wp2_with fail
    go_ret
    exact ⟨rfl, BW.out⟩
  · have e1 : (q == s) = false := by simp; omega
    have e2 : decide (s < q) = true := by simp; omega
    obtain rfl : c = 2 := by rw [HCD.out, if_neg (by omega), if_neg (by omega)]
    obtain rfl : p = db := HKEEP.out (by omega)
    clear hc HCD
    go_wp2_with fail
    refine (sameDb_any p p _ _ _ P2.out X.out).mono ?_
    rw [eqB_self]
    rintro e w5 ⟨rfl, hb⟩
    have kk := Lib.hid (below_call (B := w4.heap.size) (a := w4) (by with_reducible (repeat (first | (refine below_drewN ?_ _) | (refine Below.drew ?_) | (refine below_alloc ?_ (by first | omega | (simp; done) | (simp; omega)) _) | (refine Below.setCell ?_ (by first | omega | (simp; done) | (simp; omega)) _) | exact Below.refl _ _ | assumption | (refine below_call ?_ (by first | omega | (simp; done) | (simp; omega)) (by assumption))))) (Nat.le_refl _) hb)
    replace BW := Lib.hid (BW.out.trans (kk.out.mono BW.out.size))
    clear hb kk
    go_wp2_with fail
    go_ret
    exact ⟨rfl, BW.out⟩
theorem own : ownKnob Try.prog.godebug = none := by kernel_rfl
theorem laidOut : laidOutB Try.prog = true := by kernel_rfl
set_option maxRecDepth 100000 in
theorem lifted (os : Os) (started : os.Started) (H : Type) (enc : TypeId × Value → H) :
    ReturnsInHanded {} Try.checked os 6 .any (Rows.fnDbPutCodesSpec.pre6 enc Try.prog Try.f6 Rows.fnDbPutCodesRow.domain false) (Rows.fnDbPutCodesSpec.post enc Try.prog Try.f6 false true false false) := by
  refine returnsInHanded_of_change (C := Try.checked) own started (by kernel_rfl) Try.func6
    (ChangeSpec.witness6 (enc := enc) (C := Try.checked) false ⟨#[], #[.slice none 0 0], []⟩ 8 (by kernel_rfl) (by kernel_rfl) (by kernel_rfl) (by kernel_rfl)) ?_
  intro W base args ds gs before hval0 hW hcnd _
  have hval : ∀ (j : Nat) t v, Try.f6.params[j]? = some t → args[j]? = some v → Value.okWide Try.prog W .any base t v := hval0
  have hW' := hW
  obtain ⟨p, q, hA0, hV, rfl, hfz, hnd⟩ := hW
  have hA : DataW.TrodAll enc Try.prog W 0 (fun _ => true) true Try.f6.params.toList args.toList ds p := hA0
  rw [Try.params6] at hA hval
  obtain ⟨v0, vs0, d0, ds0, p0, q0, hargs, rfl, rfl, h0, r0⟩ := trodAll_cons hA
  obtain ⟨rfl, rfl, rfl⟩ := trodAll_nil r0
  obtain rfl : args = #[v0] := by cases args; simp_all
  obtain ⟨rfl, rfl⟩ := trodVars_none hV
  have k0 := h0
  have lt0 : ∀ x ∈ p0, x.block < W.heap.size := by obtain ⟨m, hm⟩ := k0; exact DataW.trod_lt m _ _ _ hm
  have w0 : CodeAt W v0 := codeAt_of_trod (T := 22) (E := 5) Try.underlying22 Try.underlying5 (by kernel_rfl) (hval 0 22 v0 rfl rfl) h0
  clear hA0 hval0
  refine (walk v0 W w0).mono fun e W' ⟨he, bel⟩ => ?_
  subst he
  exact ⟨_, rfl, _, _, _, [], _, [], hW', trodAll_mk1 (shut_bool Try.underlying4 _), (trodAll_cons_mk (Below.trod laidOut (by kernel_rfl) (of_decide_eq_true (by kernel_rfl)) k0 bel lt0) trodAll_mk0), rfl, bel.frame _, fun h => by cases h⟩
theorem over : Rows.fnDbPutCodesRow.holds Try.pinned (OpenSpec.ofChange Rows.fnDbPutCodesSpec) :=
  OpenClaim.holds_of_wide 6 Try.f6 rfl rfl rfl rfl rfl rfl rfl ⟨rfl, rfl, rfl, rfl, rfl⟩ rfl rfl rfl rfl rfl (by kernel_rfl) Try.func6 (by kernel_rfl)
    (of_decide_eq_true (by kernel_rfl)) (by unfold Func.isWrapper; first | (rw [if_pos (by decide +kernel)]; kernel_rfl) | (rw [if_neg (by decide +kernel)]; exact ⟨rfl, rfl⟩))
    (fun os started H enc _ => lifted os started H enc)
end Go.Proofs.Ytidcpdolcbbnjaa.lawFnDbPutCodes
namespace Go.Proofs.Ytidcpdolcbbnjaa
/-- The statement. -/
theorem FnDbPutCodes_proved : Rows.FnDbPutCodesSaid := lawFnDbPutCodes.over
#print axioms FnDbPutCodes_proved
end Go.Proofs.Ytidcpdolcbbnjaa
