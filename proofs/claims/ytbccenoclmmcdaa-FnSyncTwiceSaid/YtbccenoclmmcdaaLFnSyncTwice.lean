/- FnSyncTwice: for every input the call returns true, and the argument reads afterwards as before. No condition. -/
import Derived.Test.YtbccenoclmmcdaaDrawSync
import Derived.Test.YtbccenoclmmcdaaSync
import Derived.Test.YtbccenoclmmcdaaRows
import Derived.Test.YtbccenoclmmcdaaOpen
import Derived.ProofKit
import Derived.OpenShut
import Derived.ShutString
import Derived.ChangeOld
import Derived.Lib.SmallJoins
namespace Go.Proofs.Ytbccenoclmmcdaa.lawFnSyncTwice
open Go.ChangeShapes Go.WideShapes Go.ChangeAt Go.RowKit Go.Joins
theorem sync_idem {s a : Int} {m o : List LsaD} (h : (adjOk s a && dbOk m && dbOk o) = true) : syncOf (syncOf s a m o).1 (syncOf s a m o).2 m o = syncOf s a m o := by
  have h' := h
  simp only [Bool.and_eq_true] at h'
  obtain ⟨⟨h0, h1⟩, h2⟩ := h'
  by_cases hs : s < 2
  · rw [sync_low h hs]; simp only; rw [sync_low h hs]
  · have ha : adjOk 2 a = true ∧ adjOk 3 a = true := by simp [adjOk, inB] at h0 ⊢; omega
    have v2 : (adjOk 2 a && dbOk m && dbOk o) = true := by rw [ha.1, h1, h2]; rfl
    have v3 : (adjOk 3 a && dbOk m && dbOk o) = true := by rw [ha.2, h1, h2]; rfl
    by_cases h3 : missD m o = [] ∧ missD o m = []
    · rw [sync_full h hs h3.1 h3.2]
      simp only
      rw [sync_full v3 (by omega) h3.1 h3.2]
    · have h4 : missD m o ≠ [] ∨ missD o m ≠ [] := by
        by_cases h5 : missD m o = []
        · exact .inr fun h6 => h3 ⟨h5, h6⟩
        · exact .inl h5
      rw [sync_two h hs h4]
      simp only
      rw [sync_two v2 (by omega) h4]
set_option maxRecDepth 100000 in
set_option maxHeartbeats 2000000 in
theorem walk (v : Value) (w : World) (h : CodeAt w v) :
    Calls Try.prog 8 #[v] w fun e w' => e = .returned (.bool true) ∧ Below w.heap.size w w' := by
  obtain ⟨a0, n, cap, b, off, rfl, hcap, hmax, ha, hc⟩ := id h
  unfold maxLen at hmax
  clear ha hc
  have H := Lib.hid h
  clear h
  by_cases hn : 1048576 < n
  · go_enter Try.func8, Try.ntmps8
    go_wp2
    go_ret
    exact ⟨rfl, Below.refl _ _⟩
  go_enter Try.func8, Try.ntmps8
  go_wp2_with fail
  refine (drawSync _ _ H.out).mono ?_
  rintro e w1 ⟨s, a, va, vb, mi, ot, rfl, h1, h2, hb1⟩
  have BW := Lib.hid hb1
  obtain ⟨xa, xn, xc, rfl⟩ := h1.form
  obtain ⟨ya, yn, yc, rfl⟩ := h2.form
  have X := Lib.hid h1; have Y := Lib.hid h2
  obtain ⟨⟨p, q⟩, hpq⟩ : ∃ p, syncOf s a mi ot = p := ⟨_, rfl⟩
  have HPQ := Lib.hid hpq
  clear hb1 h1 h2 hpq
  go_wp2_with fail
  refine (iSync s a mi ot _ _ _ (X.out.below (by with_reducible (repeat (first | (refine below_drewN ?_ _) | (refine Below.drew ?_) | (refine below_alloc ?_ (by first | omega | (simp; done) | (simp; omega)) _) | (refine Below.setCell ?_ (by first | omega | (simp; done) | (simp; omega)) _) | exact Below.refl _ _ | assumption | (refine below_call ?_ (by first | omega | (simp; done) | (simp; omega)) (by assumption))))) (Nat.le_refl _)) (Y.out.below (by with_reducible (repeat (first | (refine below_drewN ?_ _) | (refine Below.drew ?_) | (refine below_alloc ?_ (by first | omega | (simp; done) | (simp; omega)) _) | (refine Below.setCell ?_ (by first | omega | (simp; done) | (simp; omega)) _) | exact Below.refl _ _ | assumption | (refine below_call ?_ (by first | omega | (simp; done) | (simp; omega)) (by assumption))))) (Nat.le_refl _))).mono ?_
  rw [HPQ.out]
  rintro e w2 ⟨rfl, hb⟩
  have kk := Lib.hid (below_call (B := w1.heap.size) (a := w1) (by with_reducible (repeat (first | (refine below_drewN ?_ _) | (refine Below.drew ?_) | (refine below_alloc ?_ (by first | omega | (simp; done) | (simp; omega)) _) | (refine Below.setCell ?_ (by first | omega | (simp; done) | (simp; omega)) _) | exact Below.refl _ _ | assumption | (refine below_call ?_ (by first | omega | (simp; done) | (simp; omega)) (by assumption))))) (Nat.le_refl _) hb)
  replace BW := Lib.hid (BW.out.trans (kk.out.mono BW.out.size))
  replace X := Lib.hid (X.out.below kk.out (Nat.le_refl _))
  replace Y := Lib.hid (Y.out.below kk.out (Nat.le_refl _))
  have A := Lib.hid (Box.call (b := w1.heap.size) (c := #[.int .i64 s, .int .i64 a]) (t := 41) hb (by with_reducible (repeat (first | (refine box_at _ _ _ ?_; first | rfl | (simp; done)) | apply Box.alloc | apply Box.drewN | apply Box.drew))))
  obtain ⟨A_0, A_1, A_2, A_3, A_4⟩ := box2 A.out
  clear hb kk
  go_wp2_with fail
  refine (sSync s a mi ot _ _ _ (X.out.below (by with_reducible (repeat (first | (refine below_drewN ?_ _) | (refine Below.drew ?_) | (refine below_alloc ?_ (by first | omega | (simp; done) | (simp; omega)) _) | (refine Below.setCell ?_ (by first | omega | (simp; done) | (simp; omega)) _) | exact Below.refl _ _ | assumption | (refine below_call ?_ (by first | omega | (simp; done) | (simp; omega)) (by assumption))))) (Nat.le_refl _)) (Y.out.below (by with_reducible (repeat (first | (refine below_drewN ?_ _) | (refine Below.drew ?_) | (refine below_alloc ?_ (by first | omega | (simp; done) | (simp; omega)) _) | (refine Below.setCell ?_ (by first | omega | (simp; done) | (simp; omega)) _) | exact Below.refl _ _ | assumption | (refine below_call ?_ (by first | omega | (simp; done) | (simp; omega)) (by assumption))))) (Nat.le_refl _))).mono ?_
  rw [HPQ.out]
  rintro e w3 ⟨rfl, hb⟩
  have kk := Lib.hid (below_call (B := w2.heap.size) (a := w2) (by with_reducible (repeat (first | (refine below_drewN ?_ _) | (refine Below.drew ?_) | (refine below_alloc ?_ (by first | omega | (simp; done) | (simp; omega)) _) | (refine Below.setCell ?_ (by first | omega | (simp; done) | (simp; omega)) _) | exact Below.refl _ _ | assumption | (refine below_call ?_ (by first | omega | (simp; done) | (simp; omega)) (by assumption))))) (Nat.le_refl _) hb)
  replace BW := Lib.hid (BW.out.trans (kk.out.mono BW.out.size))
  replace X := Lib.hid (X.out.below kk.out (Nat.le_refl _))
  replace Y := Lib.hid (Y.out.below kk.out (Nat.le_refl _))
  replace A := Lib.hid (A.out.below kk.out A.out.lt)
  clear A_0 A_1 A_2 A_3 A_4
  obtain ⟨A_0, A_1, A_2, A_3, A_4⟩ := box2 A.out
  have Z := Lib.hid (Box.call (b := w2.heap.size) (c := #[.int .i64 p, .int .i64 q]) (t := 41) hb (by with_reducible (repeat (first | (refine box_at _ _ _ ?_; first | rfl | (simp; done)) | apply Box.alloc | apply Box.drewN | apply Box.drew))))
  obtain ⟨Z_0, Z_1, Z_2, Z_3, Z_4⟩ := box2 Z.out
  clear hb kk
  have e1 := fun W => eqlAdj W p q p q
  have e2 := fun W => neqAdj W p q p q
  have e3 : (p == p) = true := by simp
  have e4 : (q == q) = true := by simp
  obtain ⟨k0, hk0⟩ : ∃ k, adjOk s a = k := ⟨_, rfl⟩
  obtain ⟨k1, hk1⟩ : ∃ k, dbOk mi = k := ⟨_, rfl⟩
  obtain ⟨k2, hk2⟩ : ∃ k, dbOk ot = k := ⟨_, rfl⟩
  have HK0 := Lib.hid hk0; have HK1 := Lib.hid hk1; have HK2 := Lib.hid hk2
  clear hk0 hk1 hk2
  cases k0
  · go_wp2_with (go_at_call 37; refine (sAdjValid _ _ _).mono ?_; rw [HK0.out]; rintro e w' ⟨rfl, rfl⟩)
    have hB := BW.out
    go_ret
    exact ⟨rfl, (by with_reducible (repeat (first | (refine below_drewN ?_ _) | (refine Below.drew ?_) | (refine below_alloc ?_ (by first | omega | (simp; done) | (simp; omega)) _) | (refine Below.setCell ?_ (by first | omega | (simp; done) | (simp; omega)) _) | exact Below.refl _ _ | assumption | (refine below_call ?_ (by first | omega | (simp; done) | (simp; omega)) (by assumption)))))⟩
  go_wp2_with (go_at_call 37; refine (sAdjValid _ _ _).mono ?_; rw [HK0.out]; rintro e w' ⟨rfl, rfl⟩)
  refine (sDbValid mi _ _ (X.out.below (by with_reducible (repeat (first | (refine below_drewN ?_ _) | (refine Below.drew ?_) | (refine below_alloc ?_ (by first | omega | (simp; done) | (simp; omega)) _) | (refine Below.setCell ?_ (by first | omega | (simp; done) | (simp; omega)) _) | exact Below.refl _ _ | assumption | (refine below_call ?_ (by first | omega | (simp; done) | (simp; omega)) (by assumption))))) (Nat.le_refl _))).mono ?_
  rw [HK1.out]
  rintro e w4 ⟨rfl, hb⟩
  have kk := Lib.hid (below_call (B := w3.heap.size) (a := w3) (by with_reducible (repeat (first | (refine below_drewN ?_ _) | (refine Below.drew ?_) | (refine below_alloc ?_ (by first | omega | (simp; done) | (simp; omega)) _) | (refine Below.setCell ?_ (by first | omega | (simp; done) | (simp; omega)) _) | exact Below.refl _ _ | assumption | (refine below_call ?_ (by first | omega | (simp; done) | (simp; omega)) (by assumption))))) (Nat.le_refl _) hb)
  replace BW := Lib.hid (BW.out.trans (kk.out.mono BW.out.size))
  replace X := Lib.hid (X.out.below kk.out (Nat.le_refl _))
  replace Y := Lib.hid (Y.out.below kk.out (Nat.le_refl _))
  replace A := Lib.hid (A.out.below kk.out A.out.lt)
  clear A_0 A_1 A_2 A_3 A_4
  obtain ⟨A_0, A_1, A_2, A_3, A_4⟩ := box2 A.out
  replace Z := Lib.hid (Z.out.below kk.out Z.out.lt)
  clear Z_0 Z_1 Z_2 Z_3 Z_4
  obtain ⟨Z_0, Z_1, Z_2, Z_3, Z_4⟩ := box2 Z.out
  have V := Lib.hid (Box.call (b := w3.heap.size) (c := #[.int .i64 p, .int .i64 q]) (t := 41) hb (by with_reducible (repeat (first | (refine box_at _ _ _ ?_; first | rfl | (simp; done)) | apply Box.alloc | apply Box.drewN | apply Box.drew))))
  obtain ⟨V_0, V_1, V_2, V_3, V_4⟩ := box2 V.out
  clear hb kk
  cases k1
  · go_wp2_with fail
    go_ret
    exact ⟨rfl, BW.out⟩
  go_wp2_with fail
  refine (sDbValid ot _ _ Y.out).mono ?_
  rw [HK2.out]
  rintro e w5 ⟨rfl, hb⟩
  have kk := Lib.hid (below_call (B := w4.heap.size) (a := w4) (by with_reducible (repeat (first | (refine below_drewN ?_ _) | (refine Below.drew ?_) | (refine below_alloc ?_ (by first | omega | (simp; done) | (simp; omega)) _) | (refine Below.setCell ?_ (by first | omega | (simp; done) | (simp; omega)) _) | exact Below.refl _ _ | assumption | (refine below_call ?_ (by first | omega | (simp; done) | (simp; omega)) (by assumption))))) (Nat.le_refl _) hb)
  replace BW := Lib.hid (BW.out.trans (kk.out.mono BW.out.size))
  replace X := Lib.hid (X.out.below kk.out (Nat.le_refl _))
  replace Y := Lib.hid (Y.out.below kk.out (Nat.le_refl _))
  replace A := Lib.hid (A.out.below kk.out A.out.lt)
  clear A_0 A_1 A_2 A_3 A_4
  obtain ⟨A_0, A_1, A_2, A_3, A_4⟩ := box2 A.out
  replace Z := Lib.hid (Z.out.below kk.out Z.out.lt)
  clear Z_0 Z_1 Z_2 Z_3 Z_4
  obtain ⟨Z_0, Z_1, Z_2, Z_3, Z_4⟩ := box2 Z.out
  replace V := Lib.hid (V.out.below kk.out V.out.lt)
  clear V_0 V_1 V_2 V_3 V_4
  obtain ⟨V_0, V_1, V_2, V_3, V_4⟩ := box2 V.out
  clear hb kk
  cases k2
  · go_wp2_with fail
    go_ret
    exact ⟨rfl, BW.out⟩
  have hid : syncOf p q mi ot = (p, q) := by
    have := sync_idem (s := s) (a := a) (m := mi) (o := ot) (by rw [HK0.out, HK1.out, HK2.out]; rfl)
    rw [HPQ.out] at this
    exact this
  have HID := Lib.hid hid
  have XD : Hid (LsasAt w5.drew (.slice xa xn xc) mi) := Lib.hid (X.out.below (Below.refl _ _).drew (Nat.le_refl _))
  have YD : Hid (LsasAt w5.drew (.slice ya yn yc) ot) := Lib.hid (Y.out.below (Below.refl _ _).drew (Nat.le_refl _))
  have BD : Hid (Below w.heap.size w w5.drew) := Lib.hid BW.out.drew
  have ZD : Hid (Box w5.drew w2.heap.size #[.int .i64 p, .int .i64 q] 41) := Z
  clear hid
  go_wp2_with fail
  go_region_with (go_at_call 35; refine (iSync p q mi ot _ _ _ XD.out YD.out).mono ?_; rw [HID.out]; rintro e w6 ⟨rfl, hb⟩; have B6 := Lib.hid (BD.out.trans (hb.mono BD.out.size)); have Z6 := box2 (ZD.out.below hb ZD.out.lt); clear hb)
  all_goals
    go_wp2_with fail
    go_ret
    exact ⟨rfl, B6.out⟩
theorem own : ownKnob Try.prog.godebug = none := by kernel_rfl
theorem laidOut : laidOutB Try.prog = true := by kernel_rfl
set_option maxRecDepth 100000 in
theorem lifted (os : Os) (started : os.Started) (H : Type) (enc : TypeId × Value → H) :
    ReturnsInHanded {} Try.checked os 8 .any (Rows.fnSyncTwiceSpec.pre6 enc Try.prog Try.f8 Rows.fnSyncTwiceRow.domain false) (Rows.fnSyncTwiceSpec.post enc Try.prog Try.f8 false true false false) := by
  refine returnsInHanded_of_change (C := Try.checked) own started (by kernel_rfl) Try.func8
    (ChangeSpec.witness6 (enc := enc) (C := Try.checked) false ⟨#[], #[.slice none 0 0], []⟩ 8 (by kernel_rfl) (by kernel_rfl) (by kernel_rfl) (by kernel_rfl)) ?_
  intro W base args ds gs before hval0 hW hcnd _
  have hval : ∀ (j : Nat) t v, Try.f8.params[j]? = some t → args[j]? = some v → Value.okWide Try.prog W .any base t v := hval0
  have hW' := hW
  obtain ⟨p, q, hA0, hV, rfl, hfz, hnd⟩ := hW
  have hA : DataW.TrodAll enc Try.prog W 0 (fun _ => true) true Try.f8.params.toList args.toList ds p := hA0
  rw [Try.params8] at hA hval
  obtain ⟨v0, vs0, d0, ds0, p0, q0, hargs, rfl, rfl, h0, r0⟩ := trodAll_cons hA
  obtain ⟨rfl, rfl, rfl⟩ := trodAll_nil r0
  obtain rfl : args = #[v0] := by cases args; simp_all
  obtain ⟨rfl, rfl⟩ := trodVars_none hV
  have k0 := h0
  have lt0 : ∀ x ∈ p0, x.block < W.heap.size := by obtain ⟨m, hm⟩ := k0; exact DataW.trod_lt m _ _ _ hm
  have w0 : CodeAt W v0 := codeAt_of_trod (T := 22) (E := 5) Try.underlying22 Try.underlying5 (by kernel_rfl) (hval 0 22 v0 rfl rfl) h0
  clear hA0 hval0
  refine (walk v0 W w0).mono fun e W' ⟨he, bel⟩ => ?_
  subst he
  exact ⟨_, rfl, _, _, _, [], _, [], hW', trodAll_mk1 (shut_bool Try.underlying4 _), (trodAll_cons_mk (Below.trod laidOut (by kernel_rfl) (of_decide_eq_true (by kernel_rfl)) k0 bel lt0) trodAll_mk0), rfl, bel.frame _, fun h => by cases h⟩
theorem over : Rows.fnSyncTwiceRow.holds Try.pinned (OpenSpec.ofChange Rows.fnSyncTwiceSpec) :=
  OpenClaim.holds_of_wide 8 Try.f8 rfl rfl rfl rfl rfl rfl rfl ⟨rfl, rfl, rfl, rfl, rfl⟩ rfl rfl rfl rfl rfl (by kernel_rfl) Try.func8 (by kernel_rfl)
    (of_decide_eq_true (by kernel_rfl)) (by unfold Func.isWrapper; first | (rw [if_pos (by decide +kernel)]; kernel_rfl) | (rw [if_neg (by decide +kernel)]; exact ⟨rfl, rfl⟩))
    (fun os started H enc _ => lifted os started H enc)
end Go.Proofs.Ytbccenoclmmcdaa.lawFnSyncTwice
namespace Go.Proofs.Ytbccenoclmmcdaa
/-- The statement. -/
theorem FnSyncTwice_proved : Rows.FnSyncTwiceSaid := lawFnSyncTwice.over
#print axioms FnSyncTwice_proved
end Go.Proofs.Ytbccenoclmmcdaa
