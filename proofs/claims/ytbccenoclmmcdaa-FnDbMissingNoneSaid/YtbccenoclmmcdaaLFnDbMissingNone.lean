/- FnDbMissingNone: for every input the call returns true, and the argument reads afterwards as before. No condition. -/
import Derived.Test.YtbccenoclmmcdaaDrawDb2
import Derived.Test.YtbccenoclmmcdaaMiss2
import Derived.Test.YtbccenoclmmcdaaEq
import Derived.Test.YtbccenoclmmcdaaRows
import Derived.Test.YtbccenoclmmcdaaOpen
import Derived.ProofKit
import Derived.OpenShut
import Derived.ShutString
import Derived.ChangeOld
import Derived.Lib.SmallJoins
namespace Go.Proofs.Ytbccenoclmmcdaa.lawFnDbMissingNone
open Go.ChangeShapes Go.WideShapes Go.ChangeAt Go.RowKit Go.Joins
theorem dbOk_nil : dbOk [] = true := rfl
theorem miss_right (db : List LsaD) : missOf db [] = [] := by unfold missOf; split <;> rfl
theorem find_self {db : List LsaD} (hs : ascD db) {k : Nat} {d : LsaD} (h : db[k]? = some d) : findD db d.1 = some d :=
  find_at h rfl fun j d' hj hd' => by have := hs j k d' d hj hd' h; omega
theorem miss_self {db : List LsaD} (h : dbOk db = true) : missOf db db = [] := by
  rw [missOf_ok h h]
  unfold missD
  have : db.filter (missB db) = [] := by
    rw [List.filter_eq_nil_iff]
    intro d hd
    obtain ⟨k, hk⟩ := List.getElem?_of_mem hd
    rw [missB_yes (find_self (dbOk_iff.1 h).2 hk)]
    simp
  rw [this]; rfl
theorem miss_left {db : List LsaD} (h : dbOk db = true) : (missOf [] db).length = db.length := by
  rw [missOf_ok dbOk_nil h]
  unfold missD
  have : db.filter (missB []) = db := by
    rw [List.filter_eq_self]
    intro d _
    exact missB_no rfl
  rw [this, List.length_map]
theorem lsasAt_empty (w : World) (a : Option Addr) : LsasAt w (.slice a 0 0) [] := ⟨a, 0, 0, 0, rfl, Nat.le_refl _, by unfold maxLen; omega, fun h => by simp at h, fun k o s es h => by simp at h⟩
set_option maxRecDepth 100000 in
set_option maxHeartbeats 2000000 in
theorem walk (v : Value) (w : World) (h : CodeAt w v) :
    Calls Try.prog 7 #[v] w fun e w' => e = .returned (.bool true) ∧ Below w.heap.size w w' := by
  obtain ⟨a0, n, cap, b, off, rfl, hcap, hmax, ha, hc⟩ := id h
  unfold maxLen at hmax
  clear ha hc
  have H := Lib.hid h
  clear h
  by_cases hn : 1048576 < n
  · go_enter Try.func7, Try.ntmps7
    go_wp2
    go_ret
    exact ⟨rfl, Below.refl _ _⟩
  go_enter Try.func7, Try.ntmps7
  go_wp2_with fail
  refine (drawDbMissing _ _ H.out).mono ?_
  rintro e w1 ⟨va, vb, db, ob, rfl, h1, h2, hb1⟩
  have BW := Lib.hid hb1
  obtain ⟨xa, xn, xc, rfl, hxn⟩ : ∃ a n c, va = .slice a n c ∧ n = db.length := by obtain ⟨a, c, _, _, hv, _⟩ := h1; exact ⟨_, _, _, hv, rfl⟩
  obtain ⟨ya, yn, yc, rfl⟩ := h2.form
  have X := Lib.hid h1; have Y := Lib.hid h2
  have HXN := Lib.hid hxn
  obtain ⟨p, hp⟩ : ∃ p, missOf db ob = p := ⟨_, rfl⟩
  have HP := Lib.hid hp
  clear hb1 h1 h2 hp hxn
  go_wp2_with fail
  refine (iDbMissing db ob _ _ _ X.out Y.out).mono ?_
  rw [HP.out]
  rintro e w2 ⟨v2, rfl, hO, hb⟩
  have kk := Lib.hid (below_call (B := w1.heap.size) (a := w1) (by with_reducible (repeat (first | (refine below_drewN ?_ _) | (refine Below.drew ?_) | (refine below_alloc ?_ (by first | omega | (simp; done) | (simp; omega)) _) | (refine Below.setCell ?_ (by first | omega | (simp; done) | (simp; omega)) _) | exact Below.refl _ _ | assumption | (refine below_call ?_ (by first | omega | (simp; done) | (simp; omega)) (by assumption))))) (Nat.le_refl _) hb)
  replace BW := Lib.hid (BW.out.trans (kk.out.mono BW.out.size))
  replace X := Lib.hid (X.out.below kk.out (Nat.le_refl _))
  replace Y := Lib.hid (Y.out.below kk.out (Nat.le_refl _))
  have P2 := Lib.hid (own_ints hO)
  obtain ⟨pa, pc, rfl⟩ := own_slice hO.1
  clear hb hO kk
  go_wp2_with fail
  refine (sDbMissing db ob _ _ _ X.out Y.out).mono ?_
  rw [HP.out]
  rintro e w3 ⟨v3, rfl, hO, hb⟩
  have kk := Lib.hid (below_call (B := w2.heap.size) (a := w2) (by with_reducible (repeat (first | (refine below_drewN ?_ _) | (refine Below.drew ?_) | (refine below_alloc ?_ (by first | omega | (simp; done) | (simp; omega)) _) | (refine Below.setCell ?_ (by first | omega | (simp; done) | (simp; omega)) _) | exact Below.refl _ _ | assumption | (refine below_call ?_ (by first | omega | (simp; done) | (simp; omega)) (by assumption))))) (Nat.le_refl _) hb)
  replace BW := Lib.hid (BW.out.trans (kk.out.mono BW.out.size))
  replace X := Lib.hid (X.out.below kk.out (Nat.le_refl _))
  replace Y := Lib.hid (Y.out.below kk.out (Nat.le_refl _))
  replace P2 := Lib.hid (P2.out.below kk.out (Nat.le_refl _))
  have P3 := Lib.hid (own_ints hO)
  obtain ⟨qa, qc, rfl⟩ := own_slice hO.1
  clear hb hO kk
  go_wp2_with fail
  refine (sameInts p p _ _ _ P2.out P3.out).mono ?_
  rw [eqB_self]
  rintro e w4 ⟨rfl, hb⟩
  have kk := Lib.hid (below_call (B := w3.heap.size) (a := w3) (by with_reducible (repeat (first | (refine below_drewN ?_ _) | (refine Below.drew ?_) | (refine below_alloc ?_ (by first | omega | (simp; done) | (simp; omega)) _) | (refine Below.setCell ?_ (by first | omega | (simp; done) | (simp; omega)) _) | exact Below.refl _ _ | assumption | (refine below_call ?_ (by first | omega | (simp; done) | (simp; omega)) (by assumption))))) (Nat.le_refl _) hb)
  replace BW := Lib.hid (BW.out.trans (kk.out.mono BW.out.size))
  replace X := Lib.hid (X.out.below kk.out (Nat.le_refl _))
  replace P2 := Lib.hid (P2.out.below kk.out (Nat.le_refl _))
  replace P3 := Lib.hid (P3.out.below kk.out (Nat.le_refl _))
  clear hb kk
  obtain ⟨k, hk⟩ : ∃ k, dbOk db = k := ⟨_, rfl⟩
  have HK := Lib.hid hk
  clear hk
  go_wp2_with fail
  refine (sDbValid db _ _ X.out).mono ?_
  rw [HK.out]
  rintro e w5 ⟨rfl, hb⟩
  have kk := Lib.hid (below_call (B := w4.heap.size) (a := w4) (by with_reducible (repeat (first | (refine below_drewN ?_ _) | (refine Below.drew ?_) | (refine below_alloc ?_ (by first | omega | (simp; done) | (simp; omega)) _) | (refine Below.setCell ?_ (by first | omega | (simp; done) | (simp; omega)) _) | exact Below.refl _ _ | assumption | (refine below_call ?_ (by first | omega | (simp; done) | (simp; omega)) (by assumption))))) (Nat.le_refl _) hb)
  replace BW := Lib.hid (BW.out.trans (kk.out.mono BW.out.size))
  replace X := Lib.hid (X.out.below kk.out (Nat.le_refl _))
  replace P2 := Lib.hid (P2.out.below kk.out (Nat.le_refl _))
  replace P3 := Lib.hid (P3.out.below kk.out (Nat.le_refl _))
  clear hb kk
  cases k
  · go_wp2_with fail
    refine (sameInts p p _ _ _ P2.out P3.out).mono ?_
    rw [eqB_self]
    rintro e w6 ⟨rfl, hb⟩
    have kk := Lib.hid (below_call (B := w5.heap.size) (a := w5) (by with_reducible (repeat (first | (refine below_drewN ?_ _) | (refine Below.drew ?_) | (refine below_alloc ?_ (by first | omega | (simp; done) | (simp; omega)) _) | (refine Below.setCell ?_ (by first | omega | (simp; done) | (simp; omega)) _) | exact Below.refl _ _ | assumption | (refine below_call ?_ (by first | omega | (simp; done) | (simp; omega)) (by assumption))))) (Nat.le_refl _) hb)
    replace BW := Lib.hid (BW.out.trans (kk.out.mono BW.out.size))
    clear hb kk
    go_wp2_with fail
    go_ret
    exact ⟨rfl, BW.out⟩
  · clear P2 P3
    go_wp2_with fail
    refine (iDbMissing [] db _ _ _ (lsasAt_empty _ _) (X.out.below (by with_reducible (repeat (first | (refine below_drewN ?_ _) | (refine Below.drew ?_) | (refine below_alloc ?_ (by first | omega | (simp; done) | (simp; omega)) _) | (refine Below.setCell ?_ (by first | omega | (simp; done) | (simp; omega)) _) | exact Below.refl _ _ | assumption | (refine below_call ?_ (by first | omega | (simp; done) | (simp; omega)) (by assumption))))) (Nat.le_refl _))).mono ?_
    rintro e w6 ⟨v6, rfl, hO, hb⟩
    have kk := Lib.hid (below_call (B := w5.heap.size) (a := w5) (by with_reducible (repeat (first | (refine below_drewN ?_ _) | (refine Below.drew ?_) | (refine below_alloc ?_ (by first | omega | (simp; done) | (simp; omega)) _) | (refine Below.setCell ?_ (by first | omega | (simp; done) | (simp; omega)) _) | exact Below.refl _ _ | assumption | (refine below_call ?_ (by first | omega | (simp; done) | (simp; omega)) (by assumption))))) (Nat.le_refl _) hb)
    replace BW := Lib.hid (BW.out.trans (kk.out.mono BW.out.size))
    replace X := Lib.hid (X.out.below kk.out (Nat.le_refl _))
    obtain ⟨ra, rc, rfl⟩ := own_slice hO.1
    rw [miss_left HK.out, ← HXN.out]
    clear hb hO kk
    have e1 : ((xn:Int) == (xn:Int)) = true := by simp
    have e0 : (((0:Nat):Int) == 0) = true := rfl
    go_wp2_with fail
    refine (iDbMissing db [] _ _ _ (X.out.below (by with_reducible (repeat (first | (refine below_drewN ?_ _) | (refine Below.drew ?_) | (refine below_alloc ?_ (by first | omega | (simp; done) | (simp; omega)) _) | (refine Below.setCell ?_ (by first | omega | (simp; done) | (simp; omega)) _) | exact Below.refl _ _ | assumption | (refine below_call ?_ (by first | omega | (simp; done) | (simp; omega)) (by assumption))))) (Nat.le_refl _)) (lsasAt_empty _ _)).mono ?_
    rw [miss_right]
    rintro e w7 ⟨v7, rfl, hO, hb⟩
    have kk := Lib.hid (below_call (B := w6.heap.size) (a := w6) (by with_reducible (repeat (first | (refine below_drewN ?_ _) | (refine Below.drew ?_) | (refine below_alloc ?_ (by first | omega | (simp; done) | (simp; omega)) _) | (refine Below.setCell ?_ (by first | omega | (simp; done) | (simp; omega)) _) | exact Below.refl _ _ | assumption | (refine below_call ?_ (by first | omega | (simp; done) | (simp; omega)) (by assumption))))) (Nat.le_refl _) hb)
    replace BW := Lib.hid (BW.out.trans (kk.out.mono BW.out.size))
    replace X := Lib.hid (X.out.below kk.out (Nat.le_refl _))
    obtain ⟨sa, sc, rfl⟩ := own_slice hO.1
    rw [List.length_nil]
    clear hb hO kk
    go_wp2_with fail
    refine (iDbMissing db db _ _ _ X.out X.out).mono ?_
    rw [miss_self HK.out]
    rintro e w8 ⟨v8, rfl, hO, hb⟩
    have kk := Lib.hid (below_call (B := w7.heap.size) (a := w7) (by with_reducible (repeat (first | (refine below_drewN ?_ _) | (refine Below.drew ?_) | (refine below_alloc ?_ (by first | omega | (simp; done) | (simp; omega)) _) | (refine Below.setCell ?_ (by first | omega | (simp; done) | (simp; omega)) _) | exact Below.refl _ _ | assumption | (refine below_call ?_ (by first | omega | (simp; done) | (simp; omega)) (by assumption))))) (Nat.le_refl _) hb)
    replace BW := Lib.hid (BW.out.trans (kk.out.mono BW.out.size))
    obtain ⟨ta, tc, rfl⟩ := own_slice hO.1
    rw [List.length_nil]
    clear hb hO kk
    go_wp2_with fail
    go_ret
    exact ⟨rfl, BW.out⟩
theorem own : ownKnob Try.prog.godebug = none := by kernel_rfl
theorem laidOut : laidOutB Try.prog = true := by kernel_rfl
set_option maxRecDepth 100000 in
theorem lifted (os : Os) (started : os.Started) (H : Type) (enc : TypeId × Value → H) :
    ReturnsInHanded {} Try.checked os 7 .any (Rows.fnDbMissingNoneSpec.pre6 enc Try.prog Try.f7 Rows.fnDbMissingNoneRow.domain false) (Rows.fnDbMissingNoneSpec.post enc Try.prog Try.f7 false true false false) := by
  refine returnsInHanded_of_change (C := Try.checked) own started (by kernel_rfl) Try.func7
    (ChangeSpec.witness6 (enc := enc) (C := Try.checked) false ⟨#[], #[.slice none 0 0], []⟩ 8 (by kernel_rfl) (by kernel_rfl) (by kernel_rfl) (by kernel_rfl)) ?_
  intro W base args ds gs before hval0 hW hcnd _
  have hval : ∀ (j : Nat) t v, Try.f7.params[j]? = some t → args[j]? = some v → Value.okWide Try.prog W .any base t v := hval0
  have hW' := hW
  obtain ⟨p, q, hA0, hV, rfl, hfz, hnd⟩ := hW
  have hA : DataW.TrodAll enc Try.prog W 0 (fun _ => true) true Try.f7.params.toList args.toList ds p := hA0
  rw [Try.params7] at hA hval
  obtain ⟨v0, vs0, d0, ds0, p0, q0, hargs, rfl, rfl, h0, r0⟩ := trodAll_cons hA
  obtain ⟨rfl, rfl, rfl⟩ := trodAll_nil r0
  obtain rfl : args = #[v0] := by cases args; simp_all
  obtain ⟨rfl, rfl⟩ := trodVars_none hV
  have k0 := h0
  have lt0 : ∀ x ∈ p0, x.block < W.heap.size := by obtain ⟨m, hm⟩ := k0; exact DataW.trod_lt m _ _ _ hm
  have w0 : CodeAt W v0 := codeAt_of_trod (T := 22) (E := 5) Try.underlying22 Try.underlying5 (by kernel_rfl) (hval 0 22 v0 rfl rfl) h0
  clear hA0 hval0
  refine (walk v0 W w0).mono fun e W' ⟨he, bel⟩ => ?_
  subst he
  exact ⟨_, rfl, _, _, _, [], _, [], hW', trodAll_mk1 (shut_bool Try.underlying4 _), (trodAll_cons_mk (Below.trod laidOut (by kernel_rfl) (of_decide_eq_true (by kernel_rfl)) k0 bel lt0) trodAll_mk0), rfl, bel.frame _, fun h => by cases h⟩
theorem over : Rows.fnDbMissingNoneRow.holds Try.pinned (OpenSpec.ofChange Rows.fnDbMissingNoneSpec) :=
  OpenClaim.holds_of_wide 7 Try.f7 rfl rfl rfl rfl rfl rfl rfl ⟨rfl, rfl, rfl, rfl, rfl⟩ rfl rfl rfl rfl rfl (by kernel_rfl) Try.func7 (by kernel_rfl)
    (of_decide_eq_true (by kernel_rfl)) (by unfold Func.isWrapper; first | (rw [if_pos (by decide +kernel)]; kernel_rfl) | (rw [if_neg (by decide +kernel)]; exact ⟨rfl, rfl⟩))
    (fun os started H enc _ => lifted os started H enc)
end Go.Proofs.Ytbccenoclmmcdaa.lawFnDbMissingNone
namespace Go.Proofs.Ytbccenoclmmcdaa
/-- The statement. -/
theorem FnDbMissingNone_proved : Rows.FnDbMissingNoneSaid := lawFnDbMissingNone.over
#print axioms FnDbMissingNone_proved
end Go.Proofs.Ytbccenoclmmcdaa
