/- FnLsaPart: for every input the call returns true, and the arguments read afterwards as before. No condition. -/
import Derived.Test.YtbccenoclmmcdaaDrawL
import Derived.Test.YtbccenoclmmcdaaLsa
import Derived.Test.YtbccenoclmmcdaaPure2
import Derived.Test.YtbccenoclmmcdaaApp
import Derived.Test.YtbccenoclmmcdaaRows
import Derived.Test.YtbccenoclmmcdaaOpen
import Derived.ProofKit
import Derived.OpenShut
import Derived.ShutString
import Derived.ChangeOld
import Derived.Lib.SmallJoins
namespace Go.Proofs.Ytbccenoclmmcdaa.lawFnLsaPart
open Go.ChangeShapes Go.WideShapes Go.ChangeAt Go.RowKit Go.Joins
theorem cells2_take : ∀ (es : List (Int × Int)) (k : Nat), cells2 (es.take k) = (cells2 es).take (k * 2)
  | [], k => by simp [cells2]
  | e :: es, 0 => by simp [cells2]
  | e :: es, k + 1 => by
    have := cells2_take es k
    have e2 : (k + 1) * 2 = (k * 2) + 1 + 1 := by omega
    rw [e2]
    simpa [cells2] using this
theorem cells2_drop : ∀ (es : List (Int × Int)) (k : Nat), cells2 (es.drop k) = (cells2 es).drop (k * 2)
  | [], k => by simp [cells2]
  | e :: es, 0 => by simp
  | e :: es, k + 1 => by
    have := cells2_drop es k
    have e2 : (k + 1) * 2 = (k * 2) + 1 + 1 := by omega
    rw [e2]
    simpa [cells2] using this
theorem cells2_append (a b : List (Int × Int)) : cells2 (a ++ b) = cells2 a ++ cells2 b := by simp [cells2]
set_option maxRecDepth 100000 in
set_option maxHeartbeats 2000000 in
theorem walk (v v2 : Value) (w : World) (h : CodeAt w v) (h2 : CodeAt w v2) :
    Calls Try.prog 3 #[v, v2] w fun e w' => e = .returned (.bool true) ∧ Below w.heap.size w w' := by
  obtain ⟨a0, n, cap, b, off, rfl, hcap, hmax, ha, hc⟩ := id h
  obtain ⟨a2, n2, cap2, b2, off2, rfl, hcap2, hmax2, ha2, hc2⟩ := h2
  unfold maxLen at hmax hmax2
  clear ha hc ha2 hc2
  by_cases hn : 1048576 < n
  · have hd : decide ((1048576 : Int) < (n : Int)) = true := by simp; omega
    go_enter Try.func3, Try.ntmps3
    go_wp2
    go_ret
    exact ⟨rfl, Below.refl _ _⟩
  have hd : decide ((1048576 : Int) < (n : Int)) = false := by simp; omega
  by_cases hn2 : 1048576 < n2
  · have hd2 : decide ((1048576 : Int) < (n2 : Int)) = true := by simp; omega
    go_enter Try.func3, Try.ntmps3
    go_wp2
    go_ret
    exact ⟨rfl, Below.refl _ _⟩
  have hd2 : decide ((1048576 : Int) < (n2 : Int)) = false := by simp; omega
  go_enter Try.func3, Try.ntmps3
  go_wp2_with fail
  refine (drawLsaValid _ _ h).mono ?_
  rintro e w1 ⟨o, s, u, es, rfl, hel, hu, hb1⟩
  obtain ⟨A, m, c, rfl, hm, hsrc⟩ := srcAt_pairs hu
  have hmc : m ≤ c ∧ c ≤ maxLen := by obtain ⟨_, _, _, _, hv, h1, h2, _⟩ := hu; injection hv with _ e2 e3; omega
  have BW := Lib.hid hb1
  have HU := Lib.hid hu
  obtain ⟨q, hq⟩ : ∃ q, lsaOk o s es = q := ⟨_, rfl⟩
  have HQ := Lib.hid hq
  have HM := Lib.hid hm
  have hm7 : m ≤ 7 := by omega
  have hmc1 := hmc.1
  clear hb1 hu hsrc hq hm hmc
  go_wp2_with fail
  refine (iLsaValid o s _ es _ (HU.out.below (by with_reducible (repeat (first | (refine below_drewN ?_ _) | (refine Below.drew ?_) | (refine below_alloc ?_ (by first | omega | (simp; done) | (simp; omega)) _) | (refine Below.setCell ?_ (by first | omega | (simp; done) | (simp; omega)) _) | exact Below.refl _ _ | assumption | (refine below_call ?_ (by first | omega | (simp; done) | (simp; omega)) (by assumption))))) (Nat.le_refl _))).mono ?_
  rw [HQ.out]
  rintro e w2 ⟨rfl, hb2⟩
  have kk := Lib.hid (below_call (B := w1.heap.size) (a := w1) (by with_reducible (repeat (first | (refine below_drewN ?_ _) | (refine Below.drew ?_) | (refine below_alloc ?_ (by first | omega | (simp; done) | (simp; omega)) _) | (refine Below.setCell ?_ (by first | omega | (simp; done) | (simp; omega)) _) | exact Below.refl _ _ | assumption | (refine below_call ?_ (by first | omega | (simp; done) | (simp; omega)) (by assumption))))) (Nat.le_refl _) hb2)
  replace BW := Lib.hid (BW.out.trans (kk.out.mono BW.out.size))
  replace HU := Lib.hid (HU.out.below kk.out (Nat.le_refl _))
  have L := Lib.hid (Box.call (b := w1.heap.size) (c := #[.int .i64 o, .int .i64 s, .slice A m c]) (t := 25) hb2 (by with_reducible (repeat (first | (refine box_at _ _ _ ?_; first | rfl | (simp; done)) | apply Box.alloc | apply Box.drewN | apply Box.drew))))
  obtain ⟨L_0, L_1, L_2, L_3, L_4, L_5, L_6⟩ := box3 L.out
  clear hb2 kk
  go_wp2_with fail
  refine (sLsaValid o s _ es _ HU.out).mono ?_
  rw [HQ.out]
  rintro e w3 ⟨rfl, hb3⟩
  have kk := Lib.hid (below_call (B := w2.heap.size) (a := w2) (by with_reducible (repeat (first | (refine below_drewN ?_ _) | (refine Below.drew ?_) | (refine below_alloc ?_ (by first | omega | (simp; done) | (simp; omega)) _) | (refine Below.setCell ?_ (by first | omega | (simp; done) | (simp; omega)) _) | exact Below.refl _ _ | assumption | (refine below_call ?_ (by first | omega | (simp; done) | (simp; omega)) (by assumption))))) (Nat.le_refl _) hb3)
  replace BW := Lib.hid (BW.out.trans (kk.out.mono BW.out.size))
  replace HU := Lib.hid (HU.out.below kk.out (Nat.le_refl _))
  replace L := Lib.hid (L.out.below kk.out L.out.lt)
  clear L_0 L_1 L_2 L_3 L_4 L_5 L_6
  obtain ⟨L_0, L_1, L_2, L_3, L_4, L_5, L_6⟩ := box3 L.out
  clear hb3 kk
  have hqq : (q != q) = false := by simp
  have hqe : (q == q) = true := by simp
  rcases Bool.eq_false_or_eq_true q with hqt | hqt
  rotate_left
  · subst hqt
    go_wp2_with fail
    go_ret
    exact ⟨rfl, BW.out⟩
  subst hqt
  by_cases hm0 : m = 0
  · subst hm0
    have hz : (((0:Nat):Int) == 0) = true := rfl
    go_wp2_with fail
    go_ret
    exact ⟨rfl, BW.out⟩
  have hz : ((m:Int) == 0) = false := by simp; omega
  have hmpos : (0:Int) < (m:Int) := by omega
  obtain ⟨k, hk, hkm⟩ : ∃ k : Nat, (n2:Int) % (m:Int) = (k:Int) ∧ k < m := ⟨n2 % m, by first | rfl | simp, Nat.mod_lt _ (by omega)⟩
  have hsrc : SrcAt w3 A m 2 (cells2 es) := by
    obtain ⟨A', m', c', e1, e2, hsrc⟩ := srcAt_pairs HU.out
    cases e1
    exact hsrc
  obtain ⟨i0, hi, hz0, hz1, hz2⟩ := info_parts infoEnd
  obtain ⟨c1, hs1, S1⟩ := cut_head Try.underlying23 hi hz1 hsrc hmc1 k (by omega)
  obtain ⟨A2, c2, hs2', S2⟩ := cut_tail Try.underlying23 hi hz1 hsrc hmc1 (k + 1) (by omega)
  have hs2 : ∀ W : World, (Instr.slice 23 (.slice A m c) (some (.int .i64 ((k : Int) + 1))) none none).run Try.prog W = .ok (.slice A2 (m - (k + 1)) c2) W := hs2'
  have hwk : IntKind.i64.wrap ((k : Int) + 1) = (k : Int) + 1 := IntWalk.i64_in _ (by omega)
  have hki0 : (0 : Int) ≤ (k : Int) := by omega
  have hki1 : (k : Int) ≤ (c : Int) := by omega
  have hki2 : (0 : Int) ≤ (k : Int) + 1 := by omega
  have hki3 : (k : Int) + 1 ≤ (m : Int) := by omega
  have hki4 : ((k : Int) + 1).toNat = k + 1 := by omega
  clear hcap hcap2 hmax hmax2 hn hn2 hel hqq hqe h hz hm0
  have HS1 := Lib.hid S1; have HS2 := Lib.hid S2
  have HI := Lib.hid hi; have HZ0 := Lib.hid hz0; have HZ1 := Lib.hid hz1; have HZ2 := Lib.hid hz2
  clear hs2' hsrc S1 S2 hi hz0 hz1 hz2
  have hLlt := L.out.lt
  have hne1 : w1.heap.size ≠ w3.heap.size := by omega
  have hne2 : w3.heap.size ≠ w1.heap.size := by omega
  go_wp2_with fail
  go_region_held3 (fun w' => w'.cell? ⟨w1.heap.size, 2, none⟩ = some (.slice A m c)) (go_keep)
    ((first
      | (have _t := w4; refine step_append_rd (by rfl) _ _ _ (by rfl) (w3.heap.size + 1) 29 i0 _ 2 16 Try.underlying23 HI.out HZ0.out HZ1.out HZ2.out rfl (by omega) v4 k (cells2 (es.take k)) (by rfl) o4 A2 (m - (k + 1)) c2 ((cells2 es).drop ((k + 1) * 2)) (by rfl) (HS2.out.below B4 (Nat.le_refl _)) (by rw [← cells2_drop]; exact cells2_one _) (by unfold maxLen; omega) (by omega) hs4 ?_; intro v5 w5 hown5 hgrow5 hloc5; obtain ⟨a5, c5, rfl⟩ := own_slice hown5; have B5 := Below.grown B4 hgrow5 (by have := B4.size; omega) hr4; have q5 := box3 (L.out.below B5 L.out.lt); have bX5 : Box w5 w3.heap.size #[.int .i64 o, .int .i64 s, .slice A m c] 25 := bX4.grown hgrow5 (fun j hj => by have := (o4.lt j hj).1; omega); have r5 := box3 bX5)
      | (refine step_append_rd (by rfl) _ _ _ (by rfl) (w3.heap.size + 1) 29 i0 _ 2 16 Try.underlying23 HI.out HZ0.out HZ1.out HZ2.out rfl (by omega) (.slice (some ⟨w3.heap.size + 1, 0, none⟩) 0 0) 0 [] (by rfl) (by with_reducible (repeat (first | exact own_new (g := w3.heap.size + 1) (by simp) (Nat.le_refl _) | apply own_drewN | apply own_drew | apply World.ownsRow.alloc))) A k c1 ((cells2 es).take (k * 2)) (by rfl) (HS1.out.below (by with_reducible (repeat (first | (refine below_drewN ?_ _) | (refine Below.drew ?_) | (refine below_alloc ?_ (by first | omega | (simp; done) | (simp; omega)) _) | (refine Below.setCell ?_ (by first | omega | (simp; done) | (simp; omega)) _) | exact Below.refl _ _ | assumption | (refine below_call ?_ (by first | omega | (simp; done) | (simp; omega)) (by assumption))))) (Nat.le_refl _)) (by rw [← cells2_take]; exact cells2_one _) (by unfold maxLen; omega) (by omega) (by simp) ?_; intro v4 w4 hown4 hgrow4 hloc4; have hs4 : w3.heap.size + 1 ≤ w4.heap.size := (by have := hgrow4.size; simp at this; omega); have B4 : Below w3.heap.size w3 w4 := Below.grown (by with_reducible (repeat (first | (refine below_drewN ?_ _) | (refine Below.drew ?_) | (refine below_alloc ?_ (by first | omega | (simp; done) | (simp; omega)) _) | (refine Below.setCell ?_ (by first | omega | (simp; done) | (simp; omega)) _) | exact Below.refl _ _ | assumption | (refine below_call ?_ (by first | omega | (simp; done) | (simp; omega)) (by assumption))))) hgrow4 (by simp; omega) (fun j hj => by simp [Value.ownBlock] at hj; omega); have q4 := box3 (L.out.below B4 L.out.lt); have o4 : w4.ownsRow (w3.heap.size + 1) 29 2 v4 k (cells2 (es.take k)) := (by rw [cells2_take]; simpa using hown4); have hr4 : ∀ j, v4.ownBlock = some j → w3.heap.size ≤ j := fun j hj => (by have := (o4.lt j hj).1; omega); have bX4 : Box w4 w3.heap.size #[.int .i64 o, .int .i64 s, .slice A m c] 25 := Box.grown (by with_reducible (repeat (first | (refine box_at _ _ _ ?_; first | rfl | (simp; done)) | apply Box.alloc | apply Box.drewN | apply Box.drew))) hgrow4 (fun j hj => by simp [Value.ownBlock] at hj; omega))))
  have hlen : k + (m - (k + 1)) = (es.take k ++ es.drop (k + 1)).length := by rw [List.length_append, List.length_take, List.length_drop]; have := HM.out; omega
  have o5 : w5.ownsRow (w3.heap.size + 1) 29 2 (.slice a5 (k + (m - (k + 1))) c5) (es.take k ++ es.drop (k + 1)).length (cells2 (es.take k ++ es.drop (k + 1))) := by
    rw [← hlen, cells2_append, cells2_drop]
    exact hown5
  have O5 := Lib.hid o5
  have HB5 := Lib.hid B5
  have HX5 := Lib.hid bX5
  have hs5 : w3.heap.size < w5.heap.size := bX5.lt
  have hs6 : w1.heap.size < w5.heap.size := by omega
  have L5 := Lib.hid (L.out.below B5 L.out.lt)
  have hok := lsaOk_part HQ.out k
  have hself := lsaOk_self o s 1
  have HOK := Lib.hid hok; have HSELF := Lib.hid hself
  clear o5 B5 bX5 hok hself hlen hown5 hgrow5 hloc5 hown4 hgrow4 hloc4 q4 o4 hr4 bX4 B4 hs4 hs1 hs2 HS1 HS2 L_0 L_1 L_2 L_3 L_4 L_5 L_6
  go_wp2_with fail
  refine (iLsaValid o s _ (es.take k ++ es.drop (k + 1)) _ (pairs_of_owns (base := w3.heap.size + 1) (e := 29) (by with_reducible (repeat (first | exact O5.out | apply own_drewN | apply own_drew | apply World.ownsRow.alloc | (refine own_setCell ?_ (by first | (simp; done) | omega | (simp; omega)) _)))))).mono ?_
  rw [HOK.out]
  rintro e w6 ⟨rfl, hb6⟩
  have Z := Lib.hid (Box.call (b := w5.heap.size) (c := #[.int .i64 o, .int .i64 s, .slice (some ⟨w5.heap.size + 1, 0, none⟩) 1 1]) (t := 25) hb6 (by with_reducible (repeat (first | (refine box_at _ _ _ ?_; first | rfl | (simp; done)) | apply Box.alloc | apply Box.drewN | apply Box.drew))))
  obtain ⟨Z_0, Z_1, Z_2, Z_3, Z_4, Z_5, Z_6⟩ := box3 Z.out
  have Y := Lib.hid (Box.call (b := w5.heap.size + 1) (c := #[.int .i64 o, .int .i64 1]) (t := 29) hb6 (by with_reducible (repeat (first | (refine box_at _ _ _ ?_; first | rfl | (simp; done)) | apply Box.alloc | apply Box.drewN | apply Box.drew))))
  obtain ⟨Y_0, Y_1, Y_2, Y_3, Y_4⟩ := box2 Y.out
  have hsz3 := BW.out.size
  have hbw5 : Below w.heap.size w w5 := BW.out.trans (HB5.out.mono hsz3)
  have B6 := Lib.hid (below_call (B := w.heap.size) (a := w) (by with_reducible (repeat (first | (refine below_drewN ?_ _) | (refine Below.drew ?_) | (refine below_alloc ?_ (by first | omega | (simp; done) | (simp; omega)) _) | (refine Below.setCell ?_ (by first | omega | (simp; done) | (simp; omega)) _) | exact Below.refl _ _ | assumption | (refine below_call ?_ (by first | omega | (simp; done) | (simp; omega)) (by assumption))))) (Nat.le_refl _) hb6)
  clear hb6
  go_wp2_with fail
  refine (iLsaValid o s _ [(o, 1)] _ (pairsAt_box Y.out)).mono ?_
  rw [HSELF.out]
  rintro e w7 ⟨rfl, hb7⟩
  have B7 := Lib.hid (B6.out.trans (hb7.mono B6.out.size))
  clear hb7
  go_wp2_with fail
  go_ret
  exact ⟨rfl, B7.out⟩
theorem own : ownKnob Try.prog.godebug = none := by kernel_rfl
theorem laidOut : laidOutB Try.prog = true := by kernel_rfl
set_option maxRecDepth 100000 in
theorem lifted (os : Os) (started : os.Started) (H : Type) (enc : TypeId × Value → H) :
    ReturnsInHanded {} Try.checked os 3 .any (Rows.fnLsaPartSpec.pre6 enc Try.prog Try.f3 Rows.fnLsaPartRow.domain false) (Rows.fnLsaPartSpec.post enc Try.prog Try.f3 false true false false) := by
  refine returnsInHanded_of_change (C := Try.checked) own started (by kernel_rfl) Try.func3
    (ChangeSpec.witness6 (enc := enc) (C := Try.checked) false ⟨#[], #[.slice none 0 0, .slice none 0 0], []⟩ 8 (by kernel_rfl) (by kernel_rfl) (by kernel_rfl) (by kernel_rfl)) ?_
  intro W base args ds gs before hval0 hW hcnd _
  have hval : ∀ (j : Nat) t v, Try.f3.params[j]? = some t → args[j]? = some v → Value.okWide Try.prog W .any base t v := hval0
  have hW' := hW
  obtain ⟨p, q, hA0, hV, rfl, hfz, hnd⟩ := hW
  have hA : DataW.TrodAll enc Try.prog W 0 (fun _ => true) true Try.f3.params.toList args.toList ds p := hA0
  rw [Try.params3] at hA hval
  obtain ⟨v0, vs0, d0, ds0, p0, q0, hargs, rfl, rfl, h0, r0⟩ := trodAll_cons hA
  obtain ⟨v1, vs1, d1, ds1, p1, q1, rfl, rfl, rfl, h1, r1⟩ := trodAll_cons r0
  obtain ⟨rfl, rfl, rfl⟩ := trodAll_nil r1
  obtain rfl : args = #[v0, v1] := by cases args; simp_all
  obtain ⟨rfl, rfl⟩ := trodVars_none hV
  have k0 := h0
  have lt0 : ∀ x ∈ p0, x.block < W.heap.size := by obtain ⟨m, hm⟩ := k0; exact DataW.trod_lt m _ _ _ hm
  have w0 : CodeAt W v0 := codeAt_of_trod (T := 22) (E := 5) Try.underlying22 Try.underlying5 (by kernel_rfl) (hval 0 22 v0 rfl rfl) h0
  have k1 := h1
  have lt1 : ∀ x ∈ p1, x.block < W.heap.size := by obtain ⟨m, hm⟩ := k1; exact DataW.trod_lt m _ _ _ hm
  have w1 : CodeAt W v1 := codeAt_of_trod (T := 22) (E := 5) Try.underlying22 Try.underlying5 (by kernel_rfl) (hval 1 22 v1 rfl rfl) h1
  clear hA0 hval0
  refine (walk v0 v1 W w0 w1).mono fun e W' ⟨he, bel⟩ => ?_
  subst he
  exact ⟨_, rfl, _, _, _, [], _, [], hW', trodAll_mk1 (shut_bool Try.underlying4 _), (trodAll_cons_mk (Below.trod laidOut (by kernel_rfl) (of_decide_eq_true (by kernel_rfl)) k0 bel lt0) (trodAll_cons_mk (Below.trod laidOut (by kernel_rfl) (of_decide_eq_true (by kernel_rfl)) k1 bel lt1) trodAll_mk0)), rfl, bel.frame _, fun h => by cases h⟩
theorem over : Rows.fnLsaPartRow.holds Try.pinned (OpenSpec.ofChange Rows.fnLsaPartSpec) :=
  OpenClaim.holds_of_wide 3 Try.f3 rfl rfl rfl rfl rfl rfl rfl ⟨rfl, rfl, rfl, rfl, rfl⟩ rfl rfl rfl rfl rfl (by kernel_rfl) Try.func3 (by kernel_rfl)
    (of_decide_eq_true (by kernel_rfl)) (by unfold Func.isWrapper; first | (rw [if_pos (by decide +kernel)]; kernel_rfl) | (rw [if_neg (by decide +kernel)]; exact ⟨rfl, rfl⟩))
    (fun os started H enc _ => lifted os started H enc)
end Go.Proofs.Ytbccenoclmmcdaa.lawFnLsaPart
namespace Go.Proofs.Ytbccenoclmmcdaa
/-- The statement. -/
theorem FnLsaPart_proved : Rows.FnLsaPartSaid := lawFnLsaPart.over
#print axioms FnLsaPart_proved
end Go.Proofs.Ytbccenoclmmcdaa
