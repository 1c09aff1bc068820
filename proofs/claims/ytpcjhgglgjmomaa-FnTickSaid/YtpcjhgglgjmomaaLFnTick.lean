/- FnTick: for every input the call returns true, and the argument reads afterwards as before. No condition. -/
import Derived.Test.YtpcjhgglgjmomaaDraw
import Derived.Test.YtpcjhgglgjmomaaAdj
import Derived.Test.YtpcjhgglgjmomaaRows
import Derived.Test.YtpcjhgglgjmomaaOpen
import Derived.ProofKit
import Derived.OpenShut
import Derived.ShutString
import Derived.ChangeOld
import Derived.Lib.SmallJoins
namespace Go.Proofs.Ytpcjhgglgjmomaa.lawFnTick
open Go.ChangeShapes Go.WideShapes Go.ChangeAt Go.RowKit Go.Joins
set_option maxHeartbeats 2000000 in
theorem walk (v : Value) (w : World) (h : CodeAt w v) :
    Calls Try.prog 5 #[v] w fun e w' => e = .returned (.bool true) ∧ Below w.heap.size w w' := by
  obtain ⟨a0, n, cap, b, off, rfl, hcap, hmax, ha, hc⟩ := id h
  unfold maxLen at hmax
  clear ha hc
  by_cases hn : 1048576 < n
  · go_enter Try.func5, Try.ntmps5
    go_wp2
    go_ret
    exact ⟨rfl, Below.refl _ _⟩
  go_enter Try.func5, Try.ntmps5
  go_wp2_with fail
  refine (drawTick _ _ h).mono ?_
  rintro e w1 ⟨s, a, rfl, hb⟩
  have hsz := hb.size
  rcases Bool.eq_false_or_eq_true (adjOk s a) with h1 | h1
  rotate_left
  · have HT : Hid (tickOf s a = (0, 0)) := by show _ = _; simp [tickOf, h1]
    have e1 := fun W => eqlAdj W 0 0 0 0
    have e2 := fun W => neqAdj W 0 0 0 0
    go_wp2_with (first | (go_at_call 17; refine (sTick _ _ 0 0 HT.out _).mono ?_; rintro e w' ⟨rfl, rfl⟩; unfold tickW) | (go_at_call 18; refine (iTick _ _ 0 0 HT.out _).mono ?_; rintro e w' ⟨rfl, rfl⟩; unfold tickW) | (go_at_call 14; refine (sAdjValid _ _ _).mono ?_; rintro e w' ⟨rfl, rfl⟩) | (go_at_call 16; refine (iAdjValid _ _ _).mono ?_; rintro e w' ⟨rfl, rfl⟩))
    go_ret
    exact ⟨rfl, (by with_reducible (repeat (first | (refine below_drewN ?_ _) | (refine Below.drew ?_) | (refine below_alloc ?_ (by first | omega | (simp; done) | (simp; omega)) _) | (refine Below.setCell ?_ (by first | omega | (simp; done) | (simp; omega)) _) | exact Below.refl _ _ | assumption | (refine below_call ?_ (by first | omega | (simp; done) | (simp; omega)) (by assumption)))))⟩
  rcases Bool.eq_false_or_eq_true (s == 0) with h2 | h2
  · have e := beq_iff_eq.1 h2
    subst e
    have ha : a = 0 := by simp [adjOk, inB] at h1; omega
    subst ha
    have HT : Hid (tickOf 0 0 = (0, 0)) := rfl
    clear h2
    have e1 := fun W => eqlAdj W 0 0 0 0
    have e2 := fun W => neqAdj W 0 0 0 0
    go_wp2_with (first | (go_at_call 17; refine (sTick _ _ 0 0 HT.out _).mono ?_; rintro e w' ⟨rfl, rfl⟩; unfold tickW) | (go_at_call 18; refine (iTick _ _ 0 0 HT.out _).mono ?_; rintro e w' ⟨rfl, rfl⟩; unfold tickW) | (go_at_call 14; refine (sAdjValid _ _ _).mono ?_; rintro e w' ⟨rfl, rfl⟩) | (go_at_call 16; refine (iAdjValid _ _ _).mono ?_; rintro e w' ⟨rfl, rfl⟩))
    go_ret
    exact ⟨rfl, (by with_reducible (repeat (first | (refine below_drewN ?_ _) | (refine Below.drew ?_) | (refine below_alloc ?_ (by first | omega | (simp; done) | (simp; omega)) _) | (refine Below.setCell ?_ (by first | omega | (simp; done) | (simp; omega)) _) | exact Below.refl _ _ | assumption | (refine below_call ?_ (by first | omega | (simp; done) | (simp; omega)) (by assumption)))))⟩
  obtain ⟨b1, b2, b3, b4⟩ := adjOk_inv h1 h2
  have h0 : adjOk 0 0 = true := rfl
  by_cases h3 : a = 3
  · have HT : Hid (tickOf s a = (0, 0)) := by show _ = _; simp [tickOf, h3]
    have hs : ((0:Int) == s) = false := by simp; omega
    have H3 := Lib.hid h3; clear h3
    have e1 := fun W => eqlAdj W 0 0 0 0
    have e2 := fun W => neqAdj W 0 0 0 0
    go_wp2_with (first | (go_at_call 17; refine (sTick _ _ 0 0 HT.out _).mono ?_; rintro e w' ⟨rfl, rfl⟩; unfold tickW) | (go_at_call 18; refine (iTick _ _ 0 0 HT.out _).mono ?_; rintro e w' ⟨rfl, rfl⟩; unfold tickW) | (go_at_call 14; refine (sAdjValid _ _ _).mono ?_; rintro e w' ⟨rfl, rfl⟩) | (go_at_call 16; refine (iAdjValid _ _ _).mono ?_; rintro e w' ⟨rfl, rfl⟩))
    go_ret
    exact ⟨rfl, (by with_reducible (repeat (first | (refine below_drewN ?_ _) | (refine Below.drew ?_) | (refine below_alloc ?_ (by first | omega | (simp; done) | (simp; omega)) _) | (refine Below.setCell ?_ (by first | omega | (simp; done) | (simp; omega)) _) | exact Below.refl _ _ | assumption | (refine below_call ?_ (by first | omega | (simp; done) | (simp; omega)) (by assumption)))))⟩
  · have HT : Hid (tickOf s a = (s, a + 1)) := by show _ = _; simp [tickOf, h3, h1, h2]
    have h4 : adjOk s (a + 1) = true := by simp [adjOk, inB]; omega
    have H3 := Lib.hid h3; clear h3
    have e1 := fun W => eqlAdj W s (a + 1) s (a + 1)
    have e2 := fun W => neqAdj W s (a + 1) s (a + 1)
    have e3 : (s == s) = true := by simp
    have e4 : (a + 1 == a + 1) = true := by simp
    go_wp2_with (first | (go_at_call 17; refine (sTick _ _ s (a + 1) HT.out _).mono ?_; rintro e w' ⟨rfl, rfl⟩; unfold tickW) | (go_at_call 18; refine (iTick _ _ s (a + 1) HT.out _).mono ?_; rintro e w' ⟨rfl, rfl⟩; unfold tickW) | (go_at_call 14; refine (sAdjValid _ _ _).mono ?_; rintro e w' ⟨rfl, rfl⟩) | (go_at_call 16; refine (iAdjValid _ _ _).mono ?_; rintro e w' ⟨rfl, rfl⟩))
    go_ret
    exact ⟨rfl, (by with_reducible (repeat (first | (refine below_drewN ?_ _) | (refine Below.drew ?_) | (refine below_alloc ?_ (by first | omega | (simp; done) | (simp; omega)) _) | (refine Below.setCell ?_ (by first | omega | (simp; done) | (simp; omega)) _) | exact Below.refl _ _ | assumption | (refine below_call ?_ (by first | omega | (simp; done) | (simp; omega)) (by assumption)))))⟩
theorem own : ownKnob Try.prog.godebug = none := by kernel_rfl
theorem laidOut : laidOutB Try.prog = true := by kernel_rfl
set_option maxRecDepth 100000 in
theorem lifted (os : Os) (started : os.Started) (H : Type) (enc : TypeId × Value → H) :
    ReturnsInHanded {} Try.checked os 5 .any (Rows.fnTickSpec.pre6 enc Try.prog Try.f5 Rows.fnTickRow.domain false) (Rows.fnTickSpec.post enc Try.prog Try.f5 false true false false) := by
  refine returnsInHanded_of_change (C := Try.checked) own started (by kernel_rfl) Try.func5
    (ChangeSpec.witness6 (enc := enc) (C := Try.checked) false ⟨#[], #[.slice none 0 0], []⟩ 8 (by kernel_rfl) (by kernel_rfl) (by kernel_rfl) (by kernel_rfl)) ?_
  intro W base args ds gs before hval0 hW hcnd _
  have hval : ∀ (j : Nat) t v, Try.f5.params[j]? = some t → args[j]? = some v → Value.okWide Try.prog W .any base t v := hval0
  have hW' := hW
  obtain ⟨p, q, hA0, hV, rfl, hfz, hnd⟩ := hW
  have hA : DataW.TrodAll enc Try.prog W 0 (fun _ => true) true Try.f5.params.toList args.toList ds p := hA0
  rw [Try.params5] at hA hval
  obtain ⟨v0, vs0, d0, ds0, p0, q0, hargs, rfl, rfl, h0, r0⟩ := trodAll_cons hA
  obtain ⟨rfl, rfl, rfl⟩ := trodAll_nil r0
  obtain rfl : args = #[v0] := by cases args; simp_all
  obtain ⟨rfl, rfl⟩ := trodVars_none hV
  have k0 := h0
  have lt0 : ∀ x ∈ p0, x.block < W.heap.size := by obtain ⟨m, hm⟩ := k0; exact DataW.trod_lt m _ _ _ hm
  have w0 : CodeAt W v0 := codeAt_of_trod (T := 30) (E := 5) Try.underlying30 Try.underlying5 (by kernel_rfl) (hval 0 30 v0 rfl rfl) h0
  clear hA0 hval0
  refine (walk v0 W w0).mono fun e W' ⟨he, bel⟩ => ?_
  subst he
  exact ⟨_, rfl, _, _, _, [], _, [], hW', trodAll_mk1 (shut_bool Try.underlying4 _), (trodAll_cons_mk (Below.trod laidOut (by kernel_rfl) (of_decide_eq_true (by kernel_rfl)) k0 bel lt0) trodAll_mk0), rfl, bel.frame _, fun h => by cases h⟩
theorem over : Rows.fnTickRow.holds Try.pinned (OpenSpec.ofChange Rows.fnTickSpec) :=
  OpenClaim.holds_of_wide 5 Try.f5 rfl rfl rfl rfl rfl rfl rfl ⟨rfl, rfl, rfl, rfl, rfl⟩ rfl rfl rfl rfl rfl (by kernel_rfl) Try.func5 (by kernel_rfl)
    (of_decide_eq_true (by kernel_rfl)) (by unfold Func.isWrapper; first | (rw [if_pos (by decide +kernel)]; kernel_rfl) | (rw [if_neg (by decide +kernel)]; exact ⟨rfl, rfl⟩))
    (fun os started H enc _ => lifted os started H enc)
end Go.Proofs.Ytpcjhgglgjmomaa.lawFnTick
namespace Go.Proofs.Ytpcjhgglgjmomaa
/-- The statement. -/
theorem FnTick_proved : Rows.FnTickSaid := lawFnTick.over
#print axioms FnTick_proved
end Go.Proofs.Ytpcjhgglgjmomaa
