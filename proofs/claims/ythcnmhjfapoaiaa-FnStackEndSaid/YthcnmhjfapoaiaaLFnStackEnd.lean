/- FnStackEnd: for every input the call returns true, and the argument reads afterwards as before. No condition. -/
import Derived.Test.YthcnmhjfapoaiaaLwS
import Derived.Test.YthcnmhjfapoaiaaRows
import Derived.Test.YthcnmhjfapoaiaaOpen
import Derived.ProofKit
import Derived.OpenShut
import Derived.ShutString
import Derived.ChangeOld
import Derived.Lib.SmallJoins
namespace Go.Proofs.Ythcnmhjfapoaiaa.lawFnStackEnd
set_option linter.unusedSimpArgs false
set_option linter.unusedVariables false
open Go.ChangeShapes Go.WideShapes Go.ChangeAt Go.RowKit Go.Joins
set_option maxRecDepth 100000 in
set_option maxHeartbeats 2000000 in
theorem walk (v : Value) (w : World) (h : CodeAt w v) :
    Calls Try.prog 6 #[v] w fun e w' => e = .returned (.bool true) ∧ Below w.heap.size w w' := by
  obtain ⟨a0, n0, cap0, b0, off0, rfl, hcap0, hmax0, ha0, hc0⟩ := id h
  unfold maxLen at hmax0
  clear ha0 hc0
  have H := Lib.hid h
  clear h
  by_cases hn : 1048576 < n0
  · go_enter Try.func6, Try.ntmps6
    go_wp2
    go_ret
    exact ⟨rfl, Below.refl _ _⟩
  go_enter Try.func6, Try.ntmps6
  go_wp2_with fail
  refine (drawSE _ _ H.out).mono ?_
  rintro e w1 ⟨⟨n, u, ls, a, x, s, rfl, hls, hT, hs, hP, _, _⟩, hb⟩
  have L1 : LwS w w1.heap.size n u ls x s (w1.alloc (.cells #[.int .i64 n, u] 30)) := LwS.new hb hT hP
  obtain ⟨ua, uc, rfl, hul, hum⟩ := hT.form2
  obtain ⟨xa, xc, rfl, hxl, hxm⟩ := hP.form2
  unfold maxLen at hum hxm
  have HL := Lib.hid L1
  have hsz := hb.size
  clear hb L1 hT hP
  rcases hq : stkOf n ls a s with _ | q
  · have HQ := Lib.hid hq
    clear hq
    go_wp2_with fail
    refine (iEndNo HQ.out HL.out.tri HL.out.prs).mono ?_
    rintro e w2 ⟨rfl, hb⟩
    replace HL := Lib.hid (HL.out.below hb)
    obtain ⟨c0, c1, f0, f1, l0⟩ := box2 HL.out.box
    clear hb
    go_wp2_with fail
    refine (sEndNo HQ.out HL.out.tri HL.out.prs).mono ?_
    rintro e w3 ⟨rfl, hb⟩
    replace HL := Lib.hid (HL.out.below hb)
    clear hb c0 c1 f0 f1 l0
    go_wp2_with fail
    go_ret
    exact ⟨rfl, HL.out.bw⟩
  · have HQ := Lib.hid hq
    obtain ⟨z, hz⟩ : ∃ z, lastN a q = z := ⟨_, rfl⟩
    have HZ := Lib.hid hz
    clear hq hz
    go_wp2_with fail
    refine (iEndYes HQ.out HZ.out HL.out.tri HL.out.prs).mono ?_
    rintro e w2 ⟨rfl, hb⟩
    replace HL := Lib.hid (HL.out.below hb)
    obtain ⟨c0, c1, f0, f1, l0⟩ := box2 HL.out.box
    clear hb
    go_wp2_with fail
    refine (sEndYes HQ.out HZ.out HL.out.tri HL.out.prs).mono ?_
    rintro e w3 ⟨rfl, hb⟩
    replace HL := Lib.hid (HL.out.below hb)
    clear hb c0 c1 f0 f1 l0
    have e1 : (z != z) = false := by simp
    by_cases hs0 : s.length = 0
    · have hz : z = a := by
        have hs' : s = [] := List.eq_nil_of_length_eq_zero hs0
        have := HQ.out
        rw [hs'] at this
        rw [← HZ.out]; exact stk_nil this
      subst hz
      have t0 : ((s.length:Int) == 0) = true := by simpa using hs0
      have e2 : (z == z) = true := by simp
      have HS0 := Lib.hid hs0
      clear hs0
      go_wp2_with fail
      go_ret
      exact ⟨rfl, HL.out.bw⟩
    · obtain ⟨k, hk⟩ : ∃ k, s.length = k + 1 := ⟨s.length - 1, by omega⟩
      obtain ⟨⟨p1, p2⟩, hp⟩ := at_lt (l := s) (n := s.length) rfl (k := k) (by omega)
      have t0 : ((s.length:Int) == 0) = false := by simpa using hs0
      obtain ⟨xb, xo, rfl, hxb⟩ := HL.out.prs.some (by omega)
      obtain ⟨d0, d1⟩ := HL.out.prs.get hp
      have w1' : IntKind.i64.wrap ((s.length : Int) - 1) = (k : Int) := by rw [IntWalk.i64_in _ (by omega)]; omega
      have w2' : (k : Int) < (s.length : Int) := by omega
      have w3' : (0:Int) ≤ (k : Int) := by omega
      have hla := stk_last HQ.out hk hp
      rw [HZ.out] at hla
      have HLA := Lib.hid hla
      have HK := Lib.hid hk
      clear hla hk hp hs0
      by_cases h1 : p1 = 1
      · subst h1
        have e2 : (z == p2) = true := by
          rcases HLA.out with ⟨_, h⟩ | ⟨i, m, h, _⟩
          · simp; exact h.symm
          · simp at h
        go_wp2_with fail
        go_ret
        exact ⟨rfl, by have := HL.out.bw; exact (by with_reducible (repeat (first | (refine below_drewN ?_ _) | (refine Below.drew ?_) | (refine below_alloc ?_ (by first | omega | (simp; done) | (simp; omega)) _) | (refine Below.setCell ?_ (by first | omega | (simp; done) | (simp; omega)) _) | exact Below.refl _ _ | assumption | (refine below_call ?_ (by first | omega | (simp; done) | (simp; omega)) (by assumption)))))⟩
      · have e1' : (p1 == 1) = false := by simpa using h1
        obtain ⟨i, ⟨m1, m2, m3⟩, _, h3, h4, h5⟩ : ∃ (i : Nat) (m : LinkD), p1 = 2 ∧ p2 = i ∧ ls[i]? = some m ∧ (z = m.1 ∨ z = m.2.1) := by
          rcases HLA.out with ⟨h, _⟩ | h
          · exact absurd h h1
          · exact h
        have hil := (List.getElem?_eq_some_iff.1 h4).1
        obtain ⟨ub, uo, rfl, hub⟩ := HL.out.tri.some (by omega)
        obtain ⟨g0, g1, g2⟩ := HL.out.tri.get h4
        obtain ⟨c0, c1, f0, f1, l0⟩ := box2 HL.out.box
        subst h3
        have w4' : (i : Int) < (ls.length : Int) := by omega
        have w5' : (0:Int) ≤ (i : Int) := by omega
        have HHL := Lib.hid HL.out.bw
        clear h4 HLA
        by_cases h6 : z = m1
        · subst h6
          have e2 : (z == z) = true := by simp
          go_wp2_with fail
          go_ret
          exact ⟨rfl, by have := HHL.out; exact (by with_reducible (repeat (first | (refine below_drewN ?_ _) | (refine Below.drew ?_) | (refine below_alloc ?_ (by first | omega | (simp; done) | (simp; omega)) _) | (refine Below.setCell ?_ (by first | omega | (simp; done) | (simp; omega)) _) | exact Below.refl _ _ | assumption | (refine below_call ?_ (by first | omega | (simp; done) | (simp; omega)) (by assumption)))))⟩
        · have e2 : (z == m1) = false := by simpa using h6
          have e3 : (z == m2) = true := by
            rcases h5 with h | h
            · exact absurd h h6
            · simpa using h
          clear h5 h6
          go_wp2_with fail
          go_ret
          exact ⟨rfl, by have := HHL.out; exact (by with_reducible (repeat (first | (refine below_drewN ?_ _) | (refine Below.drew ?_) | (refine below_alloc ?_ (by first | omega | (simp; done) | (simp; omega)) _) | (refine Below.setCell ?_ (by first | omega | (simp; done) | (simp; omega)) _) | exact Below.refl _ _ | assumption | (refine below_call ?_ (by first | omega | (simp; done) | (simp; omega)) (by assumption)))))⟩
theorem own : ownKnob Try.prog.godebug = none := by kernel_rfl
theorem laidOut : laidOutB Try.prog = true := by kernel_rfl
set_option maxRecDepth 100000 in
theorem lifted (os : Os) (started : os.Started) (H : Type) (enc : TypeId × Value → H) :
    ReturnsInHanded {} Try.checked os 6 .any (Rows.fnStackEndSpec.pre6 enc Try.prog Try.f6 Rows.fnStackEndRow.domain false) (Rows.fnStackEndSpec.post enc Try.prog Try.f6 false true false false) := by
  refine returnsInHanded_of_change (C := Try.checked) own started (by kernel_rfl) Try.func6
    (ChangeSpec.witness6 (enc := enc) (C := Try.checked) false ⟨#[], #[.slice none 0 0], []⟩ 8 (by kernel_rfl) (by kernel_rfl) (by kernel_rfl) (by kernel_rfl)) ?_
  intro W base args ds gs before hval0 hW hcnd _
  have hval : ∀ (j : Nat) t v, Try.f6.params[j]? = some t → args[j]? = some v → Value.okWide Try.prog W .any base t v := hval0
  have hW' := hW
  obtain ⟨p, q, hA0, hV, rfl, hfz, hnd⟩ := hW
  have hA : DataW.TrodAll enc Try.prog W 0 (fun _ => true) true Try.f6.params.toList args.toList ds p := hA0
  rw [Try.params6] at hA hval
  obtain ⟨v0, vs0, d0, ds0, p0, q0, hargs, rfl, rfl, h0, r0⟩ := trodAll_cons hA
  obtain ⟨rfl, rfl, rfl⟩ := trodAll_nil r0
  obtain rfl : args = #[v0] := by cases args; simp_all
  obtain ⟨rfl, rfl⟩ := trodVars_none hV
  have k0 := h0
  have lt0 : ∀ x ∈ p0, x.block < W.heap.size := by obtain ⟨m, hm⟩ := k0; exact DataW.trod_lt m _ _ _ hm
  have w0 : CodeAt W v0 := codeAt_of_trod (T := 37) (E := 5) Try.underlying37 Try.underlying5 (by kernel_rfl) (hval 0 37 v0 rfl rfl) h0
  clear hA0 hval0
  refine (walk v0 W w0).mono fun e W' ⟨he, bel⟩ => ?_
  subst he
  exact ⟨_, rfl, _, _, _, [], _, [], hW', trodAll_mk1 (shut_bool Try.underlying4 _), (trodAll_cons_mk (Below.trod laidOut (by kernel_rfl) (of_decide_eq_true (by kernel_rfl)) k0 bel lt0) trodAll_mk0), rfl, bel.frame _, fun h => by cases h⟩
theorem over : Rows.fnStackEndRow.holds Try.pinned (OpenSpec.ofChange Rows.fnStackEndSpec) :=
  OpenClaim.holds_of_wide 6 Try.f6 rfl rfl rfl rfl rfl rfl rfl ⟨rfl, rfl, rfl, rfl, rfl⟩ rfl rfl rfl rfl rfl (by kernel_rfl) Try.func6 (by kernel_rfl)
    (of_decide_eq_true (by kernel_rfl)) (by unfold Func.isWrapper; first | (rw [if_pos (by decide +kernel)]; kernel_rfl) | (rw [if_neg (by decide +kernel)]; exact ⟨rfl, rfl⟩))
    (fun os started H enc _ => lifted os started H enc)
end Go.Proofs.Ythcnmhjfapoaiaa.lawFnStackEnd
namespace Go.Proofs.Ythcnmhjfapoaiaa
/-- The statement. -/
theorem FnStackEnd_proved : Rows.FnStackEndSaid := lawFnStackEnd.over
#print axioms FnStackEnd_proved
end Go.Proofs.Ythcnmhjfapoaiaa
