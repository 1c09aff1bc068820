/- The end of a stack: StackEnd of the program and of the reference. -/
import Derived.Test.YthcnmhjfapoaiaaStkS
namespace Go.Proofs.Ythcnmhjfapoaiaa
set_option linter.unusedSimpArgs false
set_option linter.unusedVariables false
open Go.RowKit

def endV (n : Int) (ls : List LinkD) (a : Int) (s : List LabelD) : Int := match stkOf n ls a s with | none => 0 | some q => lastN a q
structure StkFacts (n : Int) (ls : List LinkD) (a : Int) (s : List LabelD) (q : List Int) : Prop where
  ok : GOk n ls
  nd : nd n.toNat a
  len : s.length ≤ 8
  run : stkL n ls a s = some q
  qlen : q.length = s.length
  last : Go.Proofs.Ythcnmhjfapoaiaa.nd n.toNat (lastN a q)
theorem stkOf_some {n : Int} {ls : List LinkD} {a : Int} {s : List LabelD} {q : List Int} (h : stkOf n ls a s = some q) : StkFacts n ls a s q := by
  have h' := h
  unfold stkOf at h'
  split at h'
  · rename_i hc
    simp only [Bool.and_eq_true, decide_eq_true_iff] at hc
    have hg := gOk_iff.1 hc.1.2
    have hi := inB_iff.1 hc.2
    have hn := hg.nN.2 (show 0 ≤ a ∧ a < n by omega)
    have hw := stk_walk hg hn h'
    exact ⟨hg, hn, hc.1.1, h', hw.2.2.2.1, hw.2.2.2.2⟩
  · cases h'
set_option maxRecDepth 100000 in
theorem iStackEnd (n : Int) (ls : List LinkD) (a : Int) (s : List LabelD) (v u : Value) (w : World) (hv : TriplesAt w v ls) (hu : PairsAt w u s) :
    Calls Try.prog 26 #[.agg #[.int .i64 n, v], .int .i64 a, u] w fun e w' => e = .returned (.tuple #[.int .i64 (endV n ls a s), .bool (stkOf n ls a s).isSome]) ∧ Below w.heap.size w w' := by
  have HV := Lib.hid hv; have HU := Lib.hid hu
  obtain ⟨va, vm, vcap, rfl⟩ := hv.form
  obtain ⟨ua, um, ucap, rfl⟩ := hu.form
  clear hv hu
  go_enter Try.func26, Try.ntmps26
  go_wp2_with fail
  refine (iStk n ls a s _ _ _ (HV.out.below (by with_reducible (repeat (first | (refine below_drewN ?_ _) | (refine Below.drew ?_) | (refine below_alloc ?_ (by first | omega | (simp; done) | (simp; omega)) _) | (refine Below.setCell ?_ (by first | omega | (simp; done) | (simp; omega)) _) | exact Below.refl _ _ | assumption | (refine below_call ?_ (by first | omega | (simp; done) | (simp; omega)) (by assumption))))) (Nat.le_refl _)) (HU.out.below (by with_reducible (repeat (first | (refine below_drewN ?_ _) | (refine Below.drew ?_) | (refine below_alloc ?_ (by first | omega | (simp; done) | (simp; omega)) _) | (refine Below.setCell ?_ (by first | omega | (simp; done) | (simp; omega)) _) | exact Below.refl _ _ | assumption | (refine below_call ?_ (by first | omega | (simp; done) | (simp; omega)) (by assumption))))) (Nat.le_refl _))).mono ?_
  rintro e w1 ⟨hno, hyes, hb⟩
  have BW := Lib.hid (below_call (B := w.heap.size) (a := w) (by with_reducible (repeat (first | (refine below_drewN ?_ _) | (refine Below.drew ?_) | (refine below_alloc ?_ (by first | omega | (simp; done) | (simp; omega)) _) | (refine Below.setCell ?_ (by first | omega | (simp; done) | (simp; omega)) _) | exact Below.refl _ _ | assumption | (refine below_call ?_ (by first | omega | (simp; done) | (simp; omega)) (by assumption))))) (Nat.le_refl _) hb)
  clear hb
  rcases hs : stkOf n ls a s with _ | q
  · obtain ⟨A, m, c, rfl⟩ := hno hs
    clear hno hyes
    have HS := Lib.hid hs
    clear hs
    go_wp2_with fail
    go_ret2
    exact ⟨(by show Ending.returned (.tuple #[.int .i64 0, .bool false]) = _; rw [endV, HS.out]; rfl), BW.out⟩
  · obtain ⟨v, rfl, hO⟩ := hyes q hs
    clear hno hyes
    have HS := Lib.hid hs
    clear hs
    obtain ⟨g, c, rfl, _⟩ := own_pos hO.1 (by omega)
    obtain ⟨r0, r1⟩ := own_at hO.1 (lastN_at a q)
    have hq8 : q.length ≤ 8 := by have h := stkOf_some HS.out; have := h.len; have := h.qlen; omega
    have w1' : IntKind.i64.wrap (((q.length + 1 : Nat) : Int) - 1) = (q.length : Int) := by rw [IntWalk.i64_in _ (by omega)]; omega
    have w2' : (q.length : Int) < (((q.length + 1 : Nat)) : Int) := by omega
    have w4' : (0:Int) ≤ (q.length : Int) := by omega
    clear hO
    go_wp2_with fail
    go_ret2
    exact ⟨(by show Ending.returned (.tuple #[.int .i64 (lastN a q), .bool true]) = _; rw [endV, HS.out]; rfl), BW.out⟩
set_option maxRecDepth 100000 in
theorem sStackEnd (n : Int) (ls : List LinkD) (a : Int) (s : List LabelD) (v u : Value) (w : World) (hv : TriplesAt w v ls) (hu : PairsAt w u s) :
    Calls Try.prog 27 #[.agg #[.int .i64 n, v], .int .i64 a, u] w fun e w' => e = .returned (.tuple #[.int .i64 (endV n ls a s), .bool (stkOf n ls a s).isSome]) ∧ Below w.heap.size w w' := by
  have HV := Lib.hid hv; have HU := Lib.hid hu
  obtain ⟨va, vm, vcap, rfl⟩ := hv.form
  obtain ⟨ua, um, ucap, rfl⟩ := hu.form
  clear hv hu
  go_enter Try.func27, Try.ntmps27
  go_wp2_with fail
  refine (sStk n ls a s _ _ _ (HV.out.below (by with_reducible (repeat (first | (refine below_drewN ?_ _) | (refine Below.drew ?_) | (refine below_alloc ?_ (by first | omega | (simp; done) | (simp; omega)) _) | (refine Below.setCell ?_ (by first | omega | (simp; done) | (simp; omega)) _) | exact Below.refl _ _ | assumption | (refine below_call ?_ (by first | omega | (simp; done) | (simp; omega)) (by assumption))))) (Nat.le_refl _)) (HU.out.below (by with_reducible (repeat (first | (refine below_drewN ?_ _) | (refine Below.drew ?_) | (refine below_alloc ?_ (by first | omega | (simp; done) | (simp; omega)) _) | (refine Below.setCell ?_ (by first | omega | (simp; done) | (simp; omega)) _) | exact Below.refl _ _ | assumption | (refine below_call ?_ (by first | omega | (simp; done) | (simp; omega)) (by assumption))))) (Nat.le_refl _))).mono ?_
  rintro e w1 ⟨hno, hyes, hb⟩
  have BW := Lib.hid (below_call (B := w.heap.size) (a := w) (by with_reducible (repeat (first | (refine below_drewN ?_ _) | (refine Below.drew ?_) | (refine below_alloc ?_ (by first | omega | (simp; done) | (simp; omega)) _) | (refine Below.setCell ?_ (by first | omega | (simp; done) | (simp; omega)) _) | exact Below.refl _ _ | assumption | (refine below_call ?_ (by first | omega | (simp; done) | (simp; omega)) (by assumption))))) (Nat.le_refl _) hb)
  clear hb
  rcases hs : stkOf n ls a s with _ | q
  · obtain ⟨A, m, c, rfl⟩ := hno hs
    clear hno hyes
    have HS := Lib.hid hs
    clear hs
    go_wp2_with fail
    go_ret2
    exact ⟨(by show Ending.returned (.tuple #[.int .i64 0, .bool false]) = _; rw [endV, HS.out]; rfl), BW.out⟩
  · obtain ⟨v, rfl, hO⟩ := hyes q hs
    clear hno hyes
    have HS := Lib.hid hs
    clear hs
    obtain ⟨g, c, rfl, _⟩ := own_pos hO.1 (by omega)
    obtain ⟨r0, r1⟩ := own_at hO.1 (lastN_at a q)
    have hq8 : q.length ≤ 8 := by have h := stkOf_some HS.out; have := h.len; have := h.qlen; omega
    have w1' : IntKind.i64.wrap (((q.length + 1 : Nat) : Int) - 1) = (q.length : Int) := by rw [IntWalk.i64_in _ (by omega)]; omega
    have w2' : (q.length : Int) < (((q.length + 1 : Nat)) : Int) := by omega
    have w4' : (0:Int) ≤ (q.length : Int) := by omega
    clear hO
    go_wp2_with fail
    go_ret2
    exact ⟨(by show Ending.returned (.tuple #[.int .i64 (lastN a q), .bool true]) = _; rw [endV, HS.out]; rfl), BW.out⟩
end Go.Proofs.Ythcnmhjfapoaiaa
