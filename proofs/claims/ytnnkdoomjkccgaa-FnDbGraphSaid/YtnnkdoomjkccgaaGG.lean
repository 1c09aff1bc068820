/- Graphs of the laws: sizes, copies, comparisons, marks. -/
import Derived.Test.YtnnkdoomjkccgaaGLink
import Derived.Test.YtnnkdoomjkccgaaGValid
namespace Go.Proofs.Ytnnkdoomjkccgaa
set_option linter.unusedSimpArgs false
set_option linter.unusedVariables false
open Go.RowKit

def MadeGraph (w : World) (n : Int) (ls : List (Int × Int × Int)) (e : Ending) (w' : World) : Prop := ∃ u, e = .returned (.agg #[.int .i64 n, u]) ∧ OwnR w' w.heap.size w'.heap.size 46 3 u ls.length (cells3 ls) ∧ Below w.heap.size w w'
theorem szGraph (n : Int) (ls : List (Int × Int × Int)) (v : Value) (left : Int) (w : World) (hv : TriplesAt w v ls) (h0 : 0 ≤ left) (h1 : left ≤ 1048576) :
    Calls Try.prog 28 #[.agg #[.int .i64 n, v], .int .i64 left] w fun e w' => e = .returned (.int .i64 (leftOf ls.length left)) ∧ Below w.heap.size w w' := by
  have hv1 : ∀ a, TriplesAt (w.alloc a) v ls := fun a => hv.below ((Below.refl _ _).alloc (Nat.le_refl _) _) (Nat.le_refl _)
  have HV := Lib.hid hv1
  obtain ⟨va, vn, vc, rfl⟩ := hv.form
  clear hv hv1
  by_cases hl : (ls.length : Int) ≤ left
  all_goals
    have hr : Hid (leftOf ls.length left = if (ls.length : Int) ≤ left then left - ls.length else -1) := Lib.hid rfl
    have hL := Lib.hid hl
    obtain ⟨r, hr2⟩ : ∃ r, (if (ls.length : Int) ≤ left then left - ls.length else -1) = r := ⟨_, rfl⟩
    have hR := Lib.hid hr2
  · have hp : 0 ≤ r := by rw [← hr2, if_pos hl]; omega
    clear hr2 hl
    go_enter Try.func28, Try.ntmps28
    go_wp2_with (go_at_call 62; refine (szLinkS ls _ left _ (HV.out _) h0 h1).mono ?_; rw [hR.out]; rintro e w' ⟨rfl, rfl⟩)
    go_ret
    exact ⟨ret_int (by rw [hr.out, hR.out]), (by with_reducible (repeat (first | (refine below_drewN ?_ _) | (refine Below.drew ?_) | (refine below_alloc ?_ (by first | omega | (simp; done) | (simp; omega)) _) | (refine Below.setCell ?_ (by first | omega | (simp; done) | (simp; omega)) _) | exact Below.refl _ _ | assumption | (refine below_call ?_ (by first | omega | (simp; done) | (simp; omega)) (by assumption)))))⟩
  · have hp : r = -1 := by rw [← hr2, if_neg hl]
    subst hp
    clear hr2 hl
    go_enter Try.func28, Try.ntmps28
    go_wp2_with (go_at_call 62; refine (szLinkS ls _ left _ (HV.out _) h0 h1).mono ?_; rw [hR.out]; rintro e w' ⟨rfl, rfl⟩)
    go_ret
    exact ⟨ret_int (by rw [hr.out, hR.out]), (by with_reducible (repeat (first | (refine below_drewN ?_ _) | (refine Below.drew ?_) | (refine below_alloc ?_ (by first | omega | (simp; done) | (simp; omega)) _) | (refine Below.setCell ?_ (by first | omega | (simp; done) | (simp; omega)) _) | exact Below.refl _ _ | assumption | (refine below_call ?_ (by first | omega | (simp; done) | (simp; omega)) (by assumption)))))⟩
theorem toGraph (n : Int) (ls : List (Int × Int × Int)) (v : Value) (w : World) (hv : TriplesAt w v ls) (hl : ls.length ≤ 1048576) :
    Calls Try.prog 29 #[.agg #[.int .i64 n, v]] w (MadeGraph w n ls) := by
  have hv1 : ∀ a b c, TriplesAt (((w.alloc a).alloc b).alloc c) v ls := fun a b c => hv.below ((((Below.refl _ _).alloc (Nat.le_refl _) _).alloc (by simp) _).alloc (by simp; omega) _) (Nat.le_refl _)
  have HV := Lib.hid hv1
  have HL := Lib.hid hl
  obtain ⟨va, cap, bl, off, rfl, hcap, hmax, hu, hc⟩ := hv
  obtain ⟨vn, hvn⟩ : ∃ m, ls.length = m := ⟨_, rfl⟩
  rw [hvn] at HV ⊢
  clear hu hc hmax hcap hv1 hl hvn
  go_enter Try.func29, Try.ntmps29
  go_wp2_with fail
  refine (toLinkS ls _ _ (HV.out _ _ _) HL.out).mono ?_
  rintro e w1 ⟨u, rfl, hO, hb⟩
  have B1 := (((box_new (w.alloc (.cells #[.int .i64 n, .slice va vn cap] 59)) #[.int .i64 0, .slice none 0 0] 26).alloc (.cells #[.int .i64 n, .slice none 0 0] 26)).below hb (by simp))
  have B2 := ((box_new ((w.alloc (.cells #[.int .i64 n, .slice va vn cap] 59)).alloc (.cells #[.int .i64 0, .slice none 0 0] 26)) #[.int .i64 n, .slice none 0 0] 26).below hb (by simp))
  simp only [World.size_alloc] at B1 B2
  have hW : Below w.heap.size w w1 := (Below.alloc (Below.alloc (Below.alloc (Below.refl w.heap.size w) (Nat.le_refl _) _) (by simp) _) (by simp; omega) _).trans (hb.mono (by simp; omega))
  obtain ⟨c0, c1, f0, f1, l1⟩ := box2 B1
  obtain ⟨d0, d1, g0, g1, l2⟩ := box2 B2
  have HO := Lib.hid hO
  have HW := Lib.hid hW
  have HB := Lib.hid hb
  clear B1 B2 hO hW hb
  obtain ⟨ua, uc, rfl⟩ := own_slice HO.out.1
  go_wp2_with fail
  apply bodyPost_ret
  · simp [results, Try.results29, go_sem, c0, c1]
    rfl
  · rfl
  · have hW := HW.out
    have hO := HO.out
    simp only [World.size_alloc] at hO
    refine ⟨_, rfl, ?_, (by with_reducible (repeat (first | (refine below_drewN ?_ _) | (refine Below.drew ?_) | (refine below_alloc ?_ (by first | omega | (simp; done) | (simp; omega)) _) | (refine Below.setCell ?_ (by first | omega | (simp; done) | (simp; omega)) _) | exact Below.refl _ _ | assumption | (refine below_call ?_ (by first | omega | (simp; done) | (simp; omega)) (by assumption)))))⟩
    refine OwnR.mono (lo := w.heap.size + 1 + 1 + 1) (hi := w1.heap.size) ?_ (by omega) (by simp)
    with_reducible (repeat (first | exact hO | (refine OwnR.set ?_ (by first | (simp; done) | (simp; omega)) _)))
theorem eqGraph (n n' : Int) (xs ys : List (Int × Int × Int)) (v u : Value) (w : World) (hv : TriplesAt w v xs) (hu : TriplesAt w u ys) :
    Calls Try.prog 13 #[.agg #[.int .i64 n, v], .agg #[.int .i64 n', u]] w fun e w' => e = .returned (.bool (eqB (n, xs) (n', ys))) ∧ Below w.heap.size w w' := by
  have hv2 : ∀ a b, TriplesAt ((w.alloc a).alloc b) v xs := fun a b => hv.below (((Below.refl _ _).alloc (Nat.le_refl _) _).alloc (by simp) _) (Nat.le_refl _)
  have hu2 : ∀ a b, TriplesAt ((w.alloc a).alloc b) u ys := fun a b => hu.below (((Below.refl _ _).alloc (Nat.le_refl _) _).alloc (by simp) _) (Nat.le_refl _)
  have HV := Lib.hid hv2; have HU := Lib.hid hu2
  obtain ⟨va, cap, bl, off, rfl, _, _, _, _⟩ := hv
  obtain ⟨ua, cap2, bl2, off2, rfl, _, _, _, _⟩ := hu
  clear hv2 hu2
  obtain ⟨m1, hm1⟩ : ∃ m, xs.length = m := ⟨_, rfl⟩
  obtain ⟨m2, hm2⟩ : ∃ m, ys.length = m := ⟨_, rfl⟩
  rw [hm1] at HV ⊢
  rw [hm2] at HU ⊢
  clear hm1 hm2
  rcases Bool.eq_false_or_eq_true (n == n') with h | h
  all_goals
    have h1 : (n != n') = !(n == n') := rfl
    rw [h] at h1
    rcases Bool.eq_false_or_eq_true (eqB xs ys) with e | e
    all_goals
      have HE := Lib.hid e
      go_enter Try.func13, Try.ntmps13
      go_wp2_with (go_at_call 44; refine (eqLinkS xs ys _ _ _ (HV.out _ _) (HU.out _ _)).mono ?_; rintro e w' ⟨rfl, hb⟩)
      go_ret
      exact ⟨ret_bool (by have := HE.out; simp at h; simp [eqB] at this; simp [eqB, h, this]), (by with_reducible (repeat (first | (refine below_drewN ?_ _) | (refine Below.drew ?_) | (refine below_alloc ?_ (by first | omega | (simp; done) | (simp; omega)) _) | (refine Below.setCell ?_ (by first | omega | (simp; done) | (simp; omega)) _) | exact Below.refl _ _ | assumption | (refine below_call ?_ (by first | omega | (simp; done) | (simp; omega)) (by assumption)))))⟩
theorem markGraph_any (lo hi : Nat) (x : Int) (v : Value) (n : Nat) (xs : List Value) (k : Int) (w : World) (h : OwnR w lo hi 46 3 v n xs) (hk : 0 ≤ k) (hk1 : k + 3 * n ≤ 1000000000000) : Calls Try.prog 16 #[.agg #[.int .i64 x, v], .int .i64 k] w fun e w' => e = .returned (.int .i64 (k + 3 * n)) ∧ Btw lo hi w w' := by
  obtain ⟨a, c, rfl⟩ := own_slice h.1
  have H := Lib.hid (h.alloc (.cells #[.int .i64 x, .slice a n c] 26))
  have HL := Lib.hid h.lt
  clear h
  go_enter Try.func16, Try.ntmps16
  go_wp2_with fail
  refine (markLinkS_any lo hi _ n xs k _ H.out hk hk1).mono ?_
  rintro e w1 ⟨rfl, hO, hg⟩
  have hb : Btw lo hi w w1 := (Btw.of_below ((Below.refl _ w).alloc (Nat.le_refl _) _)).trans (Btw.grown hg fun g hg' => by have := HL.out g hg'; omega)
  have HB := Lib.hid hb
  clear hO hg hb
  go_wp2_with fail
  go_ret
  exact ⟨rfl, HB.out⟩
end Go.Proofs.Ytnnkdoomjkccgaa
