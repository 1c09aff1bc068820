/- Nodes and links of a graph. -/
import Derived.Test.YtnnkdoomjkccgaaGValidS
namespace Go.Proofs.Ytnnkdoomjkccgaa
set_option linter.unusedSimpArgs false
set_option linter.unusedVariables false
open Go.RowKit

theorem box2F {I : Type} {φ : I → World} {b : Nat} {x y : Value} {t : TypeId} (h : ∀ i, Box (φ i) b #[x, y] t) : (∀ i, (φ i).cell? ⟨b, 0, none⟩ = some x) ∧ (∀ i, (φ i).cell? ⟨b, 1, none⟩ = some y) ∧ (∀ i, (φ i).frozen? ⟨b, 0, none⟩ = false) ∧ (∀ i, (φ i).frozen? ⟨b, 1, none⟩ = false) ∧ (∀ i, b < (φ i).heap.size) :=
  ⟨fun i => (box2 (h i)).1, fun i => (box2 (h i)).2.1, fun i => (box2 (h i)).2.2.1, fun i => (box2 (h i)).2.2.2.1, fun i => (box2 (h i)).2.2.2.2⟩
theorem gOk_n {n : Int} {ls : List LinkD} (h : gOk n ls = true) : 1 ≤ n ∧ n ≤ 8 := by
  have := gOk_iff.1 h
  exact ⟨this.n1, this.n8⟩
theorem iHasNode (n x : Int) (ls : List LinkD) (v : Value) (w : World) (hv : TriplesAt w v ls) :
    Calls Try.prog 56 #[.agg #[.int .i64 n, v], .int .i64 x] w fun e w' => e = .returned (.bool (gOk n ls && inB x 0 (n - 1))) ∧ Below w.heap.size w w' := by
  have HV := Lib.hid hv
  obtain ⟨u, m, cap, rfl⟩ := hv.form
  clear hv
  go_enter Try.func56, Try.ntmps56
  go_wp2_with fail
  refine (iGraphValid n ls _ _ (HV.out.below (by with_reducible (repeat (first | (refine below_drewN ?_ _) | (refine Below.drew ?_) | (refine below_alloc ?_ (by first | omega | (simp; done) | (simp; omega)) _) | (refine Below.setCell ?_ (by first | omega | (simp; done) | (simp; omega)) _) | exact Below.refl _ _ | assumption | (refine below_call ?_ (by first | omega | (simp; done) | (simp; omega)) (by assumption))))) (Nat.le_refl _))).mono ?_
  rintro e w1 ⟨rfl, hb⟩
  have G := Lib.hid (Box.call (b := w.heap.size) (c := #[.int .i64 n, .slice u m cap]) (t := 26) hb (by with_reducible (repeat (first | (refine box_at _ _ _ ?_; first | rfl | (simp; done)) | apply Box.alloc | apply Box.drewN | apply Box.drew))))
  obtain ⟨G_0, G_1, G_2, G_3, G_4⟩ := box2 G.out
  have BW := Lib.hid (below_call (B := w.heap.size) (a := w) (by with_reducible (repeat (first | (refine below_drewN ?_ _) | (refine Below.drew ?_) | (refine below_alloc ?_ (by first | omega | (simp; done) | (simp; omega)) _) | (refine Below.setCell ?_ (by first | omega | (simp; done) | (simp; omega)) _) | exact Below.refl _ _ | assumption | (refine below_call ?_ (by first | omega | (simp; done) | (simp; omega)) (by assumption))))) (Nat.le_refl _) hb)
  clear hb
  obtain ⟨g, hg⟩ : ∃ g, gOk n ls = g := ⟨_, rfl⟩
  have HG := Lib.hid hg
  rw [hg]
  cases g with
  | false =>
    clear hg
    go_wp2_with fail
    go_ret
    exact ⟨ret_bool (by rw [HG.out]; simp), BW.out⟩
  | true =>
    have hn := gOk_n hg
    have hw : IntKind.i64.wrap (n - 1) = n - 1 := IntWalk.i64_in _ (by omega)
    clear hg
    go_wp2_with (go_at_call 41; refine (within_any _ _ _ _).mono ?_; rintro e w' ⟨rfl, rfl⟩)
    go_ret
    exact ⟨ret_bool (by rw [HG.out]; simp), BW.out⟩
theorem sNode (n x : Int) (v : Value) (w : World) (hn : 1 ≤ n) (h8 : n ≤ 8) : Calls Try.prog 58 #[.agg #[.int .i64 n, v], .int .i64 x] w fun e w' => e = .returned (.bool (inB x 0 (n - 1))) ∧ Below w.heap.size w w' := by
  have hw : IntKind.i64.wrap (n - 1) = n - 1 := IntWalk.i64_in _ (by omega)
  go_enter Try.func58, Try.ntmps58
  go_wp2_with (go_at_call 37; refine (l6In_any _ _ _ _).mono ?_; rintro e w' ⟨rfl, rfl⟩)
  go_ret
  exact ⟨rfl, (by with_reducible (repeat (first | (refine below_drewN ?_ _) | (refine Below.drew ?_) | (refine below_alloc ?_ (by first | omega | (simp; done) | (simp; omega)) _) | (refine Below.setCell ?_ (by first | omega | (simp; done) | (simp; omega)) _) | exact Below.refl _ _ | assumption | (refine below_call ?_ (by first | omega | (simp; done) | (simp; omega)) (by assumption)))))⟩
end Go.Proofs.Ytnnkdoomjkccgaa
