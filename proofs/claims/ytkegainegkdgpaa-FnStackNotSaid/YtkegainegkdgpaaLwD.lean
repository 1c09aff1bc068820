/- Distances, dist, GraphLink and ShortestPath for a valid graph; the costs of a packet. -/
import Derived.Test.YtkegainegkdgpaaLwS
import Derived.Test.YtkegainegkdgpaaStkCostS
namespace Go.Proofs.Ytkegainegkdgpaa
set_option linter.unusedSimpArgs false
set_option linter.unusedVariables false
open Go.RowKit

set_option maxRecDepth 100000 in
set_option maxHeartbeats 1000000 in
theorem iGraphLink (n : Int) (ls : List LinkD) (a b : Int) (v : Value) (w : World) (hv : TriplesAt w v ls) (h : GOk n ls) :
    Calls Try.prog 18 #[.agg #[.int .i64 n, v], .int .i64 a, .int .i64 b] w fun e w' => e = .returned (.int .i64 (lkOf ls a b)) ∧ Below w.heap.size w w' := by
  have HV := Lib.hid hv
  obtain ⟨va, vm, vc, rfl⟩ := hv.form
  have hg := gOk_iff.2 h
  have HGN := Lib.hid hg
  have hl := h.len
  have HG := Lib.hid h
  clear hv h hg
  go_enter Try.func18, Try.ntmps18
  go_wp2_with fail
  refine (iGraphValid n ls _ _ (HV.out.below (by with_reducible (repeat (first | (refine below_drewN ?_ _) | (refine Below.drew ?_) | (refine below_alloc ?_ (by first | omega | (simp; done) | (simp; omega)) _) | (refine Below.setCell ?_ (by first | omega | (simp; done) | (simp; omega)) _) | exact Below.refl _ _ | assumption | (refine below_call ?_ (by first | omega | (simp; done) | (simp; omega)) (by assumption))))) (Nat.le_refl _))).mono ?_
  rw [HGN.out]
  rintro e w1 ⟨rfl, hb⟩
  have G := Lib.hid (Box.call (b := w.heap.size) (c := #[.int .i64 n, .slice va vm vc]) (t := 25) hb (by with_reducible (repeat (first | (refine box_at _ _ _ ?_; first | rfl | (simp; done)) | apply Box.alloc | apply Box.drewN | apply Box.drew))))
  obtain ⟨G_0, G_1, G_2, G_3, G_4⟩ := box2 G.out
  have BW := Lib.hid (below_call (B := w.heap.size) (a := w) (by with_reducible (repeat (first | (refine below_drewN ?_ _) | (refine Below.drew ?_) | (refine below_alloc ?_ (by first | omega | (simp; done) | (simp; omega)) _) | (refine Below.setCell ?_ (by first | omega | (simp; done) | (simp; omega)) _) | exact Below.refl _ _ | assumption | (refine below_call ?_ (by first | omega | (simp; done) | (simp; omega)) (by assumption))))) (Nat.le_refl _) hb)
  clear hb
  go_wp2_with fail
  refine (iLinkOf n ls a b _ _ (HV.out.below BW.out (Nat.le_refl _)) (by omega)).mono ?_
  rintro e w2 ⟨rfl, hb⟩
  have BW2 := Lib.hid (BW.out.trans (hb.mono BW.out.size))
  clear hb
  go_wp2_with fail
  go_ret
  exact ⟨rfl, BW2.out⟩
theorem iCostNo {n : Int} {ls : List LinkD} {a : Int} {s : List LabelD} {v u : Value} {w : World} (hq : stkOf n ls a s = none) (hv : TriplesAt w v ls) (hu : PairsAt w u s) :
    Calls Try.prog 19 #[.agg #[.int .i64 n, v], .int .i64 a, u] w fun e w' => e = .returned (.int .i64 (-1)) ∧ Below w.heap.size w w' := by
  have h := iStackCost n ls a s v u w hv hu
  rw [show costV n ls a s = -1 by unfold costV; rw [hq]] at h
  exact h
theorem iCostYes {n : Int} {ls : List LinkD} {a : Int} {s : List LabelD} {v u : Value} {w : World} {q : List Int} {z : Int} (hq : stkOf n ls a s = some q) (hz : stkCost n ls a s = z) (hv : TriplesAt w v ls) (hu : PairsAt w u s) :
    Calls Try.prog 19 #[.agg #[.int .i64 n, v], .int .i64 a, u] w fun e w' => e = .returned (.int .i64 z) ∧ Below w.heap.size w w' := by
  have h := iStackCost n ls a s v u w hv hu
  rw [show costV n ls a s = z by unfold costV; rw [hq]; exact hz] at h
  exact h
theorem sCostNo {n : Int} {ls : List LinkD} {a : Int} {s : List LabelD} {v u : Value} {w : World} (hq : stkOf n ls a s = none) (hv : TriplesAt w v ls) (hu : PairsAt w u s) :
    Calls Try.prog 21 #[.agg #[.int .i64 n, v], .int .i64 a, u] w fun e w' => e = .returned (.int .i64 (-1)) ∧ Below w.heap.size w w' := by
  have h := sStackCost n ls a s v u w hv hu
  rw [show costV n ls a s = -1 by unfold costV; rw [hq]] at h
  exact h
theorem sCostYes {n : Int} {ls : List LinkD} {a : Int} {s : List LabelD} {v u : Value} {w : World} {q : List Int} {z : Int} (hq : stkOf n ls a s = some q) (hz : stkCost n ls a s = z) (hv : TriplesAt w v ls) (hu : PairsAt w u s) :
    Calls Try.prog 21 #[.agg #[.int .i64 n, v], .int .i64 a, u] w fun e w' => e = .returned (.int .i64 z) ∧ Below w.heap.size w w' := by
  have h := sStackCost n ls a s v u w hv hu
  rw [show costV n ls a s = z by unfold costV; rw [hq]; exact hz] at h
  exact h
end Go.Proofs.Ytkegainegkdgpaa
