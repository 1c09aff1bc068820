/- The other end of a link; rows of integers at a place. -/
import Derived.Test.YtnnkdoomjkccgaaGrAll
import Derived.Test.YtnnkdoomjkccgaaMakeI
namespace Go.Proofs.Ytnnkdoomjkccgaa
set_option linter.unusedSimpArgs false
set_option linter.unusedVariables false
open Go.RowKit

theorem own_pos {w : World} {base : Nat} {e : TypeId} {size : Nat} {v : Value} {n : Nat} {xs : List Value} (h : w.ownsRow base e size v n xs) (hn : 0 < n) : ∃ g c, v = .slice (some ⟨g, 0, none⟩) n c ∧ base ≤ g := by
  rcases h.2 with ⟨_, h0⟩ | ⟨g, cap, cur, rfl, h1, _⟩
  · omega
  · exact ⟨_, _, rfl, h1⟩
theorem own_lit1 {w : World} {b base : Nat} {x : Value} {t : TypeId} (h : Box w b #[x] t) (hb : base ≤ b) : w.ownsRow base t 1 (.slice (some ⟨b, 0, none⟩) 1 1) 1 [x] :=
  ⟨by simp, .inr ⟨b, 1, #[x], rfl, hb, h, Nat.le_refl _, by unfold maxLen; omega, by simp, by simp⟩⟩
theorem own_at {w : World} {lo g n cap : Nat} {q : List Int} (h : w.ownsRow lo 3 1 (.slice (some ⟨g, 0, none⟩) n cap) n (q.map (Value.int .i64))) {k : Nat} {x : Int} (hk : q[k]? = some x) : w.cell? ⟨g, k, none⟩ = some (.int .i64 x) ∧ w.frozen? ⟨g, k, none⟩ = false := by
  have hl : k < n := by
    have h1 := (List.getElem?_eq_some_iff.1 hk).1
    have h2 := h.1
    simp at h2; omega
  refine ⟨(h.cellAt k (by omega)).trans ?_, h.frozenAt _⟩
  rw [List.getElem?_map, hk]; rfl
theorem row_at {w : World} {lo g n cap : Nat} {d : List Int} {x : Int} (h : w.ownsRow lo 3 1 (.slice (some ⟨g, 0, none⟩) n cap) n (d.map (Value.int .i64))) (hd : d.length = n) (hx : nd n x) : w.cell? ⟨g, x.toNat, none⟩ = some (.int .i64 (atD d x)) ∧ w.frozen? ⟨g, x.toNat, none⟩ = false := by
  obtain ⟨h1, h2⟩ := hx
  refine ⟨(h.cellAt x.toNat (by omega)).trans ?_, h.frozenAt _⟩
  rw [List.getElem?_map, List.getElem?_eq_getElem (by omega)]
  simp [atD, List.getD_eq_getElem?_getD, List.getElem?_eq_getElem (show x.toNat < d.length by omega)]
theorem row_set {w : World} {lo g n cap : Nat} {d : List Int} (h : w.ownsRow lo 3 1 (.slice (some ⟨g, 0, none⟩) n cap) n (d.map (Value.int .i64))) (k : Nat) (u : Int) : (w.setCell ⟨g, k, none⟩ (.int .i64 u)).ownsRow lo 3 1 (.slice (some ⟨g, 0, none⟩) n cap) n ((d.set k u).map (Value.int .i64)) := by
  rw [List.map_set]
  exact (h.stored k (.int .i64 u)).1
theorem iOther (x y z a : Int) (w : World) : Calls Try.prog 78 #[.agg #[.int .i64 x, .int .i64 y, .int .i64 z], .int .i64 a] w fun e w' =>
    e = .returned (.tuple #[.int .i64 ((otherEnd (x, y, z) a).getD 0), .bool (otherEnd (x, y, z) a).isSome]) ∧ Below w.heap.size w w' := by
  by_cases h1 : a = x
  · subst h1
    have e : otherEnd (a, y, z) a = some y := by unfold otherEnd; rw [if_pos rfl]
    rw [e]
    have b1 : (a == a) = true := by simp
    go_enter Try.func78, Try.ntmps78
    go_wp2_with fail
    go_ret2
    exact ⟨rfl, (by with_reducible (repeat (first | (refine below_drewN ?_ _) | (refine Below.drew ?_) | (refine below_alloc ?_ (by first | omega | (simp; done) | (simp; omega)) _) | (refine Below.setCell ?_ (by first | omega | (simp; done) | (simp; omega)) _) | exact Below.refl _ _ | assumption | (refine below_call ?_ (by first | omega | (simp; done) | (simp; omega)) (by assumption)))))⟩
  · have b1 : (a == x) = false := by simpa using h1
    by_cases h2 : a = y
    · subst h2
      have e : otherEnd (x, a, z) a = some x := by unfold otherEnd; rw [if_neg h1, if_pos rfl]
      rw [e]
      have b2 : (a == a) = true := by simp
      go_enter Try.func78, Try.ntmps78
      go_wp2_with fail
      go_ret2
      exact ⟨rfl, (by with_reducible (repeat (first | (refine below_drewN ?_ _) | (refine Below.drew ?_) | (refine below_alloc ?_ (by first | omega | (simp; done) | (simp; omega)) _) | (refine Below.setCell ?_ (by first | omega | (simp; done) | (simp; omega)) _) | exact Below.refl _ _ | assumption | (refine below_call ?_ (by first | omega | (simp; done) | (simp; omega)) (by assumption)))))⟩
    · have b2 : (a == y) = false := by simpa using h2
      have e : otherEnd (x, y, z) a = none := by unfold otherEnd; rw [if_neg h1, if_neg h2]
      rw [e]
      go_enter Try.func78, Try.ntmps78
      go_wp2_with fail
      go_ret2
      exact ⟨rfl, (by with_reducible (repeat (first | (refine below_drewN ?_ _) | (refine Below.drew ?_) | (refine below_alloc ?_ (by first | omega | (simp; done) | (simp; omega)) _) | (refine Below.setCell ?_ (by first | omega | (simp; done) | (simp; omega)) _) | exact Below.refl _ _ | assumption | (refine below_call ?_ (by first | omega | (simp; done) | (simp; omega)) (by assumption)))))⟩
end Go.Proofs.Ytnnkdoomjkccgaa
