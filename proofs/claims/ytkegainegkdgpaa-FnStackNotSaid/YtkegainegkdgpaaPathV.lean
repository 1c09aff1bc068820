/- PathValid of the program and of the reference: pathOk. -/
import Derived.Test.YtkegainegkdgpaaNodes
import Derived.Test.YtkegainegkdgpaaLk
namespace Go.Proofs.Ytkegainegkdgpaa
set_option linter.unusedSimpArgs false
set_option linter.unusedVariables false
open Go.RowKit

def chainB (ls : List LinkD) (path : List Int) (k : Nat) : Bool := decide (0 ≤ lkOf ls (path.getD k 0) (path.getD (k + 1) 0))
theorem pathOk_eq (n : Int) (ls : List LinkD) (path : List Int) : pathOk n ls path = (gOk n ls && inB path.length 1 9 && inB (path.getD 0 0) 0 (n - 1) && allUpTo (path.length - 1) (chainB ls path)) := rfl
theorem pathOk_g {n : Int} {ls : List LinkD} {path : List Int} (h : gOk n ls = false) : pathOk n ls path = false := by rw [pathOk_eq, h]; rfl
theorem pathOk_len {n : Int} {ls : List LinkD} {path : List Int} (h : inB path.length 1 9 = false) : pathOk n ls path = false := by rw [pathOk_eq, h]; simp
theorem pathOk_first {n : Int} {ls : List LinkD} {path : List Int} {x : Int} (hx : path[0]? = some x) (h : (gOk n ls && inB x 0 (n - 1)) = false) : pathOk n ls path = false := by
  rw [pathOk_eq, getD_of hx]
  cases hg : gOk n ls <;> simp_all
theorem pathOk_chain {n : Int} {ls : List LinkD} {path : List Int} {k : Nat} {x y : Int} (hx : path[k]? = some x) (hy : path[k + 1]? = some y) (h : lkOf ls x y < 0) : pathOk n ls path = false := by
  rw [pathOk_eq, all_bad (k := k) (by have := (List.getElem?_eq_some_iff.1 hy).1; omega) (by unfold chainB; rw [getD_of hx, getD_of hy]; simp; omega)]
  simp
theorem pathOk_all {n : Int} {ls : List LinkD} {path : List Int} {x : Int} (hl : inB path.length 1 9 = true) (hx : path[0]? = some x) (hg : gOk n ls = true) (hn : inB x 0 (n - 1) = true) (hc : ∀ k, k < path.length - 1 → chainB ls path k = true) : pathOk n ls path = true := by
  rw [pathOk_eq, getD_of hx, hl, hg, hn, all_good hc]; rfl
theorem lk_in {n : Int} {ls : List LinkD} (h : GOk n ls) {a b : Int} (hk : 0 ≤ lkOf ls a b) : inB b 0 (n - 1) = true := by
  have := (h.fits.ok.node a b (h.pos.1 hk)).2
  rw [h.nN] at this
  rw [inB_iff]; omega
theorem lk_out {n : Int} {ls : List LinkD} (h : GOk n ls) {a b : Int} (hb : inB b 0 (n - 1) = false) : lkOf ls a b < 0 := by
  rcases Int.lt_or_le (lkOf ls a b) 0 with h1 | h1
  · exact h1
  · rw [lk_in h h1] at hb; cases hb
end Go.Proofs.Ytkegainegkdgpaa
