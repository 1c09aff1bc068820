/- Costs of paths: pathCost, PathCost of the program; l5Cost, PathCost of the reference. -/
import Derived.Test.YtkegainegkdgpaaPathV
namespace Go.Proofs.Ytkegainegkdgpaa
set_option linter.unusedSimpArgs false
set_option linter.unusedVariables false
open Go.RowKit

theorem IntsAt.form {w : World} {v : Value} {es : List Int} (h : IntsAt w v es) : ∃ a n cap, v = .slice a n cap := let ⟨a, cap, _, _, hv, _⟩ := h; ⟨a, _, cap, hv⟩
/-- The cost of the first k links of a path. -/
def pcostK (ls : List LinkD) (path : List Int) : Nat → Int
  | 0 => 0
  | k + 1 => pcostK ls path k + cstL ls (path.getD k 0) (path.getD (k + 1) 0)
def costD (n : Int) (ls : List LinkD) (path : List Int) : Int := if pathOk n ls path = true then pcostK ls path (path.length - 1) else -1
theorem pcost_cons (ls : List LinkD) (a x : Int) (p : List Int) : ∀ k, pcostK ls (a :: x :: p) (k + 1) = cstL ls a x + pcostK ls (x :: p) k
  | 0 => by simp [pcostK]
  | k + 1 => by
    show pcostK ls (a :: x :: p) (k + 1) + _ = cstL ls a x + (pcostK ls (x :: p) k + _)
    rw [pcost_cons ls a x p k]
    simp; omega
theorem pcost_wc (ls : List LinkD) : ∀ (p : List Int) (a : Int), pcostK ls (a :: p) p.length = wc (cstL ls) a p
  | [], _ => rfl
  | x :: p, a => by
    show pcostK ls (a :: x :: p) (p.length + 1) = cstL ls a x + wc (cstL ls) x p
    rw [pcost_cons, pcost_wc ls p x]
theorem cst_le {n : Int} {ls : List LinkD} (h : GOk n ls) (a b : Int) : 0 ≤ cstL ls a b ∧ cstL ls a b ≤ 20 := by
  rcases lk_cases ls a b with ⟨_, h2, _⟩ | ⟨i, l, h1, h2, h3, h4⟩
  · omega
  · have := h.link i l h2; omega
theorem pcost_le {n : Int} {ls : List LinkD} (h : GOk n ls) (path : List Int) : ∀ k : Nat, 0 ≤ pcostK ls path k ∧ pcostK ls path k ≤ 20 * k
  | 0 => by simp [pcostK]
  | k + 1 => by
    have h1 := pcost_le h path k
    have h2 := cst_le h (path.getD k 0) (path.getD (k + 1) 0)
    show 0 ≤ _ + _ ∧ _ + _ ≤ _
    push_cast; omega
theorem costD_ok {n : Int} {ls : List LinkD} {path : List Int} (h : pathOk n ls path = true) : costD n ls path = pcostK ls path (path.length - 1) := if_pos h
theorem costD_no {n : Int} {ls : List LinkD} {path : List Int} (h : pathOk n ls path = false) : costD n ls path = -1 := if_neg (by simp [h])
/-- What a valid path gives at each of its links. -/
theorem pathOk_link {n : Int} {ls : List LinkD} {path : List Int} (h : pathOk n ls path = true) {k : Nat} {x y : Int} (hx : path[k]? = some x) (hy : path[k + 1]? = some y) :
    ∃ (i : Nat) (l : LinkD), lkOf ls x y = i ∧ ls[i]? = some l ∧ cstL ls x y = l.2.2 := by
  rw [pathOk_eq] at h
  simp only [Bool.and_eq_true] at h
  have hc := all_iff.1 h.2 k (by have := (List.getElem?_eq_some_iff.1 hy).1; omega)
  unfold chainB at hc
  rw [getD_of hx, getD_of hy] at hc
  have h0 : 0 ≤ lkOf ls x y := by simpa using hc
  rcases lk_cases ls x y with ⟨h1, _, _⟩ | ⟨i, l, h1, h2, _, h4⟩
  · omega
  · exact ⟨i, l, h1, h2, h4⟩
theorem pathOk_gok {n : Int} {ls : List LinkD} {path : List Int} (h : pathOk n ls path = true) : GOk n ls ∧ 1 ≤ path.length ∧ path.length ≤ 9 := by
  rw [pathOk_eq] at h
  simp only [Bool.and_eq_true] at h
  have := inB_iff.1 h.1.1.2
  exact ⟨gOk_iff.1 h.1.1.1, by omega, by omega⟩
end Go.Proofs.Ytkegainegkdgpaa
