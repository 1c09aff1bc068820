/- Stacks of node labels, and their way back. No program in sight. -/
import Derived.Test.YthcnmhjfapoaiaaGrSt
namespace Go.Proofs.Ythcnmhjfapoaiaa
set_option linter.unusedSimpArgs false
set_option linter.unusedVariables false

def nodeS (xs : List Int) : List LabelD := xs.map fun x => (1, x)
theorem hop_node {n : Int} {ls : List LinkD} {a x b : Int} : hopTo n ls a (1, x) = some b ↔ inB x 0 (n - 1) = true ∧ 0 ≤ distG n ls a x ∧ b = x := by
  unfold hopTo
  simp only [if_true]
  constructor
  · intro h
    by_cases e : (inB x 0 (n - 1) && decide (0 ≤ distG n ls a x)) = true
    · rw [if_pos e] at h
      simp only [Bool.and_eq_true, decide_eq_true_eq] at e
      injection h with h
      exact ⟨e.1, e.2, h.symm⟩
    · rw [if_neg e] at h; cases h
  · rintro ⟨h1, h2, rfl⟩
    rw [if_pos (by simp [h1, h2])]
theorem hop_node_nd {n : Int} {ls : List LinkD} (h : GOk n ls) {x : Int} (hx : inB x 0 (n - 1) = true) : nd n.toNat x := by
  rw [h.nN]; have := inB_iff.1 hx; omega
theorem back_stk {n : Int} {ls : List LinkD} (h : GOk n ls) : ∀ (xs : List Int) (a : Int) (q : List Int), nd n.toNat a → stkL n ls a (nodeS xs) = some q →
    q = xs ∧ (∀ s r, stkL n ls a s = some r → stkL n ls (lastN a xs) (nodeS (rv a xs) ++ s) = some (rv a xs ++ r)) ∧ (∀ s, (∃ r, stkL n ls a s = some r) → stkCost n ls (lastN a xs) (nodeS (rv a xs) ++ s) = stkCost n ls a (nodeS xs) + stkCost n ls a s)
  | [], a, q, ha, hq => by
    have : q = [] := by simpa [nodeS, stkL] using hq.symm
    exact ⟨this, fun s r hr => by simpa [nodeS, rv, lastN] using hr, fun s _ => by simp [nodeS, rv, lastN, stkCost]⟩
  | x :: xs, a, q, ha, hq => by
    have e : nodeS (x :: xs) = (1, x) :: nodeS xs := rfl
    rw [e, stkL_cons] at hq
    obtain ⟨b, hb⟩ : ∃ b, hopTo n ls a (1, x) = some b := by
      cases hh : hopTo n ls a (1, x) with
      | none => rw [hh] at hq; simp at hq
      | some b => exact ⟨b, rfl⟩
    obtain ⟨h1, h2, rfl⟩ := hop_node.1 hb
    rw [hb] at hq
    simp only at hq
    obtain ⟨q', hq'⟩ : ∃ q', stkL n ls b (nodeS xs) = some q' := by
      cases hh : stkL n ls b (nodeS xs) with
      | none => rw [hh] at hq; simp at hq
      | some b => exact ⟨b, rfl⟩
    rw [hq'] at hq
    simp only [Option.some.injEq] at hq
    have hx := hop_node_nd h h1
    obtain ⟨e1, e2, e3⟩ := back_stk h xs b q' hx hq'
    have hsym : distG n ls b a = distG n ls a b := (Dst.symm h.fits.ok h.dst hx ha)
    have hback : hopTo n ls b (1, a) = some a := hop_node.2 ⟨by rw [h.nN] at ha; rw [inB_iff]; omega, by rw [hsym]; exact h2, rfl⟩
    have er : ∀ s, nodeS (rv a (b :: xs)) ++ s = nodeS (rv b xs) ++ ((1, a) :: s) := fun s => by simp [nodeS, rv]
    have el : lastN a (b :: xs) = lastN b xs := rfl
    refine ⟨by rw [← hq, e1], fun s r hr => ?_, fun s hs => ?_⟩
    · rw [er, el, e2 ((1, a) :: s) (a :: r) (by rw [stkL_cons, hback]; simp only; rw [hr])]
      simp [rv]
    · obtain ⟨r, hr⟩ := hs
      rw [er, el, e3 _ ⟨a :: r, by rw [stkL_cons, hback]; simp only; rw [hr]⟩]
      rw [e]
      show _ = (costStep n ls a (1, b) + stkCost n ls (nextN n ls a (1, b)) (nodeS xs)) + _
      rw [nextN_of hb]
      have c1 : stkCost n ls b ((1, a) :: s) = costStep n ls b (1, a) + stkCost n ls (nextN n ls b (1, a)) s := rfl
      rw [c1, nextN_of hback]
      have c2 : costStep n ls b (1, a) = distG n ls b a := by unfold costStep; rw [if_pos rfl, nextN_of hback]
      have c3 : costStep n ls a (1, b) = distG n ls a b := by unfold costStep; rw [if_pos rfl, nextN_of hb]
      rw [c2, c3, hsym]; omega
end Go.Proofs.Ythcnmhjfapoaiaa
