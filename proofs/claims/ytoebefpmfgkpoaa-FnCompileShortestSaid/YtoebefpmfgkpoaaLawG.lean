/- What the laws on paths and packets need, in plain terms. -/
import Derived.Test.YtoebefpmfgkpoaaSkPathI
import Derived.Test.YtoebefpmfgkpoaaGrAll
namespace Go.Proofs.Ytoebefpmfgkpoaa
set_option linter.unusedSimpArgs false
set_option linter.unusedVariables false

theorem pathOk_iff {n : Int} {ls : List LinkD} {path : List Int} (h : pathOk n ls path = true) : ∃ a p, path = a :: p ∧ GOk n ls ∧ p.length ≤ 8 ∧ nd n.toNat a ∧ isW (cstL ls) a p (lastN a p) ∧ costD n ls path = wc (cstL ls) a p := by
  obtain ⟨hg, a, p, rfl, h1, h2, h3⟩ := path_iff.1 h
  exact ⟨a, p, rfl, hg, h1, h2, h3, by rw [costD_ok h]; exact pcost_wc ls p a⟩
theorem pathOk_of {n : Int} {ls : List LinkD} {a b : Int} {p : List Int} (hg : GOk n ls) (h1 : p.length ≤ 8) (h2 : nd n.toNat a) (h3 : isW (cstL ls) a p b) : pathOk n ls (a :: p) = true ∧ costD n ls (a :: p) = wc (cstL ls) a p := by
  have h := path_iff.2 ⟨hg, a, p, rfl, h1, h2, isW_end h3⟩
  exact ⟨h, by rw [costD_ok h]; exact pcost_wc ls p a⟩
/-- The way back over a path. -/
theorem path_rev {n : Int} {ls : List LinkD} {path : List Int} (h : pathOk n ls path = true) : pathOk n ls path.reverse = true ∧ costD n ls path.reverse = costD n ls path := by
  obtain ⟨a, p, rfl, hg, h1, h2, h3, h4⟩ := pathOk_iff h
  rw [rv_reverse, h4]
  have hr := rv_walk hg.fits.ok h3
  have hn := (isW_nd hg.fits.ok h2 h3).1
  have := pathOk_of hg (p := rv a p) (by rw [rv_len]; exact h1) hn hr.1
  exact ⟨this.1, this.2.trans hr.2⟩
/-- No path is shorter than the distance; the shortest one has it. -/
theorem path_least {n : Int} {ls : List LinkD} {a : Int} {p : List Int} (h : pathOk n ls (a :: p) = true) : nd n.toNat a ∧ nd n.toNat (lastN a p) ∧ distG n ls a (lastN a p) ≤ costD n ls (a :: p) ∧ costD n ls (shP n ls a (lastN a p)) = distG n ls a (lastN a p) ∧ 0 ≤ costD n ls (a :: p) := by
  obtain ⟨a', p', e, hg, h1, h2, h3, h4⟩ := pathOk_iff h
  injection e with e1 e2
  subst e1
  subst e2
  have hl := hg.dst.least a (lastN a p) p h2 h3
  have hn := (isW_nd hg.fits.ok h2 h3).1
  have hs := spG_sh hg h2 hn hl.1
  have hsp := pathOk_of hg (p := spG n ls a (lastN a p)) (by have := spG_len n ls a (lastN a p); have := hg.n8; omega) h2 hs.1
  refine ⟨h2, hn, by rw [h4]; exact hl.2, ?_, by rw [h4]; exact wc_nn hg.fits.ok p a⟩
  have : shP n ls a (lastN a p) = a :: spG n ls a (lastN a p) := by
    unfold shP
    rw [if_pos (by rw [← hg.dst.symm hg.fits.ok h2 hn]; exact hl.1)]
  rw [this, hsp.2, hs.2]
/-- The last label of a stack. -/
theorem stk_last {n : Int} {ls : List LinkD} {a : Int} {s : List LabelD} {q : List Int} (h : stkOf n ls a s = some q) {k : Nat} {l : LabelD} (hk : s.length = k + 1) (hl : s[k]? = some l) :
    (l.1 = 1 ∧ l.2 = lastN a q) ∨ ∃ (i : Nat) (m : LinkD), l.1 = 2 ∧ l.2 = i ∧ ls[i]? = some m ∧ (lastN a q = m.1 ∨ lastN a q = m.2.1) := by
  have hF := stkOf_some h
  obtain ⟨x, y, hA⟩ := stk_at hF.ok hF.nd hF.run hl
  have hy : y = lastN a q := by
    have h1 := lastN_at a q
    have h2 : (a :: q)[k + 1]? = some y := by simpa using hA.next
    have h3 : q.length = k + 1 := by have := hF.qlen; omega
    rw [h3, h2] at h1
    exact Option.some.inj h1
  rcases hop_cases hF.ok hA.hop with ⟨h1, h2, _⟩ | ⟨i, m, h1, h2, h3, h4, _⟩
  · exact .inl ⟨h1, by rw [h2, hy]⟩
  · refine .inr ⟨i, m, h1, h2, h3, ?_⟩
    rw [← hy]
    rcases h4 with ⟨_, e⟩ | ⟨_, e⟩
    · exact .inr e
    · exact .inl e
theorem stk_nil {n : Int} {ls : List LinkD} {a : Int} {q : List Int} (h : stkOf n ls a [] = some q) : lastN a q = a := by
  have hF := stkOf_some h
  have := hF.run
  simp only [stkL, Option.some.injEq] at this
  subst this
  rfl
/-- A stack in two parts. -/
theorem stk_parts {n : Int} {ls : List LinkD} {a : Int} {s : List LabelD} {q : List Int} (h : stkOf n ls a s = some q) (k : Nat) :
    stkOf n ls a (s.take k) = some (q.take k) ∧ stkOf n ls (lastN a (q.take k)) (s.drop k) = some (q.drop k) ∧ lastN (lastN a (q.take k)) (q.drop k) = lastN a q := by
  have hF := stkOf_some h
  have h1 := stk_take k hF.run
  have hi := hF.ok.nN.1 hF.nd
  have hg : (gOk n ls && inB a 0 (n - 1)) = true := by rw [gOk_iff.2 hF.ok, inB_iff.2 (by omega)]; rfl
  have hw := stk_walk hF.ok hF.nd h1
  have hxn := hw.2.2.2.2
  have hxi := hF.ok.nN.1 hxn
  have hg2 : (gOk n ls && inB (lastN a (q.take k)) 0 (n - 1)) = true := by rw [gOk_iff.2 hF.ok, inB_iff.2 (by omega)]; rfl
  refine ⟨?_, ?_, ?_⟩
  · rw [stkOf_ok hg (by have := hF.len; rw [List.length_take]; omega)]; exact h1
  · rw [stkOf_ok hg2 (by have := hF.len; rw [List.length_drop]; omega)]
    have h2 := hF.run
    rw [← List.take_append_drop k s, stkL_append, h1] at h2
    rcases h3 : stkL n ls (lastN a (q.take k)) (s.drop k) with _ | r
    · simp only [h3] at h2; cases h2
    · simp only [h3, Option.some.injEq] at h2
      have h4 : q.take k ++ r = q.take k ++ q.drop k := by rw [h2, List.take_append_drop]
      rw [List.append_cancel_left h4]
  · rw [← lastN_append, List.take_append_drop]
/-- No packet is faster than the shortest path. -/
theorem stk_least {n : Int} {ls : List LinkD} {a : Int} {s : List LabelD} {q : List Int} (h : stkOf n ls a s = some q) :
    distG n ls a (lastN a q) ≤ stkCost n ls a s ∧ 0 ≤ stkCost n ls a s ∧ stkOf n ls a [(1, lastN a q)] = some [lastN a q] ∧ stkCost n ls a [(1, lastN a q)] = distG n ls a (lastN a q) := by
  have hF := stkOf_some h
  obtain ⟨w1, w2, w3, w4, w5⟩ := stk_walk hF.ok hF.nd hF.run
  have hl := hF.ok.dst.least a (lastN a q) _ hF.nd w1
  have hi := hF.ok.nN.1 hF.nd
  have hi2 := hF.ok.nN.1 w5
  have hg : (gOk n ls && inB a 0 (n - 1)) = true := by rw [gOk_iff.2 hF.ok, inB_iff.2 (by omega)]; rfl
  have hh : hopTo n ls a (1, lastN a q) = some (lastN a q) := hop_1 (inB_iff.2 (by omega)) hl.1
  refine ⟨by rw [← w2]; exact hl.2, w3, ?_, ?_⟩
  · rw [stkOf_ok hg (by simp)]
    simp [stkL, hh]
  · simp [stkCost, costStep, nextN_of hh]
/-- A packet over labels of nodes can go back. -/
theorem stk_back {n : Int} {ls : List LinkD} {a : Int} {xs : List Int} {q : List Int} (h : stkOf n ls a (nodeS xs) = some q) :
    q = xs ∧ stkOf n ls (lastN a xs) (nodeS (rv a xs)) = some (rv a xs) ∧ lastN (lastN a xs) (rv a xs) = a ∧ stkCost n ls (lastN a xs) (nodeS (rv a xs)) = stkCost n ls a (nodeS xs) := by
  have hF := stkOf_some h
  obtain ⟨h1, h2, h3⟩ := back_stk hF.ok xs a q hF.nd hF.run
  subst h1
  have hn := hF.ok.nN.1 hF.last
  have hg : (gOk n ls && inB (lastN a q) 0 (n - 1)) = true := by rw [gOk_iff.2 hF.ok, inB_iff.2 (by omega)]; rfl
  refine ⟨rfl, ?_, rv_last q a, ?_⟩
  · rw [stkOf_ok hg (by have := hF.len; simp [nodeS, rv_len] at this ⊢; exact this)]
    have := h2 [] [] rfl
    simpa using this
  · have := h3 [] ⟨[], rfl⟩
    simpa [stkCost] using this
end Go.Proofs.Ytoebefpmfgkpoaa
