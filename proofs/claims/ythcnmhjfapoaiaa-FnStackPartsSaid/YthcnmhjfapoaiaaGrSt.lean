/- Stacks of labels: where they lead, over which nodes, at what cost, over which links. No program in sight. -/
import Derived.Test.YthcnmhjfapoaiaaGr
namespace Go.Proofs.Ythcnmhjfapoaiaa
set_option linter.unusedSimpArgs false
set_option linter.unusedVariables false

abbrev LabelD := Int × Int
/-- The other end of a link. -/
def otherEnd (l : LinkD) (a : Int) : Option Int := if a = l.1 then some l.2.1 else if a = l.2.1 then some l.1 else none
def hopTo (n : Int) (ls : List LinkD) (a : Int) (l : LabelD) : Option Int :=
  if l.1 = 1 then (if inB l.2 0 (n - 1) && decide (0 ≤ distG n ls a l.2) then some l.2 else none)
  else if l.1 = 2 then (if 0 ≤ l.2 then match ls[l.2.toNat]? with | some k => otherEnd k a | none => none else none)
  else none
def stkL (n : Int) (ls : List LinkD) : Int → List LabelD → Option (List Int)
  | _, [] => some []
  | a, l :: s => match hopTo n ls a l with | none => none | some b => match stkL n ls b s with | none => none | some q => some (b :: q)
def stkOf (n : Int) (ls : List LinkD) (a : Int) (s : List LabelD) : Option (List Int) := if decide (s.length ≤ 8) && gOk n ls && inB a 0 (n - 1) then stkL n ls a s else none
def nextN (n : Int) (ls : List LinkD) (a : Int) (l : LabelD) : Int := (hopTo n ls a l).getD 0
/-- The shortest walk that the program takes. -/
def spG (n : Int) (ls : List LinkD) (a b : Int) : List Int := sp n.toNat (cstL ls) (distG n ls b) b n.toNat a
def cntG (n : Int) (ls : List LinkD) (a b : Int) : Int := cnt n.toNat (cstL ls) (distG n ls b) b n.toNat a
def segL (n : Int) (ls : List LinkD) (a : Int) (l : LabelD) : List Int := if l.1 = 1 then spG n ls a (nextN n ls a l) else [nextN n ls a l]
def stkPath (n : Int) (ls : List LinkD) : Int → List LabelD → List Int
  | _, [] => []
  | a, l :: s => segL n ls a l ++ stkPath n ls (nextN n ls a l) s
def costStep (n : Int) (ls : List LinkD) (a : Int) (l : LabelD) : Int := if l.1 = 1 then distG n ls a (nextN n ls a l) else (ls.getD l.2.toNat (0, 0, 0)).2.2
def stkCost (n : Int) (ls : List LinkD) : Int → List LabelD → Int
  | _, [] => 0
  | a, l :: s => costStep n ls a l + stkCost n ls (nextN n ls a l) s
theorem otherEnd_iff {l : LinkD} {a b : Int} (hne : l.1 ≠ l.2.1) : otherEnd l a = some b ↔ (a = l.1 ∧ b = l.2.1) ∨ (a = l.2.1 ∧ b = l.1) := by
  unfold otherEnd
  by_cases e : a = l.1
  · rw [if_pos e]
    constructor
    · intro h; injection h with h; exact .inl ⟨e, h.symm⟩
    · rintro (⟨_, rfl⟩ | ⟨h, _⟩)
      · rfl
      · exact absurd (e.symm.trans h) hne
  · rw [if_neg e]
    by_cases e2 : a = l.2.1
    · rw [if_pos e2]
      constructor
      · intro h; injection h with h; exact .inr ⟨e2, h.symm⟩
      · rintro (⟨h, _⟩ | ⟨_, rfl⟩)
        · exact absurd h e
        · rfl
    · rw [if_neg e2]
      constructor
      · intro h; cases h
      · rintro (⟨h, _⟩ | ⟨h, _⟩)
        · exact absurd h e
        · exact absurd h e2
/-- The ways of a label. -/
theorem hop_cases {n : Int} {ls : List LinkD} (h : GOk n ls) {a b : Int} {l : LabelD} (hh : hopTo n ls a l = some b) :
    (l.1 = 1 ∧ l.2 = b ∧ nd n.toNat b ∧ 0 ≤ distG n ls a b) ∨ ∃ (i : Nat) (k : LinkD), l.1 = 2 ∧ l.2 = i ∧ ls[i]? = some k ∧ ((a = k.1 ∧ b = k.2.1) ∨ (a = k.2.1 ∧ b = k.1)) ∧ cstL ls a b = k.2.2 ∧ lkOf ls a b = i ∧ 0 < k.2.2 := by
  unfold hopTo at hh
  split at hh
  · rename_i e
    split at hh
    · rename_i e2
      injection hh with hh
      simp only [Bool.and_eq_true, inB_iff, decide_eq_true_iff] at e2
      rw [hh] at e2
      exact .inl ⟨e, hh, h.nN.2 (by omega), e2.2⟩
    · cases hh
  · split at hh
    · rename_i e
      split at hh
      · rename_i e0
        split at hh
        · rename_i k hk
          have hl := h.link _ k hk
          have ho := (otherEnd_iff (by omega)).1 hh
          obtain ⟨h1, h2⟩ := h.lk hk
          refine .inr ⟨l.2.toNat, k, e, by omega, hk, ho, ?_, ?_, by omega⟩
          · rcases ho with ⟨rfl, rfl⟩ | ⟨rfl, rfl⟩
            · exact h2
            · rw [cstL_comm]; exact h2
          · rcases ho with ⟨rfl, rfl⟩ | ⟨rfl, rfl⟩
            · exact h1
            · rw [lkOf_comm]; exact h1
        · cases hh
      · cases hh
    · cases hh
theorem nextN_of {n : Int} {ls : List LinkD} {a b : Int} {l : LabelD} (hh : hopTo n ls a l = some b) : nextN n ls a l = b := by unfold nextN; rw [hh]; rfl
section
variable {n : Int} {ls : List LinkD} (h : GOk n ls)
include h
theorem hop_nd {a b : Int} {l : LabelD} (_ha : nd n.toNat a) (hh : hopTo n ls a l = some b) : nd n.toNat b := by
  rcases hop_cases h hh with ⟨_, _, h3, _⟩ | ⟨i, k, h1, h2, h3, h4, h5, _, h7⟩
  · exact h3
  · exact (h.fits.ok.node a b (by omega)).2
theorem spG_sh {a b : Int} (ha : nd n.toNat a) (hb : nd n.toNat b) (h0 : 0 ≤ distG n ls a b) : isW (cstL ls) a (spG n ls a b) b ∧ wc (cstL ls) a (spG n ls a b) = distG n ls a b := by
  have hs := h.dst.symm h.fits.ok ha hb
  have := sp_sh h.fits.ok h.dst hb n.toNat a ha (by rw [← hs]; exact h0) (rk_le _ _ _)
  exact ⟨this.1, this.2.trans hs.symm⟩
theorem seg_walk {a b : Int} {l : LabelD} (ha : nd n.toNat a) (hh : hopTo n ls a l = some b) : isW (cstL ls) a (segL n ls a l) b ∧ wc (cstL ls) a (segL n ls a l) = costStep n ls a l ∧ 0 ≤ costStep n ls a l := by
  have hn := nextN_of hh
  unfold segL costStep
  rw [hn]
  rcases hop_cases h hh with ⟨h1, h2, h3, h4⟩ | ⟨i, k, h1, h2, h3, h4, h5, _, h7⟩
  · rw [if_pos h1, if_pos h1]
    have := spG_sh h ha h3 h4
    exact ⟨this.1, this.2, h4⟩
  · rw [if_neg (by omega), if_neg (by omega)]
    have e : ls.getD l.2.toNat (0, 0, 0) = k := by rw [show l.2.toNat = i by omega]; exact getD_of h3
    rw [e]
    exact ⟨⟨by omega, rfl⟩, by simp only [wc]; omega, by omega⟩
theorem stk_walk : ∀ {s : List LabelD} {a : Int} {q : List Int}, nd n.toNat a → stkL n ls a s = some q →
    isW (cstL ls) a (stkPath n ls a s) (lastN a q) ∧ wc (cstL ls) a (stkPath n ls a s) = stkCost n ls a s ∧ 0 ≤ stkCost n ls a s ∧ q.length = s.length ∧ nd n.toNat (lastN a q)
  | [], a, q, ha, hq => by
    simp only [stkL, Option.some.injEq] at hq
    subst hq
    exact ⟨rfl, rfl, Int.le_refl _, rfl, ha⟩
  | l :: s, a, q, ha, hq => by
    unfold stkL at hq
    split at hq
    · cases hq
    · rename_i b hb
      split at hq
      · cases hq
      · rename_i q' hq'
        injection hq with hq
        subst hq
        obtain ⟨w1, w2, w3⟩ := seg_walk h ha hb
        have hbn := hop_nd h ha hb
        obtain ⟨v1, v2, v3, v4, v5⟩ := stk_walk hbn hq'
        have e := isW_last w1
        unfold stkPath stkCost
        rw [nextN_of hb]
        refine ⟨isW_append.2 (by rw [e]; exact ⟨w1, v1⟩), by rw [wc_append, e, w2, v2], by omega, by simp [v4], v5⟩
end
theorem stkL_cons (n : Int) (ls : List LinkD) (a : Int) (l : LabelD) (s : List LabelD) : stkL n ls a (l :: s) = match hopTo n ls a l with | none => none | some b => match stkL n ls b s with | none => none | some q => some (b :: q) := rfl
theorem stkL_append {n : Int} {ls : List LinkD} : ∀ {s t : List LabelD} {a : Int}, stkL n ls a (s ++ t) = match stkL n ls a s with | none => none | some q => match stkL n ls (lastN a q) t with | none => none | some r => some (q ++ r)
  | [], t, a => by
    simp only [List.nil_append, stkL, lastN]
    cases stkL n ls a t <;> rfl
  | l :: s, t, a => by
    rw [List.cons_append, stkL_cons, stkL_cons]
    rcases hopTo n ls a l with _ | b
    · rfl
    · simp only
      rw [stkL_append (s := s) (t := t) (a := b)]
      rcases stkL n ls b s with _ | q
      · rfl
      · simp only [lastN]
        rcases stkL n ls (lastN b q) t with _ | r <;> rfl
/-- One label more. -/
theorem stkL_snoc {n : Int} {ls : List LinkD} {s : List LabelD} {k : Nat} {l : LabelD} {a : Int} {q : List Int} (hl : s[k]? = some l) (hq : stkL n ls a (s.take k) = some q) :
    stkL n ls a (s.take (k + 1)) = match hopTo n ls (lastN a q) l with | none => none | some b => some (q ++ [b]) := by
  obtain ⟨h1, h2⟩ := List.getElem?_eq_some_iff.1 hl
  rw [List.take_succ_eq_append_getElem h1, h2, stkL_append, hq]
  simp only [stkL]
  rcases hopTo n ls (lastN a q) l with _ | b <;> rfl
/-- Where a beginning leads nowhere, the whole does. -/
theorem stkL_none {n : Int} {ls : List LinkD} {s : List LabelD} {k : Nat} {a : Int} (h : stkL n ls a (s.take k) = none) : stkL n ls a s = none := by
  have : s = s.take k ++ s.drop k := (List.take_append_drop k s).symm
  rw [this, stkL_append, h]
theorem lastN_get {a : Int} : ∀ {q : List Int}, lastN a q = (a :: q).getD q.length 0
  | [] => rfl
  | x :: q => by
    show lastN x q = (x :: q).getD q.length 0
    exact lastN_get (a := x) (q := q)
end Go.Proofs.Ythcnmhjfapoaiaa
