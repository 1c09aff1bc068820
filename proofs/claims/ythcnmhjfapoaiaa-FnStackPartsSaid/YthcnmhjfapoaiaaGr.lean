/- Graphs as data: validity, the link between two nodes, its cost; paths. No program in sight. -/
import Derived.Test.YthcnmhjfapoaiaaGrBf
import Derived.Test.YthcnmhjfapoaiaaPure
namespace Go.Proofs.Ythcnmhjfapoaiaa
set_option linter.unusedSimpArgs false
set_option linter.unusedVariables false

def lexB (p l : LinkD) : Bool := decide (p.1 < l.1) || (p.1 == l.1 && decide (p.2.1 < l.2.1))
def linkOkB (n : Int) (ls : List LinkD) (k : Nat) : Bool :=
  match ls[k]? with
  | none => true
  | some l => decide (0 ≤ l.1) && decide (l.1 < l.2.1) && decide (l.2.1 < n) && inB l.2.2 1 20 && (k == 0 || lexB (ls.getD (k - 1) (0, 0, 0)) l)
def gOk (n : Int) (ls : List LinkD) : Bool := inB n 1 8 && decide (ls.length ≤ 14) && allUpTo ls.length (linkOkB n ls)
theorem linkOkB_at {n : Int} {ls : List LinkD} {k : Nat} {l : LinkD} (h : ls[k]? = some l) : linkOkB n ls k = (decide (0 ≤ l.1) && decide (l.1 < l.2.1) && decide (l.2.1 < n) && inB l.2.2 1 20 && (k == 0 || lexB (ls.getD (k - 1) (0, 0, 0)) l)) := by simp [linkOkB, h]
theorem lex_iff {p l : LinkD} : lexB p l = true ↔ p.1 < l.1 ∨ (p.1 = l.1 ∧ p.2.1 < l.2.1) := by simp [lexB]
structure GOk (n : Int) (ls : List LinkD) : Prop where
  n1 : 1 ≤ n
  n8 : n ≤ 8
  len : ls.length ≤ 14
  link : ∀ (k : Nat) (l : LinkD), ls[k]? = some l → 0 ≤ l.1 ∧ l.1 < l.2.1 ∧ l.2.1 < n ∧ 1 ≤ l.2.2 ∧ l.2.2 ≤ 20
  lex : ∀ (i j : Nat) (l l' : LinkD), i < j → ls[i]? = some l → ls[j]? = some l' → lexB l l' = true
theorem lex_trans {a b c : LinkD} (h : lexB a b = true) (k : lexB b c = true) : lexB a c = true := by
  rw [lex_iff] at *; omega
theorem gOk_iff {n : Int} {ls : List LinkD} : gOk n ls = true ↔ GOk n ls := by
  unfold gOk
  rw [Bool.and_eq_true, Bool.and_eq_true, all_iff, inB_iff, decide_eq_true_iff]
  constructor
  · rintro ⟨⟨⟨h1, h2⟩, h3⟩, h4⟩
    have hk : ∀ (k : Nat) (l : LinkD), ls[k]? = some l → (0 ≤ l.1 ∧ l.1 < l.2.1 ∧ l.2.1 < n ∧ 1 ≤ l.2.2 ∧ l.2.2 ≤ 20) ∧ (0 < k → lexB (ls.getD (k - 1) (0, 0, 0)) l = true) := fun k l hl => by
      have := h4 k (List.getElem?_eq_some_iff.1 hl).1
      rw [linkOkB_at hl] at this
      simp only [Bool.and_eq_true, decide_eq_true_iff, inB_iff, Bool.or_eq_true, beq_iff_eq] at this
      exact ⟨⟨this.1.1.1.1, this.1.1.1.2, this.1.1.2, this.1.2.1, this.1.2.2⟩, fun h0 => by rcases this.2 with h | h; omega; exact h⟩
    refine ⟨h1, h2, h3, fun k l hl => (hk k l hl).1, fun i j l l' hij hl hl' => ?_⟩
    induction j generalizing l' with
    | zero => omega
    | succ j ih =>
      have := (hk (j + 1) l' hl').2 (by omega)
      rw [Nat.add_sub_cancel] at this
      obtain ⟨m, hm⟩ := at_lt (l := ls) (n := ls.length) rfl (k := j) (by have := (List.getElem?_eq_some_iff.1 hl').1; omega)
      rw [getD_of hm] at this
      by_cases e : i = j
      · subst e; rw [hl] at hm; injection hm with hm; subst hm; exact this
      · exact lex_trans (ih m (by omega) hm) this
  · rintro ⟨h1, h2, h3, h4, h5⟩
    refine ⟨⟨⟨h1, h2⟩, h3⟩, fun k hk => ?_⟩
    obtain ⟨l, hl⟩ := at_lt (l := ls) (n := ls.length) rfl hk
    rw [linkOkB_at hl]
    obtain ⟨a1, a2, a3, a4, a5⟩ := h4 k l hl
    simp only [Bool.and_eq_true, decide_eq_true_iff, inB_iff, Bool.or_eq_true, beq_iff_eq]
    refine ⟨⟨⟨⟨a1, a2⟩, a3⟩, a4, a5⟩, ?_⟩
    by_cases h0 : k = 0
    · exact .inl h0
    · right
      obtain ⟨m, hm⟩ := at_lt (l := ls) (n := ls.length) rfl (k := k - 1) (by omega)
      rw [getD_of hm]
      exact h5 (k - 1) k m l (by omega) hm hl

def linkAt (a b : Int) (l : LinkD) : Bool := l.1 == min a b && l.2.1 == max a b
def lkOf (ls : List LinkD) (a b : Int) : Int := match ls.findIdx? (linkAt a b) with | some i => (i : Int) | none => -1
def cstL (ls : List LinkD) : Cst := fun a b => match ls.find? (linkAt a b) with | some l => l.2.2 | none => 0
theorem linkAt_iff {a b : Int} {l : LinkD} : linkAt a b l = true ↔ l.1 = min a b ∧ l.2.1 = max a b := by simp [linkAt]
theorem linkAt_comm (a b : Int) : linkAt a b = linkAt b a := by funext l; unfold linkAt; rw [Int.min_comm, Int.max_comm]
theorem lkOf_comm (ls : List LinkD) (a b : Int) : lkOf ls a b = lkOf ls b a := by unfold lkOf; rw [linkAt_comm]
theorem lkOf_at {ls : List LinkD} {a b : Int} {i : Nat} {l : LinkD} (h : ls[i]? = some l) (hl : linkAt a b l = true) (hlt : ∀ j l', j < i → ls[j]? = some l' → linkAt a b l' = false) : lkOf ls a b = i := by
  obtain ⟨h1, h2⟩ := List.getElem?_eq_some_iff.1 h
  have : ls.findIdx? (linkAt a b) = some i := by
    rw [List.findIdx?_eq_some_iff_getElem]
    exact ⟨h1, by rw [h2]; exact hl, fun j hj => by rw [hlt j _ hj (List.getElem?_eq_getElem (by omega))]; simp⟩
  unfold lkOf; rw [this]
theorem lkOf_no {ls : List LinkD} {a b : Int} (h : ∀ (j : Nat) (l : LinkD), ls[j]? = some l → linkAt a b l = false) : lkOf ls a b = -1 := by
  have : ls.findIdx? (linkAt a b) = none := by
    rw [List.findIdx?_eq_none_iff]
    intro l hl
    obtain ⟨j, hj⟩ := List.getElem?_of_mem hl
    exact h j l hj
  unfold lkOf; rw [this]
/-- The two ways: no link, or the link at its place. -/
theorem lk_cases (ls : List LinkD) (a b : Int) : (lkOf ls a b = -1 ∧ cstL ls a b = 0 ∧ ∀ l ∈ ls, linkAt a b l = false) ∨ ∃ (i : Nat) (l : LinkD), lkOf ls a b = i ∧ ls[i]? = some l ∧ linkAt a b l = true ∧ cstL ls a b = l.2.2 := by
  rcases h : ls.findIdx? (linkAt a b) with _ | i
  · have h2 := List.findIdx?_eq_none_iff.1 h
    have h3 : ls.find? (linkAt a b) = none := by rw [List.find?_eq_none]; intro l hl; simp [h2 l hl]
    exact .inl ⟨by unfold lkOf; rw [h], by unfold cstL; rw [h3], fun l hl => by simpa using h2 l hl⟩
  · obtain ⟨h1, h2, h3⟩ := List.findIdx?_eq_some_iff_getElem.1 h
    have h4 : ls.find? (linkAt a b) = some ls[i] := by
      rw [List.find?_eq_some_iff_getElem]
      exact ⟨h2, i, h1, rfl, fun j hj => by have := h3 j hj; simpa using this⟩
    exact .inr ⟨i, ls[i], by unfold lkOf; rw [h], List.getElem?_eq_getElem h1, h2, by unfold cstL; rw [h4]⟩
theorem cstL_comm (ls : List LinkD) (a b : Int) : cstL ls a b = cstL ls b a := by unfold cstL; rw [linkAt_comm]
section
variable {n : Int} {ls : List LinkD} (h : GOk n ls)
include h
theorem GOk.pos {a b : Int} : 0 ≤ lkOf ls a b ↔ 0 < cstL ls a b := by
  rcases lk_cases ls a b with ⟨h1, h2, _⟩ | ⟨i, l, h1, h2, h3, h4⟩
  · omega
  · have := h.link i l h2; omega
theorem GOk.uniq {i j : Nat} {l l' : LinkD} (hi : ls[i]? = some l) (hj : ls[j]? = some l') (e1 : l.1 = l'.1) (e2 : l.2.1 = l'.2.1) : i = j := by
  rcases Nat.lt_trichotomy i j with hc | hc | hc
  · have := lex_iff.1 (h.lex i j l l' hc hi hj); omega
  · exact hc
  · have := lex_iff.1 (h.lex j i l' l hc hj hi); omega
theorem GOk.lk {i : Nat} {l : LinkD} (hi : ls[i]? = some l) : lkOf ls l.1 l.2.1 = i ∧ cstL ls l.1 l.2.1 = l.2.2 := by
  have hl := h.link i l hi
  rcases lk_cases ls l.1 l.2.1 with ⟨_, _, h3⟩ | ⟨j, l', h1, h2, h3, h4⟩
  · have := h3 l (List.mem_of_getElem? hi)
    have e : linkAt l.1 l.2.1 l = true := linkAt_iff.2 ⟨by omega, by omega⟩
    rw [e] at this; cases this
  · have := linkAt_iff.1 h3
    have e := h.uniq hi h2 (by omega) (by omega)
    subst e
    rw [hi] at h2; injection h2 with h2; subst h2
    exact ⟨h1, h4⟩
theorem GOk.nN {x : Int} : nd n.toNat x ↔ 0 ≤ x ∧ x < n := by unfold nd; have := h.n1; omega
theorem GOk.fits : Fits n.toNat (cstL ls) ls := by
  refine ⟨⟨fun a b => ?_, cstL_comm ls, fun a b hp => ?_, fun a => ?_⟩, fun l hl => ?_, fun a b hp => ?_⟩
  · rcases lk_cases ls a b with ⟨_, h2, _⟩ | ⟨i, l, h1, h2, h3, h4⟩
    · omega
    · have := h.link i l h2; omega
  · rcases lk_cases ls a b with ⟨_, h2, _⟩ | ⟨i, l, h1, h2, h3, h4⟩
    · omega
    · have := h.link i l h2
      have := linkAt_iff.1 h3
      rw [h.nN, h.nN]; omega
  · rcases lk_cases ls a a with ⟨_, h2, _⟩ | ⟨i, l, h1, h2, h3, h4⟩
    · exact h2
    · have := h.link i l h2
      have := linkAt_iff.1 h3
      omega
  · obtain ⟨i, hi⟩ := List.getElem?_of_mem hl
    have := h.link i l hi
    exact ⟨(h.lk hi).2, by omega, by omega⟩
  · rcases lk_cases ls a b with ⟨_, h2, _⟩ | ⟨i, l, h1, h2, h3, h4⟩
    · omega
    · have := linkAt_iff.1 h3
      exact ⟨l, List.mem_of_getElem? h2, by omega, h4.symm⟩
theorem GOk.dst : Dst n.toNat (cstL ls) (distG n ls) := bf_dst h.fits
end
/-- A path: nodes, each linked with the next. -/
def pathOk (n : Int) (ls : List LinkD) (path : List Int) : Bool := gOk n ls && inB path.length 1 9 && inB (path.getD 0 0) 0 (n - 1) && allUpTo (path.length - 1) (fun k => decide (0 ≤ lkOf ls (path.getD k 0) (path.getD (k + 1) 0)))
theorem chain_iff {n : Int} {ls : List LinkD} (h : GOk n ls) : ∀ (p : List Int) (a : Int), (∀ k, k < p.length → 0 ≤ lkOf ls ((a :: p).getD k 0) ((a :: p).getD (k + 1) 0)) ↔ isW (cstL ls) a p (lastN a p)
  | [], a => ⟨fun _ => rfl, fun _ k hk => by simp at hk⟩
  | x :: p, a => by
    show _ ↔ 0 < cstL ls a x ∧ isW (cstL ls) x p (lastN x p)
    rw [← chain_iff h p x, ← h.pos]
    constructor
    · intro hk
      exact ⟨by simpa using hk 0 (by simp), fun k hkl => by simpa using hk (k + 1) (by simpa using hkl)⟩
    · rintro ⟨h1, h2⟩ k hk
      cases k with
      | zero => simpa using h1
      | succ k => simpa using h2 k (by simpa using hk)
theorem path_iff {n : Int} {ls : List LinkD} {path : List Int} : pathOk n ls path = true ↔ GOk n ls ∧ ∃ a p, path = a :: p ∧ p.length ≤ 8 ∧ nd n.toNat a ∧ isW (cstL ls) a p (lastN a p) := by
  unfold pathOk
  rw [Bool.and_eq_true, Bool.and_eq_true, Bool.and_eq_true, gOk_iff, inB_iff, inB_iff, all_iff]
  constructor
  · rintro ⟨⟨⟨hg, h1, h2⟩, h3, h4⟩, h5⟩
    cases path with
    | nil => simp at h1
    | cons a p =>
      have h3' : 0 ≤ a := by simpa using h3
      have h4' : a ≤ n - 1 := by simpa using h4
      refine ⟨hg, a, p, rfl, by simp at h2; omega, hg.nN.2 ⟨h3', by omega⟩, ?_⟩
      rw [← chain_iff hg]
      intro k hk
      have := h5 k (by simpa using hk)
      simpa using this
  · rintro ⟨hg, a, p, rfl, h1, h2, h3⟩
    have hn := hg.nN.1 h2
    refine ⟨⟨⟨hg, by simp only [List.length_cons]; omega, by simp only [List.length_cons]; omega⟩, by simpa using hn.1, by simp; omega⟩, fun k hk => ?_⟩
    have := (chain_iff hg p a).2 h3 k (by simpa using hk)
    simpa using this
end Go.Proofs.Ythcnmhjfapoaiaa
