/- Links that a packet may cross; unique ways. No program in sight. -/
import Derived.Test.YthcnmhjfapoaiaaGrSt
namespace Go.Proofs.Ythcnmhjfapoaiaa
set_option linter.unusedSimpArgs false
set_option linter.unusedVariables false

def usedB (n : Int) (ls : List LinkD) (a b : Int) (k : Nat) : Bool :=
  let l := ls.getD k (0, 0, 0)
  if distG n ls a b < 0 ∨ distG n ls a l.1 < 0 then false
  else (distG n ls a l.1 + l.2.2 + distG n ls b l.2.1 == distG n ls a b) || (distG n ls a l.2.1 + l.2.2 + distG n ls b l.1 == distG n ls a b)
/-- x and y are the ends of a link, in either order. -/
def ends (l : LinkD) (x y : Int) : Prop := (x = l.1 ∧ y = l.2.1) ∨ (x = l.2.1 ∧ y = l.1)
section
variable {n : Int} {ls : List LinkD} (h : GOk n ls)
include h
theorem ends_cost {k : Nat} {l : LinkD} (hl : ls[k]? = some l) {x y : Int} (he : ends l x y) : cstL ls x y = l.2.2 ∧ 0 < l.2.2 ∧ nd n.toNat x ∧ nd n.toNat y ∧ lkOf ls x y = k := by
  have h1 := h.lk hl
  have h2 := h.link k l hl
  rw [h.nN, h.nN]
  rcases he with ⟨rfl, rfl⟩ | ⟨rfl, rfl⟩
  · exact ⟨h1.2, by omega, by omega, by omega, h1.1⟩
  · exact ⟨by rw [cstL_comm]; exact h1.2, by omega, by omega, by omega, by rw [lkOf_comm]; exact h1.1⟩
theorem lk_ends {x y : Int} (hp : 0 < cstL ls x y) : ∃ (k : Nat) (l : LinkD), lkOf ls x y = k ∧ ls[k]? = some l ∧ ends l x y ∧ cstL ls x y = l.2.2 := by
  rcases lk_cases ls x y with ⟨_, h2, _⟩ | ⟨k, l, h1, h2, h3, h4⟩
  · omega
  · refine ⟨k, l, h1, h2, ?_, h4⟩
    have := linkAt_iff.1 h3
    have := h.link k l h2
    unfold ends
    omega
theorem used_iff {k : Nat} {l : LinkD} (hl : ls[k]? = some l) {a b : Int} (ha : nd n.toNat a) (hb : nd n.toNat b) (h0 : 0 ≤ distG n ls a b) :
    usedB n ls a b k = true ↔ ∃ p q x y, ends l x y ∧ isW (cstL ls) a p x ∧ isW (cstL ls) y q b ∧ wc (cstL ls) a p + l.2.2 + wc (cstL ls) y q = distG n ls a b := by
  have hD := h.dst
  have hc := h.fits.ok
  unfold usedB
  rw [getD_of hl]
  simp only
  have go : ∀ x y, ends l x y → (0 ≤ distG n ls a x → (0 ≤ distG n ls b y ∧ 0 ≤ distG n ls y b ∧ distG n ls b y = distG n ls y b) ∧ distG n ls a b ≤ distG n ls a x + l.2.2 + distG n ls y b) := fun x y he hx => by
    obtain ⟨c1, c2, c3, c4, _⟩ := ends_cost h hl he
    have l1 := hD.link hc (a := x) (b := y) (by omega)
    have t1 := hD.tri hc ha c3 c4 hx l1.1
    have s1 := hD.symm hc ha c4
    have t2 := hD.tri hc c4 ha hb (by rw [← s1]; exact t1.1) h0
    have s2 := hD.symm hc hb c4
    have t3 := hD.tri hc ha c4 hb t1.1 t2.1
    exact ⟨⟨by omega, t2.1, s2⟩, by omega⟩
  have reach : ∀ x y, ends l x y → 0 ≤ distG n ls a x → 0 ≤ distG n ls a y := fun x y he hx => by
    obtain ⟨c1, c2, c3, c4, _⟩ := ends_cost h hl he
    have l1 := hD.link hc (a := x) (b := y) (by omega)
    exact (hD.tri hc ha c3 c4 hx l1.1).1
  have mk : ∀ x y, ends l x y → 0 ≤ distG n ls a x → distG n ls a x + l.2.2 + distG n ls b y = distG n ls a b → ∃ p q x y, ends l x y ∧ isW (cstL ls) a p x ∧ isW (cstL ls) y q b ∧ wc (cstL ls) a p + l.2.2 + wc (cstL ls) y q = distG n ls a b := fun x y he hx hs => by
    obtain ⟨c1, c2, c3, c4, _⟩ := ends_cost h hl he
    obtain ⟨⟨_, g2, g3⟩, _⟩ := go x y he hx
    obtain ⟨p, p1, p2⟩ := hD.walk a x ha c3 hx
    obtain ⟨q, q1, q2⟩ := hD.walk y b c4 hb g2
    exact ⟨p, q, x, y, he, p1, q1, by omega⟩
  have ends2 : ends l l.2.1 l.1 := .inr ⟨rfl, rfl⟩
  have ends1 : ends l l.1 l.2.1 := .inl ⟨rfl, rfl⟩
  by_cases hneg : distG n ls a b < 0 ∨ distG n ls a l.1 < 0
  · rw [if_pos hneg]
    constructor
    · intro hf; cases hf
    · rintro ⟨p, q, x, y, he, hp, hq, hs⟩
      exfalso
      have h1 := (hD.least a x p ha hp).1
      rcases he with ⟨rfl, rfl⟩ | ⟨rfl, rfl⟩
      · omega
      · have := reach _ _ ends2 h1; omega
  · rw [if_neg hneg]
    simp only [Bool.or_eq_true, beq_iff_eq]
    have r1 : 0 ≤ distG n ls a l.1 := by omega
    have r2 := reach _ _ ends1 r1
    constructor
    · rintro (hs | hs)
      · exact mk _ _ ends1 r1 hs
      · exact mk _ _ ends2 r2 hs
    · rintro ⟨p, q, x, y, he, hp, hq, hs⟩
      have hp' := hD.least a x p ha hp
      have hy : nd n.toNat y := (ends_cost h hl he).2.2.2.1
      have hq' := hD.least y b q hy hq
      obtain ⟨⟨g1, g2, g3⟩, g4⟩ := go x y he hp'.1
      rcases he with ⟨rfl, rfl⟩ | ⟨rfl, rfl⟩
      · left; omega
      · right; omega
end
def crossS (n : Int) (ls : List LinkD) (k : Nat) : Int → List LabelD → Bool
  | _, [] => false
  | a, l :: s => (decide (l.1 = 2 ∧ l.2 = k) || (decide (l.1 = 1) && usedB n ls a (nextN n ls a l) k)) || crossS n ls k (nextN n ls a l) s
def onP (ls : List LinkD) (k : Nat) : Int → List Int → Bool
  | _, [] => false
  | a, x :: p => decide (lkOf ls a x = k) || onP ls k x p
def uniqS (n : Int) (ls : List LinkD) : Int → List LabelD → Bool
  | _, [] => true
  | a, l :: s => (!decide (l.1 = 1) || decide (cntG n ls a (nextN n ls a l) = 1)) && uniqS n ls (nextN n ls a l) s
theorem onP_append {ls : List LinkD} {k : Nat} : ∀ {p q : List Int} {a : Int}, onP ls k a (p ++ q) = (onP ls k a p || onP ls k (lastN a p) q)
  | [], _, _ => by simp [onP, lastN]
  | x :: p, q, a => by
    show (decide (lkOf ls a x = k) || onP ls k x (p ++ q)) = ((decide (lkOf ls a x = k) || onP ls k x p) || onP ls k (lastN x p) q)
    rw [onP_append, Bool.or_assoc]
theorem onP_split {ls : List LinkD} {k : Nat} : ∀ {p : List Int} {a : Int}, onP ls k a p = true → ∃ p1 v p2, p = p1 ++ v :: p2 ∧ lkOf ls (lastN a p1) v = k
  | [], _, h => by simp [onP] at h
  | x :: p, a, h => by
    unfold onP at h
    simp only [Bool.or_eq_true, decide_eq_true_iff] at h
    rcases h with h | h
    · exact ⟨[], x, p, rfl, h⟩
    · obtain ⟨p1, v, p2, rfl, e⟩ := onP_split h
      exact ⟨x :: p1, v, p2, rfl, e⟩
section
variable {n : Int} {ls : List LinkD} (h : GOk n ls)
include h
theorem sp_unique {a b : Int} (ha : nd n.toNat a) (hb : nd n.toNat b) (h0 : 0 ≤ distG n ls a b) (h1 : cntG n ls a b = 1) {p : List Int} (hp : isW (cstL ls) a p b) (hw : wc (cstL ls) a p = distG n ls a b) : p = spG n ls a b := by
  have hs := h.dst.symm h.fits.ok ha hb
  have := (cnt_one h.fits.ok h.dst hb n.toNat a ha (by rw [← hs]; exact h0) (rk_le _ _ _)).1 h1
  have hsp := spG_sh h ha hb h0
  exact this p _ ⟨hp, by rw [← hs]; exact hw⟩ ⟨hsp.1, by rw [← hs]; exact hsp.2⟩
theorem seg_on {k : Nat} {a b : Int} {l : LabelD} (ha : nd n.toNat a) (hh : hopTo n ls a l = some b) (ho : onP ls k a (segL n ls a l) = true) : (decide (l.1 = 2 ∧ l.2 = k) || (decide (l.1 = 1) && usedB n ls a b k)) = true := by
  have hn := nextN_of hh
  unfold segL at ho
  rw [hn] at ho
  rcases hop_cases h hh with ⟨h1, h2, h3, h4⟩ | ⟨i, m, h1, h2, h3, h4, h5, h6, h7⟩
  · rw [if_pos h1] at ho
    obtain ⟨w1, w2⟩ := spG_sh h ha h3 h4
    obtain ⟨p1, v, p2, he, hk⟩ := onP_split ho
    rw [he] at w1 w2
    obtain ⟨v1, v2, v3⟩ := isW_append.1 w1
    obtain ⟨k', m, e1, e2, e3, e4⟩ := lk_ends h v2
    have e : k' = k := by omega
    subst e
    have : usedB n ls a b k' = true := (used_iff h e2 ha h3 h4).2 ⟨p1, p2, _, v, e3, v1, v3, by
      rw [wc_append] at w2
      simp only [wc] at w2
      omega⟩
    simp [h1, this]
  · rw [if_neg (by omega)] at ho
    simp only [onP, Bool.or_false, decide_eq_true_iff] at ho
    have : l.2 = k := by omega
    simp [h1, this]
theorem on_cross {k : Nat} : ∀ {s : List LabelD} {a : Int} {q : List Int}, nd n.toNat a → stkL n ls a s = some q → onP ls k a (stkPath n ls a s) = true → crossS n ls k a s = true
  | [], a, q, _, _, ho => by simp [stkPath, onP] at ho
  | l :: s, a, q, ha, hq, ho => by
    rw [stkL_cons] at hq
    split at hq
    · cases hq
    · rename_i b hb
      split at hq
      · cases hq
      · rename_i q' hq'
        have hn := nextN_of hb
        unfold stkPath at ho
        unfold crossS
        rw [hn] at ho ⊢
        rw [onP_append, isW_last (seg_walk h ha hb).1] at ho
        simp only [Bool.or_eq_true] at ho ⊢
        rcases ho with ho | ho
        · have := seg_on h ha hb ho
          simp only [Bool.or_eq_true] at this
          exact .inl this
        · exact .inr (on_cross (hop_nd h ha hb) hq' ho)
theorem cross_on {k : Nat} {m : LinkD} (hm : ls[k]? = some m) : ∀ {s : List LabelD} {a : Int} {q : List Int}, nd n.toNat a → stkL n ls a s = some q → uniqS n ls a s = true → crossS n ls k a s = true → onP ls k a (stkPath n ls a s) = true
  | [], a, q, _, _, _, hc => by simp [crossS] at hc
  | l :: s, a, q, ha, hq, hu, hc => by
    rw [stkL_cons] at hq
    split at hq
    · cases hq
    · rename_i b hb
      split at hq
      · cases hq
      · rename_i q' hq'
        have hn := nextN_of hb
        unfold crossS at hc
        unfold uniqS at hu
        unfold stkPath
        rw [hn] at hc hu ⊢
        rw [onP_append, isW_last (seg_walk h ha hb).1]
        simp only [Bool.and_eq_true, Bool.or_eq_true, Bool.not_eq_true', decide_eq_true_iff, decide_eq_false_iff_not] at hc hu ⊢
        have hbn := hop_nd h ha hb
        rcases hc with (hc | ⟨hc1, hc2⟩) | hc
        · left
          rcases hop_cases h hb with ⟨h1, _⟩ | ⟨i, m', h1, h2, h3, h4, h5, h6, h7⟩
          · omega
          · unfold segL
            rw [if_neg (by omega), hn]
            simp only [onP, Bool.or_false, decide_eq_true_iff]
            omega
        · left
          rcases hop_cases h hb with ⟨h1, h2, h3, h4⟩ | ⟨i, m', h1, _⟩
          · have hcnt : cntG n ls a b = 1 := by rcases hu.1 with h' | h'; exact absurd hc1 h'; exact h'
            obtain ⟨p, r, x, y, e1, e2, e3, e4⟩ := (used_iff h hm ha h3 h4).1 hc2
            obtain ⟨c1, c2, c3, c4, c5⟩ := ends_cost h hm e1
            have ex := isW_last e2
            have hw : isW (cstL ls) a (p ++ y :: r) b := isW_append.2 ⟨by rw [ex]; exact e2, by rw [ex]; exact ⟨by omega, e3⟩⟩
            have := sp_unique h ha h3 h4 hcnt hw (by rw [wc_append, ex]; simp only [wc]; omega)
            unfold segL
            rw [if_pos h1, hn, ← this, onP_append, ex]
            simp [onP, c5]
          · omega
        · exact .inr (cross_on hm hbn hq' hu.2 hc)
end
end Go.Proofs.Ythcnmhjfapoaiaa
