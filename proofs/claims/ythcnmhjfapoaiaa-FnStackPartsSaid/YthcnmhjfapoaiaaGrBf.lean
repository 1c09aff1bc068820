/- Graphs as data; distances by relaxing the links, round by round, are least. No program in sight. -/
import Derived.Test.YthcnmhjfapoaiaaGrSeg
namespace Go.Proofs.Ythcnmhjfapoaiaa
set_option linter.unusedSimpArgs false
set_option linter.unusedVariables false

abbrev LinkD := Int × Int × Int
def atD (d : List Int) (x : Int) : Int := d.getD x.toNat (-1)
def relax1 (d : List Int) (a b c : Int) : List Int := if 0 ≤ atD d a ∧ (atD d b < 0 ∨ atD d a + c < atD d b) then d.set b.toNat (atD d a + c) else d
def relaxP (d : List Int) (l : LinkD) : List Int := relax1 (relax1 d l.1 l.2.1 l.2.2) l.2.1 l.1 l.2.2
def roundD (ls : List LinkD) (d : List Int) : List Int := ls.foldl relaxP d
def bfD (ls : List LinkD) : Nat → List Int → List Int
  | 0, d => d
  | k + 1, d => bfD ls k (roundD ls d)
def distL (n : Int) (ls : List LinkD) (a : Int) : List Int := bfD ls n.toNat ((List.replicate n.toNat (-1)).set a.toNat 0)
def distG (n : Int) (ls : List LinkD) (a b : Int) : Int := atD (distL n ls a) b

theorem relax1_len (d : List Int) (a b c : Int) : (relax1 d a b c).length = d.length := by unfold relax1; split <;> simp
theorem relaxP_len (d : List Int) (l : LinkD) : (relaxP d l).length = d.length := by unfold relaxP; rw [relax1_len, relax1_len]
theorem roundD_len : ∀ (ls : List LinkD) (d : List Int), (roundD ls d).length = d.length
  | [], _ => rfl
  | l :: ls, d => by show (roundD ls (relaxP d l)).length = _; rw [roundD_len ls, relaxP_len]
theorem bfD_len (ls : List LinkD) : ∀ (k : Nat) (d : List Int), (bfD ls k d).length = d.length
  | 0, _ => rfl
  | k + 1, d => by unfold bfD; rw [bfD_len ls k, roundD_len]
theorem distL_len (n : Int) (ls : List LinkD) (a : Int) : (distL n ls a).length = n.toNat := by unfold distL; rw [bfD_len]; simp
theorem atD_set {N : Nat} {d : List Int} (hl : d.length = N) {b v x : Int} (hb : nd N b) (hv : nd N v) : atD (d.set b.toNat x) v = if v = b then x else atD d v := by
  unfold atD
  rw [List.getD_eq_getElem?_getD, List.getElem?_set, List.getD_eq_getElem?_getD]
  obtain ⟨h1, h2⟩ := hb
  obtain ⟨h3, h4⟩ := hv
  by_cases e : v = b
  · subst e; rw [if_pos rfl, if_pos (by omega), if_pos rfl]; rfl
  · rw [if_neg (by omega), if_neg e]
def bndD (N : Nat) (K : Int) (d : List Int) : Prop := d.length = N ∧ ∀ v, nd N v → -1 ≤ atD d v ∧ atD d v ≤ K
theorem bnd_relax1 {N : Nat} {K : Int} {d : List Int} (h : bndD N K d) {a b c : Int} (ha : nd N a) (hb : nd N b) (h1 : 0 ≤ c) (h2 : c ≤ 20) : bndD N (K + 20) (relax1 d a b c) := by
  refine ⟨by rw [relax1_len]; exact h.1, fun v hv => ?_⟩
  have h3 := h.2 v hv
  have h4 := h.2 a ha
  unfold relax1
  split
  · rw [atD_set h.1 hb hv]
    split <;> omega
  · omega
theorem bnd_relaxP {N : Nat} {K : Int} {d : List Int} (h : bndD N K d) {l : LinkD} (ha : nd N l.1) (hb : nd N l.2.1) (h1 : 0 ≤ l.2.2) (h2 : l.2.2 ≤ 20) : bndD N (K + 40) (relaxP d l) := by
  have := bnd_relax1 (bnd_relax1 h ha hb h1 h2) hb ha h1 h2
  refine ⟨this.1, fun v hv => ?_⟩
  have := this.2 v hv
  unfold relaxP
  omega
theorem bnd_round {N : Nat} : ∀ {ls : List LinkD} {K : Int} {d : List Int}, bndD N K d → (∀ l ∈ ls, nd N l.1 ∧ nd N l.2.1 ∧ 0 ≤ l.2.2 ∧ l.2.2 ≤ 20) → bndD N (K + 40 * ls.length) (roundD ls d)
  | [], K, d, h, _ => by simpa [roundD] using h
  | l :: ls, K, d, h, hl => by
    obtain ⟨h1, h2, h3, h4⟩ := hl l (by simp)
    have := bnd_round (ls := ls) (bnd_relaxP h h1 h2 h3 h4) fun l' hl' => hl l' (List.mem_cons_of_mem _ hl')
    have e : K + 40 + 40 * (ls.length : Int) = K + 40 * ((l :: ls).length : Int) := by simp only [List.length_cons]; omega
    rw [e] at this
    exact this
theorem bnd_bf {N : Nat} {ls : List LinkD} (hl : ∀ l ∈ ls, nd N l.1 ∧ nd N l.2.1 ∧ 0 ≤ l.2.2 ∧ l.2.2 ≤ 20) (h14 : ls.length ≤ 14) : ∀ (k : Nat) {K : Int} {d : List Int}, bndD N K d → bndD N (K + 560 * k) (bfD ls k d)
  | 0, K, d, h => by simpa [bfD] using h
  | k + 1, K, d, h => by
    have h1 := bnd_round h hl
    have h2 : bndD N (K + 560) (roundD ls d) := ⟨h1.1, fun v hv => by have := h1.2 v hv; omega⟩
    have := bnd_bf hl h14 k h2
    unfold bfD
    exact ⟨this.1, fun v hv => by have := this.2 v hv; omega⟩
theorem start_at {N : Nat} {a v : Int} (ha : nd N a) (hv : nd N v) : atD ((List.replicate N (-1 : Int)).set a.toNat 0) v = if v = a then 0 else -1 := by
  rw [atD_set (N := N) (by simp) ha hv]
  congr 1
  unfold atD
  rw [List.getD_eq_getElem?_getD, List.getElem?_replicate]
  obtain ⟨h1, h2⟩ := hv
  rw [if_pos (by omega)]; rfl
theorem start_bnd {N : Nat} {a : Int} (ha : nd N a) : bndD N 0 ((List.replicate N (-1 : Int)).set a.toNat 0) := by
  refine ⟨by simp, fun v hv => ?_⟩
  rw [start_at ha hv]
  split <;> omega

theorem bf_succ (ls : List LinkD) : ∀ (k : Nat) (d : List Int), bfD ls (k + 1) d = roundD ls (bfD ls k d)
  | 0, _ => rfl
  | k + 1, d => by
    show bfD ls (k + 1) (roundD ls d) = roundD ls (bfD ls k (roundD ls d))
    exact bf_succ ls k (roundD ls d)
/-- What a link does, way by way. -/
theorem relax_up {N : Nat} {d : List Int} (hl : d.length = N) {a b c : Int} (ha : nd N a) (hb : nd N b) (hab : a ≠ b) (hc : 0 < c) (h0 : 0 ≤ atD d a) (h1 : atD d b < 0 ∨ atD d a + c < atD d b) : relaxP d (a, b, c) = d.set b.toNat (atD d a + c) := by
  unfold relaxP
  have e : relax1 d a b c = d.set b.toNat (atD d a + c) := by unfold relax1; rw [if_pos ⟨h0, h1⟩]
  simp only
  rw [e]
  unfold relax1
  rw [if_neg]
  rw [atD_set hl hb hb, if_pos rfl, atD_set hl hb ha, if_neg hab]
  omega
theorem relax_down {d : List Int} {a b c : Int} (h : ¬ (0 ≤ atD d a ∧ (atD d b < 0 ∨ atD d a + c < atD d b))) (h0 : 0 ≤ atD d b) (h1 : atD d a < 0 ∨ atD d b + c < atD d a) : relaxP d (a, b, c) = d.set a.toNat (atD d b + c) := by
  unfold relaxP
  have e : relax1 d a b c = d := by unfold relax1; rw [if_neg h]
  simp only
  rw [e]
  unfold relax1
  rw [if_pos ⟨h0, h1⟩]
theorem relax_none {d : List Int} {a b c : Int} (h : ¬ (0 ≤ atD d a ∧ (atD d b < 0 ∨ atD d a + c < atD d b))) (h' : ¬ (0 ≤ atD d b ∧ (atD d a < 0 ∨ atD d b + c < atD d a))) : relaxP d (a, b, c) = d := by
  unfold relaxP
  have e : relax1 d a b c = d := by unfold relax1; rw [if_neg h]
  simp only
  rw [e]
  unfold relax1
  rw [if_neg h']

/-- Links and costs fit together. -/
structure Fits (N : Nat) (c : Cst) (ls : List LinkD) : Prop where
  ok : CstOk N c
  mem : ∀ l ∈ ls, c l.1 l.2.1 = l.2.2 ∧ 0 < l.2.2 ∧ l.2.2 ≤ 20
  all : ∀ a b, 0 < c a b → ∃ l ∈ ls, (l.1 = a ∧ l.2.1 = b ∨ l.1 = b ∧ l.2.1 = a) ∧ l.2.2 = c a b
theorem Fits.nds {N : Nat} {c : Cst} {ls : List LinkD} (h : Fits N c ls) : ∀ l ∈ ls, nd N l.1 ∧ nd N l.2.1 ∧ 0 ≤ l.2.2 ∧ l.2.2 ≤ 20 := fun l hl => by
  obtain ⟨h1, h2, h3⟩ := h.mem l hl
  have := h.ok.node l.1 l.2.1 (by omega)
  exact ⟨this.1, this.2, by omega, h3⟩

def Sound (N : Nat) (c : Cst) (a : Int) (d : List Int) : Prop := d.length = N ∧ ∀ v, nd N v → -1 ≤ atD d v ∧ (0 ≤ atD d v → ∃ p, isW c a p v ∧ wc c a p = atD d v)
def Better (N : Nat) (d d' : List Int) : Prop := ∀ v, nd N v → 0 ≤ atD d v → 0 ≤ atD d' v ∧ atD d' v ≤ atD d v
theorem Better.refl (N : Nat) (d : List Int) : Better N d d := fun _ _ h => ⟨h, Int.le_refl _⟩
theorem Better.trans {N : Nat} {d d' d'' : List Int} (h : Better N d d') (k : Better N d' d'') : Better N d d'' := fun v hv h0 => by
  obtain ⟨h1, h2⟩ := h v hv h0
  obtain ⟨h3, h4⟩ := k v hv h1
  exact ⟨h3, by omega⟩
section
variable {N : Nat} {c : Cst} {a : Int}
theorem sound_relax1 {d : List Int} (h : Sound N c a d) {x y z : Int} (hx : nd N x) (hy : nd N y) (hz : c x y = z) (h0 : 0 < z) : Sound N c a (relax1 d x y z) := by
  refine ⟨by rw [relax1_len]; exact h.1, fun v hv => ?_⟩
  unfold relax1
  split
  · rename_i hc
    rw [atD_set h.1 hy hv]
    split
    · rename_i e
      subst e
      refine ⟨by omega, fun _ => ?_⟩
      obtain ⟨p, p1, p2⟩ := (h.2 x hx).2 hc.1
      have e := isW_last p1
      exact ⟨p ++ [v], isW_append.2 (by rw [e]; exact ⟨p1, by rw [hz]; exact h0, rfl⟩), by rw [wc_append, e, p2]; simp only [wc]; omega⟩
    · exact h.2 v hv
  · exact h.2 v hv
theorem better_relax1 {d : List Int} (hl : d.length = N) {x y z : Int} (hy : nd N y) (hz : 0 < z) : Better N d (relax1 d x y z) := fun v hv h0 => by
  unfold relax1
  split
  · rename_i hc
    rw [atD_set hl hy hv]
    split
    · rename_i e
      subst e
      omega
    · omega
  · omega
theorem done_relax1 {d : List Int} (hl : d.length = N) {x y z : Int} (hy : nd N y) (hz : 0 < z) (h0 : 0 ≤ atD d x) : 0 ≤ atD (relax1 d x y z) y ∧ atD (relax1 d x y z) y ≤ atD d x + z := by
  unfold relax1
  split
  · rw [atD_set hl hy hy, if_pos rfl]; omega
  · rename_i hc
    rw [not_and] at hc
    have := hc h0
    rw [not_or] at this
    omega
theorem round_facts {c : Cst} : ∀ {ls : List LinkD} {d : List Int}, Sound N c a d → (∀ l ∈ ls, nd N l.1 ∧ nd N l.2.1 ∧ c l.1 l.2.1 = l.2.2 ∧ c l.2.1 l.1 = l.2.2 ∧ 0 < l.2.2) →
    Sound N c a (roundD ls d) ∧ Better N d (roundD ls d) ∧ ∀ l ∈ ls, (0 ≤ atD d l.1 → 0 ≤ atD (roundD ls d) l.2.1 ∧ atD (roundD ls d) l.2.1 ≤ atD d l.1 + l.2.2) ∧ (0 ≤ atD d l.2.1 → 0 ≤ atD (roundD ls d) l.1 ∧ atD (roundD ls d) l.1 ≤ atD d l.2.1 + l.2.2)
  | [], d, h, _ => ⟨h, Better.refl _ _, by simp⟩
  | l :: ls, d, h, hl => by
    obtain ⟨h1, h2, h3, h4, h5⟩ := hl l (by simp)
    have s1 := sound_relax1 h h1 h2 h3 h5
    have s2 := sound_relax1 s1 h2 h1 h4 h5
    have b1 := better_relax1 (x := l.1) h.1 h2 h5
    have b2 := better_relax1 (x := l.2.1) s1.1 h1 h5
    obtain ⟨k1, k2, k3⟩ := round_facts (ls := ls) s2 fun l' hl' => hl l' (by simp [hl'])
    refine ⟨k1, (b1.trans b2).trans k2, fun l' hl' => ?_⟩
    rcases List.mem_cons.1 hl' with rfl | hl'
    · refine ⟨fun h0 => ?_, fun h0 => ?_⟩
      · have d1 := done_relax1 h.1 h2 h5 h0
        have d2 := (b2.trans k2) _ h2 d1.1
        exact ⟨d2.1, Int.le_trans d2.2 d1.2⟩
      · have d0 := b1 _ h2 h0
        have d1 := done_relax1 s1.1 h1 h5 d0.1
        have d2 := k2 _ h1 d1.1
        exact ⟨d2.1, Int.le_trans d2.2 (Int.le_trans d1.2 (by have := d0.2; omega))⟩
    · obtain ⟨g1, g2, _⟩ := hl l' (by simp [hl'])
      obtain ⟨q1, q2⟩ := k3 l' hl'
      refine ⟨fun h0 => ?_, fun h0 => ?_⟩
      · have d0 := (b1.trans b2) _ g1 h0
        have := q1 d0.1
        exact ⟨this.1, Int.le_trans this.2 (by have := d0.2; omega)⟩
      · have d0 := (b1.trans b2) _ g2 h0
        have := q2 d0.1
        exact ⟨this.1, Int.le_trans this.2 (by have := d0.2; omega)⟩
/-- No walk of at most k links costs less. -/
def Upto (_N : Nat) (c : Cst) (a : Int) (k : Nat) (d : List Int) : Prop := ∀ p v, isW c a p v → p.length ≤ k → 0 ≤ atD d v ∧ atD d v ≤ wc c a p
theorem upto_round {ls : List LinkD} (hf : Fits N c ls) (ha : nd N a) {k : Nat} {d : List Int} (hs : Sound N c a d) (hu : Upto N c a k d) : Sound N c a (roundD ls d) ∧ Upto N c a (k + 1) (roundD ls d) := by
  obtain ⟨k1, k2, k3⟩ := round_facts (ls := ls) hs fun l hl => by
    obtain ⟨h1, h2, h3⟩ := hf.mem l hl
    have := hf.ok.node l.1 l.2.1 (by omega)
    exact ⟨this.1, this.2, h1, by rw [hf.ok.sym]; exact h1, h2⟩
  refine ⟨k1, fun p v hp hk => ?_⟩
  rcases List.eq_nil_or_concat p with rfl | ⟨q, x, rfl⟩
  · have h0 := hu [] v hp (Nat.zero_le _)
    have hv := (isW_nd hf.ok ha hp).1
    have := k2 v hv h0.1
    exact ⟨this.1, by omega⟩
  · rw [List.concat_eq_append] at hp hk ⊢
    obtain ⟨w1, w2⟩ := isW_append.1 hp
    obtain ⟨w3, w4⟩ := w2
    have hx : x = v := w4
    subst hx
    have h0 := hu q (lastN a q) w1 (by simp at hk; omega)
    obtain ⟨l, hl, he, hc⟩ := hf.all _ _ w3
    obtain ⟨q1, q2⟩ := k3 l hl
    rw [wc_append]
    simp only [wc]
    rcases he with ⟨e1, e2⟩ | ⟨e1, e2⟩
    · rw [e1, e2] at q1
      have := q1 h0.1
      omega
    · rw [e1, e2] at q2
      have := q2 h0.1
      omega
theorem upto_bf {ls : List LinkD} (hf : Fits N c ls) (ha : nd N a) : ∀ (j k : Nat) {d : List Int}, Sound N c a d → Upto N c a k d → Sound N c a (bfD ls j d) ∧ Upto N c a (k + j) (bfD ls j d)
  | 0, k, d, hs, hu => ⟨hs, hu⟩
  | j + 1, k, d, hs, hu => by
    obtain ⟨h1, h2⟩ := upto_round hf ha hs hu
    have := upto_bf hf ha j (k + 1) h1 h2
    unfold bfD
    rw [show k + (j + 1) = k + 1 + j by omega]
    exact this
theorem start_facts (ha : nd N a) : Sound N c a ((List.replicate N (-1 : Int)).set a.toNat 0) ∧ Upto N c a 0 ((List.replicate N (-1 : Int)).set a.toNat 0) := by
  refine ⟨⟨by simp, fun v hv => ?_⟩, fun p v hp hk => ?_⟩
  · rw [start_at ha hv]
    split
    · rename_i e; subst e; exact ⟨by omega, fun _ => ⟨[], rfl, rfl⟩⟩
    · exact ⟨by omega, fun h => by omega⟩
  · have : p = [] := List.eq_nil_of_length_eq_zero (by omega)
    subst this
    have e : a = v := hp
    subst e
    rw [start_at ha ha, if_pos rfl]
    exact ⟨by omega, by simp [wc]⟩
end
theorem nodup_len : ∀ (N : Nat) (l : List Int), l.Nodup → (∀ x ∈ l, nd N x) → l.length ≤ N
  | 0, l, _, h => by
    cases l with
    | nil => simp
    | cons x l => have := h x (by simp); unfold nd at this; omega
  | N + 1, l, hn, h => by
    by_cases hm : (N : Int) ∈ l
    · have h1 := nodup_len N (l.erase (N : Int)) (hn.erase _) fun x hx => by
        have h2 := h x (List.mem_of_mem_erase hx)
        have h3 : x ≠ (N : Int) := fun e => by subst e; exact (hn.not_mem_erase) hx
        unfold nd at *; omega
      rw [List.length_erase_of_mem hm] at h1
      omega
    · have h1 := nodup_len N l hn fun x hx => by
        have h2 := h x hx
        have h3 : x ≠ (N : Int) := fun e => hm (e ▸ hx)
        unfold nd at *; omega
      omega
theorem not_nodup : ∀ {l : List Int}, ¬ l.Nodup → ∃ x y z t, l = x ++ y :: (z ++ y :: t)
  | [], h => absurd List.nodup_nil h
  | a :: l, h => by
    by_cases hm : a ∈ l
    · obtain ⟨s, t, rfl⟩ := List.append_of_mem hm
      exact ⟨[], a, s, t, rfl⟩
    · have : ¬ l.Nodup := fun hn => h (List.nodup_cons.2 ⟨hm, hn⟩)
      obtain ⟨x, y, z, t, rfl⟩ := not_nodup this
      exact ⟨a :: x, y, z, t, rfl⟩
theorem short_walk {N : Nat} {c : Cst} (hc : CstOk N c) {a : Int} (ha : nd N a) : ∀ (m : Nat) (p : List Int) (v : Int), p.length ≤ m → isW c a p v → ∃ q, isW c a q v ∧ q.length ≤ N ∧ wc c a q ≤ wc c a p
  | 0, p, v, h, hw => ⟨p, hw, by omega, Int.le_refl _⟩
  | m + 1, p, v, h, hw => by
    by_cases hl : p.length ≤ N
    · exact ⟨p, hw, hl, Int.le_refl _⟩
    · have hnn : ¬ (a :: p).Nodup := fun hn => by
        have := nodup_len N (a :: p) hn (by
          simp only [List.mem_cons]
          rintro x (rfl | hx)
          · exact ha
          · exact (isW_nd hc ha hw).2 x hx)
        simp at this; omega
      obtain ⟨x, y, z, t, he⟩ := not_nodup hnn
      cases x with
      | nil =>
        simp only [List.nil_append, List.cons.injEq] at he
        obtain ⟨rfl, rfl⟩ := he
        obtain ⟨w1, w2⟩ := isW_append.1 hw
        have w3 := w2.2
        have h1 : wc c a t ≤ wc c a (z ++ a :: t) := by
          rw [wc_append]
          have := wc_nn hc z a
          have := hc.nn (lastN a z) a
          simp only [wc]; omega
        obtain ⟨q, q1, q2, q3⟩ := short_walk hc ha m t v (by simp at h; omega) w3
        exact ⟨q, q1, q2, by omega⟩
      | cons x0 x =>
        simp only [List.cons_append, List.cons.injEq] at he
        obtain ⟨rfl, rfl⟩ := he
        obtain ⟨w1, w2⟩ := isW_append.1 hw
        obtain ⟨w3, w4⟩ := w2
        obtain ⟨w5, w6⟩ := isW_append.1 w4
        have w7 := w6.2
        have h1 : wc c a (x ++ y :: t) ≤ wc c a (x ++ y :: (z ++ y :: t)) := by
          rw [wc_append, wc_append]
          simp only [wc]
          rw [wc_append]
          have := wc_nn hc z y
          have := hc.nn (lastN y z) y
          simp only [wc]; omega
        obtain ⟨q, q1, q2, q3⟩ := short_walk hc ha m (x ++ y :: t) v (by simp at h ⊢; omega) (isW_append.2 ⟨w1, w3, w7⟩)
        exact ⟨q, q1, q2, by omega⟩
theorem bf_dst {n : Int} {c : Cst} {ls : List LinkD} (hf : Fits n.toNat c ls) : Dst n.toNat c (distG n ls) := by
  have key : ∀ a, nd n.toNat a → Sound n.toNat c a (distL n ls a) ∧ Upto n.toNat c a n.toNat (distL n ls a) := fun a ha => by
    obtain ⟨h1, h2⟩ := start_facts (c := c) ha
    have := upto_bf hf ha n.toNat 0 h1 h2
    rw [Nat.zero_add] at this
    exact this
  refine ⟨fun a b ha hb => ((key a ha).1.2 b hb).1, fun a b ha hb h => ((key a ha).1.2 b hb).2 h, fun a b p ha hp => ?_⟩
  obtain ⟨q, q1, q2, q3⟩ := short_walk hf.ok ha p.length p b (Nat.le_refl _) hp
  have := (key a ha).2 q b q1 q2
  exact ⟨this.1, Int.le_trans this.2 q3⟩
theorem distG_bnd {n : Int} {c : Cst} {ls : List LinkD} (hf : Fits n.toNat c ls) (hn : n ≤ 8) (h14 : ls.length ≤ 14) {a b : Int} (ha : nd n.toNat a) (hb : nd n.toNat b) : -1 ≤ distG n ls a b ∧ distG n ls a b ≤ 4480 := by
  have := (bnd_bf hf.nds h14 n.toNat (start_bnd ha)).2 b hb
  show -1 ≤ atD (distL n ls a) b ∧ atD (distL n ls a) b ≤ 4480
  unfold distL
  omega
end Go.Proofs.Ythcnmhjfapoaiaa
