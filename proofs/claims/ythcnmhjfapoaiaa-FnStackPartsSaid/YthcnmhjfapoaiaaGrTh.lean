/- Walks over weighted links, distances, next hops, how many shortest walks there are. No program in sight. -/
namespace Go.Proofs.Ythcnmhjfapoaiaa
set_option linter.unusedSimpArgs false
set_option linter.unusedVariables false

abbrev Cst := Int → Int → Int
/-- The nodes p follow a; the last one is b. -/
def isW (c : Cst) : Int → List Int → Int → Prop
  | a, [], b => a = b
  | a, x :: p, b => 0 < c a x ∧ isW c x p b
def wc (c : Cst) : Int → List Int → Int
  | _, [] => 0
  | a, x :: p => c a x + wc c x p
def lastN : Int → List Int → Int
  | a, [] => a
  | _, x :: p => lastN x p
def nd (N : Nat) (a : Int) : Prop := 0 ≤ a ∧ a < N
structure CstOk (N : Nat) (c : Cst) : Prop where
  nn : ∀ a b, 0 ≤ c a b
  sym : ∀ a b, c a b = c b a
  node : ∀ a b, 0 < c a b → nd N a ∧ nd N b
  ne : ∀ a, c a a = 0
theorem isW_last {c : Cst} : ∀ {p : List Int} {a b : Int}, isW c a p b → lastN a p = b
  | [], _, _, h => h
  | x :: p, _, b, h => isW_last (p := p) (a := x) (b := b) h.2
theorem lastN_append : ∀ (p q : List Int) (a : Int), lastN a (p ++ q) = lastN (lastN a p) q
  | [], _, _ => rfl
  | x :: p, q, _ => lastN_append p q x
theorem isW_append {c : Cst} : ∀ {p q : List Int} {a b : Int}, isW c a (p ++ q) b ↔ isW c a p (lastN a p) ∧ isW c (lastN a p) q b
  | [], _, _, _ => ⟨fun h => ⟨rfl, h⟩, fun h => h.2⟩
  | x :: p, q, a, b => by
    show 0 < c a x ∧ isW c x (p ++ q) b ↔ (0 < c a x ∧ isW c x p (lastN x p)) ∧ isW c (lastN x p) q b
    rw [isW_append (p := p), and_assoc]
theorem wc_append {c : Cst} : ∀ (p q : List Int) (a : Int), wc c a (p ++ q) = wc c a p + wc c (lastN a p) q
  | [], _, _ => by simp [wc, lastN]
  | x :: p, q, a => by
    show c a x + wc c x (p ++ q) = c a x + wc c x p + wc c (lastN x p) q
    rw [wc_append p q x]; omega
theorem wc_nn {N : Nat} {c : Cst} (hc : CstOk N c) : ∀ (p : List Int) (a : Int), 0 ≤ wc c a p
  | [], _ => Int.le_refl _
  | x :: p, a => by have := hc.nn a x; have := wc_nn hc p x; simp only [wc]; omega
theorem wc_pos {N : Nat} {c : Cst} (hc : CstOk N c) {p : List Int} {a b : Int} (h : isW c a p b) (hp : p ≠ []) : 0 < wc c a p := by
  cases p with
  | nil => exact absurd rfl hp
  | cons x p => have := wc_nn hc p x; have := h.1; simp only [wc]; omega
theorem isW_nd {N : Nat} {c : Cst} (hc : CstOk N c) : ∀ {p : List Int} {a b : Int}, nd N a → isW c a p b → nd N b ∧ ∀ x ∈ p, nd N x
  | [], _, _, ha, h => ⟨h ▸ ha, by simp⟩
  | x :: p, a, b, ha, h => by
    obtain ⟨h1, h2⟩ := isW_nd hc (hc.node a x h.1).2 h.2
    exact ⟨h1, by simp only [List.mem_cons]; rintro y (rfl | hy); exact (hc.node a y h.1).2; exact h2 y hy⟩
/-- The way back. -/
def rv : Int → List Int → List Int
  | _, [] => []
  | a, x :: p => rv x p ++ [a]
theorem rv_reverse : ∀ (p : List Int) (a : Int), (a :: p).reverse = lastN a p :: rv a p
  | [], _ => rfl
  | x :: p, a => by rw [List.reverse_cons, rv_reverse p x]; rfl
theorem rv_last : ∀ (p : List Int) (a : Int), lastN (lastN a p) (rv a p) = a
  | [], _ => rfl
  | x :: p, a => by show lastN (lastN x p) (rv x p ++ [a]) = a; rw [lastN_append]; rfl
theorem rv_rv (p : List Int) (a : Int) : rv (lastN a p) (rv a p) = p := by
  have h := rv_reverse (rv a p) (lastN a p)
  rw [← rv_reverse p a, List.reverse_reverse, rv_last] at h
  injection h with _ h
  exact h.symm
theorem rv_walk {N : Nat} {c : Cst} (hc : CstOk N c) : ∀ {p : List Int} {a b : Int}, isW c a p b → isW c b (rv a p) a ∧ wc c b (rv a p) = wc c a p
  | [], _, _, h => ⟨h.symm, rfl⟩
  | x :: p, a, b, h => by
    obtain ⟨h1, h2⟩ := rv_walk hc h.2
    have e := isW_last h1
    refine ⟨?_, ?_⟩
    · show isW c b (rv x p ++ [a]) a
      rw [isW_append, e]
      exact ⟨h1, by rw [hc.sym]; exact h.1, rfl⟩
    · show wc c b (rv x p ++ [a]) = c a x + wc c x p
      rw [wc_append, e, h2, hc.sym a x]
      simp only [wc]; omega
theorem rv_len : ∀ (p : List Int) (a : Int), (rv a p).length = p.length
  | [], _ => rfl
  | x :: p, a => by simp [rv, rv_len p x]

/-- D tells the least cost of a walk, and is negative where there is none. -/
structure Dst (N : Nat) (c : Cst) (D : Int → Int → Int) : Prop where
  low : ∀ a b, nd N a → nd N b → -1 ≤ D a b
  walk : ∀ a b, nd N a → nd N b → 0 ≤ D a b → ∃ p, isW c a p b ∧ wc c a p = D a b
  least : ∀ a b p, nd N a → isW c a p b → 0 ≤ D a b ∧ D a b ≤ wc c a p
section
variable {N : Nat} {c : Cst} {D : Int → Int → Int} (hc : CstOk N c) (hD : Dst N c D)
include hc hD
theorem Dst.self {a : Int} (ha : nd N a) : D a a = 0 := by
  have _ := hc.ne
  have := hD.least a a [] ha rfl
  simp only [wc] at this; omega
theorem Dst.le_symm {a b : Int} (ha : nd N a) (hb : nd N b) (h : 0 ≤ D a b) : 0 ≤ D b a ∧ D b a ≤ D a b := by
  obtain ⟨p, h1, h2⟩ := hD.walk a b ha hb h
  obtain ⟨h3, h4⟩ := rv_walk hc h1
  have := hD.least b a _ hb h3
  omega
theorem Dst.symm {a b : Int} (ha : nd N a) (hb : nd N b) : D a b = D b a := by
  have l1 := hD.low a b ha hb
  have l2 := hD.low b a hb ha
  rcases Int.lt_or_le (D a b) 0 with h | h
  · rcases Int.lt_or_le (D b a) 0 with h' | h'
    · omega
    · have := Dst.le_symm hc hD hb ha h'; omega
  · have h1 := Dst.le_symm hc hD ha hb h
    have h2 := Dst.le_symm hc hD hb ha h1.1
    omega
theorem Dst.tri {a m b : Int} (ha : nd N a) (hm : nd N m) (hb : nd N b) (h1 : 0 ≤ D a m) (h2 : 0 ≤ D m b) : 0 ≤ D a b ∧ D a b ≤ D a m + D m b := by
  have _ := hc.ne
  obtain ⟨p, p1, p2⟩ := hD.walk a m ha hm h1
  obtain ⟨q, q1, q2⟩ := hD.walk m b hm hb h2
  have e := isW_last p1
  have := hD.least a b (p ++ q) ha (isW_append.2 (by rw [e]; exact ⟨p1, q1⟩))
  rw [wc_append, e] at this
  omega
theorem Dst.link {a b : Int} (h : 0 < c a b) : 0 ≤ D a b ∧ D a b ≤ c a b := by
  have := hD.least a b [b] (hc.node a b h).1 ⟨h, rfl⟩
  simp only [wc] at this
  omega
end

/-- The next hops towards the node from which E tells the distances. -/
def hopB (c : Cst) (E : Int → Int) (x m : Int) : Bool := decide (0 < c x m) && decide (0 ≤ E m) && decide (E m + c x m = E x)
def nodesL (N : Nat) : List Int := (List.range N).map Int.ofNat
def hopsL (N : Nat) (c : Cst) (E : Int → Int) (x : Int) : List Int := (nodesL N).filter (hopB c E x)
theorem mem_nodesL {N : Nat} {m : Int} : m ∈ nodesL N ↔ nd N m := by
  unfold nodesL nd
  simp only [List.mem_map, List.mem_range]
  constructor
  · rintro ⟨k, hk, rfl⟩; simp only [Int.ofNat_eq_natCast]; omega
  · rintro ⟨h1, h2⟩; exact ⟨m.toNat, by omega, by simp only [Int.ofNat_eq_natCast]; omega⟩
theorem mem_hopsL {N : Nat} {c : Cst} {E : Int → Int} {x m : Int} : m ∈ hopsL N c E x ↔ nd N m ∧ 0 < c x m ∧ 0 ≤ E m ∧ E m + c x m = E x := by
  unfold hopsL hopB
  simp only [List.mem_filter, mem_nodesL, Bool.and_eq_true, decide_eq_true_iff, and_assoc]
theorem nodesL_nodup (N : Nat) : (nodesL N).Nodup := by
  unfold nodesL
  rw [List.Nodup, List.pairwise_map]
  exact (List.nodup_range (n := N)).imp fun h e => h (by simp only [Int.ofNat_eq_natCast] at e; omega)
theorem hopsL_nodup (N : Nat) (c : Cst) (E : Int → Int) (x : Int) : (hopsL N c E x).Nodup := (nodesL_nodup N).filter _
theorem hopsL_len (N : Nat) (c : Cst) (E : Int → Int) (x : Int) : (hopsL N c E x).length ≤ N := by
  refine Nat.le_trans (List.length_filter_le _ _) ?_
  simp [nodesL]
/-- How many nodes lie nearer. -/
def rkB (E : Int → Int) (x v : Int) : Bool := decide (0 ≤ E v) && decide (E v < E x)
def rk (N : Nat) (E : Int → Int) (x : Int) : Nat := ((nodesL N).filter (rkB E x)).length
theorem filter_lt {α : Type} {p q : α → Bool} : ∀ {l : List α}, (∀ x ∈ l, p x = true → q x = true) → (∃ x ∈ l, q x = true ∧ p x = false) → (l.filter p).length < (l.filter q).length
  | [], _, h => by obtain ⟨_, h, _⟩ := h; simp at h
  | y :: l, h1, h2 => by
    have hle : (l.filter p).length ≤ (l.filter q).length := by
      have : ∀ l' : List α, (∀ x ∈ l', p x = true → q x = true) → (l'.filter p).length ≤ (l'.filter q).length := by
        intro l'
        induction l' with
        | nil => simp
        | cons z l' ih =>
          intro h
          have := ih fun x hx => h x (by simp [hx])
          have hz := h z (by simp)
          by_cases hp : p z = true
          · simp [hp, hz hp]; omega
          · rw [List.filter_cons_of_neg hp]
            by_cases hq : q z = true
            · simp [hq]; omega
            · rw [List.filter_cons_of_neg hq]; exact this
      exact this l fun x hx => h1 x (by simp [hx])
    by_cases hp : p y = true
    · obtain ⟨x, hx, hqx, hpx⟩ := h2
      have hxy : x ≠ y := fun e => by rw [e, hp] at hpx; cases hpx
      have := filter_lt (l := l) (fun x hx => h1 x (by simp [hx])) ⟨x, by simpa [hxy] using hx, hqx, hpx⟩
      simp [hp, h1 y (by simp) hp]
      omega
    · rw [List.filter_cons_of_neg hp]
      by_cases hq : q y = true
      · simp [hq]; omega
      · rw [List.filter_cons_of_neg hq]
        obtain ⟨x, hx, hqx, hpx⟩ := h2
        have hxy : x ≠ y := fun e => hq (by rw [← e]; exact hqx)
        exact filter_lt (l := l) (fun x hx => h1 x (by simp [hx])) ⟨x, by simpa [hxy] using hx, hqx, hpx⟩
theorem rk_le (N : Nat) (E : Int → Int) (x : Int) : rk N E x ≤ N := by
  refine Nat.le_trans (List.length_filter_le _ _) ?_
  simp [nodesL]
theorem rk_lt_N {N : Nat} {E : Int → Int} {x : Int} (hx : nd N x) : rk N E x < N := by
  have h : rk N E x < ((nodesL N).filter fun _ => true).length := filter_lt (fun _ _ _ => rfl) ⟨x, mem_nodesL.2 hx, rfl, by simp [rkB]⟩
  have : ((nodesL N).filter fun _ => true).length ≤ N := by
    refine Nat.le_trans (List.length_filter_le _ _) ?_
    simp [nodesL]
  omega
theorem rk_hop {N : Nat} {c : Cst} {E : Int → Int} {x m : Int} (h : m ∈ hopsL N c E x) : rk N E m < rk N E x := by
  obtain ⟨h1, h2, h3, h4⟩ := mem_hopsL.1 h
  refine filter_lt (fun v _ hv => ?_) ⟨m, mem_nodesL.2 h1, ?_, ?_⟩
  · simp only [rkB, Bool.and_eq_true, decide_eq_true_iff] at hv ⊢; omega
  · simp only [rkB, Bool.and_eq_true, decide_eq_true_iff]; omega
  · simp [rkB]
theorem rk_pos {N : Nat} {E : Int → Int} {x b : Int} (hb : nd N b) (h0 : E b = 0) (h : 0 < E x) : 0 < rk N E x := by
  have : b ∈ (nodesL N).filter (rkB E x) := by
    rw [List.mem_filter]
    exact ⟨mem_nodesL.2 hb, by simp only [rkB, Bool.and_eq_true, decide_eq_true_iff]; omega⟩
  exact List.length_pos_of_mem this

/-- The shortest walk over the smallest hops. -/
def sp (N : Nat) (c : Cst) (E : Int → Int) (b : Int) : Nat → Int → List Int
  | 0, _ => []
  | k + 1, x => if x = b then [] else match hopsL N c E x with | [] => [] | m :: _ => m :: sp N c E b k m
/-- The number of shortest walks. -/
def cnt (N : Nat) (c : Cst) (E : Int → Int) (b : Int) : Nat → Int → Int
  | 0, x => if x = b then 1 else 0
  | k + 1, x => if x = b then 1 else ((hopsL N c E x).map (cnt N c E b k)).sum
def Sh (c : Cst) (E : Int → Int) (b x : Int) (p : List Int) : Prop := isW c x p b ∧ wc c x p = E x
theorem sp_len (N : Nat) (c : Cst) (E : Int → Int) (b : Int) : ∀ (k : Nat) (x : Int), (sp N c E b k x).length ≤ k
  | 0, _ => by simp [sp]
  | k + 1, x => by
    unfold sp
    split
    · simp
    · split
      · simp
      · rename_i m _ _
        have := sp_len N c E b k m
        simp only [List.length_cons]; omega
theorem sum_le {l : List Int} {B : Int} (h : ∀ x ∈ l, x ≤ B) : l.sum ≤ l.length * B := by
  induction l with
  | nil => simp
  | cons x l ih =>
    have h1 := h x (by simp)
    have h2 := ih fun y hy => h y (by simp [hy])
    simp only [List.sum_cons, List.length_cons]
    have : ((l.length + 1 : Nat) : Int) * B = l.length * B + B := by rw [Int.natCast_add, Int.add_mul]; omega
    omega
theorem sum_ge {l : List Int} (h : ∀ x ∈ l, 1 ≤ x) : (l.length : Int) ≤ l.sum := by
  induction l with
  | nil => simp
  | cons x l ih =>
    have h1 := h x (by simp)
    have h2 := ih fun y hy => h y (by simp [hy])
    simp only [List.sum_cons, List.length_cons]
    omega
theorem cnt_nn (N : Nat) (c : Cst) (E : Int → Int) (b : Int) : ∀ (k : Nat) (x : Int), 0 ≤ cnt N c E b k x
  | 0, _ => by unfold cnt; split <;> omega
  | k + 1, x => by
    unfold cnt
    split
    · omega
    · have : ∀ l : List Int, (∀ y ∈ l, 0 ≤ y) → 0 ≤ l.sum := by
        intro l
        induction l with
        | nil => simp
        | cons y l ih => intro h; have := h y (by simp); have := ih fun z hz => h z (by simp [hz]); simp only [List.sum_cons]; omega
      refine this _ fun y hy => ?_
      obtain ⟨m, _, rfl⟩ := List.mem_map.1 hy
      exact cnt_nn N c E b k m
theorem cnt_le {N : Nat} (hN : N ≤ 8) (c : Cst) (E : Int → Int) (b : Int) : ∀ (k : Nat) (x : Int), cnt N c E b k x ≤ 8 ^ k
  | 0, _ => by unfold cnt; split <;> simp
  | k + 1, x => by
    unfold cnt
    have hp : (0:Int) < 8 ^ k := Int.pow_pos (by omega)
    have hs : (8:Int) ^ (k + 1) = 8 * 8 ^ k := by rw [Int.pow_succ, Int.mul_comm]
    split
    · omega
    · have h1 := sum_le (l := (hopsL N c E x).map (cnt N c E b k)) (B := 8 ^ k) fun y hy => by
        obtain ⟨m, _, rfl⟩ := List.mem_map.1 hy
        exact cnt_le hN c E b k m
      have h2 := hopsL_len N c E x
      rw [List.length_map] at h1
      have h3 : ((hopsL N c E x).length : Int) * 8 ^ k ≤ 8 * 8 ^ k := Int.mul_le_mul_of_nonneg_right (by omega) (by omega)
      omega

section
variable {N : Nat} {c : Cst} {D : Int → Int → Int} (hc : CstOk N c) (hD : Dst N c D) {b : Int} (hb : nd N b)
include hc hD hb
theorem hop_ex {x : Int} (hx : nd N x) (h : 0 ≤ D b x) (hne : x ≠ b) : ∃ m, m ∈ hopsL N c (D b) x := by
  rw [Dst.symm hc hD hb hx] at h
  obtain ⟨p, p1, p2⟩ := hD.walk x b hx hb h
  cases p with
  | nil => exact absurd p1 hne
  | cons m q =>
    have hm := (hc.node x m p1.1).2
    have l1 := hD.least m b q hm p1.2
    have l2 := hD.least x b [m] hx |> fun _ => Dst.link hc hD p1.1
    have l3 := Dst.tri hc hD hx hm hb l2.1 l1.1
    refine ⟨m, mem_hopsL.2 ⟨hm, p1.1, ?_, ?_⟩⟩
    · rw [Dst.symm hc hD hb hm]; exact l1.1
    · rw [Dst.symm hc hD hb hm, Dst.symm hc hD hb hx]
      simp only [wc] at p2
      omega
theorem sh_cons {x m : Int} {p : List Int} (hx : nd N x) : Sh c (D b) b x (m :: p) ↔ m ∈ hopsL N c (D b) x ∧ Sh c (D b) b m p := by
  rw [mem_hopsL]
  unfold Sh
  constructor
  · rintro ⟨⟨h1, h2⟩, h3⟩
    have hm := (hc.node x m h1).2
    have l1 := hD.least m b p hm h2
    have l2 := Dst.link hc hD h1
    have l3 := Dst.tri hc hD hx hm hb l2.1 l1.1
    rw [Dst.symm hc hD hb hx] at h3 ⊢
    rw [Dst.symm hc hD hb hm]
    simp only [wc] at h3
    exact ⟨⟨hm, h1, l1.1, by omega⟩, h2, by omega⟩
  · rintro ⟨⟨hm, h1, h2, h3⟩, h4, h5⟩
    exact ⟨⟨h1, h4⟩, by simp only [wc]; omega⟩
theorem sh_self {p : List Int} (h : Sh c (D b) b b p) : p = [] := by
  have h0 := Dst.self hc hD hb
  cases p with
  | nil => rfl
  | cons x p => have := wc_pos hc h.1 (by simp); have := h.2; omega
theorem sh_nil : Sh c (D b) b b [] := ⟨rfl, by rw [Dst.self hc hD hb]; rfl⟩
theorem far {x : Int} (hx : nd N x) (h : 0 ≤ D b x) (hne : x ≠ b) : 0 < D b x := by
  obtain ⟨m, hm⟩ := hop_ex hc hD hb hx h hne
  have := mem_hopsL.1 hm
  omega
theorem sp_sh : ∀ (k : Nat) (x : Int), nd N x → 0 ≤ D b x → rk N (D b) x ≤ k → Sh c (D b) b x (sp N c (D b) b k x)
  | 0, x, hx, h, hk => by
    by_cases e : x = b
    · subst e; exact sh_nil hc hD hb
    · have := rk_pos hb (Dst.self hc hD hb) (far hc hD hb hx h e); omega
  | k + 1, x, hx, h, hk => by
    unfold sp
    split
    · rename_i e; subst e; exact sh_nil hc hD hb
    · rename_i e
      obtain ⟨m0, hm0⟩ := hop_ex hc hD hb hx h e
      split
      · rename_i e2; rw [e2] at hm0; simp at hm0
      · rename_i m ms e2
        have hm : m ∈ hopsL N c (D b) x := by rw [e2]; simp
        have h1 := mem_hopsL.1 hm
        exact (sh_cons hc hD hb hx).2 ⟨hm, sp_sh k m h1.1 h1.2.2.1 (by have := rk_hop hm; omega)⟩
theorem sp_fuel : ∀ (k l : Nat) (x : Int), nd N x → 0 ≤ D b x → rk N (D b) x ≤ k → rk N (D b) x ≤ l → sp N c (D b) b k x = sp N c (D b) b l x
  | k, l, x, hx, h, hk, hl => by
    by_cases e : x = b
    · subst e
      cases k <;> cases l <;> simp [sp]
    · have hp := rk_pos hb (Dst.self hc hD hb) (far hc hD hb hx h e)
      obtain ⟨k, rfl⟩ : ∃ j, k = j + 1 := ⟨k - 1, by omega⟩
      obtain ⟨l, rfl⟩ : ∃ j, l = j + 1 := ⟨l - 1, by omega⟩
      unfold sp
      rw [if_neg e, if_neg e]
      split
      · rfl
      · rename_i m ms e2
        have hm : m ∈ hopsL N c (D b) x := by rw [e2]; simp
        have h1 := mem_hopsL.1 hm
        have := rk_hop hm
        rw [sp_fuel k l m h1.1 h1.2.2.1 (by omega) (by omega)]
theorem cnt_fuel : ∀ (k l : Nat) (x : Int), nd N x → 0 ≤ D b x → rk N (D b) x ≤ k → rk N (D b) x ≤ l → cnt N c (D b) b k x = cnt N c (D b) b l x
  | k, l, x, hx, h, hk, hl => by
    by_cases e : x = b
    · subst e
      cases k <;> cases l <;> simp [cnt]
    · have hp := rk_pos hb (Dst.self hc hD hb) (far hc hD hb hx h e)
      obtain ⟨k, rfl⟩ : ∃ j, k = j + 1 := ⟨k - 1, by omega⟩
      obtain ⟨l, rfl⟩ : ∃ j, l = j + 1 := ⟨l - 1, by omega⟩
      unfold cnt
      rw [if_neg e, if_neg e]
      congr 1
      refine List.map_congr_left fun m hm => ?_
      have h1 := mem_hopsL.1 hm
      have := rk_hop hm
      exact cnt_fuel k l m h1.1 h1.2.2.1 (by omega) (by omega)
theorem cnt_pos : ∀ (k : Nat) (x : Int), nd N x → 0 ≤ D b x → rk N (D b) x ≤ k → 1 ≤ cnt N c (D b) b k x
  | k, x, hx, h, hk => by
    by_cases e : x = b
    · subst e
      cases k <;> simp [cnt]
    · have hp := rk_pos hb (Dst.self hc hD hb) (far hc hD hb hx h e)
      obtain ⟨k, rfl⟩ : ∃ j, k = j + 1 := ⟨k - 1, by omega⟩
      obtain ⟨m0, hm0⟩ := hop_ex hc hD hb hx h e
      have h1 := sum_ge (l := (hopsL N c (D b) x).map (cnt N c (D b) b k)) fun y hy => by
        obtain ⟨m, hm, rfl⟩ := List.mem_map.1 hy
        have h1 := mem_hopsL.1 hm
        have := rk_hop hm
        exact cnt_pos k m h1.1 h1.2.2.1 (by omega)
      have h2 := List.length_pos_of_mem hm0
      rw [List.length_map] at h1
      unfold cnt
      rw [if_neg e]
      omega
/-- One shortest walk is the same as a count of one. -/
theorem cnt_one : ∀ (k : Nat) (x : Int), nd N x → 0 ≤ D b x → rk N (D b) x ≤ k → (cnt N c (D b) b k x = 1 ↔ ∀ p q, Sh c (D b) b x p → Sh c (D b) b x q → p = q)
  | k, x, hx, h, hk => by
    by_cases e : x = b
    · subst e
      refine ⟨fun _ p q hp hq => ?_, fun _ => ?_⟩
      · rw [sh_self hc hD hb hp, sh_self hc hD hb hq]
      · cases k <;> simp [cnt]
    · have hp := rk_pos hb (Dst.self hc hD hb) (far hc hD hb hx h e)
      obtain ⟨k, rfl⟩ : ∃ j, k = j + 1 := ⟨k - 1, by omega⟩
      have hu : cnt N c (D b) b (k + 1) x = ((hopsL N c (D b) x).map (cnt N c (D b) b k)).sum := by
        conv => lhs; unfold cnt
        rw [if_neg e]
      have hpos : ∀ m ∈ hopsL N c (D b) x, 1 ≤ cnt N c (D b) b k m := fun m hm => by
        have h1 := mem_hopsL.1 hm
        have := rk_hop hm
        exact cnt_pos hc hD hb k m h1.1 h1.2.2.1 (by omega)
      have hone : ∀ m ∈ hopsL N c (D b) x, (cnt N c (D b) b k m = 1 ↔ ∀ p q, Sh c (D b) b m p → Sh c (D b) b m q → p = q) := fun m hm => by
        have h1 := mem_hopsL.1 hm
        have := rk_hop hm
        exact cnt_one k m h1.1 h1.2.2.1 (by omega)
      have hnil : ∀ p, Sh c (D b) b x p → ∃ m q, p = m :: q := fun p hp => by
        cases p with
        | nil => exact absurd hp.1 e
        | cons m q => exact ⟨m, q, rfl⟩
      rw [hu]
      obtain ⟨m0, hm0⟩ := hop_ex hc hD hb hx h e
      rcases hl : hopsL N c (D b) x with _ | ⟨m, ms⟩
      · rw [hl] at hm0; simp at hm0
      · have hmm : m ∈ hopsL N c (D b) x := by rw [hl]; simp
        rw [List.map_cons, List.sum_cons]
        have g1 := sum_ge (l := ms.map (cnt N c (D b) b k)) fun y hy => by
          obtain ⟨m', hm', rfl⟩ := List.mem_map.1 hy
          exact hpos m' (by rw [hl]; simp [hm'])
        rw [List.length_map] at g1
        have g2 := hpos m hmm
        constructor
        · intro hs
          have hms : ms = [] := List.eq_nil_of_length_eq_zero (by omega)
          subst hms
          have h1 : cnt N c (D b) b k m = 1 := by simpa using hs
          intro p q sp sq
          obtain ⟨m1, p', rfl⟩ := hnil p sp
          obtain ⟨m2, q', rfl⟩ := hnil q sq
          obtain ⟨a1, a2⟩ := (sh_cons hc hD hb hx).1 sp
          obtain ⟨b1, b2⟩ := (sh_cons hc hD hb hx).1 sq
          rw [hl] at a1 b1
          simp at a1 b1
          subst a1 b1
          rw [(hone _ hmm).1 h1 p' q' a2 b2]
        · intro hs
          have spm : ∀ m' ∈ hopsL N c (D b) x, ∃ p, Sh c (D b) b m' p := fun m' hm' => by
            have h1 := mem_hopsL.1 hm'
            exact ⟨_, sp_sh hc hD hb N m' h1.1 h1.2.2.1 (rk_le _ _ _)⟩
          have hms : ms = [] := by
            cases ms with
            | nil => rfl
            | cons m2 ms =>
              have hm2 : m2 ∈ hopsL N c (D b) x := by rw [hl]; simp
              obtain ⟨p1, hp1⟩ := spm m hmm
              obtain ⟨p2, hp2⟩ := spm m2 hm2
              have := hs (m :: p1) (m2 :: p2) ((sh_cons hc hD hb hx).2 ⟨hmm, hp1⟩) ((sh_cons hc hD hb hx).2 ⟨hm2, hp2⟩)
              injection this with e1 _
              have hn := hopsL_nodup N c (D b) x
              rw [hl, e1] at hn
              simp at hn
          subst hms
          have h1 : cnt N c (D b) b k m = 1 := (hone m hmm).2 fun p q hp' hq' => by
            have := hs (m :: p) (m :: q) ((sh_cons hc hD hb hx).2 ⟨hmm, hp'⟩) ((sh_cons hc hD hb hx).2 ⟨hmm, hq'⟩)
            injection this
          simpa using h1
end
end Go.Proofs.Ythcnmhjfapoaiaa
