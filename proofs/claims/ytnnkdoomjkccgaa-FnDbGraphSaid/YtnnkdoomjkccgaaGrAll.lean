/- Walks over weighted links, distances, next hops, how many shortest walks there are. No program in sight. · Walks that are the only shortest ones; paths split into such walks and single links; the greedy split is a least one. No program in sight. · Graphs as data; distances by relaxing the links, round by round, are least. No program in sight. · Plain functions and lemmas on lists. No program in sight. · Graphs as data: validity, the link between two nodes, its cost; paths. No program in sight. · Stacks of labels: where they lead, over which nodes, at what cost, over which links. No program in sight. · Links that a packet may cross; unique ways. No program in sight. · A stack label by label: what the k-th label adds. No program in sight. · The neighbours of a node, as data. No program in sight. · Stacks of node labels, and their way back. No program in sight. · Compiled stacks: they lead over their path, without choice, at its cost, with least labels. No program in sight. · The reference's search of the longest part grows from the beginning; the program's shrinks from the end: both find bestK. No program in sight. · A link that no packet crosses may be taken away. No program in sight. -/
import Derived.Test.YtnnkdoomjkccgaaPre
namespace Go.Proofs.Ytnnkdoomjkccgaa
set_option linter.unusedSimpArgs false
set_option linter.unusedVariables false

abbrev Cst := Int → Int → Int
/-- The nodes p follow a; the last one is b. -/
def isW (c : Cst) : Int → List Int → Int → Prop
  | a, [], b => a = b
  | a, x :: p, b => 0 < c a x ∧ isW c x p b
def wc (c : Cst) : Int → List Int → Int
  | _, [] => 0
  | a, x :: p => c a x + wc c x p
def lastN : Int → List Int → Int
  | a, [] => a
  | _, x :: p => lastN x p
def nd (N : Nat) (a : Int) : Prop := 0 ≤ a ∧ a < N
structure CstOk (N : Nat) (c : Cst) : Prop where
  nn : ∀ a b, 0 ≤ c a b
  sym : ∀ a b, c a b = c b a
  node : ∀ a b, 0 < c a b → nd N a ∧ nd N b
  ne : ∀ a, c a a = 0
theorem isW_last {c : Cst} : ∀ {p : List Int} {a b : Int}, isW c a p b → lastN a p = b
  | [], _, _, h => h
  | x :: p, _, b, h => isW_last (p := p) (a := x) (b := b) h.2
theorem lastN_append : ∀ (p q : List Int) (a : Int), lastN a (p ++ q) = lastN (lastN a p) q
  | [], _, _ => rfl
  | x :: p, q, _ => lastN_append p q x
theorem isW_append {c : Cst} : ∀ {p q : List Int} {a b : Int}, isW c a (p ++ q) b ↔ isW c a p (lastN a p) ∧ isW c (lastN a p) q b
  | [], _, _, _ => ⟨fun h => ⟨rfl, h⟩, fun h => h.2⟩
  | x :: p, q, a, b => by
    show 0 < c a x ∧ isW c x (p ++ q) b ↔ (0 < c a x ∧ isW c x p (lastN x p)) ∧ isW c (lastN x p) q b
    rw [isW_append (p := p), and_assoc]
theorem wc_append {c : Cst} : ∀ (p q : List Int) (a : Int), wc c a (p ++ q) = wc c a p + wc c (lastN a p) q
  | [], _, _ => by simp [wc, lastN]
  | x :: p, q, a => by
    show c a x + wc c x (p ++ q) = c a x + wc c x p + wc c (lastN x p) q
    rw [wc_append p q x]; omega
theorem wc_nn {N : Nat} {c : Cst} (hc : CstOk N c) : ∀ (p : List Int) (a : Int), 0 ≤ wc c a p
  | [], _ => Int.le_refl _
  | x :: p, a => by have := hc.nn a x; have := wc_nn hc p x; simp only [wc]; omega
theorem wc_pos {N : Nat} {c : Cst} (hc : CstOk N c) {p : List Int} {a b : Int} (h : isW c a p b) (hp : p ≠ []) : 0 < wc c a p := by
  cases p with
  | nil => exact absurd rfl hp
  | cons x p => have := wc_nn hc p x; have := h.1; simp only [wc]; omega
theorem isW_nd {N : Nat} {c : Cst} (hc : CstOk N c) : ∀ {p : List Int} {a b : Int}, nd N a → isW c a p b → nd N b ∧ ∀ x ∈ p, nd N x
  | [], _, _, ha, h => ⟨h ▸ ha, by simp⟩
  | x :: p, a, b, ha, h => by
    obtain ⟨h1, h2⟩ := isW_nd hc (hc.node a x h.1).2 h.2
    exact ⟨h1, by simp only [List.mem_cons]; rintro y (rfl | hy); exact (hc.node a y h.1).2; exact h2 y hy⟩
/-- The way back. -/
def rv : Int → List Int → List Int
  | _, [] => []
  | a, x :: p => rv x p ++ [a]
theorem rv_reverse : ∀ (p : List Int) (a : Int), (a :: p).reverse = lastN a p :: rv a p
  | [], _ => rfl
  | x :: p, a => by rw [List.reverse_cons, rv_reverse p x]; rfl
theorem rv_last : ∀ (p : List Int) (a : Int), lastN (lastN a p) (rv a p) = a
  | [], _ => rfl
  | x :: p, a => by show lastN (lastN x p) (rv x p ++ [a]) = a; rw [lastN_append]; rfl
theorem rv_rv (p : List Int) (a : Int) : rv (lastN a p) (rv a p) = p := by
  have h := rv_reverse (rv a p) (lastN a p)
  rw [← rv_reverse p a, List.reverse_reverse, rv_last] at h
  injection h with _ h
  exact h.symm
theorem rv_walk {N : Nat} {c : Cst} (hc : CstOk N c) : ∀ {p : List Int} {a b : Int}, isW c a p b → isW c b (rv a p) a ∧ wc c b (rv a p) = wc c a p
  | [], _, _, h => ⟨h.symm, rfl⟩
  | x :: p, a, b, h => by
    obtain ⟨h1, h2⟩ := rv_walk hc h.2
    have e := isW_last h1
    refine ⟨?_, ?_⟩
    · show isW c b (rv x p ++ [a]) a
      rw [isW_append, e]
      exact ⟨h1, by rw [hc.sym]; exact h.1, rfl⟩
    · show wc c b (rv x p ++ [a]) = c a x + wc c x p
      rw [wc_append, e, h2, hc.sym a x]
      simp only [wc]; omega
theorem rv_len : ∀ (p : List Int) (a : Int), (rv a p).length = p.length
  | [], _ => rfl
  | x :: p, a => by simp [rv, rv_len p x]

/-- D tells the least cost of a walk, and is negative where there is none. -/
structure Dst (N : Nat) (c : Cst) (D : Int → Int → Int) : Prop where
  low : ∀ a b, nd N a → nd N b → -1 ≤ D a b
  walk : ∀ a b, nd N a → nd N b → 0 ≤ D a b → ∃ p, isW c a p b ∧ wc c a p = D a b
  least : ∀ a b p, nd N a → isW c a p b → 0 ≤ D a b ∧ D a b ≤ wc c a p
section
variable {N : Nat} {c : Cst} {D : Int → Int → Int} (hc : CstOk N c) (hD : Dst N c D)
include hc hD
theorem Dst.self {a : Int} (ha : nd N a) : D a a = 0 := by
  have _ := hc.ne
  have := hD.least a a [] ha rfl
  simp only [wc] at this; omega
theorem Dst.le_symm {a b : Int} (ha : nd N a) (hb : nd N b) (h : 0 ≤ D a b) : 0 ≤ D b a ∧ D b a ≤ D a b := by
  obtain ⟨p, h1, h2⟩ := hD.walk a b ha hb h
  obtain ⟨h3, h4⟩ := rv_walk hc h1
  have := hD.least b a _ hb h3
  omega
theorem Dst.symm {a b : Int} (ha : nd N a) (hb : nd N b) : D a b = D b a := by
  have l1 := hD.low a b ha hb
  have l2 := hD.low b a hb ha
  rcases Int.lt_or_le (D a b) 0 with h | h
  · rcases Int.lt_or_le (D b a) 0 with h' | h'
    · omega
    · have := Dst.le_symm hc hD hb ha h'; omega
  · have h1 := Dst.le_symm hc hD ha hb h
    have h2 := Dst.le_symm hc hD hb ha h1.1
    omega
theorem Dst.tri {a m b : Int} (ha : nd N a) (hm : nd N m) (hb : nd N b) (h1 : 0 ≤ D a m) (h2 : 0 ≤ D m b) : 0 ≤ D a b ∧ D a b ≤ D a m + D m b := by
  have _ := hc.ne
  obtain ⟨p, p1, p2⟩ := hD.walk a m ha hm h1
  obtain ⟨q, q1, q2⟩ := hD.walk m b hm hb h2
  have e := isW_last p1
  have := hD.least a b (p ++ q) ha (isW_append.2 (by rw [e]; exact ⟨p1, q1⟩))
  rw [wc_append, e] at this
  omega
theorem Dst.link {a b : Int} (h : 0 < c a b) : 0 ≤ D a b ∧ D a b ≤ c a b := by
  have := hD.least a b [b] (hc.node a b h).1 ⟨h, rfl⟩
  simp only [wc] at this
  omega
end

/-- The next hops towards the node from which E tells the distances. -/
def hopB (c : Cst) (E : Int → Int) (x m : Int) : Bool := decide (0 < c x m) && decide (0 ≤ E m) && decide (E m + c x m = E x)
def nodesL (N : Nat) : List Int := (List.range N).map Int.ofNat
def hopsL (N : Nat) (c : Cst) (E : Int → Int) (x : Int) : List Int := (nodesL N).filter (hopB c E x)
theorem mem_nodesL {N : Nat} {m : Int} : m ∈ nodesL N ↔ nd N m := by
  unfold nodesL nd
  simp only [List.mem_map, List.mem_range]
  constructor
  · rintro ⟨k, hk, rfl⟩; simp only [Int.ofNat_eq_natCast]; omega
  · rintro ⟨h1, h2⟩; exact ⟨m.toNat, by omega, by simp only [Int.ofNat_eq_natCast]; omega⟩
theorem mem_hopsL {N : Nat} {c : Cst} {E : Int → Int} {x m : Int} : m ∈ hopsL N c E x ↔ nd N m ∧ 0 < c x m ∧ 0 ≤ E m ∧ E m + c x m = E x := by
  unfold hopsL hopB
  simp only [List.mem_filter, mem_nodesL, Bool.and_eq_true, decide_eq_true_iff, and_assoc]
theorem nodesL_nodup (N : Nat) : (nodesL N).Nodup := by
  unfold nodesL
  rw [List.Nodup, List.pairwise_map]
  exact (List.nodup_range (n := N)).imp fun h e => h (by simp only [Int.ofNat_eq_natCast] at e; omega)
theorem hopsL_nodup (N : Nat) (c : Cst) (E : Int → Int) (x : Int) : (hopsL N c E x).Nodup := (nodesL_nodup N).filter _
theorem hopsL_len (N : Nat) (c : Cst) (E : Int → Int) (x : Int) : (hopsL N c E x).length ≤ N := by
  refine Nat.le_trans (List.length_filter_le _ _) ?_
  simp [nodesL]
/-- How many nodes lie nearer. -/
def rkB (E : Int → Int) (x v : Int) : Bool := decide (0 ≤ E v) && decide (E v < E x)
def rk (N : Nat) (E : Int → Int) (x : Int) : Nat := ((nodesL N).filter (rkB E x)).length
theorem filter_lt {α : Type} {p q : α → Bool} : ∀ {l : List α}, (∀ x ∈ l, p x = true → q x = true) → (∃ x ∈ l, q x = true ∧ p x = false) → (l.filter p).length < (l.filter q).length
  | [], _, h => by obtain ⟨_, h, _⟩ := h; simp at h
  | y :: l, h1, h2 => by
    have hle : (l.filter p).length ≤ (l.filter q).length := by
      have : ∀ l' : List α, (∀ x ∈ l', p x = true → q x = true) → (l'.filter p).length ≤ (l'.filter q).length := by
        intro l'
        induction l' with
        | nil => simp
        | cons z l' ih =>
          intro h
          have := ih fun x hx => h x (by simp [hx])
          have hz := h z (by simp)
          by_cases hp : p z = true
          · simp [hp, hz hp]; omega
          · rw [List.filter_cons_of_neg hp]
            by_cases hq : q z = true
            · simp [hq]; omega
            · rw [List.filter_cons_of_neg hq]; exact this
      exact this l fun x hx => h1 x (by simp [hx])
    by_cases hp : p y = true
    · obtain ⟨x, hx, hqx, hpx⟩ := h2
      have hxy : x ≠ y := fun e => by rw [e, hp] at hpx; cases hpx
      have := filter_lt (l := l) (fun x hx => h1 x (by simp [hx])) ⟨x, by simpa [hxy] using hx, hqx, hpx⟩
      simp [hp, h1 y (by simp) hp]
      omega
    · rw [List.filter_cons_of_neg hp]
      by_cases hq : q y = true
      · simp [hq]; omega
      · rw [List.filter_cons_of_neg hq]
        obtain ⟨x, hx, hqx, hpx⟩ := h2
        have hxy : x ≠ y := fun e => hq (by rw [← e]; exact hqx)
        exact filter_lt (l := l) (fun x hx => h1 x (by simp [hx])) ⟨x, by simpa [hxy] using hx, hqx, hpx⟩
theorem rk_le (N : Nat) (E : Int → Int) (x : Int) : rk N E x ≤ N := by
  refine Nat.le_trans (List.length_filter_le _ _) ?_
  simp [nodesL]
theorem rk_lt_N {N : Nat} {E : Int → Int} {x : Int} (hx : nd N x) : rk N E x < N := by
  have h : rk N E x < ((nodesL N).filter fun _ => true).length := filter_lt (fun _ _ _ => rfl) ⟨x, mem_nodesL.2 hx, rfl, by simp [rkB]⟩
  have : ((nodesL N).filter fun _ => true).length ≤ N := by
    refine Nat.le_trans (List.length_filter_le _ _) ?_
    simp [nodesL]
  omega
theorem rk_hop {N : Nat} {c : Cst} {E : Int → Int} {x m : Int} (h : m ∈ hopsL N c E x) : rk N E m < rk N E x := by
  obtain ⟨h1, h2, h3, h4⟩ := mem_hopsL.1 h
  refine filter_lt (fun v _ hv => ?_) ⟨m, mem_nodesL.2 h1, ?_, ?_⟩
  · simp only [rkB, Bool.and_eq_true, decide_eq_true_iff] at hv ⊢; omega
  · simp only [rkB, Bool.and_eq_true, decide_eq_true_iff]; omega
  · simp [rkB]
theorem rk_pos {N : Nat} {E : Int → Int} {x b : Int} (hb : nd N b) (h0 : E b = 0) (h : 0 < E x) : 0 < rk N E x := by
  have : b ∈ (nodesL N).filter (rkB E x) := by
    rw [List.mem_filter]
    exact ⟨mem_nodesL.2 hb, by simp only [rkB, Bool.and_eq_true, decide_eq_true_iff]; omega⟩
  exact List.length_pos_of_mem this

/-- The shortest walk over the smallest hops. -/
def sp (N : Nat) (c : Cst) (E : Int → Int) (b : Int) : Nat → Int → List Int
  | 0, _ => []
  | k + 1, x => if x = b then [] else match hopsL N c E x with | [] => [] | m :: _ => m :: sp N c E b k m
/-- The number of shortest walks. -/
def cnt (N : Nat) (c : Cst) (E : Int → Int) (b : Int) : Nat → Int → Int
  | 0, x => if x = b then 1 else 0
  | k + 1, x => if x = b then 1 else ((hopsL N c E x).map (cnt N c E b k)).sum
def Sh (c : Cst) (E : Int → Int) (b x : Int) (p : List Int) : Prop := isW c x p b ∧ wc c x p = E x
theorem sp_len (N : Nat) (c : Cst) (E : Int → Int) (b : Int) : ∀ (k : Nat) (x : Int), (sp N c E b k x).length ≤ k
  | 0, _ => by simp [sp]
  | k + 1, x => by
    unfold sp
    split
    · simp
    · split
      · simp
      · rename_i m _ _
        have := sp_len N c E b k m
        simp only [List.length_cons]; omega
theorem sum_le {l : List Int} {B : Int} (h : ∀ x ∈ l, x ≤ B) : l.sum ≤ l.length * B := by
  induction l with
  | nil => simp
  | cons x l ih =>
    have h1 := h x (by simp)
    have h2 := ih fun y hy => h y (by simp [hy])
    simp only [List.sum_cons, List.length_cons]
    have : ((l.length + 1 : Nat) : Int) * B = l.length * B + B := by rw [Int.natCast_add, Int.add_mul]; omega
    omega
theorem sum_ge {l : List Int} (h : ∀ x ∈ l, 1 ≤ x) : (l.length : Int) ≤ l.sum := by
  induction l with
  | nil => simp
  | cons x l ih =>
    have h1 := h x (by simp)
    have h2 := ih fun y hy => h y (by simp [hy])
    simp only [List.sum_cons, List.length_cons]
    omega
theorem cnt_nn (N : Nat) (c : Cst) (E : Int → Int) (b : Int) : ∀ (k : Nat) (x : Int), 0 ≤ cnt N c E b k x
  | 0, _ => by unfold cnt; split <;> omega
  | k + 1, x => by
    unfold cnt
    split
    · omega
    · have : ∀ l : List Int, (∀ y ∈ l, 0 ≤ y) → 0 ≤ l.sum := by
        intro l
        induction l with
        | nil => simp
        | cons y l ih => intro h; have := h y (by simp); have := ih fun z hz => h z (by simp [hz]); simp only [List.sum_cons]; omega
      refine this _ fun y hy => ?_
      obtain ⟨m, _, rfl⟩ := List.mem_map.1 hy
      exact cnt_nn N c E b k m
theorem cnt_le {N : Nat} (hN : N ≤ 8) (c : Cst) (E : Int → Int) (b : Int) : ∀ (k : Nat) (x : Int), cnt N c E b k x ≤ 8 ^ k
  | 0, _ => by unfold cnt; split <;> simp
  | k + 1, x => by
    unfold cnt
    have hp : (0:Int) < 8 ^ k := Int.pow_pos (by omega)
    have hs : (8:Int) ^ (k + 1) = 8 * 8 ^ k := by rw [Int.pow_succ, Int.mul_comm]
    split
    · omega
    · have h1 := sum_le (l := (hopsL N c E x).map (cnt N c E b k)) (B := 8 ^ k) fun y hy => by
        obtain ⟨m, _, rfl⟩ := List.mem_map.1 hy
        exact cnt_le hN c E b k m
      have h2 := hopsL_len N c E x
      rw [List.length_map] at h1
      have h3 : ((hopsL N c E x).length : Int) * 8 ^ k ≤ 8 * 8 ^ k := Int.mul_le_mul_of_nonneg_right (by omega) (by omega)
      omega

section
variable {N : Nat} {c : Cst} {D : Int → Int → Int} (hc : CstOk N c) (hD : Dst N c D) {b : Int} (hb : nd N b)
include hc hD hb
theorem hop_ex {x : Int} (hx : nd N x) (h : 0 ≤ D b x) (hne : x ≠ b) : ∃ m, m ∈ hopsL N c (D b) x := by
  rw [Dst.symm hc hD hb hx] at h
  obtain ⟨p, p1, p2⟩ := hD.walk x b hx hb h
  cases p with
  | nil => exact absurd p1 hne
  | cons m q =>
    have hm := (hc.node x m p1.1).2
    have l1 := hD.least m b q hm p1.2
    have l2 := hD.least x b [m] hx |> fun _ => Dst.link hc hD p1.1
    have l3 := Dst.tri hc hD hx hm hb l2.1 l1.1
    refine ⟨m, mem_hopsL.2 ⟨hm, p1.1, ?_, ?_⟩⟩
    · rw [Dst.symm hc hD hb hm]; exact l1.1
    · rw [Dst.symm hc hD hb hm, Dst.symm hc hD hb hx]
      simp only [wc] at p2
      omega
theorem sh_cons {x m : Int} {p : List Int} (hx : nd N x) : Sh c (D b) b x (m :: p) ↔ m ∈ hopsL N c (D b) x ∧ Sh c (D b) b m p := by
  rw [mem_hopsL]
  unfold Sh
  constructor
  · rintro ⟨⟨h1, h2⟩, h3⟩
    have hm := (hc.node x m h1).2
    have l1 := hD.least m b p hm h2
    have l2 := Dst.link hc hD h1
    have l3 := Dst.tri hc hD hx hm hb l2.1 l1.1
    rw [Dst.symm hc hD hb hx] at h3 ⊢
    rw [Dst.symm hc hD hb hm]
    simp only [wc] at h3
    exact ⟨⟨hm, h1, l1.1, by omega⟩, h2, by omega⟩
  · rintro ⟨⟨hm, h1, h2, h3⟩, h4, h5⟩
    exact ⟨⟨h1, h4⟩, by simp only [wc]; omega⟩
theorem sh_self {p : List Int} (h : Sh c (D b) b b p) : p = [] := by
  have h0 := Dst.self hc hD hb
  cases p with
  | nil => rfl
  | cons x p => have := wc_pos hc h.1 (by simp); have := h.2; omega
theorem sh_nil : Sh c (D b) b b [] := ⟨rfl, by rw [Dst.self hc hD hb]; rfl⟩
theorem far {x : Int} (hx : nd N x) (h : 0 ≤ D b x) (hne : x ≠ b) : 0 < D b x := by
  obtain ⟨m, hm⟩ := hop_ex hc hD hb hx h hne
  have := mem_hopsL.1 hm
  omega
theorem sp_sh : ∀ (k : Nat) (x : Int), nd N x → 0 ≤ D b x → rk N (D b) x ≤ k → Sh c (D b) b x (sp N c (D b) b k x)
  | 0, x, hx, h, hk => by
    by_cases e : x = b
    · subst e; exact sh_nil hc hD hb
    · have := rk_pos hb (Dst.self hc hD hb) (far hc hD hb hx h e); omega
  | k + 1, x, hx, h, hk => by
    unfold sp
    split
    · rename_i e; subst e; exact sh_nil hc hD hb
    · rename_i e
      obtain ⟨m0, hm0⟩ := hop_ex hc hD hb hx h e
      split
      · rename_i e2; rw [e2] at hm0; simp at hm0
      · rename_i m ms e2
        have hm : m ∈ hopsL N c (D b) x := by rw [e2]; simp
        have h1 := mem_hopsL.1 hm
        exact (sh_cons hc hD hb hx).2 ⟨hm, sp_sh k m h1.1 h1.2.2.1 (by have := rk_hop hm; omega)⟩
theorem sp_fuel : ∀ (k l : Nat) (x : Int), nd N x → 0 ≤ D b x → rk N (D b) x ≤ k → rk N (D b) x ≤ l → sp N c (D b) b k x = sp N c (D b) b l x
  | k, l, x, hx, h, hk, hl => by
    by_cases e : x = b
    · subst e
      cases k <;> cases l <;> simp [sp]
    · have hp := rk_pos hb (Dst.self hc hD hb) (far hc hD hb hx h e)
      obtain ⟨k, rfl⟩ : ∃ j, k = j + 1 := ⟨k - 1, by omega⟩
      obtain ⟨l, rfl⟩ : ∃ j, l = j + 1 := ⟨l - 1, by omega⟩
      unfold sp
      rw [if_neg e, if_neg e]
      split
      · rfl
      · rename_i m ms e2
        have hm : m ∈ hopsL N c (D b) x := by rw [e2]; simp
        have h1 := mem_hopsL.1 hm
        have := rk_hop hm
        rw [sp_fuel k l m h1.1 h1.2.2.1 (by omega) (by omega)]
theorem cnt_fuel : ∀ (k l : Nat) (x : Int), nd N x → 0 ≤ D b x → rk N (D b) x ≤ k → rk N (D b) x ≤ l → cnt N c (D b) b k x = cnt N c (D b) b l x
  | k, l, x, hx, h, hk, hl => by
    by_cases e : x = b
    · subst e
      cases k <;> cases l <;> simp [cnt]
    · have hp := rk_pos hb (Dst.self hc hD hb) (far hc hD hb hx h e)
      obtain ⟨k, rfl⟩ : ∃ j, k = j + 1 := ⟨k - 1, by omega⟩
      obtain ⟨l, rfl⟩ : ∃ j, l = j + 1 := ⟨l - 1, by omega⟩
      unfold cnt
      rw [if_neg e, if_neg e]
      congr 1
      refine List.map_congr_left fun m hm => ?_
      have h1 := mem_hopsL.1 hm
      have := rk_hop hm
      exact cnt_fuel k l m h1.1 h1.2.2.1 (by omega) (by omega)
theorem cnt_pos : ∀ (k : Nat) (x : Int), nd N x → 0 ≤ D b x → rk N (D b) x ≤ k → 1 ≤ cnt N c (D b) b k x
  | k, x, hx, h, hk => by
    by_cases e : x = b
    · subst e
      cases k <;> simp [cnt]
    · have hp := rk_pos hb (Dst.self hc hD hb) (far hc hD hb hx h e)
      obtain ⟨k, rfl⟩ : ∃ j, k = j + 1 := ⟨k - 1, by omega⟩
      obtain ⟨m0, hm0⟩ := hop_ex hc hD hb hx h e
      have h1 := sum_ge (l := (hopsL N c (D b) x).map (cnt N c (D b) b k)) fun y hy => by
        obtain ⟨m, hm, rfl⟩ := List.mem_map.1 hy
        have h1 := mem_hopsL.1 hm
        have := rk_hop hm
        exact cnt_pos k m h1.1 h1.2.2.1 (by omega)
      have h2 := List.length_pos_of_mem hm0
      rw [List.length_map] at h1
      unfold cnt
      rw [if_neg e]
      omega
/-- One shortest walk is the same as a count of one. -/
theorem cnt_one : ∀ (k : Nat) (x : Int), nd N x → 0 ≤ D b x → rk N (D b) x ≤ k → (cnt N c (D b) b k x = 1 ↔ ∀ p q, Sh c (D b) b x p → Sh c (D b) b x q → p = q)
  | k, x, hx, h, hk => by
    by_cases e : x = b
    · subst e
      refine ⟨fun _ p q hp hq => ?_, fun _ => ?_⟩
      · rw [sh_self hc hD hb hp, sh_self hc hD hb hq]
      · cases k <;> simp [cnt]
    · have hp := rk_pos hb (Dst.self hc hD hb) (far hc hD hb hx h e)
      obtain ⟨k, rfl⟩ : ∃ j, k = j + 1 := ⟨k - 1, by omega⟩
      have hu : cnt N c (D b) b (k + 1) x = ((hopsL N c (D b) x).map (cnt N c (D b) b k)).sum := by
        conv => lhs; unfold cnt
        rw [if_neg e]
      have hpos : ∀ m ∈ hopsL N c (D b) x, 1 ≤ cnt N c (D b) b k m := fun m hm => by
        have h1 := mem_hopsL.1 hm
        have := rk_hop hm
        exact cnt_pos hc hD hb k m h1.1 h1.2.2.1 (by omega)
      have hone : ∀ m ∈ hopsL N c (D b) x, (cnt N c (D b) b k m = 1 ↔ ∀ p q, Sh c (D b) b m p → Sh c (D b) b m q → p = q) := fun m hm => by
        have h1 := mem_hopsL.1 hm
        have := rk_hop hm
        exact cnt_one k m h1.1 h1.2.2.1 (by omega)
      have hnil : ∀ p, Sh c (D b) b x p → ∃ m q, p = m :: q := fun p hp => by
        cases p with
        | nil => exact absurd hp.1 e
        | cons m q => exact ⟨m, q, rfl⟩
      rw [hu]
      obtain ⟨m0, hm0⟩ := hop_ex hc hD hb hx h e
      rcases hl : hopsL N c (D b) x with _ | ⟨m, ms⟩
      · rw [hl] at hm0; simp at hm0
      · have hmm : m ∈ hopsL N c (D b) x := by rw [hl]; simp
        rw [List.map_cons, List.sum_cons]
        have g1 := sum_ge (l := ms.map (cnt N c (D b) b k)) fun y hy => by
          obtain ⟨m', hm', rfl⟩ := List.mem_map.1 hy
          exact hpos m' (by rw [hl]; simp [hm'])
        rw [List.length_map] at g1
        have g2 := hpos m hmm
        constructor
        · intro hs
          have hms : ms = [] := List.eq_nil_of_length_eq_zero (by omega)
          subst hms
          have h1 : cnt N c (D b) b k m = 1 := by simpa using hs
          intro p q sp sq
          obtain ⟨m1, p', rfl⟩ := hnil p sp
          obtain ⟨m2, q', rfl⟩ := hnil q sq
          obtain ⟨a1, a2⟩ := (sh_cons hc hD hb hx).1 sp
          obtain ⟨b1, b2⟩ := (sh_cons hc hD hb hx).1 sq
          rw [hl] at a1 b1
          simp at a1 b1
          subst a1 b1
          rw [(hone _ hmm).1 h1 p' q' a2 b2]
        · intro hs
          have spm : ∀ m' ∈ hopsL N c (D b) x, ∃ p, Sh c (D b) b m' p := fun m' hm' => by
            have h1 := mem_hopsL.1 hm'
            exact ⟨_, sp_sh hc hD hb N m' h1.1 h1.2.2.1 (rk_le _ _ _)⟩
          have hms : ms = [] := by
            cases ms with
            | nil => rfl
            | cons m2 ms =>
              have hm2 : m2 ∈ hopsL N c (D b) x := by rw [hl]; simp
              obtain ⟨p1, hp1⟩ := spm m hmm
              obtain ⟨p2, hp2⟩ := spm m2 hm2
              have := hs (m :: p1) (m2 :: p2) ((sh_cons hc hD hb hx).2 ⟨hmm, hp1⟩) ((sh_cons hc hD hb hx).2 ⟨hm2, hp2⟩)
              injection this with e1 _
              have hn := hopsL_nodup N c (D b) x
              rw [hl, e1] at hn
              simp at hn
          subst hms
          have h1 : cnt N c (D b) b k m = 1 := (hone m hmm).2 fun p q hp' hq' => by
            have := hs (m :: p) (m :: q) ((sh_cons hc hD hb hx).2 ⟨hmm, hp'⟩) ((sh_cons hc hD hb hx).2 ⟨hmm, hq'⟩)
            injection this
          simpa using h1
end
end Go.Proofs.Ytnnkdoomjkccgaa
namespace Go.Proofs.Ytnnkdoomjkccgaa
set_option linter.unusedSimpArgs false
set_option linter.unusedVariables false

/-- No other walk to the same end costs as little. -/
def Uq (c : Cst) (a : Int) (p : List Int) : Prop := ∀ q, isW c a q (lastN a p) → wc c a q ≤ wc c a p → q = p
theorem isW_end {c : Cst} {a b : Int} {p : List Int} (h : isW c a p b) : isW c a p (lastN a p) := by rw [isW_last h]; exact h
theorem Uq.left {c : Cst} {a b : Int} {p q : List Int} (hw : isW c a (p ++ q) b) (h : Uq c a (p ++ q)) : Uq c a p := fun r hr hle => by
  have e := isW_last hr
  obtain ⟨h1, h2⟩ := isW_append.1 (isW_end hw)
  have := h (r ++ q) (isW_append.2 (by rw [e]; exact ⟨hr, h2⟩)) (by rw [wc_append, wc_append, e]; omega)
  exact List.append_cancel_right this
theorem Uq.right {c : Cst} {a b : Int} {p q : List Int} (hw : isW c a (p ++ q) b) (h : Uq c a (p ++ q)) : Uq c (lastN a p) q := fun r hr hle => by
  obtain ⟨h1, h2⟩ := isW_append.1 (isW_end hw)
  have e : lastN a (p ++ q) = lastN (lastN a p) q := lastN_append p q a
  have := h (p ++ r) (isW_append.2 ⟨h1, by rw [e]; exact hr⟩) (by rw [wc_append, wc_append]; omega)
  exact List.append_cancel_left this
theorem Uq.rv {N : Nat} {c : Cst} (hc : CstOk N c) {a b : Int} {p : List Int} (hw : isW c a p b) (h : Uq c a p) : Uq c (lastN a p) (rv a p) := fun q hq hle => by
  rw [rv_last] at hq
  obtain ⟨h1, h2⟩ := rv_walk hc hq
  obtain ⟨h3, h4⟩ := rv_walk hc (isW_end hw)
  have := h (Go.Proofs.Ytnnkdoomjkccgaa.rv (lastN a p) q) h1 (by omega)
  have e := rv_rv q (lastN a p)
  rw [isW_last hq, this] at e
  exact e.symm
def onlyB (N : Nat) (c : Cst) (D : Int → Int → Int) (a : Int) (p : List Int) : Bool := decide (wc c a p = D a (lastN a p)) && decide (cnt N c (D (lastN a p)) (lastN a p) N a = 1)
theorem only_iff {N : Nat} {c : Cst} {D : Int → Int → Int} (hc : CstOk N c) (hD : Dst N c D) {a b : Int} {p : List Int} (ha : nd N a) (hw : isW c a p b) : onlyB N c D a p = true ↔ Uq c a p := by
  have e := isW_last hw
  have hb := (isW_nd hc ha hw).1
  have l := hD.least a b p ha hw
  have hs := Dst.symm hc hD hb ha
  unfold onlyB
  rw [e, Bool.and_eq_true, decide_eq_true_iff, decide_eq_true_iff, cnt_one hc hD hb N a ha (by rw [hs]; exact l.1) (rk_le _ _ _)]
  unfold Uq
  rw [e]
  constructor
  · rintro ⟨h1, h2⟩ q hq hle
    have l2 := hD.least a b q ha hq
    exact h2 q p ⟨hq, by rw [hs]; omega⟩ ⟨hw, by rw [hs]; omega⟩
  · intro h
    obtain ⟨r, r1, r2⟩ := hD.walk a b ha hb l.1
    have hr := h r r1 (by omega)
    subst hr
    exact ⟨r2, fun p' q' hp' hq' => by rw [h p' hp'.1 (by rw [hp'.2, hs]; omega), h q' hq'.1 (by rw [hq'.2, hs]; omega)]⟩

/-- Segments one behind the other: each a single link or the only shortest walk. -/
def Sg (c : Cst) : Int → List (List Int) → Prop
  | _, [] => True
  | a, s :: ss => s ≠ [] ∧ (s.length = 1 ∨ Uq c a s) ∧ Sg c (lastN a s) ss
theorem sg_suffix {c : Cst} : ∀ {ss : List (List Int)} {a b : Int} {x y : List Int}, Sg c a ss → ss.flatten = x ++ y → isW c a (x ++ y) b → ∃ ss', ss'.flatten = y ∧ Sg c (lastN a x) ss' ∧ ss'.length ≤ ss.length
  | [], a, b, x, y, _, he, _ => by
    have : x = [] ∧ y = [] := by simpa using he.symm
    exact ⟨[], by simp [this.2], trivial, Nat.le_refl _⟩
  | s :: ss, a, b, x, y, ⟨h1, h2, h3⟩, he, hw => by
    rw [List.flatten_cons] at he
    rcases List.append_eq_append_iff.1 he with ⟨x', hx, hy⟩ | ⟨s', hs, hy⟩
    · subst hx
      rw [List.append_assoc] at hw
      obtain ⟨ss', a1, a2, a3⟩ := sg_suffix (ss := ss) (x := x') (y := y) h3 hy (isW_append.1 hw).2
      exact ⟨ss', a1, by rw [lastN_append]; exact a2, by simp; omega⟩
    · subst hs
      by_cases hn : s' = []
      · subst hn
        exact ⟨ss, by simpa using hy.symm, by simpa using h3, by simp⟩
      · refine ⟨s' :: ss, by rw [List.flatten_cons]; exact hy.symm, ⟨hn, ?_, ?_⟩, by simp⟩
        · rcases h2 with h2 | h2
          · have : 0 < s'.length := List.length_pos_iff.2 hn
            rw [List.length_append] at h2
            exact .inl (by omega)
          · rw [hy, ← List.append_assoc] at hw
            exact .inr (Uq.right (isW_append.1 hw).1 h2)
        · rw [← lastN_append]; exact h3
theorem sg_prefix {c : Cst} : ∀ {ss : List (List Int)} {a b : Int} {x y : List Int}, Sg c a ss → ss.flatten = x ++ y → isW c a (x ++ y) b → ∃ ss', ss'.flatten = x ∧ Sg c a ss' ∧ ss'.length ≤ ss.length
  | [], a, b, x, y, _, he, _ => by
    have : x = [] ∧ y = [] := by simpa using he.symm
    exact ⟨[], by simp [this.1], trivial, Nat.le_refl _⟩
  | s :: ss, a, b, x, y, ⟨h1, h2, h3⟩, he, hw => by
    rw [List.flatten_cons] at he
    rcases List.append_eq_append_iff.1 he with ⟨x', hx, hy⟩ | ⟨s', hs, hy⟩
    · subst hx
      rw [List.append_assoc] at hw
      obtain ⟨ss', a1, a2, a3⟩ := sg_prefix (ss := ss) (x := x') (y := y) h3 hy (isW_append.1 hw).2
      exact ⟨s :: ss', by rw [List.flatten_cons, a1], ⟨h1, h2, a2⟩, by simp; omega⟩
    · subst hs
      by_cases hn : x = []
      · exact ⟨[], by simp [hn], trivial, by simp⟩
      · refine ⟨[x], by simp, ⟨hn, ?_, trivial⟩, by simp⟩
        rcases h2 with h2 | h2
        · have : 0 < x.length := List.length_pos_iff.2 hn
          rw [List.length_append] at h2
          exact .inl (by omega)
        · rw [hy, ← List.append_assoc] at hw
          exact .inr (Uq.left (isW_append.1 hw).1 h2)
theorem sg_join {c : Cst} : ∀ {ss tt : List (List Int)} {a : Int}, Sg c a ss → Sg c (lastN a ss.flatten) tt → Sg c a (ss ++ tt)
  | [], _, _, _, h => h
  | s :: ss, tt, a, ⟨h1, h2, h3⟩, h => ⟨h1, h2, sg_join h3 (by rw [List.flatten_cons, lastN_append] at h; exact h)⟩
theorem rv_append : ∀ (p q : List Int) (a : Int), rv a (p ++ q) = rv (lastN a p) q ++ rv a p
  | [], q, a => by simp [rv, lastN]
  | x :: p, q, a => by
    show rv x (p ++ q) ++ [a] = rv (lastN x p) q ++ (rv x p ++ [a])
    rw [rv_append p q x, List.append_assoc]
theorem sg_rv {N : Nat} {c : Cst} (hc : CstOk N c) : ∀ {ss : List (List Int)} {a b : Int}, Sg c a ss → isW c a ss.flatten b → ∃ ss', ss'.flatten = rv a ss.flatten ∧ Sg c b ss' ∧ ss'.length = ss.length
  | [], a, b, _, _ => ⟨[], rfl, trivial, rfl⟩
  | s :: ss, a, b, ⟨h1, h2, h3⟩, hw => by
    rw [List.flatten_cons] at hw
    obtain ⟨w1, w2⟩ := isW_append.1 hw
    obtain ⟨ss', a1, a2, a3⟩ := sg_rv hc h3 w2
    have e := isW_last w2
    refine ⟨ss' ++ [rv a s], ?_, sg_join a2 ⟨?_, ?_, trivial⟩, by simp [a3]⟩
    · rw [List.flatten_append, a1, show (s :: ss).flatten = s ++ ss.flatten from rfl, rv_append]; simp
    · intro h
      have := rv_len s a
      rw [h] at this
      exact h1 (List.eq_nil_of_length_eq_zero this.symm)
    · rw [a1, ← e, rv_last]
      rcases h2 with h2 | h2
      · exact .inl (by rw [rv_len]; exact h2)
      · exact .inr (Uq.rv hc w1 h2)

/-- The greatest number from 1 to k that passes, or 0. -/
def bestK (f : Nat → Bool) : Nat → Nat
  | 0 => 0
  | k + 1 => if f (k + 1) then k + 1 else bestK f k
theorem bestK_le (f : Nat → Bool) : ∀ k, bestK f k ≤ k
  | 0 => Nat.le_refl _
  | k + 1 => by unfold bestK; split; exact Nat.le_refl _; have := bestK_le f k; omega
theorem bestK_ok (f : Nat → Bool) : ∀ k, 0 < bestK f k → f (bestK f k) = true
  | 0, h => by simp [bestK] at h
  | k + 1, h => by
    unfold bestK at h ⊢
    split
    · assumption
    · rename_i hf; rw [if_neg hf] at h; exact bestK_ok f k h
theorem bestK_ge {f : Nat → Bool} : ∀ {k j : Nat}, 0 < j → j ≤ k → f j = true → j ≤ bestK f k
  | 0, j, h1, h2, _ => by omega
  | k + 1, j, h1, h2, h => by
    unfold bestK
    split
    · exact h2
    · rename_i hf
      by_cases e : j = k + 1
      · subst e; exact absurd h hf
      · exact bestK_ge h1 (by omega) h
/-- The labels of a path: for each the greatest part that is an only shortest walk, else one link. -/
def comp (N : Nat) (c : Cst) (D : Int → Int → Int) (lk : Int → Int → Int) : Nat → Int → List Int → List (Int × Int)
  | 0, _, _ => []
  | _ + 1, _, [] => []
  | f + 1, a, x :: p =>
    let k := bestK (fun k => onlyB N c D a ((x :: p).take k)) (p.length + 1)
    if 0 < k then (1, lastN a ((x :: p).take k)) :: comp N c D lk f (lastN a ((x :: p).take k)) ((x :: p).drop k)
    else (2, lk a x) :: comp N c D lk f x p
section
variable {N : Nat} {c : Cst} {D : Int → Int → Int} (hc : CstOk N c) (hD : Dst N c D) (lk : Int → Int → Int)
include hc hD
theorem comp_sg : ∀ (f : Nat) (a b : Int) (p : List Int), p.length ≤ f → nd N a → isW c a p b → ∃ ss, ss.flatten = p ∧ Sg c a ss ∧ ss.length = (comp N c D lk f a p).length
  | 0, a, b, p, h, _, _ => by
    have : p = [] := List.eq_nil_of_length_eq_zero (by omega)
    subst this
    exact ⟨[], rfl, trivial, rfl⟩
  | f + 1, a, b, [], _, _, _ => ⟨[], rfl, trivial, rfl⟩
  | f + 1, a, b, x :: p, h, ha, hw => by
    unfold comp
    simp only
    split
    · rename_i hk
      obtain ⟨k, hkk⟩ : ∃ k, bestK (fun k => onlyB N c D a ((x :: p).take k)) (p.length + 1) = k := ⟨_, rfl⟩
      have hle := bestK_le (fun k => onlyB N c D a ((x :: p).take k)) (p.length + 1)
      have hok := bestK_ok _ _ hk
      rw [hkk] at hk hle hok ⊢
      have hsp : (x :: p).take k ++ (x :: p).drop k = x :: p := List.take_append_drop _ _
      rw [← hsp] at hw
      obtain ⟨w1, w2⟩ := isW_append.1 hw
      obtain ⟨ss, a1, a2, a3⟩ := comp_sg f _ b ((x :: p).drop k) (by simp only [List.length_drop, List.length_cons] at *; omega) (isW_nd hc ha w1).1 w2
      refine ⟨(x :: p).take k :: ss, by rw [List.flatten_cons, a1, hsp], ⟨?_, .inr ((only_iff hc hD ha w1).1 hok), a2⟩, by simp [a3]⟩
      intro e
      have := congrArg List.length e
      simp only [List.length_take, List.length_cons, List.length_nil] at this
      omega
    · obtain ⟨ss, a1, a2, a3⟩ := comp_sg f x b p (by simpa using h) (hc.node a x hw.1).2 hw.2
      exact ⟨[x] :: ss, by rw [List.flatten_cons, a1]; rfl, ⟨by simp, .inl rfl, a2⟩, by simp [a3]⟩
theorem comp_min : ∀ (f : Nat) (a b : Int) (p : List Int), p.length ≤ f → nd N a → isW c a p b → ∀ ss, ss.flatten = p → Sg c a ss → (comp N c D lk f a p).length ≤ ss.length
  | 0, a, b, p, h, _, _, _, _, _ => by simp [comp]
  | f + 1, a, b, [], _, _, _, _, _, _ => by simp [comp]
  | f + 1, a, b, x :: p, h, ha, hw, [], he, _ => by simp at he
  | f + 1, a, b, x :: p, h, ha, hw, s :: ss, he, ⟨h1, h2, h3⟩ => by
    rw [List.flatten_cons] at he
    have hsl : 0 < s.length := List.length_pos_iff.2 h1
    have hse : s = (x :: p).take s.length := by rw [← he]; simp
    have hsr : ss.flatten = (x :: p).drop s.length := by rw [← he]; simp
    have hsle : s.length ≤ p.length + 1 := by have := congrArg List.length he; simp at this; omega
    have hsp : ∀ k, (x :: p).take k ++ (x :: p).drop k = x :: p := fun k => List.take_append_drop _ _
    have hw1 := hw
    rw [← hsp s.length] at hw1
    obtain ⟨w1, w2⟩ := isW_append.1 hw1
    rw [← hse] at w1
    have w2' : isW c (lastN a s) ((x :: p).drop s.length) b := by have := w2; rw [← hse] at this; exact this
    -- what stands behind a later cut
    have later : ∀ k, s.length ≤ k → ∃ ss', ss'.flatten = (x :: p).drop k ∧ Sg c (lastN a ((x :: p).take k)) ss' ∧ ss'.length ≤ ss.length := fun k hk => by
      have e1 : (x :: p).drop s.length = ((x :: p).drop s.length).take (k - s.length) ++ (x :: p).drop k := by
        have := (List.take_append_drop (k - s.length) ((x :: p).drop s.length)).symm
        rw [List.drop_drop, show s.length + (k - s.length) = k by omega] at this
        exact this
      obtain ⟨ss', b1, b2, b3⟩ := sg_suffix (x := ((x :: p).drop s.length).take (k - s.length)) (y := (x :: p).drop k) (b := b) h3 (by rw [hsr]; exact e1) (by rw [← e1]; exact w2')
      refine ⟨ss', b1, ?_, b3⟩
      rw [← lastN_append] at b2
      have e2 : s ++ ((x :: p).drop s.length).take (k - s.length) = (x :: p).take k := by
        have : (x :: p).take k = (x :: p).take (s.length + (k - s.length)) := by rw [show s.length + (k - s.length) = k by omega]
        rw [this, List.take_add, ← hse]
      rw [e2] at b2
      exact b2
    unfold comp
    simp only
    split
    · rename_i hk
      obtain ⟨k, hkk⟩ : ∃ k, bestK (fun k => onlyB N c D a ((x :: p).take k)) (p.length + 1) = k := ⟨_, rfl⟩
      have hsk : s.length ≤ k := by
        rcases h2 with h2 | h2
        · omega
        · rw [← hkk]
          exact bestK_ge hsl hsle (by rw [← hse]; exact (only_iff hc hD ha w1).2 h2)
      have hle := bestK_le (fun k => onlyB N c D a ((x :: p).take k)) (p.length + 1)
      rw [hkk] at hk hle ⊢
      obtain ⟨ss', b1, b2, b3⟩ := later k hsk
      have hw3 := hw
      rw [← hsp k] at hw3
      obtain ⟨v1, v2⟩ := isW_append.1 hw3
      have := comp_min f _ b ((x :: p).drop k) (by simp only [List.length_drop, List.length_cons] at *; omega) (isW_nd hc ha v1).1 v2 ss' b1 b2
      simp only [List.length_cons]; omega
    · rename_i hk
      have hs1 : s.length = 1 := by
        rcases h2 with h2 | h2
        · exact h2
        · have := bestK_ge (f := fun k => onlyB N c D a ((x :: p).take k)) hsl hsle (by rw [← hse]; exact (only_iff hc hD ha w1).2 h2)
          omega
      obtain ⟨ss', b1, b2, b3⟩ := later 1 (by omega)
      have := comp_min f x b p (by simpa using h) (hc.node a x hw.1).2 hw.2 ss' (by simpa using b1) (by simpa [lastN] using b2)
      simp only [List.length_cons]; omega
end
end Go.Proofs.Ytnnkdoomjkccgaa
namespace Go.Proofs.Ytnnkdoomjkccgaa
set_option linter.unusedSimpArgs false
set_option linter.unusedVariables false

abbrev LinkD := Int × Int × Int
def atD (d : List Int) (x : Int) : Int := d.getD x.toNat (-1)
def relax1 (d : List Int) (a b c : Int) : List Int := if 0 ≤ atD d a ∧ (atD d b < 0 ∨ atD d a + c < atD d b) then d.set b.toNat (atD d a + c) else d
def relaxP (d : List Int) (l : LinkD) : List Int := relax1 (relax1 d l.1 l.2.1 l.2.2) l.2.1 l.1 l.2.2
def roundD (ls : List LinkD) (d : List Int) : List Int := ls.foldl relaxP d
def bfD (ls : List LinkD) : Nat → List Int → List Int
  | 0, d => d
  | k + 1, d => bfD ls k (roundD ls d)
def distL (n : Int) (ls : List LinkD) (a : Int) : List Int := bfD ls n.toNat ((List.replicate n.toNat (-1)).set a.toNat 0)
def distG (n : Int) (ls : List LinkD) (a b : Int) : Int := atD (distL n ls a) b

theorem relax1_len (d : List Int) (a b c : Int) : (relax1 d a b c).length = d.length := by unfold relax1; split <;> simp
theorem relaxP_len (d : List Int) (l : LinkD) : (relaxP d l).length = d.length := by unfold relaxP; rw [relax1_len, relax1_len]
theorem roundD_len : ∀ (ls : List LinkD) (d : List Int), (roundD ls d).length = d.length
  | [], _ => rfl
  | l :: ls, d => by show (roundD ls (relaxP d l)).length = _; rw [roundD_len ls, relaxP_len]
theorem bfD_len (ls : List LinkD) : ∀ (k : Nat) (d : List Int), (bfD ls k d).length = d.length
  | 0, _ => rfl
  | k + 1, d => by unfold bfD; rw [bfD_len ls k, roundD_len]
theorem distL_len (n : Int) (ls : List LinkD) (a : Int) : (distL n ls a).length = n.toNat := by unfold distL; rw [bfD_len]; simp
theorem atD_set {N : Nat} {d : List Int} (hl : d.length = N) {b v x : Int} (hb : nd N b) (hv : nd N v) : atD (d.set b.toNat x) v = if v = b then x else atD d v := by
  unfold atD
  rw [List.getD_eq_getElem?_getD, List.getElem?_set, List.getD_eq_getElem?_getD]
  obtain ⟨h1, h2⟩ := hb
  obtain ⟨h3, h4⟩ := hv
  by_cases e : v = b
  · subst e; rw [if_pos rfl, if_pos (by omega), if_pos rfl]; rfl
  · rw [if_neg (by omega), if_neg e]
def bndD (N : Nat) (K : Int) (d : List Int) : Prop := d.length = N ∧ ∀ v, nd N v → -1 ≤ atD d v ∧ atD d v ≤ K
theorem bnd_relax1 {N : Nat} {K : Int} {d : List Int} (h : bndD N K d) {a b c : Int} (ha : nd N a) (hb : nd N b) (h1 : 0 ≤ c) (h2 : c ≤ 20) : bndD N (K + 20) (relax1 d a b c) := by
  refine ⟨by rw [relax1_len]; exact h.1, fun v hv => ?_⟩
  have h3 := h.2 v hv
  have h4 := h.2 a ha
  unfold relax1
  split
  · rw [atD_set h.1 hb hv]
    split <;> omega
  · omega
theorem bnd_relaxP {N : Nat} {K : Int} {d : List Int} (h : bndD N K d) {l : LinkD} (ha : nd N l.1) (hb : nd N l.2.1) (h1 : 0 ≤ l.2.2) (h2 : l.2.2 ≤ 20) : bndD N (K + 40) (relaxP d l) := by
  have := bnd_relax1 (bnd_relax1 h ha hb h1 h2) hb ha h1 h2
  refine ⟨this.1, fun v hv => ?_⟩
  have := this.2 v hv
  unfold relaxP
  omega
theorem bnd_round {N : Nat} : ∀ {ls : List LinkD} {K : Int} {d : List Int}, bndD N K d → (∀ l ∈ ls, nd N l.1 ∧ nd N l.2.1 ∧ 0 ≤ l.2.2 ∧ l.2.2 ≤ 20) → bndD N (K + 40 * ls.length) (roundD ls d)
  | [], K, d, h, _ => by simpa [roundD] using h
  | l :: ls, K, d, h, hl => by
    obtain ⟨h1, h2, h3, h4⟩ := hl l (by simp)
    have := bnd_round (ls := ls) (bnd_relaxP h h1 h2 h3 h4) fun l' hl' => hl l' (List.mem_cons_of_mem _ hl')
    have e : K + 40 + 40 * (ls.length : Int) = K + 40 * ((l :: ls).length : Int) := by simp only [List.length_cons]; omega
    rw [e] at this
    exact this
theorem bnd_bf {N : Nat} {ls : List LinkD} (hl : ∀ l ∈ ls, nd N l.1 ∧ nd N l.2.1 ∧ 0 ≤ l.2.2 ∧ l.2.2 ≤ 20) (h14 : ls.length ≤ 14) : ∀ (k : Nat) {K : Int} {d : List Int}, bndD N K d → bndD N (K + 560 * k) (bfD ls k d)
  | 0, K, d, h => by simpa [bfD] using h
  | k + 1, K, d, h => by
    have h1 := bnd_round h hl
    have h2 : bndD N (K + 560) (roundD ls d) := ⟨h1.1, fun v hv => by have := h1.2 v hv; omega⟩
    have := bnd_bf hl h14 k h2
    unfold bfD
    exact ⟨this.1, fun v hv => by have := this.2 v hv; omega⟩
theorem start_at {N : Nat} {a v : Int} (ha : nd N a) (hv : nd N v) : atD ((List.replicate N (-1 : Int)).set a.toNat 0) v = if v = a then 0 else -1 := by
  rw [atD_set (N := N) (by simp) ha hv]
  congr 1
  unfold atD
  rw [List.getD_eq_getElem?_getD, List.getElem?_replicate]
  obtain ⟨h1, h2⟩ := hv
  rw [if_pos (by omega)]; rfl
theorem start_bnd {N : Nat} {a : Int} (ha : nd N a) : bndD N 0 ((List.replicate N (-1 : Int)).set a.toNat 0) := by
  refine ⟨by simp, fun v hv => ?_⟩
  rw [start_at ha hv]
  split <;> omega

theorem bf_succ (ls : List LinkD) : ∀ (k : Nat) (d : List Int), bfD ls (k + 1) d = roundD ls (bfD ls k d)
  | 0, _ => rfl
  | k + 1, d => by
    show bfD ls (k + 1) (roundD ls d) = roundD ls (bfD ls k (roundD ls d))
    exact bf_succ ls k (roundD ls d)
/-- What a link does, way by way. -/
theorem relax_up {N : Nat} {d : List Int} (hl : d.length = N) {a b c : Int} (ha : nd N a) (hb : nd N b) (hab : a ≠ b) (hc : 0 < c) (h0 : 0 ≤ atD d a) (h1 : atD d b < 0 ∨ atD d a + c < atD d b) : relaxP d (a, b, c) = d.set b.toNat (atD d a + c) := by
  unfold relaxP
  have e : relax1 d a b c = d.set b.toNat (atD d a + c) := by unfold relax1; rw [if_pos ⟨h0, h1⟩]
  simp only
  rw [e]
  unfold relax1
  rw [if_neg]
  rw [atD_set hl hb hb, if_pos rfl, atD_set hl hb ha, if_neg hab]
  omega
theorem relax_down {d : List Int} {a b c : Int} (h : ¬ (0 ≤ atD d a ∧ (atD d b < 0 ∨ atD d a + c < atD d b))) (h0 : 0 ≤ atD d b) (h1 : atD d a < 0 ∨ atD d b + c < atD d a) : relaxP d (a, b, c) = d.set a.toNat (atD d b + c) := by
  unfold relaxP
  have e : relax1 d a b c = d := by unfold relax1; rw [if_neg h]
  simp only
  rw [e]
  unfold relax1
  rw [if_pos ⟨h0, h1⟩]
theorem relax_none {d : List Int} {a b c : Int} (h : ¬ (0 ≤ atD d a ∧ (atD d b < 0 ∨ atD d a + c < atD d b))) (h' : ¬ (0 ≤ atD d b ∧ (atD d a < 0 ∨ atD d b + c < atD d a))) : relaxP d (a, b, c) = d := by
  unfold relaxP
  have e : relax1 d a b c = d := by unfold relax1; rw [if_neg h]
  simp only
  rw [e]
  unfold relax1
  rw [if_neg h']

/-- Links and costs fit together. -/
structure Fits (N : Nat) (c : Cst) (ls : List LinkD) : Prop where
  ok : CstOk N c
  mem : ∀ l ∈ ls, c l.1 l.2.1 = l.2.2 ∧ 0 < l.2.2 ∧ l.2.2 ≤ 20
  all : ∀ a b, 0 < c a b → ∃ l ∈ ls, (l.1 = a ∧ l.2.1 = b ∨ l.1 = b ∧ l.2.1 = a) ∧ l.2.2 = c a b
theorem Fits.nds {N : Nat} {c : Cst} {ls : List LinkD} (h : Fits N c ls) : ∀ l ∈ ls, nd N l.1 ∧ nd N l.2.1 ∧ 0 ≤ l.2.2 ∧ l.2.2 ≤ 20 := fun l hl => by
  obtain ⟨h1, h2, h3⟩ := h.mem l hl
  have := h.ok.node l.1 l.2.1 (by omega)
  exact ⟨this.1, this.2, by omega, h3⟩

def Sound (N : Nat) (c : Cst) (a : Int) (d : List Int) : Prop := d.length = N ∧ ∀ v, nd N v → -1 ≤ atD d v ∧ (0 ≤ atD d v → ∃ p, isW c a p v ∧ wc c a p = atD d v)
def Better (N : Nat) (d d' : List Int) : Prop := ∀ v, nd N v → 0 ≤ atD d v → 0 ≤ atD d' v ∧ atD d' v ≤ atD d v
theorem Better.refl (N : Nat) (d : List Int) : Better N d d := fun _ _ h => ⟨h, Int.le_refl _⟩
theorem Better.trans {N : Nat} {d d' d'' : List Int} (h : Better N d d') (k : Better N d' d'') : Better N d d'' := fun v hv h0 => by
  obtain ⟨h1, h2⟩ := h v hv h0
  obtain ⟨h3, h4⟩ := k v hv h1
  exact ⟨h3, by omega⟩
section
variable {N : Nat} {c : Cst} {a : Int}
theorem sound_relax1 {d : List Int} (h : Sound N c a d) {x y z : Int} (hx : nd N x) (hy : nd N y) (hz : c x y = z) (h0 : 0 < z) : Sound N c a (relax1 d x y z) := by
  refine ⟨by rw [relax1_len]; exact h.1, fun v hv => ?_⟩
  unfold relax1
  split
  · rename_i hc
    rw [atD_set h.1 hy hv]
    split
    · rename_i e
      subst e
      refine ⟨by omega, fun _ => ?_⟩
      obtain ⟨p, p1, p2⟩ := (h.2 x hx).2 hc.1
      have e := isW_last p1
      exact ⟨p ++ [v], isW_append.2 (by rw [e]; exact ⟨p1, by rw [hz]; exact h0, rfl⟩), by rw [wc_append, e, p2]; simp only [wc]; omega⟩
    · exact h.2 v hv
  · exact h.2 v hv
theorem better_relax1 {d : List Int} (hl : d.length = N) {x y z : Int} (hy : nd N y) (hz : 0 < z) : Better N d (relax1 d x y z) := fun v hv h0 => by
  unfold relax1
  split
  · rename_i hc
    rw [atD_set hl hy hv]
    split
    · rename_i e
      subst e
      omega
    · omega
  · omega
theorem done_relax1 {d : List Int} (hl : d.length = N) {x y z : Int} (hy : nd N y) (hz : 0 < z) (h0 : 0 ≤ atD d x) : 0 ≤ atD (relax1 d x y z) y ∧ atD (relax1 d x y z) y ≤ atD d x + z := by
  unfold relax1
  split
  · rw [atD_set hl hy hy, if_pos rfl]; omega
  · rename_i hc
    rw [not_and] at hc
    have := hc h0
    rw [not_or] at this
    omega
theorem round_facts {c : Cst} : ∀ {ls : List LinkD} {d : List Int}, Sound N c a d → (∀ l ∈ ls, nd N l.1 ∧ nd N l.2.1 ∧ c l.1 l.2.1 = l.2.2 ∧ c l.2.1 l.1 = l.2.2 ∧ 0 < l.2.2) →
    Sound N c a (roundD ls d) ∧ Better N d (roundD ls d) ∧ ∀ l ∈ ls, (0 ≤ atD d l.1 → 0 ≤ atD (roundD ls d) l.2.1 ∧ atD (roundD ls d) l.2.1 ≤ atD d l.1 + l.2.2) ∧ (0 ≤ atD d l.2.1 → 0 ≤ atD (roundD ls d) l.1 ∧ atD (roundD ls d) l.1 ≤ atD d l.2.1 + l.2.2)
  | [], d, h, _ => ⟨h, Better.refl _ _, by simp⟩
  | l :: ls, d, h, hl => by
    obtain ⟨h1, h2, h3, h4, h5⟩ := hl l (by simp)
    have s1 := sound_relax1 h h1 h2 h3 h5
    have s2 := sound_relax1 s1 h2 h1 h4 h5
    have b1 := better_relax1 (x := l.1) h.1 h2 h5
    have b2 := better_relax1 (x := l.2.1) s1.1 h1 h5
    obtain ⟨k1, k2, k3⟩ := round_facts (ls := ls) s2 fun l' hl' => hl l' (by simp [hl'])
    refine ⟨k1, (b1.trans b2).trans k2, fun l' hl' => ?_⟩
    rcases List.mem_cons.1 hl' with rfl | hl'
    · refine ⟨fun h0 => ?_, fun h0 => ?_⟩
      · have d1 := done_relax1 h.1 h2 h5 h0
        have d2 := (b2.trans k2) _ h2 d1.1
        exact ⟨d2.1, Int.le_trans d2.2 d1.2⟩
      · have d0 := b1 _ h2 h0
        have d1 := done_relax1 s1.1 h1 h5 d0.1
        have d2 := k2 _ h1 d1.1
        exact ⟨d2.1, Int.le_trans d2.2 (Int.le_trans d1.2 (by have := d0.2; omega))⟩
    · obtain ⟨g1, g2, _⟩ := hl l' (by simp [hl'])
      obtain ⟨q1, q2⟩ := k3 l' hl'
      refine ⟨fun h0 => ?_, fun h0 => ?_⟩
      · have d0 := (b1.trans b2) _ g1 h0
        have := q1 d0.1
        exact ⟨this.1, Int.le_trans this.2 (by have := d0.2; omega)⟩
      · have d0 := (b1.trans b2) _ g2 h0
        have := q2 d0.1
        exact ⟨this.1, Int.le_trans this.2 (by have := d0.2; omega)⟩
/-- No walk of at most k links costs less. -/
def Upto (_N : Nat) (c : Cst) (a : Int) (k : Nat) (d : List Int) : Prop := ∀ p v, isW c a p v → p.length ≤ k → 0 ≤ atD d v ∧ atD d v ≤ wc c a p
theorem upto_round {ls : List LinkD} (hf : Fits N c ls) (ha : nd N a) {k : Nat} {d : List Int} (hs : Sound N c a d) (hu : Upto N c a k d) : Sound N c a (roundD ls d) ∧ Upto N c a (k + 1) (roundD ls d) := by
  obtain ⟨k1, k2, k3⟩ := round_facts (ls := ls) hs fun l hl => by
    obtain ⟨h1, h2, h3⟩ := hf.mem l hl
    have := hf.ok.node l.1 l.2.1 (by omega)
    exact ⟨this.1, this.2, h1, by rw [hf.ok.sym]; exact h1, h2⟩
  refine ⟨k1, fun p v hp hk => ?_⟩
  rcases List.eq_nil_or_concat p with rfl | ⟨q, x, rfl⟩
  · have h0 := hu [] v hp (Nat.zero_le _)
    have hv := (isW_nd hf.ok ha hp).1
    have := k2 v hv h0.1
    exact ⟨this.1, by omega⟩
  · rw [List.concat_eq_append] at hp hk ⊢
    obtain ⟨w1, w2⟩ := isW_append.1 hp
    obtain ⟨w3, w4⟩ := w2
    have hx : x = v := w4
    subst hx
    have h0 := hu q (lastN a q) w1 (by simp at hk; omega)
    obtain ⟨l, hl, he, hc⟩ := hf.all _ _ w3
    obtain ⟨q1, q2⟩ := k3 l hl
    rw [wc_append]
    simp only [wc]
    rcases he with ⟨e1, e2⟩ | ⟨e1, e2⟩
    · rw [e1, e2] at q1
      have := q1 h0.1
      omega
    · rw [e1, e2] at q2
      have := q2 h0.1
      omega
theorem upto_bf {ls : List LinkD} (hf : Fits N c ls) (ha : nd N a) : ∀ (j k : Nat) {d : List Int}, Sound N c a d → Upto N c a k d → Sound N c a (bfD ls j d) ∧ Upto N c a (k + j) (bfD ls j d)
  | 0, k, d, hs, hu => ⟨hs, hu⟩
  | j + 1, k, d, hs, hu => by
    obtain ⟨h1, h2⟩ := upto_round hf ha hs hu
    have := upto_bf hf ha j (k + 1) h1 h2
    unfold bfD
    rw [show k + (j + 1) = k + 1 + j by omega]
    exact this
theorem start_facts (ha : nd N a) : Sound N c a ((List.replicate N (-1 : Int)).set a.toNat 0) ∧ Upto N c a 0 ((List.replicate N (-1 : Int)).set a.toNat 0) := by
  refine ⟨⟨by simp, fun v hv => ?_⟩, fun p v hp hk => ?_⟩
  · rw [start_at ha hv]
    split
    · rename_i e; subst e; exact ⟨by omega, fun _ => ⟨[], rfl, rfl⟩⟩
    · exact ⟨by omega, fun h => by omega⟩
  · have : p = [] := List.eq_nil_of_length_eq_zero (by omega)
    subst this
    have e : a = v := hp
    subst e
    rw [start_at ha ha, if_pos rfl]
    exact ⟨by omega, by simp [wc]⟩
end
theorem nodup_len : ∀ (N : Nat) (l : List Int), l.Nodup → (∀ x ∈ l, nd N x) → l.length ≤ N
  | 0, l, _, h => by
    cases l with
    | nil => simp
    | cons x l => have := h x (by simp); unfold nd at this; omega
  | N + 1, l, hn, h => by
    by_cases hm : (N : Int) ∈ l
    · have h1 := nodup_len N (l.erase (N : Int)) (hn.erase _) fun x hx => by
        have h2 := h x (List.mem_of_mem_erase hx)
        have h3 : x ≠ (N : Int) := fun e => by subst e; exact (hn.not_mem_erase) hx
        unfold nd at *; omega
      rw [List.length_erase_of_mem hm] at h1
      omega
    · have h1 := nodup_len N l hn fun x hx => by
        have h2 := h x hx
        have h3 : x ≠ (N : Int) := fun e => hm (e ▸ hx)
        unfold nd at *; omega
      omega
theorem not_nodup : ∀ {l : List Int}, ¬ l.Nodup → ∃ x y z t, l = x ++ y :: (z ++ y :: t)
  | [], h => absurd List.nodup_nil h
  | a :: l, h => by
    by_cases hm : a ∈ l
    · obtain ⟨s, t, rfl⟩ := List.append_of_mem hm
      exact ⟨[], a, s, t, rfl⟩
    · have : ¬ l.Nodup := fun hn => h (List.nodup_cons.2 ⟨hm, hn⟩)
      obtain ⟨x, y, z, t, rfl⟩ := not_nodup this
      exact ⟨a :: x, y, z, t, rfl⟩
theorem short_walk {N : Nat} {c : Cst} (hc : CstOk N c) {a : Int} (ha : nd N a) : ∀ (m : Nat) (p : List Int) (v : Int), p.length ≤ m → isW c a p v → ∃ q, isW c a q v ∧ q.length ≤ N ∧ wc c a q ≤ wc c a p
  | 0, p, v, h, hw => ⟨p, hw, by omega, Int.le_refl _⟩
  | m + 1, p, v, h, hw => by
    by_cases hl : p.length ≤ N
    · exact ⟨p, hw, hl, Int.le_refl _⟩
    · have hnn : ¬ (a :: p).Nodup := fun hn => by
        have := nodup_len N (a :: p) hn (by
          simp only [List.mem_cons]
          rintro x (rfl | hx)
          · exact ha
          · exact (isW_nd hc ha hw).2 x hx)
        simp at this; omega
      obtain ⟨x, y, z, t, he⟩ := not_nodup hnn
      cases x with
      | nil =>
        simp only [List.nil_append, List.cons.injEq] at he
        obtain ⟨rfl, rfl⟩ := he
        obtain ⟨w1, w2⟩ := isW_append.1 hw
        have w3 := w2.2
        have h1 : wc c a t ≤ wc c a (z ++ a :: t) := by
          rw [wc_append]
          have := wc_nn hc z a
          have := hc.nn (lastN a z) a
          simp only [wc]; omega
        obtain ⟨q, q1, q2, q3⟩ := short_walk hc ha m t v (by simp at h; omega) w3
        exact ⟨q, q1, q2, by omega⟩
      | cons x0 x =>
        simp only [List.cons_append, List.cons.injEq] at he
        obtain ⟨rfl, rfl⟩ := he
        obtain ⟨w1, w2⟩ := isW_append.1 hw
        obtain ⟨w3, w4⟩ := w2
        obtain ⟨w5, w6⟩ := isW_append.1 w4
        have w7 := w6.2
        have h1 : wc c a (x ++ y :: t) ≤ wc c a (x ++ y :: (z ++ y :: t)) := by
          rw [wc_append, wc_append]
          simp only [wc]
          rw [wc_append]
          have := wc_nn hc z y
          have := hc.nn (lastN y z) y
          simp only [wc]; omega
        obtain ⟨q, q1, q2, q3⟩ := short_walk hc ha m (x ++ y :: t) v (by simp at h ⊢; omega) (isW_append.2 ⟨w1, w3, w7⟩)
        exact ⟨q, q1, q2, by omega⟩
theorem bf_dst {n : Int} {c : Cst} {ls : List LinkD} (hf : Fits n.toNat c ls) : Dst n.toNat c (distG n ls) := by
  have key : ∀ a, nd n.toNat a → Sound n.toNat c a (distL n ls a) ∧ Upto n.toNat c a n.toNat (distL n ls a) := fun a ha => by
    obtain ⟨h1, h2⟩ := start_facts (c := c) ha
    have := upto_bf hf ha n.toNat 0 h1 h2
    rw [Nat.zero_add] at this
    exact this
  refine ⟨fun a b ha hb => ((key a ha).1.2 b hb).1, fun a b ha hb h => ((key a ha).1.2 b hb).2 h, fun a b p ha hp => ?_⟩
  obtain ⟨q, q1, q2, q3⟩ := short_walk hf.ok ha p.length p b (Nat.le_refl _) hp
  have := (key a ha).2 q b q1 q2
  exact ⟨this.1, Int.le_trans this.2 q3⟩
theorem distG_bnd {n : Int} {c : Cst} {ls : List LinkD} (hf : Fits n.toNat c ls) (hn : n ≤ 8) (h14 : ls.length ≤ 14) {a b : Int} (ha : nd n.toNat a) (hb : nd n.toNat b) : -1 ≤ distG n ls a b ∧ distG n ls a b ≤ 4480 := by
  have := (bnd_bf hf.nds h14 n.toNat (start_bnd ha)).2 b hb
  show -1 ≤ atD (distL n ls a) b ∧ atD (distL n ls a) b ≤ 4480
  unfold distL
  omega
end Go.Proofs.Ytnnkdoomjkccgaa
namespace Go.Proofs.Ytnnkdoomjkccgaa
set_option linter.unusedSimpArgs false
set_option linter.unusedVariables false

def allUpTo (n : Nat) (p : Nat → Bool) : Bool := (List.range n).all p
theorem all_bad {n : Nat} {p : Nat → Bool} {k : Nat} (hk : k < n) (h : p k = false) : allUpTo n p = false := by
  unfold allUpTo; rw [List.all_eq_false]; exact ⟨k, by simpa using hk, by simp [h]⟩
theorem all_good {n : Nat} {p : Nat → Bool} (h : ∀ j, j < n → p j = true) : allUpTo n p = true := by
  unfold allUpTo; rw [List.all_eq_true]; intro j hj; exact h j (by simpa using hj)
theorem all_iff {n : Nat} {p : Nat → Bool} : allUpTo n p = true ↔ ∀ j, j < n → p j = true := by
  unfold allUpTo; rw [List.all_eq_true]; exact ⟨fun h j hj => h j (by simpa using hj), fun h j hj => h j (by simpa using hj)⟩
/-- One round more of a scan. -/
theorem upto_succ {p : Nat → Bool} {k : Nat} (h : ∀ j, j < k → p j = true) (hk : p k = true) : ∀ j, j < k + 1 → p j = true := fun j hj => by
  rcases Nat.lt_or_ge j k with h1 | h1
  · exact h j h1
  · obtain rfl : j = k := by omega
    exact hk

def hasI (xs : List Int) (n : Int) : Bool := xs.any fun x => x == n
theorem has_yes {xs : List Int} {n x : Int} {k : Nat} (h : xs[k]? = some x) (hx : (x == n) = true) : hasI xs n = true := by
  unfold hasI; rw [List.any_eq_true]; exact ⟨x, List.mem_of_getElem? h, hx⟩
theorem has_no {xs : List Int} {n : Int} (h : ∀ j, j < xs.length → ∀ x, xs[j]? = some x → (x == n) = false) : hasI xs n = false := by
  unfold hasI; rw [List.any_eq_false]; intro x hx
  obtain ⟨j, hj⟩ := List.getElem?_of_mem hx
  have hl : j < xs.length := (List.getElem?_eq_some_iff.1 hj).1
  rw [h j hl x hj]; simp

def nodeOk (xs : List Int) (k : Nat) : Bool :=
  match xs[k]? with
  | none => true
  | some x => inB x 0 7 && (k == 0 || !decide (x ≤ xs.getD (k-1) 0))
def nodesOk (xs : List Int) : Bool := allUpTo xs.length (nodeOk xs)
theorem nodeOk_at {xs : List Int} {k : Nat} {x : Int} (h : xs[k]? = some x) : nodeOk xs k = (inB x 0 7 && (k == 0 || !decide (x ≤ xs.getD (k-1) 0))) := by simp [nodeOk, h]
theorem getD_of {α : Type} {xs : List α} {k : Nat} {x d : α} (h : xs[k]? = some x) : xs.getD k d = x := by rw [List.getD_eq_getElem?_getD, h]; rfl

def endOk (o : Int) (es : List (Int × Int)) (k : Nat) : Bool :=
  match es[k]? with
  | none => true
  | some (x, y) => inB x 0 7 && !(x == o) && inB y 1 20 && (k == 0 || !decide (x ≤ (es.getD (k-1) (0,0)).1))
def lsaOk (o s : Int) (es : List (Int × Int)) : Bool := inB o 0 7 && inB s 1 99 && allUpTo es.length (endOk o es)
theorem endOk_at {o : Int} {es : List (Int × Int)} {k : Nat} {x y : Int} (h : es[k]? = some (x, y)) : endOk o es k = (inB x 0 7 && !(x == o) && inB y 1 20 && (k == 0 || !decide (x ≤ (es.getD (k-1) (0,0)).1))) := by simp [endOk, h]

def dbRowOk (db : List LsaD) (k : Nat) : Bool :=
  match db[k]? with
  | none => true
  | some (o, s, es) => lsaOk o s es && (k == 0 || !decide (o ≤ (db.getD (k-1) (0,0,[])).1))
def dbOk (db : List LsaD) : Bool := allUpTo db.length (dbRowOk db)
theorem dbRowOk_at {db : List LsaD} {k : Nat} {o s : Int} {es : List (Int × Int)} (h : db[k]? = some (o, s, es)) : dbRowOk db k = (lsaOk o s es && (k == 0 || !decide (o ≤ (db.getD (k-1) (0,0,[])).1))) := by simp [dbRowOk, h]
end Go.Proofs.Ytnnkdoomjkccgaa
namespace Go.Proofs.Ytnnkdoomjkccgaa
set_option linter.unusedSimpArgs false
set_option linter.unusedVariables false

def lexB (p l : LinkD) : Bool := decide (p.1 < l.1) || (p.1 == l.1 && decide (p.2.1 < l.2.1))
def linkOkB (n : Int) (ls : List LinkD) (k : Nat) : Bool :=
  match ls[k]? with
  | none => true
  | some l => decide (0 ≤ l.1) && decide (l.1 < l.2.1) && decide (l.2.1 < n) && inB l.2.2 1 20 && (k == 0 || lexB (ls.getD (k - 1) (0, 0, 0)) l)
def gOk (n : Int) (ls : List LinkD) : Bool := inB n 1 8 && decide (ls.length ≤ 14) && allUpTo ls.length (linkOkB n ls)
theorem linkOkB_at {n : Int} {ls : List LinkD} {k : Nat} {l : LinkD} (h : ls[k]? = some l) : linkOkB n ls k = (decide (0 ≤ l.1) && decide (l.1 < l.2.1) && decide (l.2.1 < n) && inB l.2.2 1 20 && (k == 0 || lexB (ls.getD (k - 1) (0, 0, 0)) l)) := by simp [linkOkB, h]
theorem lex_iff {p l : LinkD} : lexB p l = true ↔ p.1 < l.1 ∨ (p.1 = l.1 ∧ p.2.1 < l.2.1) := by simp [lexB]
structure GOk (n : Int) (ls : List LinkD) : Prop where
  n1 : 1 ≤ n
  n8 : n ≤ 8
  len : ls.length ≤ 14
  link : ∀ (k : Nat) (l : LinkD), ls[k]? = some l → 0 ≤ l.1 ∧ l.1 < l.2.1 ∧ l.2.1 < n ∧ 1 ≤ l.2.2 ∧ l.2.2 ≤ 20
  lex : ∀ (i j : Nat) (l l' : LinkD), i < j → ls[i]? = some l → ls[j]? = some l' → lexB l l' = true
theorem lex_trans {a b c : LinkD} (h : lexB a b = true) (k : lexB b c = true) : lexB a c = true := by
  rw [lex_iff] at *; omega
theorem gOk_iff {n : Int} {ls : List LinkD} : gOk n ls = true ↔ GOk n ls := by
  unfold gOk
  rw [Bool.and_eq_true, Bool.and_eq_true, all_iff, inB_iff, decide_eq_true_iff]
  constructor
  · rintro ⟨⟨⟨h1, h2⟩, h3⟩, h4⟩
    have hk : ∀ (k : Nat) (l : LinkD), ls[k]? = some l → (0 ≤ l.1 ∧ l.1 < l.2.1 ∧ l.2.1 < n ∧ 1 ≤ l.2.2 ∧ l.2.2 ≤ 20) ∧ (0 < k → lexB (ls.getD (k - 1) (0, 0, 0)) l = true) := fun k l hl => by
      have := h4 k (List.getElem?_eq_some_iff.1 hl).1
      rw [linkOkB_at hl] at this
      simp only [Bool.and_eq_true, decide_eq_true_iff, inB_iff, Bool.or_eq_true, beq_iff_eq] at this
      exact ⟨⟨this.1.1.1.1, this.1.1.1.2, this.1.1.2, this.1.2.1, this.1.2.2⟩, fun h0 => by rcases this.2 with h | h; omega; exact h⟩
    refine ⟨h1, h2, h3, fun k l hl => (hk k l hl).1, fun i j l l' hij hl hl' => ?_⟩
    induction j generalizing l' with
    | zero => omega
    | succ j ih =>
      have := (hk (j + 1) l' hl').2 (by omega)
      rw [Nat.add_sub_cancel] at this
      obtain ⟨m, hm⟩ := at_lt (l := ls) (n := ls.length) rfl (k := j) (by have := (List.getElem?_eq_some_iff.1 hl').1; omega)
      rw [getD_of hm] at this
      by_cases e : i = j
      · subst e; rw [hl] at hm; injection hm with hm; subst hm; exact this
      · exact lex_trans (ih m (by omega) hm) this
  · rintro ⟨h1, h2, h3, h4, h5⟩
    refine ⟨⟨⟨h1, h2⟩, h3⟩, fun k hk => ?_⟩
    obtain ⟨l, hl⟩ := at_lt (l := ls) (n := ls.length) rfl hk
    rw [linkOkB_at hl]
    obtain ⟨a1, a2, a3, a4, a5⟩ := h4 k l hl
    simp only [Bool.and_eq_true, decide_eq_true_iff, inB_iff, Bool.or_eq_true, beq_iff_eq]
    refine ⟨⟨⟨⟨a1, a2⟩, a3⟩, a4, a5⟩, ?_⟩
    by_cases h0 : k = 0
    · exact .inl h0
    · right
      obtain ⟨m, hm⟩ := at_lt (l := ls) (n := ls.length) rfl (k := k - 1) (by omega)
      rw [getD_of hm]
      exact h5 (k - 1) k m l (by omega) hm hl

def linkAt (a b : Int) (l : LinkD) : Bool := l.1 == min a b && l.2.1 == max a b
def lkOf (ls : List LinkD) (a b : Int) : Int := match ls.findIdx? (linkAt a b) with | some i => (i : Int) | none => -1
def cstL (ls : List LinkD) : Cst := fun a b => match ls.find? (linkAt a b) with | some l => l.2.2 | none => 0
theorem linkAt_iff {a b : Int} {l : LinkD} : linkAt a b l = true ↔ l.1 = min a b ∧ l.2.1 = max a b := by simp [linkAt]
theorem linkAt_comm (a b : Int) : linkAt a b = linkAt b a := by funext l; unfold linkAt; rw [Int.min_comm, Int.max_comm]
theorem lkOf_comm (ls : List LinkD) (a b : Int) : lkOf ls a b = lkOf ls b a := by unfold lkOf; rw [linkAt_comm]
theorem lkOf_at {ls : List LinkD} {a b : Int} {i : Nat} {l : LinkD} (h : ls[i]? = some l) (hl : linkAt a b l = true) (hlt : ∀ j l', j < i → ls[j]? = some l' → linkAt a b l' = false) : lkOf ls a b = i := by
  obtain ⟨h1, h2⟩ := List.getElem?_eq_some_iff.1 h
  have : ls.findIdx? (linkAt a b) = some i := by
    rw [List.findIdx?_eq_some_iff_getElem]
    exact ⟨h1, by rw [h2]; exact hl, fun j hj => by rw [hlt j _ hj (List.getElem?_eq_getElem (by omega))]; simp⟩
  unfold lkOf; rw [this]
theorem lkOf_no {ls : List LinkD} {a b : Int} (h : ∀ (j : Nat) (l : LinkD), ls[j]? = some l → linkAt a b l = false) : lkOf ls a b = -1 := by
  have : ls.findIdx? (linkAt a b) = none := by
    rw [List.findIdx?_eq_none_iff]
    intro l hl
    obtain ⟨j, hj⟩ := List.getElem?_of_mem hl
    exact h j l hj
  unfold lkOf; rw [this]
/-- The two ways: no link, or the link at its place. -/
theorem lk_cases (ls : List LinkD) (a b : Int) : (lkOf ls a b = -1 ∧ cstL ls a b = 0 ∧ ∀ l ∈ ls, linkAt a b l = false) ∨ ∃ (i : Nat) (l : LinkD), lkOf ls a b = i ∧ ls[i]? = some l ∧ linkAt a b l = true ∧ cstL ls a b = l.2.2 := by
  rcases h : ls.findIdx? (linkAt a b) with _ | i
  · have h2 := List.findIdx?_eq_none_iff.1 h
    have h3 : ls.find? (linkAt a b) = none := by rw [List.find?_eq_none]; intro l hl; simp [h2 l hl]
    exact .inl ⟨by unfold lkOf; rw [h], by unfold cstL; rw [h3], fun l hl => by simpa using h2 l hl⟩
  · obtain ⟨h1, h2, h3⟩ := List.findIdx?_eq_some_iff_getElem.1 h
    have h4 : ls.find? (linkAt a b) = some ls[i] := by
      rw [List.find?_eq_some_iff_getElem]
      exact ⟨h2, i, h1, rfl, fun j hj => by have := h3 j hj; simpa using this⟩
    exact .inr ⟨i, ls[i], by unfold lkOf; rw [h], List.getElem?_eq_getElem h1, h2, by unfold cstL; rw [h4]⟩
theorem cstL_comm (ls : List LinkD) (a b : Int) : cstL ls a b = cstL ls b a := by unfold cstL; rw [linkAt_comm]
section
variable {n : Int} {ls : List LinkD} (h : GOk n ls)
include h
theorem GOk.pos {a b : Int} : 0 ≤ lkOf ls a b ↔ 0 < cstL ls a b := by
  rcases lk_cases ls a b with ⟨h1, h2, _⟩ | ⟨i, l, h1, h2, h3, h4⟩
  · omega
  · have := h.link i l h2; omega
theorem GOk.uniq {i j : Nat} {l l' : LinkD} (hi : ls[i]? = some l) (hj : ls[j]? = some l') (e1 : l.1 = l'.1) (e2 : l.2.1 = l'.2.1) : i = j := by
  rcases Nat.lt_trichotomy i j with hc | hc | hc
  · have := lex_iff.1 (h.lex i j l l' hc hi hj); omega
  · exact hc
  · have := lex_iff.1 (h.lex j i l' l hc hj hi); omega
theorem GOk.lk {i : Nat} {l : LinkD} (hi : ls[i]? = some l) : lkOf ls l.1 l.2.1 = i ∧ cstL ls l.1 l.2.1 = l.2.2 := by
  have hl := h.link i l hi
  rcases lk_cases ls l.1 l.2.1 with ⟨_, _, h3⟩ | ⟨j, l', h1, h2, h3, h4⟩
  · have := h3 l (List.mem_of_getElem? hi)
    have e : linkAt l.1 l.2.1 l = true := linkAt_iff.2 ⟨by omega, by omega⟩
    rw [e] at this; cases this
  · have := linkAt_iff.1 h3
    have e := h.uniq hi h2 (by omega) (by omega)
    subst e
    rw [hi] at h2; injection h2 with h2; subst h2
    exact ⟨h1, h4⟩
theorem GOk.nN {x : Int} : nd n.toNat x ↔ 0 ≤ x ∧ x < n := by unfold nd; have := h.n1; omega
theorem GOk.fits : Fits n.toNat (cstL ls) ls := by
  refine ⟨⟨fun a b => ?_, cstL_comm ls, fun a b hp => ?_, fun a => ?_⟩, fun l hl => ?_, fun a b hp => ?_⟩
  · rcases lk_cases ls a b with ⟨_, h2, _⟩ | ⟨i, l, h1, h2, h3, h4⟩
    · omega
    · have := h.link i l h2; omega
  · rcases lk_cases ls a b with ⟨_, h2, _⟩ | ⟨i, l, h1, h2, h3, h4⟩
    · omega
    · have := h.link i l h2
      have := linkAt_iff.1 h3
      rw [h.nN, h.nN]; omega
  · rcases lk_cases ls a a with ⟨_, h2, _⟩ | ⟨i, l, h1, h2, h3, h4⟩
    · exact h2
    · have := h.link i l h2
      have := linkAt_iff.1 h3
      omega
  · obtain ⟨i, hi⟩ := List.getElem?_of_mem hl
    have := h.link i l hi
    exact ⟨(h.lk hi).2, by omega, by omega⟩
  · rcases lk_cases ls a b with ⟨_, h2, _⟩ | ⟨i, l, h1, h2, h3, h4⟩
    · omega
    · have := linkAt_iff.1 h3
      exact ⟨l, List.mem_of_getElem? h2, by omega, h4.symm⟩
theorem GOk.dst : Dst n.toNat (cstL ls) (distG n ls) := bf_dst h.fits
end
/-- A path: nodes, each linked with the next. -/
def pathOk (n : Int) (ls : List LinkD) (path : List Int) : Bool := gOk n ls && inB path.length 1 9 && inB (path.getD 0 0) 0 (n - 1) && allUpTo (path.length - 1) (fun k => decide (0 ≤ lkOf ls (path.getD k 0) (path.getD (k + 1) 0)))
theorem chain_iff {n : Int} {ls : List LinkD} (h : GOk n ls) : ∀ (p : List Int) (a : Int), (∀ k, k < p.length → 0 ≤ lkOf ls ((a :: p).getD k 0) ((a :: p).getD (k + 1) 0)) ↔ isW (cstL ls) a p (lastN a p)
  | [], a => ⟨fun _ => rfl, fun _ k hk => by simp at hk⟩
  | x :: p, a => by
    show _ ↔ 0 < cstL ls a x ∧ isW (cstL ls) x p (lastN x p)
    rw [← chain_iff h p x, ← h.pos]
    constructor
    · intro hk
      exact ⟨by simpa using hk 0 (by simp), fun k hkl => by simpa using hk (k + 1) (by simpa using hkl)⟩
    · rintro ⟨h1, h2⟩ k hk
      cases k with
      | zero => simpa using h1
      | succ k => simpa using h2 k (by simpa using hk)
theorem path_iff {n : Int} {ls : List LinkD} {path : List Int} : pathOk n ls path = true ↔ GOk n ls ∧ ∃ a p, path = a :: p ∧ p.length ≤ 8 ∧ nd n.toNat a ∧ isW (cstL ls) a p (lastN a p) := by
  unfold pathOk
  rw [Bool.and_eq_true, Bool.and_eq_true, Bool.and_eq_true, gOk_iff, inB_iff, inB_iff, all_iff]
  constructor
  · rintro ⟨⟨⟨hg, h1, h2⟩, h3, h4⟩, h5⟩
    cases path with
    | nil => simp at h1
    | cons a p =>
      have h3' : 0 ≤ a := by simpa using h3
      have h4' : a ≤ n - 1 := by simpa using h4
      refine ⟨hg, a, p, rfl, by simp at h2; omega, hg.nN.2 ⟨h3', by omega⟩, ?_⟩
      rw [← chain_iff hg]
      intro k hk
      have := h5 k (by simpa using hk)
      simpa using this
  · rintro ⟨hg, a, p, rfl, h1, h2, h3⟩
    have hn := hg.nN.1 h2
    refine ⟨⟨⟨hg, by simp only [List.length_cons]; omega, by simp only [List.length_cons]; omega⟩, by simpa using hn.1, by simp; omega⟩, fun k hk => ?_⟩
    have := (chain_iff hg p a).2 h3 k (by simpa using hk)
    simpa using this
end Go.Proofs.Ytnnkdoomjkccgaa
namespace Go.Proofs.Ytnnkdoomjkccgaa
set_option linter.unusedSimpArgs false
set_option linter.unusedVariables false

abbrev LabelD := Int × Int
/-- The other end of a link. -/
def otherEnd (l : LinkD) (a : Int) : Option Int := if a = l.1 then some l.2.1 else if a = l.2.1 then some l.1 else none
def hopTo (n : Int) (ls : List LinkD) (a : Int) (l : LabelD) : Option Int :=
  if l.1 = 1 then (if inB l.2 0 (n - 1) && decide (0 ≤ distG n ls a l.2) then some l.2 else none)
  else if l.1 = 2 then (if 0 ≤ l.2 then match ls[l.2.toNat]? with | some k => otherEnd k a | none => none else none)
  else none
def stkL (n : Int) (ls : List LinkD) : Int → List LabelD → Option (List Int)
  | _, [] => some []
  | a, l :: s => match hopTo n ls a l with | none => none | some b => match stkL n ls b s with | none => none | some q => some (b :: q)
def stkOf (n : Int) (ls : List LinkD) (a : Int) (s : List LabelD) : Option (List Int) := if decide (s.length ≤ 8) && gOk n ls && inB a 0 (n - 1) then stkL n ls a s else none
def nextN (n : Int) (ls : List LinkD) (a : Int) (l : LabelD) : Int := (hopTo n ls a l).getD 0
/-- The shortest walk that the program takes. -/
def spG (n : Int) (ls : List LinkD) (a b : Int) : List Int := sp n.toNat (cstL ls) (distG n ls b) b n.toNat a
def cntG (n : Int) (ls : List LinkD) (a b : Int) : Int := cnt n.toNat (cstL ls) (distG n ls b) b n.toNat a
def segL (n : Int) (ls : List LinkD) (a : Int) (l : LabelD) : List Int := if l.1 = 1 then spG n ls a (nextN n ls a l) else [nextN n ls a l]
def stkPath (n : Int) (ls : List LinkD) : Int → List LabelD → List Int
  | _, [] => []
  | a, l :: s => segL n ls a l ++ stkPath n ls (nextN n ls a l) s
def costStep (n : Int) (ls : List LinkD) (a : Int) (l : LabelD) : Int := if l.1 = 1 then distG n ls a (nextN n ls a l) else (ls.getD l.2.toNat (0, 0, 0)).2.2
def stkCost (n : Int) (ls : List LinkD) : Int → List LabelD → Int
  | _, [] => 0
  | a, l :: s => costStep n ls a l + stkCost n ls (nextN n ls a l) s
theorem otherEnd_iff {l : LinkD} {a b : Int} (hne : l.1 ≠ l.2.1) : otherEnd l a = some b ↔ (a = l.1 ∧ b = l.2.1) ∨ (a = l.2.1 ∧ b = l.1) := by
  unfold otherEnd
  by_cases e : a = l.1
  · rw [if_pos e]
    constructor
    · intro h; injection h with h; exact .inl ⟨e, h.symm⟩
    · rintro (⟨_, rfl⟩ | ⟨h, _⟩)
      · rfl
      · exact absurd (e.symm.trans h) hne
  · rw [if_neg e]
    by_cases e2 : a = l.2.1
    · rw [if_pos e2]
      constructor
      · intro h; injection h with h; exact .inr ⟨e2, h.symm⟩
      · rintro (⟨h, _⟩ | ⟨_, rfl⟩)
        · exact absurd h e
        · rfl
    · rw [if_neg e2]
      constructor
      · intro h; cases h
      · rintro (⟨h, _⟩ | ⟨h, _⟩)
        · exact absurd h e
        · exact absurd h e2
/-- The ways of a label. -/
theorem hop_cases {n : Int} {ls : List LinkD} (h : GOk n ls) {a b : Int} {l : LabelD} (hh : hopTo n ls a l = some b) :
    (l.1 = 1 ∧ l.2 = b ∧ nd n.toNat b ∧ 0 ≤ distG n ls a b) ∨ ∃ (i : Nat) (k : LinkD), l.1 = 2 ∧ l.2 = i ∧ ls[i]? = some k ∧ ((a = k.1 ∧ b = k.2.1) ∨ (a = k.2.1 ∧ b = k.1)) ∧ cstL ls a b = k.2.2 ∧ lkOf ls a b = i ∧ 0 < k.2.2 := by
  unfold hopTo at hh
  split at hh
  · rename_i e
    split at hh
    · rename_i e2
      injection hh with hh
      simp only [Bool.and_eq_true, inB_iff, decide_eq_true_iff] at e2
      rw [hh] at e2
      exact .inl ⟨e, hh, h.nN.2 (by omega), e2.2⟩
    · cases hh
  · split at hh
    · rename_i e
      split at hh
      · rename_i e0
        split at hh
        · rename_i k hk
          have hl := h.link _ k hk
          have ho := (otherEnd_iff (by omega)).1 hh
          obtain ⟨h1, h2⟩ := h.lk hk
          refine .inr ⟨l.2.toNat, k, e, by omega, hk, ho, ?_, ?_, by omega⟩
          · rcases ho with ⟨rfl, rfl⟩ | ⟨rfl, rfl⟩
            · exact h2
            · rw [cstL_comm]; exact h2
          · rcases ho with ⟨rfl, rfl⟩ | ⟨rfl, rfl⟩
            · exact h1
            · rw [lkOf_comm]; exact h1
        · cases hh
      · cases hh
    · cases hh
theorem nextN_of {n : Int} {ls : List LinkD} {a b : Int} {l : LabelD} (hh : hopTo n ls a l = some b) : nextN n ls a l = b := by unfold nextN; rw [hh]; rfl
section
variable {n : Int} {ls : List LinkD} (h : GOk n ls)
include h
theorem hop_nd {a b : Int} {l : LabelD} (_ha : nd n.toNat a) (hh : hopTo n ls a l = some b) : nd n.toNat b := by
  rcases hop_cases h hh with ⟨_, _, h3, _⟩ | ⟨i, k, h1, h2, h3, h4, h5, _, h7⟩
  · exact h3
  · exact (h.fits.ok.node a b (by omega)).2
theorem spG_sh {a b : Int} (ha : nd n.toNat a) (hb : nd n.toNat b) (h0 : 0 ≤ distG n ls a b) : isW (cstL ls) a (spG n ls a b) b ∧ wc (cstL ls) a (spG n ls a b) = distG n ls a b := by
  have hs := h.dst.symm h.fits.ok ha hb
  have := sp_sh h.fits.ok h.dst hb n.toNat a ha (by rw [← hs]; exact h0) (rk_le _ _ _)
  exact ⟨this.1, this.2.trans hs.symm⟩
theorem seg_walk {a b : Int} {l : LabelD} (ha : nd n.toNat a) (hh : hopTo n ls a l = some b) : isW (cstL ls) a (segL n ls a l) b ∧ wc (cstL ls) a (segL n ls a l) = costStep n ls a l ∧ 0 ≤ costStep n ls a l := by
  have hn := nextN_of hh
  unfold segL costStep
  rw [hn]
  rcases hop_cases h hh with ⟨h1, h2, h3, h4⟩ | ⟨i, k, h1, h2, h3, h4, h5, _, h7⟩
  · rw [if_pos h1, if_pos h1]
    have := spG_sh h ha h3 h4
    exact ⟨this.1, this.2, h4⟩
  · rw [if_neg (by omega), if_neg (by omega)]
    have e : ls.getD l.2.toNat (0, 0, 0) = k := by rw [show l.2.toNat = i by omega]; exact getD_of h3
    rw [e]
    exact ⟨⟨by omega, rfl⟩, by simp only [wc]; omega, by omega⟩
theorem stk_walk : ∀ {s : List LabelD} {a : Int} {q : List Int}, nd n.toNat a → stkL n ls a s = some q →
    isW (cstL ls) a (stkPath n ls a s) (lastN a q) ∧ wc (cstL ls) a (stkPath n ls a s) = stkCost n ls a s ∧ 0 ≤ stkCost n ls a s ∧ q.length = s.length ∧ nd n.toNat (lastN a q)
  | [], a, q, ha, hq => by
    simp only [stkL, Option.some.injEq] at hq
    subst hq
    exact ⟨rfl, rfl, Int.le_refl _, rfl, ha⟩
  | l :: s, a, q, ha, hq => by
    unfold stkL at hq
    split at hq
    · cases hq
    · rename_i b hb
      split at hq
      · cases hq
      · rename_i q' hq'
        injection hq with hq
        subst hq
        obtain ⟨w1, w2, w3⟩ := seg_walk h ha hb
        have hbn := hop_nd h ha hb
        obtain ⟨v1, v2, v3, v4, v5⟩ := stk_walk hbn hq'
        have e := isW_last w1
        unfold stkPath stkCost
        rw [nextN_of hb]
        refine ⟨isW_append.2 (by rw [e]; exact ⟨w1, v1⟩), by rw [wc_append, e, w2, v2], by omega, by simp [v4], v5⟩
end
theorem stkL_cons (n : Int) (ls : List LinkD) (a : Int) (l : LabelD) (s : List LabelD) : stkL n ls a (l :: s) = match hopTo n ls a l with | none => none | some b => match stkL n ls b s with | none => none | some q => some (b :: q) := rfl
theorem stkL_append {n : Int} {ls : List LinkD} : ∀ {s t : List LabelD} {a : Int}, stkL n ls a (s ++ t) = match stkL n ls a s with | none => none | some q => match stkL n ls (lastN a q) t with | none => none | some r => some (q ++ r)
  | [], t, a => by
    simp only [List.nil_append, stkL, lastN]
    cases stkL n ls a t <;> rfl
  | l :: s, t, a => by
    rw [List.cons_append, stkL_cons, stkL_cons]
    rcases hopTo n ls a l with _ | b
    · rfl
    · simp only
      rw [stkL_append (s := s) (t := t) (a := b)]
      rcases stkL n ls b s with _ | q
      · rfl
      · simp only [lastN]
        rcases stkL n ls (lastN b q) t with _ | r <;> rfl
/-- One label more. -/
theorem stkL_snoc {n : Int} {ls : List LinkD} {s : List LabelD} {k : Nat} {l : LabelD} {a : Int} {q : List Int} (hl : s[k]? = some l) (hq : stkL n ls a (s.take k) = some q) :
    stkL n ls a (s.take (k + 1)) = match hopTo n ls (lastN a q) l with | none => none | some b => some (q ++ [b]) := by
  obtain ⟨h1, h2⟩ := List.getElem?_eq_some_iff.1 hl
  rw [List.take_succ_eq_append_getElem h1, h2, stkL_append, hq]
  simp only [stkL]
  rcases hopTo n ls (lastN a q) l with _ | b <;> rfl
/-- Where a beginning leads nowhere, the whole does. -/
theorem stkL_none {n : Int} {ls : List LinkD} {s : List LabelD} {k : Nat} {a : Int} (h : stkL n ls a (s.take k) = none) : stkL n ls a s = none := by
  have : s = s.take k ++ s.drop k := (List.take_append_drop k s).symm
  rw [this, stkL_append, h]
theorem lastN_get {a : Int} : ∀ {q : List Int}, lastN a q = (a :: q).getD q.length 0
  | [] => rfl
  | x :: q => by
    show lastN x q = (x :: q).getD q.length 0
    exact lastN_get (a := x) (q := q)
end Go.Proofs.Ytnnkdoomjkccgaa
namespace Go.Proofs.Ytnnkdoomjkccgaa
set_option linter.unusedSimpArgs false
set_option linter.unusedVariables false

def usedB (n : Int) (ls : List LinkD) (a b : Int) (k : Nat) : Bool :=
  let l := ls.getD k (0, 0, 0)
  if distG n ls a b < 0 ∨ distG n ls a l.1 < 0 then false
  else (distG n ls a l.1 + l.2.2 + distG n ls b l.2.1 == distG n ls a b) || (distG n ls a l.2.1 + l.2.2 + distG n ls b l.1 == distG n ls a b)
/-- x and y are the ends of a link, in either order. -/
def ends (l : LinkD) (x y : Int) : Prop := (x = l.1 ∧ y = l.2.1) ∨ (x = l.2.1 ∧ y = l.1)
section
variable {n : Int} {ls : List LinkD} (h : GOk n ls)
include h
theorem ends_cost {k : Nat} {l : LinkD} (hl : ls[k]? = some l) {x y : Int} (he : ends l x y) : cstL ls x y = l.2.2 ∧ 0 < l.2.2 ∧ nd n.toNat x ∧ nd n.toNat y ∧ lkOf ls x y = k := by
  have h1 := h.lk hl
  have h2 := h.link k l hl
  rw [h.nN, h.nN]
  rcases he with ⟨rfl, rfl⟩ | ⟨rfl, rfl⟩
  · exact ⟨h1.2, by omega, by omega, by omega, h1.1⟩
  · exact ⟨by rw [cstL_comm]; exact h1.2, by omega, by omega, by omega, by rw [lkOf_comm]; exact h1.1⟩
theorem lk_ends {x y : Int} (hp : 0 < cstL ls x y) : ∃ (k : Nat) (l : LinkD), lkOf ls x y = k ∧ ls[k]? = some l ∧ ends l x y ∧ cstL ls x y = l.2.2 := by
  rcases lk_cases ls x y with ⟨_, h2, _⟩ | ⟨k, l, h1, h2, h3, h4⟩
  · omega
  · refine ⟨k, l, h1, h2, ?_, h4⟩
    have := linkAt_iff.1 h3
    have := h.link k l h2
    unfold ends
    omega
theorem used_iff {k : Nat} {l : LinkD} (hl : ls[k]? = some l) {a b : Int} (ha : nd n.toNat a) (hb : nd n.toNat b) (h0 : 0 ≤ distG n ls a b) :
    usedB n ls a b k = true ↔ ∃ p q x y, ends l x y ∧ isW (cstL ls) a p x ∧ isW (cstL ls) y q b ∧ wc (cstL ls) a p + l.2.2 + wc (cstL ls) y q = distG n ls a b := by
  have hD := h.dst
  have hc := h.fits.ok
  unfold usedB
  rw [getD_of hl]
  simp only
  have go : ∀ x y, ends l x y → (0 ≤ distG n ls a x → (0 ≤ distG n ls b y ∧ 0 ≤ distG n ls y b ∧ distG n ls b y = distG n ls y b) ∧ distG n ls a b ≤ distG n ls a x + l.2.2 + distG n ls y b) := fun x y he hx => by
    obtain ⟨c1, c2, c3, c4, _⟩ := ends_cost h hl he
    have l1 := hD.link hc (a := x) (b := y) (by omega)
    have t1 := hD.tri hc ha c3 c4 hx l1.1
    have s1 := hD.symm hc ha c4
    have t2 := hD.tri hc c4 ha hb (by rw [← s1]; exact t1.1) h0
    have s2 := hD.symm hc hb c4
    have t3 := hD.tri hc ha c4 hb t1.1 t2.1
    exact ⟨⟨by omega, t2.1, s2⟩, by omega⟩
  have reach : ∀ x y, ends l x y → 0 ≤ distG n ls a x → 0 ≤ distG n ls a y := fun x y he hx => by
    obtain ⟨c1, c2, c3, c4, _⟩ := ends_cost h hl he
    have l1 := hD.link hc (a := x) (b := y) (by omega)
    exact (hD.tri hc ha c3 c4 hx l1.1).1
  have mk : ∀ x y, ends l x y → 0 ≤ distG n ls a x → distG n ls a x + l.2.2 + distG n ls b y = distG n ls a b → ∃ p q x y, ends l x y ∧ isW (cstL ls) a p x ∧ isW (cstL ls) y q b ∧ wc (cstL ls) a p + l.2.2 + wc (cstL ls) y q = distG n ls a b := fun x y he hx hs => by
    obtain ⟨c1, c2, c3, c4, _⟩ := ends_cost h hl he
    obtain ⟨⟨_, g2, g3⟩, _⟩ := go x y he hx
    obtain ⟨p, p1, p2⟩ := hD.walk a x ha c3 hx
    obtain ⟨q, q1, q2⟩ := hD.walk y b c4 hb g2
    exact ⟨p, q, x, y, he, p1, q1, by omega⟩
  have ends2 : ends l l.2.1 l.1 := .inr ⟨rfl, rfl⟩
  have ends1 : ends l l.1 l.2.1 := .inl ⟨rfl, rfl⟩
  by_cases hneg : distG n ls a b < 0 ∨ distG n ls a l.1 < 0
  · rw [if_pos hneg]
    constructor
    · intro hf; cases hf
    · rintro ⟨p, q, x, y, he, hp, hq, hs⟩
      exfalso
      have h1 := (hD.least a x p ha hp).1
      rcases he with ⟨rfl, rfl⟩ | ⟨rfl, rfl⟩
      · omega
      · have := reach _ _ ends2 h1; omega
  · rw [if_neg hneg]
    simp only [Bool.or_eq_true, beq_iff_eq]
    have r1 : 0 ≤ distG n ls a l.1 := by omega
    have r2 := reach _ _ ends1 r1
    constructor
    · rintro (hs | hs)
      · exact mk _ _ ends1 r1 hs
      · exact mk _ _ ends2 r2 hs
    · rintro ⟨p, q, x, y, he, hp, hq, hs⟩
      have hp' := hD.least a x p ha hp
      have hy : nd n.toNat y := (ends_cost h hl he).2.2.2.1
      have hq' := hD.least y b q hy hq
      obtain ⟨⟨g1, g2, g3⟩, g4⟩ := go x y he hp'.1
      rcases he with ⟨rfl, rfl⟩ | ⟨rfl, rfl⟩
      · left; omega
      · right; omega
end
def crossS (n : Int) (ls : List LinkD) (k : Nat) : Int → List LabelD → Bool
  | _, [] => false
  | a, l :: s => (decide (l.1 = 2 ∧ l.2 = k) || (decide (l.1 = 1) && usedB n ls a (nextN n ls a l) k)) || crossS n ls k (nextN n ls a l) s
def onP (ls : List LinkD) (k : Nat) : Int → List Int → Bool
  | _, [] => false
  | a, x :: p => decide (lkOf ls a x = k) || onP ls k x p
def uniqS (n : Int) (ls : List LinkD) : Int → List LabelD → Bool
  | _, [] => true
  | a, l :: s => (!decide (l.1 = 1) || decide (cntG n ls a (nextN n ls a l) = 1)) && uniqS n ls (nextN n ls a l) s
theorem onP_append {ls : List LinkD} {k : Nat} : ∀ {p q : List Int} {a : Int}, onP ls k a (p ++ q) = (onP ls k a p || onP ls k (lastN a p) q)
  | [], _, _ => by simp [onP, lastN]
  | x :: p, q, a => by
    show (decide (lkOf ls a x = k) || onP ls k x (p ++ q)) = ((decide (lkOf ls a x = k) || onP ls k x p) || onP ls k (lastN x p) q)
    rw [onP_append, Bool.or_assoc]
theorem onP_split {ls : List LinkD} {k : Nat} : ∀ {p : List Int} {a : Int}, onP ls k a p = true → ∃ p1 v p2, p = p1 ++ v :: p2 ∧ lkOf ls (lastN a p1) v = k
  | [], _, h => by simp [onP] at h
  | x :: p, a, h => by
    unfold onP at h
    simp only [Bool.or_eq_true, decide_eq_true_iff] at h
    rcases h with h | h
    · exact ⟨[], x, p, rfl, h⟩
    · obtain ⟨p1, v, p2, rfl, e⟩ := onP_split h
      exact ⟨x :: p1, v, p2, rfl, e⟩
section
variable {n : Int} {ls : List LinkD} (h : GOk n ls)
include h
theorem sp_unique {a b : Int} (ha : nd n.toNat a) (hb : nd n.toNat b) (h0 : 0 ≤ distG n ls a b) (h1 : cntG n ls a b = 1) {p : List Int} (hp : isW (cstL ls) a p b) (hw : wc (cstL ls) a p = distG n ls a b) : p = spG n ls a b := by
  have hs := h.dst.symm h.fits.ok ha hb
  have := (cnt_one h.fits.ok h.dst hb n.toNat a ha (by rw [← hs]; exact h0) (rk_le _ _ _)).1 h1
  have hsp := spG_sh h ha hb h0
  exact this p _ ⟨hp, by rw [← hs]; exact hw⟩ ⟨hsp.1, by rw [← hs]; exact hsp.2⟩
theorem seg_on {k : Nat} {a b : Int} {l : LabelD} (ha : nd n.toNat a) (hh : hopTo n ls a l = some b) (ho : onP ls k a (segL n ls a l) = true) : (decide (l.1 = 2 ∧ l.2 = k) || (decide (l.1 = 1) && usedB n ls a b k)) = true := by
  have hn := nextN_of hh
  unfold segL at ho
  rw [hn] at ho
  rcases hop_cases h hh with ⟨h1, h2, h3, h4⟩ | ⟨i, m, h1, h2, h3, h4, h5, h6, h7⟩
  · rw [if_pos h1] at ho
    obtain ⟨w1, w2⟩ := spG_sh h ha h3 h4
    obtain ⟨p1, v, p2, he, hk⟩ := onP_split ho
    rw [he] at w1 w2
    obtain ⟨v1, v2, v3⟩ := isW_append.1 w1
    obtain ⟨k', m, e1, e2, e3, e4⟩ := lk_ends h v2
    have e : k' = k := by omega
    subst e
    have : usedB n ls a b k' = true := (used_iff h e2 ha h3 h4).2 ⟨p1, p2, _, v, e3, v1, v3, by
      rw [wc_append] at w2
      simp only [wc] at w2
      omega⟩
    simp [h1, this]
  · rw [if_neg (by omega)] at ho
    simp only [onP, Bool.or_false, decide_eq_true_iff] at ho
    have : l.2 = k := by omega
    simp [h1, this]
theorem on_cross {k : Nat} : ∀ {s : List LabelD} {a : Int} {q : List Int}, nd n.toNat a → stkL n ls a s = some q → onP ls k a (stkPath n ls a s) = true → crossS n ls k a s = true
  | [], a, q, _, _, ho => by simp [stkPath, onP] at ho
  | l :: s, a, q, ha, hq, ho => by
    rw [stkL_cons] at hq
    split at hq
    · cases hq
    · rename_i b hb
      split at hq
      · cases hq
      · rename_i q' hq'
        have hn := nextN_of hb
        unfold stkPath at ho
        unfold crossS
        rw [hn] at ho ⊢
        rw [onP_append, isW_last (seg_walk h ha hb).1] at ho
        simp only [Bool.or_eq_true] at ho ⊢
        rcases ho with ho | ho
        · have := seg_on h ha hb ho
          simp only [Bool.or_eq_true] at this
          exact .inl this
        · exact .inr (on_cross (hop_nd h ha hb) hq' ho)
theorem cross_on {k : Nat} {m : LinkD} (hm : ls[k]? = some m) : ∀ {s : List LabelD} {a : Int} {q : List Int}, nd n.toNat a → stkL n ls a s = some q → uniqS n ls a s = true → crossS n ls k a s = true → onP ls k a (stkPath n ls a s) = true
  | [], a, q, _, _, _, hc => by simp [crossS] at hc
  | l :: s, a, q, ha, hq, hu, hc => by
    rw [stkL_cons] at hq
    split at hq
    · cases hq
    · rename_i b hb
      split at hq
      · cases hq
      · rename_i q' hq'
        have hn := nextN_of hb
        unfold crossS at hc
        unfold uniqS at hu
        unfold stkPath
        rw [hn] at hc hu ⊢
        rw [onP_append, isW_last (seg_walk h ha hb).1]
        simp only [Bool.and_eq_true, Bool.or_eq_true, Bool.not_eq_true', decide_eq_true_iff, decide_eq_false_iff_not] at hc hu ⊢
        have hbn := hop_nd h ha hb
        rcases hc with (hc | ⟨hc1, hc2⟩) | hc
        · left
          rcases hop_cases h hb with ⟨h1, _⟩ | ⟨i, m', h1, h2, h3, h4, h5, h6, h7⟩
          · omega
          · unfold segL
            rw [if_neg (by omega), hn]
            simp only [onP, Bool.or_false, decide_eq_true_iff]
            omega
        · left
          rcases hop_cases h hb with ⟨h1, h2, h3, h4⟩ | ⟨i, m', h1, _⟩
          · have hcnt : cntG n ls a b = 1 := by rcases hu.1 with h' | h'; exact absurd hc1 h'; exact h'
            obtain ⟨p, r, x, y, e1, e2, e3, e4⟩ := (used_iff h hm ha h3 h4).1 hc2
            obtain ⟨c1, c2, c3, c4, c5⟩ := ends_cost h hm e1
            have ex := isW_last e2
            have hw : isW (cstL ls) a (p ++ y :: r) b := isW_append.2 ⟨by rw [ex]; exact e2, by rw [ex]; exact ⟨by omega, e3⟩⟩
            have := sp_unique h ha h3 h4 hcnt hw (by rw [wc_append, ex]; simp only [wc]; omega)
            unfold segL
            rw [if_pos h1, hn, ← this, onP_append, ex]
            simp [onP, c5]
          · omega
        · exact .inr (cross_on hm hbn hq' hu.2 hc)
end
end Go.Proofs.Ytnnkdoomjkccgaa
namespace Go.Proofs.Ytnnkdoomjkccgaa
set_option linter.unusedSimpArgs false
set_option linter.unusedVariables false

structure StkAt (n : Int) (ls : List LinkD) (a : Int) (s : List LabelD) (q : List Int) (k : Nat) (l : LabelD) (x y : Int) : Prop where
  at_ : (a :: q)[k]? = some x
  next : q[k]? = some y
  hop : hopTo n ls x l = some y
  ndx : nd n.toNat x
  ndy : nd n.toNat y
  cost : stkCost n ls a (s.take (k + 1)) = stkCost n ls a (s.take k) + costStep n ls x l
  path : stkPath n ls a (s.take (k + 1)) = stkPath n ls a (s.take k) ++ segL n ls x l
  cross : ∀ j, crossS n ls j a (s.take (k + 1)) = (crossS n ls j a (s.take k) || (decide (l.1 = 2 ∧ l.2 = j) || (decide (l.1 = 1) && usedB n ls x y j)))
  uniq : uniqS n ls a (s.take (k + 1)) = (uniqS n ls a (s.take k) && (!decide (l.1 = 1) || decide (cntG n ls x y = 1)))
theorem stk_at {n : Int} {ls : List LinkD} (h : GOk n ls) : ∀ {s : List LabelD} {a : Int} {q : List Int} {k : Nat} {l : LabelD}, nd n.toNat a → stkL n ls a s = some q → s[k]? = some l → ∃ x y, StkAt n ls a s q k l x y
  | [], a, q, k, l, ha, hq, hl => by simp at hl
  | l0 :: s, a, q, k, l, ha, hq, hl => by
    unfold stkL at hq
    split at hq
    · cases hq
    · rename_i b hb
      split at hq
      · cases hq
      · rename_i q' hq'
        injection hq with hq
        subst hq
        have hbn := hop_nd h ha hb
        have hnx := nextN_of hb
        cases k with
        | zero =>
          simp at hl
          subst hl
          refine ⟨a, b, rfl, rfl, hb, ha, hbn, ?_, ?_, fun j => ?_, ?_⟩
          · simp [stkCost]
          · simp [stkPath]
          · simp [crossS, hnx]
          · simp [uniqS, hnx]
        | succ k =>
          simp at hl
          obtain ⟨x, y, h1⟩ := stk_at h hbn hq' hl
          refine ⟨x, y, by simpa using h1.at_, by simpa using h1.next, h1.hop, h1.ndx, h1.ndy, ?_, ?_, fun j => ?_, ?_⟩
          · simp only [List.take_succ_cons, stkCost, hnx]
            rw [h1.cost, Int.add_assoc]
          · simp only [List.take_succ_cons, stkPath, hnx]
            rw [h1.path, List.append_assoc]
          · simp only [List.take_succ_cons, crossS, hnx]
            simp only [h1.cross j, Bool.or_assoc]
          · simp only [List.take_succ_cons, uniqS, hnx]
            rw [h1.uniq, Bool.and_assoc]
theorem step_bnd {n : Int} {ls : List LinkD} (h : GOk n ls) {a b : Int} {l : LabelD} (ha : nd n.toNat a) (hh : hopTo n ls a l = some b) : 0 ≤ costStep n ls a l ∧ costStep n ls a l ≤ 4480 := by
  have hn := nextN_of hh
  refine ⟨(seg_walk h ha hh).2.2, ?_⟩
  unfold costStep
  rw [hn]
  rcases hop_cases h hh with ⟨h1, h2, h3, h4⟩ | ⟨i, k, h1, h2, h3, h4, h5, _, h7⟩
  · rw [if_pos h1]
    exact (distG_bnd h.fits h.n8 h.len ha h3).2
  · rw [if_neg (by omega)]
    have e : ls.getD l.2.toNat (0, 0, 0) = k := by rw [show l.2.toNat = i by omega]; exact getD_of h3
    rw [e]
    have := h.link i k h3
    omega
theorem stkCost_bnd {n : Int} {ls : List LinkD} (h : GOk n ls) : ∀ {s : List LabelD} {a : Int} {q : List Int}, nd n.toNat a → stkL n ls a s = some q → 0 ≤ stkCost n ls a s ∧ stkCost n ls a s ≤ 4480 * s.length
  | [], a, q, ha, hq => by simp [stkCost]
  | l0 :: s, a, q, ha, hq => by
    unfold stkL at hq
    split at hq
    · cases hq
    · rename_i b hb
      split at hq
      · cases hq
      · rename_i q' hq'
        have hbn := hop_nd h ha hb
        have h1 := step_bnd h ha hb
        have h2 := stkCost_bnd h hbn hq'
        unfold stkCost
        rw [nextN_of hb]
        simp only [List.length_cons]
        push_cast
        omega
theorem stk_take {n : Int} {ls : List LinkD} : ∀ {s : List LabelD} {a : Int} {q : List Int} (k : Nat), stkL n ls a s = some q → stkL n ls a (s.take k) = some (q.take k)
  | [], a, q, k, hq => by
    simp only [stkL, Option.some.injEq] at hq
    subst hq
    simp [stkL]
  | l0 :: s, a, q, 0, hq => by simp [stkL]
  | l0 :: s, a, q, k + 1, hq => by
    unfold stkL at hq
    split at hq
    · cases hq
    · rename_i b hb
      split at hq
      · cases hq
      · rename_i q' hq'
        injection hq with hq
        subst hq
        simp only [List.take_succ_cons, stkL, hb, stk_take k hq']
theorem stkK_bnd {n : Int} {ls : List LinkD} (h : GOk n ls) {s : List LabelD} {a : Int} {q : List Int} (ha : nd n.toNat a) (hq : stkL n ls a s = some q) (h8 : s.length ≤ 8) (k : Nat) : 0 ≤ stkCost n ls a (s.take k) ∧ stkCost n ls a (s.take k) ≤ 35840 := by
  have := stkCost_bnd h ha (stk_take k hq)
  have hl : (s.take k).length ≤ 8 := by rw [List.length_take]; omega
  omega
end Go.Proofs.Ytnnkdoomjkccgaa
namespace Go.Proofs.Ytnnkdoomjkccgaa
set_option linter.unusedSimpArgs false
set_option linter.unusedVariables false

def nbF (a : Int) (l : LinkD) : Option Int := otherEnd l a
def nbC (ls : List LinkD) (a : Int) : List Int := ls.filterMap (nbF a)
def nbL (n : Int) (ls : List LinkD) (a : Int) : List Int := (nodesL n.toNat).filter (fun m => decide (0 < cstL ls a m))
theorem nbC_snoc {ls : List LinkD} {k : Nat} {l : LinkD} (a : Int) (h : ls[k]? = some l) : nbC (ls.take (k + 1)) a = nbC (ls.take k) a ++ (otherEnd l a).toList := by
  obtain ⟨h1, h2⟩ := List.getElem?_eq_some_iff.1 h
  unfold nbC
  rw [List.take_succ_eq_append_getElem h1, h2, List.filterMap_append]
  cases ho : otherEnd l a <;> simp [nbF, ho]
section
variable {n : Int} {ls : List LinkD} (h : GOk n ls)
include h
theorem mem_nbC {a z : Int} : z ∈ nbC ls a ↔ 0 < cstL ls a z := by
  unfold nbC
  rw [List.mem_filterMap]
  constructor
  · rintro ⟨l, hl, ho⟩
    obtain ⟨k, hk⟩ := List.getElem?_of_mem hl
    have hb := h.link k l hk
    have he := (otherEnd_iff (by omega)).1 ho
    have := ends_cost h hk (x := a) (y := z) he
    omega
  · intro hp
    obtain ⟨k, l, h1, h2, h3, h4⟩ := lk_ends h hp
    have hb := h.link k l h2
    exact ⟨l, List.mem_of_getElem? h2, (otherEnd_iff (by omega)).2 h3⟩
theorem nbC_nd {a z : Int} (hz : z ∈ nbC ls a) : nd n.toNat z := by
  have := (mem_nbC h).1 hz
  exact (h.fits.ok.node a z this).2
theorem nbC_nodup (a : Int) : (nbC ls a).Nodup := by
  unfold nbC
  have hp : ls.Pairwise (fun l l' => ∀ z, otherEnd l a = some z → otherEnd l' a ≠ some z) := by
    rw [List.pairwise_iff_getElem]
    intro i j hi hj hij z h1 h2
    have e1 : ls[i]? = some ls[i] := List.getElem?_eq_getElem hi
    have e2 : ls[j]? = some ls[j] := List.getElem?_eq_getElem hj
    have l1 := h.link i _ e1
    have l2 := h.link j _ e2
    have he1 := (otherEnd_iff (by omega)).1 h1
    have he2 := (otherEnd_iff (by omega)).1 h2
    have c1 := ends_cost h e1 (x := a) (y := z) he1
    have c2 := ends_cost h e2 (x := a) (y := z) he2
    have := c1.2.2.2.2.symm.trans c2.2.2.2.2
    omega
  clear h
  induction ls with
  | nil => simp
  | cons l ls ih =>
    rw [List.pairwise_cons] at hp
    rw [List.filterMap_cons]
    split
    · exact ih hp.2
    · rename_i z hz
      rw [List.nodup_cons]
      refine ⟨fun hm => ?_, ih hp.2⟩
      obtain ⟨l', hl', ho⟩ := List.mem_filterMap.1 hm
      exact hp.1 l' hl' z hz ho
theorem nbC_len (a : Int) : (nbC ls a).length ≤ 8 := by
  have := nodup_len n.toNat (nbC ls a) (nbC_nodup h a) (fun x hx => nbC_nd h hx)
  have := h.n8
  omega
theorem mem_nbL {a z : Int} : z ∈ nbL n ls a ↔ 0 < cstL ls a z := by
  unfold nbL
  rw [List.mem_filter, mem_nodesL]
  constructor
  · rintro ⟨_, h2⟩; simpa using h2
  · intro hp; exact ⟨(h.fits.ok.node a z hp).2, by simpa using hp⟩
end
theorem nodesL_asc (N : Nat) : (nodesL N).Pairwise (· < ·) := by
  unfold nodesL
  rw [List.pairwise_map]
  exact List.pairwise_lt_range.imp (fun h => by simpa using h)
theorem nbL_asc (n : Int) (ls : List LinkD) (a : Int) : (nbL n ls a).Pairwise (· < ·) := (nodesL_asc _).sublist List.filter_sublist
theorem nbC_take_len {ls : List LinkD} (a : Int) (k : Nat) : (nbC (ls.take k) a).length ≤ k := by
  unfold nbC
  exact Nat.le_trans (List.length_filterMap_le _ _) (by rw [List.length_take]; exact Nat.min_le_left _ _)
end Go.Proofs.Ytnnkdoomjkccgaa
namespace Go.Proofs.Ytnnkdoomjkccgaa
set_option linter.unusedSimpArgs false
set_option linter.unusedVariables false

def nodeS (xs : List Int) : List LabelD := xs.map fun x => (1, x)
theorem hop_node {n : Int} {ls : List LinkD} {a x b : Int} : hopTo n ls a (1, x) = some b ↔ inB x 0 (n - 1) = true ∧ 0 ≤ distG n ls a x ∧ b = x := by
  unfold hopTo
  simp only [if_true]
  constructor
  · intro h
    by_cases e : (inB x 0 (n - 1) && decide (0 ≤ distG n ls a x)) = true
    · rw [if_pos e] at h
      simp only [Bool.and_eq_true, decide_eq_true_eq] at e
      injection h with h
      exact ⟨e.1, e.2, h.symm⟩
    · rw [if_neg e] at h; cases h
  · rintro ⟨h1, h2, rfl⟩
    rw [if_pos (by simp [h1, h2])]
theorem hop_node_nd {n : Int} {ls : List LinkD} (h : GOk n ls) {x : Int} (hx : inB x 0 (n - 1) = true) : nd n.toNat x := by
  rw [h.nN]; have := inB_iff.1 hx; omega
theorem back_stk {n : Int} {ls : List LinkD} (h : GOk n ls) : ∀ (xs : List Int) (a : Int) (q : List Int), nd n.toNat a → stkL n ls a (nodeS xs) = some q →
    q = xs ∧ (∀ s r, stkL n ls a s = some r → stkL n ls (lastN a xs) (nodeS (rv a xs) ++ s) = some (rv a xs ++ r)) ∧ (∀ s, (∃ r, stkL n ls a s = some r) → stkCost n ls (lastN a xs) (nodeS (rv a xs) ++ s) = stkCost n ls a (nodeS xs) + stkCost n ls a s)
  | [], a, q, ha, hq => by
    have : q = [] := by simpa [nodeS, stkL] using hq.symm
    exact ⟨this, fun s r hr => by simpa [nodeS, rv, lastN] using hr, fun s _ => by simp [nodeS, rv, lastN, stkCost]⟩
  | x :: xs, a, q, ha, hq => by
    have e : nodeS (x :: xs) = (1, x) :: nodeS xs := rfl
    rw [e, stkL_cons] at hq
    obtain ⟨b, hb⟩ : ∃ b, hopTo n ls a (1, x) = some b := by
      cases hh : hopTo n ls a (1, x) with
      | none => rw [hh] at hq; simp at hq
      | some b => exact ⟨b, rfl⟩
    obtain ⟨h1, h2, rfl⟩ := hop_node.1 hb
    rw [hb] at hq
    simp only at hq
    obtain ⟨q', hq'⟩ : ∃ q', stkL n ls b (nodeS xs) = some q' := by
      cases hh : stkL n ls b (nodeS xs) with
      | none => rw [hh] at hq; simp at hq
      | some b => exact ⟨b, rfl⟩
    rw [hq'] at hq
    simp only [Option.some.injEq] at hq
    have hx := hop_node_nd h h1
    obtain ⟨e1, e2, e3⟩ := back_stk h xs b q' hx hq'
    have hsym : distG n ls b a = distG n ls a b := (Dst.symm h.fits.ok h.dst hx ha)
    have hback : hopTo n ls b (1, a) = some a := hop_node.2 ⟨by rw [h.nN] at ha; rw [inB_iff]; omega, by rw [hsym]; exact h2, rfl⟩
    have er : ∀ s, nodeS (rv a (b :: xs)) ++ s = nodeS (rv b xs) ++ ((1, a) :: s) := fun s => by simp [nodeS, rv]
    have el : lastN a (b :: xs) = lastN b xs := rfl
    refine ⟨by rw [← hq, e1], fun s r hr => ?_, fun s hs => ?_⟩
    · rw [er, el, e2 ((1, a) :: s) (a :: r) (by rw [stkL_cons, hback]; simp only; rw [hr])]
      simp [rv]
    · obtain ⟨r, hr⟩ := hs
      rw [er, el, e3 _ ⟨a :: r, by rw [stkL_cons, hback]; simp only; rw [hr]⟩]
      rw [e]
      show _ = (costStep n ls a (1, b) + stkCost n ls (nextN n ls a (1, b)) (nodeS xs)) + _
      rw [nextN_of hb]
      have c1 : stkCost n ls b ((1, a) :: s) = costStep n ls b (1, a) + stkCost n ls (nextN n ls b (1, a)) s := rfl
      rw [c1, nextN_of hback]
      have c2 : costStep n ls b (1, a) = distG n ls b a := by unfold costStep; rw [if_pos rfl, nextN_of hback]
      have c3 : costStep n ls a (1, b) = distG n ls a b := by unfold costStep; rw [if_pos rfl, nextN_of hb]
      rw [c2, c3, hsym]; omega
end Go.Proofs.Ytnnkdoomjkccgaa
namespace Go.Proofs.Ytnnkdoomjkccgaa
set_option linter.unusedSimpArgs false
set_option linter.unusedVariables false

def compG (n : Int) (ls : List LinkD) (a : Int) (p : List Int) : List LabelD := comp n.toNat (cstL ls) (distG n ls) (lkOf ls) p.length a p
def onlyG (n : Int) (ls : List LinkD) (a : Int) (p : List Int) : Bool := onlyB n.toNat (cstL ls) (distG n ls) a p
theorem comp_cons {N : Nat} {c : Cst} {D : Int → Int → Int} {lk : Int → Int → Int} (f : Nat) (a x : Int) (p : List Int) : comp N c D lk (f + 1) a (x :: p) =
    if 0 < bestK (fun k => onlyB N c D a ((x :: p).take k)) (p.length + 1) then (1, lastN a ((x :: p).take (bestK (fun k => onlyB N c D a ((x :: p).take k)) (p.length + 1)))) :: comp N c D lk f (lastN a ((x :: p).take (bestK (fun k => onlyB N c D a ((x :: p).take k)) (p.length + 1)))) ((x :: p).drop (bestK (fun k => onlyB N c D a ((x :: p).take k)) (p.length + 1)))
    else (2, lk a x) :: comp N c D lk f x p := rfl
theorem comp_fuel {N : Nat} {c : Cst} {D : Int → Int → Int} {lk : Int → Int → Int} : ∀ (f g : Nat) (a : Int) (p : List Int), p.length ≤ f → p.length ≤ g → comp N c D lk f a p = comp N c D lk g a p
  | f, g, a, [], _, _ => by cases f <;> cases g <;> rfl
  | f, g, a, x :: p, hf, hg => by
    obtain ⟨f, rfl⟩ : ∃ j, f = j + 1 := ⟨f - 1, by simp at hf; omega⟩
    obtain ⟨g, rfl⟩ : ∃ j, g = j + 1 := ⟨g - 1, by simp at hg; omega⟩
    simp only [List.length_cons] at hf hg
    rw [comp_cons, comp_cons]
    split
    · rename_i hk
      rw [comp_fuel f g _ _ (by simp only [List.length_drop, List.length_cons]; omega) (by simp only [List.length_drop, List.length_cons]; omega)]
    · rw [comp_fuel f g x p (by omega) (by omega)]
section
variable {n : Int} {ls : List LinkD} (h : GOk n ls)
include h
theorem comp_stk : ∀ (f : Nat) (a b : Int) (p : List Int), p.length ≤ f → nd n.toNat a → isW (cstL ls) a p b →
    ∃ q, stkL n ls a (comp n.toNat (cstL ls) (distG n ls) (lkOf ls) f a p) = some q ∧ stkPath n ls a (comp n.toNat (cstL ls) (distG n ls) (lkOf ls) f a p) = p ∧ uniqS n ls a (comp n.toNat (cstL ls) (distG n ls) (lkOf ls) f a p) = true ∧ (comp n.toNat (cstL ls) (distG n ls) (lkOf ls) f a p).length ≤ p.length
  | f, a, b, [], _, _, _ => by cases f <;> exact ⟨[], rfl, rfl, rfl, Nat.le_refl _⟩
  | 0, a, b, x :: p, hl, _, _ => by simp at hl
  | f + 1, a, b, x :: p, hl, ha, hw => by
    rw [comp_cons]
    split
    · rename_i hk
      obtain ⟨k, hkk⟩ : ∃ k, bestK (fun k => onlyB n.toNat (cstL ls) (distG n ls) a ((x :: p).take k)) (p.length + 1) = k := ⟨_, rfl⟩
      have hle := bestK_le (fun k => onlyB n.toNat (cstL ls) (distG n ls) a ((x :: p).take k)) (p.length + 1)
      have hok := bestK_ok _ _ hk
      rw [hkk] at hk hle hok ⊢
      have hsp : (x :: p).take k ++ (x :: p).drop k = x :: p := List.take_append_drop _ _
      have hw' := hw
      rw [← hsp] at hw'
      obtain ⟨w1, w2⟩ := isW_append.1 hw'
      have hbn := (isW_nd h.fits.ok ha w1).1
      obtain ⟨q, a1, a2, a3, a4⟩ := comp_stk f (lastN a ((x :: p).take k)) b ((x :: p).drop k) (by simp only [List.length_drop, List.length_cons] at *; omega) hbn w2
      unfold onlyB at hok
      simp only [Bool.and_eq_true, decide_eq_true_iff] at hok
      obtain ⟨o1, o2⟩ := hok
      have hd := (h.dst.least a _ _ ha w1)
      have hseg := sp_unique h ha hbn hd.1 o2 w1 o1
      have hn := h.nN.1 hbn
      have hh : hopTo n ls a (1, lastN a ((x :: p).take k)) = some (lastN a ((x :: p).take k)) := by
        unfold hopTo
        rw [if_pos rfl]
        simp only
        rw [if_pos]
        simp only [Bool.and_eq_true, inB_iff, decide_eq_true_iff]
        exact ⟨by omega, hd.1⟩
      have hnx := nextN_of hh
      refine ⟨lastN a ((x :: p).take k) :: q, ?_, ?_, ?_, ?_⟩
      · rw [stkL_cons, hh]; simp only; rw [a1]
      · unfold stkPath segL
        rw [hnx, if_pos rfl, ← hseg, a2, hsp]
      · unfold uniqS
        rw [hnx, a3]
        have : cntG n ls a (lastN a ((x :: p).take k)) = 1 := o2
        simp [this]
      · simp only [List.length_cons, List.length_drop] at *; omega
    · obtain ⟨hx1, hx2⟩ := hw
      have hxn := (h.fits.ok.node a x hx1).2
      obtain ⟨q, a1, a2, a3, a4⟩ := comp_stk f x b p (by simpa using hl) hxn hx2
      obtain ⟨k, l, e1, e2, e3, e4⟩ := lk_ends h hx1
      have hlk := h.link k l e2
      have hh : hopTo n ls a (2, lkOf ls a x) = some x := by
        unfold hopTo
        rw [if_neg (by omega), if_pos rfl]
        simp only
        rw [if_pos (by omega), e1, show ((k : Int)).toNat = k by omega, e2]
        simp only
        rw [otherEnd_iff (by omega)]
        exact e3
      have hnx := nextN_of hh
      refine ⟨x :: q, ?_, ?_, ?_, ?_⟩
      · rw [stkL_cons, hh]; simp only; rw [a1]
      · unfold stkPath segL
        rw [hnx, if_neg (by omega), a2]; rfl
      · unfold uniqS
        rw [hnx, a3]
        simp
      · simp only [List.length_cons]; omega
/-- A stack without choice, split into its parts that are not empty. -/
theorem stk_sg : ∀ {s : List LabelD} {a : Int} {q : List Int}, nd n.toNat a → stkL n ls a s = some q → uniqS n ls a s = true → ∃ ss, ss.flatten = stkPath n ls a s ∧ Sg (cstL ls) a ss ∧ ss.length ≤ s.length
  | [], a, q, _, _, _ => ⟨[], rfl, trivial, Nat.le_refl _⟩
  | l :: s, a, q, ha, hq, hu => by
    rw [stkL_cons] at hq
    split at hq
    · cases hq
    · rename_i b hb
      split at hq
      · cases hq
      · rename_i q' hq'
        have hn := nextN_of hb
        unfold uniqS at hu
        unfold stkPath
        rw [hn] at hu ⊢
        simp only [Bool.and_eq_true, Bool.or_eq_true, Bool.not_eq_true', decide_eq_true_iff, decide_eq_false_iff_not] at hu
        have hbn := hop_nd h ha hb
        obtain ⟨ss, s1, s2, s3⟩ := stk_sg hbn hq' hu.2
        obtain ⟨w1, w2, w3⟩ := seg_walk h ha hb
        by_cases he : segL n ls a l = []
        · have e : a = b := by rw [he] at w1; exact w1
          exact ⟨ss, by rw [he, s1]; rfl, by rw [e]; exact s2, by simp; omega⟩
        · refine ⟨segL n ls a l :: ss, by rw [List.flatten_cons, s1], ⟨he, ?_, by rw [isW_last w1]; exact s2⟩, by simp; omega⟩
          rcases hop_cases h hb with ⟨h1, h2, h3, h4⟩ | ⟨i, k, h1, _⟩
          · right
            have hcnt : cntG n ls a b = 1 := by rcases hu.1 with h' | h'; exact absurd h1 h'; exact h'
            have e := isW_last w1
            refine (only_iff h.fits.ok h.dst ha w1).1 ?_
            unfold onlyB
            rw [e]
            simp only [Bool.and_eq_true, decide_eq_true_iff]
            refine ⟨?_, hcnt⟩
            rw [w2]
            unfold costStep
            rw [if_pos h1, hn]
          · left
            unfold segL
            rw [if_neg (by omega)]; rfl
theorem compG_sg {a b : Int} {p : List Int} (ha : nd n.toNat a) (hw : isW (cstL ls) a p b) : ∃ ss, ss.flatten = p ∧ Sg (cstL ls) a ss ∧ ss.length = (compG n ls a p).length :=
  comp_sg h.fits.ok h.dst (lkOf ls) p.length a b p (Nat.le_refl _) ha hw
theorem compG_min {a b : Int} {p : List Int} (ha : nd n.toNat a) (hw : isW (cstL ls) a p b) {ss : List (List Int)} (h1 : ss.flatten = p) (h2 : Sg (cstL ls) a ss) : (compG n ls a p).length ≤ ss.length :=
  comp_min h.fits.ok h.dst (lkOf ls) p.length a b p (Nat.le_refl _) ha hw ss h1 h2
theorem compG_stk {a b : Int} {p : List Int} (ha : nd n.toNat a) (hw : isW (cstL ls) a p b) : ∃ q, stkL n ls a (compG n ls a p) = some q ∧ stkPath n ls a (compG n ls a p) = p ∧ uniqS n ls a (compG n ls a p) = true ∧ (compG n ls a p).length ≤ p.length :=
  comp_stk h p.length a b p (Nat.le_refl _) ha hw
theorem compG_cost {a b : Int} {p : List Int} (ha : nd n.toNat a) (hw : isW (cstL ls) a p b) : stkCost n ls a (compG n ls a p) = wc (cstL ls) a p := by
  obtain ⟨q, h1, h2, h3, h4⟩ := compG_stk h ha hw
  have := (stk_walk h ha h1).2.1
  rw [h2] at this
  exact this.symm
/-- The way back needs as many labels. -/
theorem compG_rv {a b : Int} {p : List Int} (ha : nd n.toNat a) (hw : isW (cstL ls) a p b) : (compG n ls b (rv a p)).length = (compG n ls a p).length := by
  have e := isW_last hw
  have hb := (isW_nd h.fits.ok ha hw).1
  have hr := (rv_walk h.fits.ok hw).1
  have one : ∀ {a b : Int} {p : List Int}, nd n.toNat a → isW (cstL ls) a p b → (compG n ls b (rv a p)).length ≤ (compG n ls a p).length := fun {a b p} ha hw => by
    obtain ⟨ss, s1, s2, s3⟩ := compG_sg h ha hw
    subst s1
    obtain ⟨tt, t1, t2, t3⟩ := sg_rv h.fits.ok s2 hw
    have := compG_min h (isW_nd h.fits.ok ha hw).1 (rv_walk h.fits.ok hw).1 t1 t2
    omega
  have h1 := one ha hw
  have h2 := one hb hr
  have e2 := rv_rv p a
  rw [e] at e2
  rw [e2] at h2
  omega
/-- Parts of a path. -/
theorem compG_parts {a b : Int} {p q : List Int} (ha : nd n.toNat a) (hw : isW (cstL ls) a (p ++ q) b) : (compG n ls a (p ++ q)).length ≤ (compG n ls a p).length + (compG n ls (lastN a p) q).length ∧ (compG n ls a p).length ≤ (compG n ls a (p ++ q)).length ∧ (compG n ls (lastN a p) q).length ≤ (compG n ls a (p ++ q)).length := by
  obtain ⟨w1, w2⟩ := isW_append.1 hw
  have hm := (isW_nd h.fits.ok ha w1).1
  obtain ⟨s1, a1, a2, a3⟩ := compG_sg h ha w1
  obtain ⟨s2, b1, b2, b3⟩ := compG_sg h hm w2
  obtain ⟨s3, c1, c2, c3⟩ := compG_sg h ha hw
  obtain ⟨s4, d1, d2, d3⟩ := sg_prefix c2 c1 hw
  obtain ⟨s5, e1, e2, e3⟩ := sg_suffix c2 c1 hw
  have m1 := compG_min h ha hw (ss := s1 ++ s2) (by rw [List.flatten_append, a1, b1]) (sg_join a2 (by rw [a1]; exact b2))
  have m2 := compG_min h ha w1 d1 d2
  have m3 := compG_min h hm w2 e1 e2
  rw [List.length_append] at m1
  omega
theorem compG_other {s : List LabelD} {a : Int} {q : List Int} (ha : nd n.toNat a) (hq : stkL n ls a s = some q) (hu : uniqS n ls a s = true) : (compG n ls a (stkPath n ls a s)).length ≤ s.length := by
  obtain ⟨ss, s1, s2, s3⟩ := stk_sg h ha hq hu
  have := compG_min h ha (stk_walk h ha hq).1 s1 s2
  omega
end
/-- An only shortest path is one label; and one label of a node means just that. -/
theorem compG_one {n : Int} {ls : List LinkD} {a x : Int} {p : List Int} (ho : onlyG n ls a (x :: p) = true) : compG n ls a (x :: p) = [(1, lastN a (x :: p))] := by
  unfold compG
  rw [List.length_cons, comp_cons]
  have hb : bestK (fun k => onlyB n.toNat (cstL ls) (distG n ls) a ((x :: p).take k)) (p.length + 1) = p.length + 1 := by
    unfold bestK
    rw [if_pos]
    rw [List.take_of_length_le (by simp)]
    exact ho
  rw [hb, if_pos (by omega), List.take_of_length_le (by simp), List.drop_of_length_le (by simp)]
  cases p.length <;> rfl
theorem compG_not_one {n : Int} {ls : List LinkD} {a x : Int} {p : List Int} (ho : onlyG n ls a (x :: p) = false) : 1 < (compG n ls a (x :: p)).length ∨ ∃ k, (compG n ls a (x :: p))[0]? = some (2, k) := by
  unfold compG
  rw [List.length_cons, comp_cons]
  split
  · rename_i hk
    left
    obtain ⟨k, hkk⟩ : ∃ k, bestK (fun k => onlyB n.toNat (cstL ls) (distG n ls) a ((x :: p).take k)) (p.length + 1) = k := ⟨_, rfl⟩
    have hle := bestK_le (fun k => onlyB n.toNat (cstL ls) (distG n ls) a ((x :: p).take k)) (p.length + 1)
    have hok := bestK_ok _ _ hk
    rw [hkk] at hk hle hok ⊢
    have hlt : k < p.length + 1 := by
      rcases Nat.lt_or_ge k (p.length + 1) with h | h
      · exact h
      · rw [List.take_of_length_le (by simp; omega)] at hok
        have : onlyG n ls a (x :: p) = true := hok
        rw [this] at ho; cases ho
    rcases hd : (x :: p).drop k with _ | ⟨y, r⟩
    · have := congrArg List.length hd
      simp at this
      omega
    · have hpl : 0 < p.length := by omega
      obtain ⟨f, hf⟩ : ∃ f, p.length = f + 1 := ⟨p.length - 1, by omega⟩
      rw [hf, comp_cons]
      split <;> simp
  · right
    exact ⟨_, rfl⟩
end Go.Proofs.Ytnnkdoomjkccgaa
namespace Go.Proofs.Ytnnkdoomjkccgaa
set_option linter.unusedSimpArgs false
set_option linter.unusedVariables false

theorem down_closed {f : Nat → Bool} (hf : ∀ j, 1 ≤ j → f (j + 1) = true → f j = true) : ∀ (d i : Nat), 1 ≤ i → f (i + d) = true → f i = true
  | 0, _, _, h => h
  | d + 1, i, hi, h => down_closed hf d i hi (hf (i + d) (by omega) h)
/-- Where the growing search stops: g parts, no more of them one. -/
theorem grow_best {f : Nat → Bool} (hf : ∀ j, 1 ≤ j → f (j + 1) = true → f j = true) {g r : Nat} (h1 : 1 ≤ g) (hr : g ≤ r) (hg : g = 1 ∨ f g = true) (hs : g = r ∨ f (g + 1) = false) :
    bestK f r = if f g = true then g else 0 := by
  by_cases e : f g = true
  · rw [if_pos e]
    have h2 := bestK_ge h1 hr e
    have h3 := bestK_le f r
    rcases Nat.lt_or_ge g (bestK f r) with h4 | h4
    · have h5 := bestK_ok f r (by omega)
      have h6 : f (g + 1) = true := down_closed hf (bestK f r - (g + 1)) (g + 1) (by omega) (by rw [show g + 1 + (bestK f r - (g + 1)) = bestK f r by omega]; exact h5)
      rcases hs with rfl | hs
      · omega
      · rw [hs] at h6; cases h6
    · omega
  · rw [if_neg e]
    have hg1 : g = 1 := by
      rcases hg with h | h
      · exact h
      · exact absurd h e
    subst hg1
    rcases Nat.eq_zero_or_pos (bestK f r) with h4 | h4
    · exact h4
    · have h5 := bestK_ok f r h4
      exact absurd (down_closed hf (bestK f r - 1) 1 (by omega) (by rw [show 1 + (bestK f r - 1) = bestK f r by omega]; exact h5)) e
/-- Parts of unique ways are unique. -/
theorem only_less {n : Int} {ls : List LinkD} (h : GOk n ls) {a b : Int} {p : List Int} (ha : nd n.toNat a) (hw : isW (cstL ls) a p b) : ∀ j, 1 ≤ j → j + 1 ≤ p.length → onlyG n ls a (p.take (j + 1)) = true → onlyG n ls a (p.take j) = true := fun j _ hj ho => by
  have hlt : j < p.length := by omega
  have e : p.take (j + 1) = p.take j ++ [p[j]] := by rw [List.take_succ_eq_append_getElem hlt]
  have e2 : p = p.take (j + 1) ++ p.drop (j + 1) := (List.take_append_drop _ _).symm
  have hw1 : isW (cstL ls) a (p.take (j + 1)) (lastN a (p.take (j + 1))) := by
    rw [e2, isW_append] at hw; exact hw.1
  have hw2 : isW (cstL ls) a (p.take j) (lastN a (p.take j)) := by
    have := hw1
    rw [e, isW_append] at this; exact this.1
  have hc := h.fits.ok; have hD := h.dst
  unfold onlyG at ho ⊢
  rw [only_iff hc hD ha hw1] at ho
  rw [only_iff hc hD ha hw2]
  rw [e] at ho hw1
  exact Uq.left hw1 ho
end Go.Proofs.Ytnnkdoomjkccgaa
namespace Go.Proofs.Ytnnkdoomjkccgaa
set_option linter.unusedSimpArgs false
set_option linter.unusedVariables false

section
variable {n : Int} {ls : List LinkD} (h : GOk n ls) {k : Nat} (hk : k < ls.length)
theorem er_get (ls : List LinkD) (k j : Nat) : (ls.eraseIdx k)[j]? = if j < k then ls[j]? else ls[j + 1]? := by
  rw [List.getElem?_eraseIdx]
include h in
theorem er_ok : GOk n (ls.eraseIdx k) := by
  refine ⟨h.n1, h.n8, ?_, fun j l hl => ?_, fun i j l l' hij hi hj => ?_⟩
  · have := h.len; have := List.length_eraseIdx_le ls k; omega
  · rw [er_get] at hl
    split at hl
    · exact h.link _ _ hl
    · exact h.link _ _ hl
  · rw [er_get] at hi hj
    split at hi
    · split at hj
      · exact h.lex _ _ _ _ hij hi hj
      · exact h.lex _ _ _ _ (by omega) hi hj
    · split at hj
      · omega
      · exact h.lex _ _ _ _ (by omega) hi hj
/-- Where a link of the shorter list lies in the longer one. -/
theorem er_in {j : Nat} {l : LinkD} (hl : (ls.eraseIdx k)[j]? = some l) : ∃ i, i ≠ k ∧ ls[i]? = some l := by
  rw [er_get] at hl
  split at hl
  · exact ⟨j, by omega, hl⟩
  · exact ⟨j + 1, by omega, hl⟩
theorem er_out {i : Nat} {l : LinkD} (hl : ls[i]? = some l) (hi : i ≠ k) : (ls.eraseIdx k)[if i < k then i else i - 1]? = some l := by
  rw [er_get]
  by_cases e : i < k
  · rw [if_pos e, if_pos e]; exact hl
  · rw [if_neg e, if_neg (by omega), show i - 1 + 1 = i by omega]; exact hl
include h in
theorem er_at {i : Nat} {l : LinkD} {a b : Int} (hl : ls[i]? = some l) (ha : linkAt a b l = true) : lkOf ls a b = i ∧ cstL ls a b = l.2.2 := by
  rcases lk_cases ls a b with ⟨_, _, h3⟩ | ⟨i', l', h1, h2, h3, h4⟩
  · rw [h3 l (List.mem_of_getElem? hl)] at ha; cases ha
  · have e1 := linkAt_iff.1 ha
    have e2 := linkAt_iff.1 h3
    have := h.uniq h2 hl (by omega) (by omega)
    subst this
    rw [hl] at h2
    injection h2 with h2
    subst h2
    exact ⟨h1, h4⟩
include h in
theorem er_keep {a b : Int} (hne : lkOf ls a b ≠ k) : cstL (ls.eraseIdx k) a b = cstL ls a b := by
  rcases lk_cases ls a b with ⟨_, h2, h3⟩ | ⟨i, l, h1, h2, h3, h4⟩
  · rcases lk_cases (ls.eraseIdx k) a b with ⟨_, g2, _⟩ | ⟨j, l, g1, g2, g3, g4⟩
    · rw [g2, h2]
    · obtain ⟨i, _, hi⟩ := er_in g2
      rw [h3 l (List.mem_of_getElem? hi)] at g3; cases g3
  · have hik : i ≠ k := fun e => hne (by rw [h1, e])
    have := er_out h2 hik
    exact ((er_at (er_ok h) this h3).2).trans h4.symm
include h in
theorem er_gone {a b : Int} (he : lkOf ls a b = k) : cstL (ls.eraseIdx k) a b = 0 := by
  rcases lk_cases (ls.eraseIdx k) a b with ⟨_, g2, _⟩ | ⟨j, l, g1, g2, g3, g4⟩
  · exact g2
  · obtain ⟨i, hik, hi⟩ := er_in g2
    have := (er_at h hi g3).1
    omega
include h in
theorem er_walk : ∀ {p : List Int} {a b : Int}, isW (cstL (ls.eraseIdx k)) a p b → isW (cstL ls) a p b ∧ wc (cstL (ls.eraseIdx k)) a p = wc (cstL ls) a p
  | [], _, _, hw => ⟨hw, rfl⟩
  | x :: p, a, b, hw => by
    have hp : 0 < cstL (ls.eraseIdx k) a x := hw.1
    have hne : lkOf ls a x ≠ k := fun e => by rw [er_gone h e] at hp; omega
    have e := er_keep h hne
    have ih := er_walk hw.2
    exact ⟨⟨by rw [← e]; exact hp, ih.1⟩, by show _ + _ = _ + _; rw [e, ih.2]⟩
include h in
theorem er_back : ∀ {p : List Int} {a b : Int}, isW (cstL ls) a p b → onP ls k a p = false → isW (cstL (ls.eraseIdx k)) a p b ∧ wc (cstL (ls.eraseIdx k)) a p = wc (cstL ls) a p
  | [], _, _, hw, _ => ⟨hw, rfl⟩
  | x :: p, a, b, hw, ho => by
    have ho' : (decide (lkOf ls a x = k) || onP ls k x p) = false := ho
    simp only [Bool.or_eq_false_iff, decide_eq_false_iff_not] at ho'
    have e := er_keep h ho'.1
    have ih := er_back hw.2 ho'.2
    exact ⟨⟨by rw [e]; exact hw.1, ih.1⟩, by show _ + _ = _ + _; rw [e, ih.2]⟩
/-- No shortest walk from x to b goes over link k. -/
def OffS (n : Int) (ls : List LinkD) (k : Nat) (b x : Int) : Prop := ∀ p, Sh (cstL ls) (distG n ls b) b x p → onP ls k x p = false
include h in
theorem off_used {a b : Int} {l : LinkD} (hl : ls[k]? = some l) (ha : nd n.toNat a) (hb : nd n.toNat b) (h0 : 0 ≤ distG n ls a b) (hu : usedB n ls a b k = false) : OffS n ls k b a := by
  intro p hp
  have hsym : distG n ls b a = distG n ls a b := Dst.symm h.fits.ok h.dst hb ha
  cases ho : onP ls k a p with
  | false => rfl
  | true =>
    obtain ⟨p1, v, p2, rfl, hlk⟩ := onP_split ho
    obtain ⟨hw, hc⟩ := hp
    rw [isW_append] at hw
    obtain ⟨hw1, hw2, hw3⟩ := hw
    obtain ⟨k', l', e1, e2, e3, e4⟩ := lk_ends h hw2
    have : k' = k := by omega
    subst this
    rw [hl] at e2
    injection e2 with e2
    subst e2
    have := (used_iff h hl ha hb h0).2 ⟨p1, p2, lastN a p1, v, e3, hw1, hw3, by
      rw [wc_append, hsym] at hc
      have : wc (cstL ls) (lastN a p1) (v :: p2) = cstL ls (lastN a p1) v + wc (cstL ls) v p2 := rfl
      rw [this, e4] at hc
      omega⟩
    rw [this] at hu; cases hu
include h in
theorem off_dist {x b : Int} (hx : nd n.toNat x) (hb : nd n.toNat b) (h0 : 0 ≤ distG n ls b x) (ho : OffS n ls k b x) : distG n (ls.eraseIdx k) b x = distG n ls b x := by
  have hc := h.fits.ok; have hD := h.dst; have h' := er_ok (k := k) h; have hD' := h'.dst; have hc' := h'.fits.ok
  have s1 : distG n ls b x = distG n ls x b := Dst.symm hc hD hb hx
  have s2 : distG n (ls.eraseIdx k) b x = distG n (ls.eraseIdx k) x b := Dst.symm hc' hD' hb hx
  obtain ⟨p, hp, hpc⟩ := hD.walk x b hx hb (by omega)
  obtain ⟨g1, g2⟩ := er_back h hp (ho p ⟨hp, by omega⟩)
  have l1 := hD'.least x b p hx g1
  obtain ⟨p', hp', hpc'⟩ := hD'.walk x b hx hb l1.1
  obtain ⟨g3, g4⟩ := er_walk h hp'
  have l2 := hD.least x b p' hx g3
  omega
include h in
theorem off_hop {x b m : Int} (hx : nd n.toNat x) (hb : nd n.toNat b) (ho : OffS n ls k b x) (hm : m ∈ hopsL n.toNat (cstL ls) (distG n ls b) x) : lkOf ls x m ≠ k ∧ OffS n ls k b m ∧ nd n.toNat m ∧ 0 ≤ distG n ls b m := by
  have hc := h.fits.ok; have hD := h.dst
  obtain ⟨m1, m2, m3, m4⟩ := mem_hopsL.1 hm
  have key : ∀ p, Sh (cstL ls) (distG n ls b) b m p → onP ls k x (m :: p) = false := fun p hp => ho (m :: p) ((sh_cons hc hD hb hx).2 ⟨hm, hp⟩)
  have key2 : ∀ p, Sh (cstL ls) (distG n ls b) b m p → lkOf ls x m ≠ k ∧ onP ls k m p = false := fun p hp => by
    have : (decide (lkOf ls x m = k) || onP ls k m p) = false := key p hp
    simpa [Bool.or_eq_false_iff] using this
  have s1 : distG n ls b m = distG n ls m b := Dst.symm hc hD hb m1
  obtain ⟨p, hp, hpc⟩ := hD.walk m b m1 hb (by omega)
  exact ⟨(key2 p ⟨hp, by omega⟩).1, fun q hq => (key2 q hq).2, m1, m3⟩
include h in
theorem off_hops {x b : Int} (hx : nd n.toNat x) (hb : nd n.toNat b) (h0 : 0 ≤ distG n ls b x) (ho : OffS n ls k b x) : hopsL n.toNat (cstL (ls.eraseIdx k)) (distG n (ls.eraseIdx k) b) x = hopsL n.toNat (cstL ls) (distG n ls b) x := by
  have hc := h.fits.ok; have hD := h.dst; have h' := er_ok (k := k) h; have hD' := h'.dst; have hc' := h'.fits.ok
  unfold hopsL
  apply List.filter_congr
  intro m hm
  have hm := mem_nodesL.1 hm
  have e0 := off_dist h hx hb h0 ho
  rw [Bool.eq_iff_iff]
  unfold hopB
  simp only [Bool.and_eq_true, decide_eq_true_eq]
  constructor
  · rintro ⟨⟨g1, g2⟩, g3⟩
    have hne : lkOf ls x m ≠ k := fun e => by rw [er_gone h e] at g1; omega
    have e1 := er_keep h hne
    rw [e1] at g1 g3
    have s2 : distG n (ls.eraseIdx k) b m = distG n (ls.eraseIdx k) m b := Dst.symm hc' hD' hb hm
    have s1 : distG n ls b m = distG n ls m b := Dst.symm hc hD hb hm
    obtain ⟨p', hp', hpc'⟩ := hD'.walk m b hm hb (by omega)
    obtain ⟨g4, g5⟩ := er_walk h hp'
    have l2 := hD.least m b p' hm g4
    obtain ⟨q, hq, hqc⟩ := hD.walk b m hb hm (by omega)
    have hlq := isW_last hq
    have l3 := hD.least b x (q ++ [x]) hb (isW_append.2 ⟨by rw [hlq]; exact hq, by rw [hlq]; exact ⟨by rw [hc.sym]; exact g1, rfl⟩⟩)
    rw [wc_append, hlq] at l3
    have r2 : wc (cstL ls) m [x] = cstL ls m x + 0 := rfl
    have r3 := hc.sym m x
    have : distG n ls b m = distG n (ls.eraseIdx k) b m := by omega
    exact ⟨⟨g1, by omega⟩, by omega⟩
  · rintro ⟨⟨g1, g2⟩, g3⟩
    obtain ⟨o1, o2, _, _⟩ := off_hop h hx hb ho (mem_hopsL.2 ⟨hm, g1, g2, g3⟩)
    have e1 := er_keep h o1
    have e2 := off_dist h hm hb g2 o2
    rw [e1, e2, e0]
    exact ⟨⟨g1, g2⟩, g3⟩
include h in
theorem off_sp {b : Int} (hb : nd n.toNat b) : ∀ (f : Nat) (x : Int), nd n.toNat x → 0 ≤ distG n ls b x → OffS n ls k b x →
    sp n.toNat (cstL (ls.eraseIdx k)) (distG n (ls.eraseIdx k) b) b f x = sp n.toNat (cstL ls) (distG n ls b) b f x
  | 0, _, _, _, _ => rfl
  | f + 1, x, hx, h0, ho => by
    unfold sp
    by_cases e : x = b
    · rw [if_pos e, if_pos e]
    · rw [if_neg e, if_neg e, off_hops h hx hb h0 ho]
      cases hh : hopsL n.toNat (cstL ls) (distG n ls b) x with
      | nil => rfl
      | cons m t =>
        obtain ⟨_, o2, o3, o4⟩ := off_hop h hx hb ho (m := m) (by rw [hh]; exact List.mem_cons_self ..)
        simp only
        rw [off_sp hb f m o3 o4 o2]
end
def shL (k : Nat) (l : LabelD) : LabelD := if l.1 = 2 ∧ (k:Int) < l.2 then (2, l.2 - 1) else l
theorem er_hop {n : Int} {ls : List LinkD} (h : GOk n ls) {k : Nat} (hk : k < ls.length) {a b : Int} {l : LabelD} (ha : nd n.toNat a) (hh : hopTo n ls a l = some b) (hx : (decide (l.1 = 2 ∧ l.2 = k) || (decide (l.1 = 1) && usedB n ls a b k)) = false) :
    hopTo n (ls.eraseIdx k) a (shL k l) = some b ∧ segL n (ls.eraseIdx k) a (shL k l) = segL n ls a l ∧ costStep n (ls.eraseIdx k) a (shL k l) = costStep n ls a l := by
  have hb := hop_nd h ha hh
  have hc := h.fits.ok; have hD := h.dst; have h' := er_ok (k := k) h; have hD' := h'.dst; have hc' := h'.fits.ok
  obtain ⟨kd, v⟩ := l
  simp only [Bool.or_eq_false_iff, decide_eq_false_iff_not] at hx
  obtain ⟨hx1, hx2⟩ := hx
  by_cases e1 : kd = 1
  · subst e1
    have es : shL k (1, v) = (1, v) := by unfold shL; rw [if_neg (by rintro ⟨h1, _⟩; simp at h1)]
    have hu : usedB n ls a b k = false := by simpa using hx2
    have hh2 := hh
    unfold hopTo at hh2
    simp only [if_true] at hh2
    by_cases e : (inB v 0 (n - 1) && decide (0 ≤ distG n ls a v)) = true
    · rw [if_pos e] at hh2
      injection hh2 with hv
      subst hv
      simp only [Bool.and_eq_true, decide_eq_true_eq] at e
      obtain ⟨g1, g2⟩ := e
      have hs : distG n ls v a = distG n ls a v := Dst.symm hc hD hb ha
      have hs' : distG n (ls.eraseIdx k) v a = distG n (ls.eraseIdx k) a v := Dst.symm hc' hD' hb ha
      have ho := off_used h (List.getElem?_eq_getElem hk) ha hb g2 hu
      have ed := off_dist h ha hb (by omega) ho
      have esp := off_sp h hb n.toNat a ha (by omega) ho
      have hh' : hopTo n (ls.eraseIdx k) a (1, v) = some v := by
        unfold hopTo
        simp only [if_true]
        rw [if_pos (by simp only [Bool.and_eq_true, decide_eq_true_eq]; exact ⟨g1, by omega⟩)]
      rw [es]
      refine ⟨hh', ?_, ?_⟩
      · unfold segL
        rw [if_pos rfl, if_pos rfl, nextN_of hh, nextN_of hh']
        exact esp
      · unfold costStep
        rw [if_pos rfl, if_pos rfl, nextN_of hh, nextN_of hh']
        omega
    · rw [if_neg e] at hh2; cases hh2
  · by_cases e2 : kd = 2
    · subst e2
      have hne : v ≠ k := fun e => hx1 ⟨rfl, e⟩
      have hh2 := hh
      unfold hopTo at hh2
      simp only [if_neg e1, if_true] at hh2
      by_cases e0 : 0 ≤ v
      · rw [if_pos e0] at hh2
        cases hl : ls[v.toNat]? with
        | none => rw [hl] at hh2; simp at hh2
        | some m =>
          rw [hl] at hh2
          simp only at hh2
          have ho := er_out hl (k := k) (by omega)
          have es : shL k (2, v) = (2, ((if v.toNat < k then v.toNat else v.toNat - 1 : Nat) : Int)) := by
            unfold shL
            by_cases e3 : (k:Int) < v
            · rw [if_pos ⟨rfl, e3⟩, if_neg (by omega)]
              simp only [Prod.mk.injEq, true_and]; omega
            · rw [if_neg (by rintro ⟨_, h1⟩; exact e3 h1), if_pos (by omega)]
              simp only [Prod.mk.injEq, true_and]; omega
          rw [es]
          generalize hj : (if v.toNat < k then v.toNat else v.toNat - 1) = j at ho
          have hh' : hopTo n (ls.eraseIdx k) a (2, ((j : Nat) : Int)) = some b := by
            unfold hopTo
            simp only [if_neg (show ¬ ((2:Int) = 1) by omega), if_true, Int.toNat_natCast]
            rw [if_pos (by omega), ho]
            exact hh2
          refine ⟨hh', ?_, ?_⟩
          · unfold segL
            rw [if_neg (by simp), if_neg (by simp), nextN_of hh, nextN_of hh']
          · unfold costStep
            rw [if_neg (by simp), if_neg (by simp)]
            simp only [Int.toNat_natCast]
            rw [List.getD_eq_getElem?_getD, List.getD_eq_getElem?_getD, ho, hl]
      · rw [if_neg e0] at hh2; cases hh2
    · exfalso
      unfold hopTo at hh
      simp only [if_neg e1, if_neg e2] at hh
      cases hh
theorem er_stk {n : Int} {ls : List LinkD} (h : GOk n ls) {k : Nat} (hk : k < ls.length) : ∀ {s : List LabelD} {a : Int} {q : List Int}, nd n.toNat a → stkL n ls a s = some q → crossS n ls k a s = false →
    stkL n (ls.eraseIdx k) a (s.map (shL k)) = some q ∧ stkPath n (ls.eraseIdx k) a (s.map (shL k)) = stkPath n ls a s ∧ stkCost n (ls.eraseIdx k) a (s.map (shL k)) = stkCost n ls a s
  | [], a, q, ha, hq, _ => ⟨hq, rfl, rfl⟩
  | l :: s, a, q, ha, hq, hx => by
    rw [stkL_cons] at hq
    obtain ⟨b, hb⟩ : ∃ b, hopTo n ls a l = some b := by
      cases hh : hopTo n ls a l with
      | none => rw [hh] at hq; simp at hq
      | some b => exact ⟨b, rfl⟩
    rw [hb] at hq
    simp only at hq
    obtain ⟨q', hq'⟩ : ∃ q', stkL n ls b s = some q' := by
      cases hh : stkL n ls b s with
      | none => rw [hh] at hq; simp at hq
      | some b => exact ⟨b, rfl⟩
    rw [hq'] at hq
    have hx' : ((decide (l.1 = 2 ∧ l.2 = k) || (decide (l.1 = 1) && usedB n ls a (nextN n ls a l) k)) || crossS n ls k (nextN n ls a l) s) = false := hx
    rw [nextN_of hb, Bool.or_eq_false_iff] at hx'
    obtain ⟨g1, g2, g3⟩ := er_hop h hk ha hb hx'.1
    have hnd := hop_nd h ha hb
    obtain ⟨i1, i2, i3⟩ := er_stk h hk hnd hq' hx'.2
    refine ⟨?_, ?_, ?_⟩
    · rw [List.map_cons, stkL_cons, g1]
      simp only
      rw [i1]
      exact hq
    · show segL _ _ _ _ ++ stkPath _ _ (nextN _ _ _ _) _ = segL _ _ _ _ ++ stkPath _ _ (nextN _ _ _ _) _
      rw [g2, nextN_of g1, nextN_of hb, i2]
    · show costStep _ _ _ _ + stkCost _ _ (nextN _ _ _ _) _ = costStep _ _ _ _ + stkCost _ _ (nextN _ _ _ _) _
      rw [g3, nextN_of g1, nextN_of hb, i3]
end Go.Proofs.Ytnnkdoomjkccgaa
