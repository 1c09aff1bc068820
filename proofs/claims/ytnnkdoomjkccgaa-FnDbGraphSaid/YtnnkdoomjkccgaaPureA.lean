/- The announcement of a node of a graph, and the graph of announcements, in plain terms. No program in sight. -/
import Derived.Test.YtnnkdoomjkccgaaPureMerge
namespace Go.Proofs.Ytnnkdoomjkccgaa
set_option linter.unusedSimpArgs false
set_option linter.unusedVariables false

/-! What a node announces. -/
def endF (ls : List LinkD) (a x : Int) : Option (Int × Int) := if 0 ≤ lkOf ls a x then some (x, cstL ls a x) else none
def endsN (ls : List LinkD) (a : Int) (N : Nat) : List (Int × Int) := (nodesL N).filterMap (endF ls a)
theorem nodesL_succ (N : Nat) : nodesL (N + 1) = nodesL N ++ [(N : Int)] := by simp [nodesL, List.range_succ]
theorem endsN_succ (ls : List LinkD) (a : Int) (N : Nat) : endsN ls a (N + 1) = endsN ls a N ++ (if 0 ≤ lkOf ls a N then [((N : Int), cstL ls a N)] else []) := by
  unfold endsN
  rw [nodesL_succ, List.filterMap_append]
  congr 1
  by_cases h : 0 ≤ lkOf ls a N <;> simp [endF, h]
theorem endsN_len (ls : List LinkD) (a : Int) (N : Nat) : (endsN ls a N).length ≤ N := by
  have h := List.length_filterMap_le (endF ls a) (nodesL N)
  have h2 : (nodesL N).length = N := by simp [nodesL]
  unfold endsN
  omega
theorem filterMap_if {α β : Type} (p : α → Bool) (f : α → β) : ∀ l : List α, l.filterMap (fun x => if p x = true then some (f x) else none) = (l.filter p).map f
  | [] => rfl
  | x :: l => by
    have ih := filterMap_if p f l
    by_cases h : p x = true <;> simp [List.filterMap_cons, h, ih]
theorem endsN_nb {n : Int} {ls : List LinkD} (h : GOk n ls) (a : Int) : endsN ls a n.toNat = (nbL n ls a).map fun m => (m, cstL ls a m) := by
  unfold endsN nbL
  rw [← filterMap_if]
  congr 1
  funext x
  unfold endF
  by_cases hp : 0 < cstL ls a x
  · rw [if_pos (h.pos.2 hp), if_pos (by simpa using hp)]
  · rw [if_neg (fun e => hp (h.pos.1 e)), if_neg (by simpa using hp)]
theorem mem_ends {n : Int} {ls : List LinkD} (h : GOk n ls) {a x y : Int} : (x, y) ∈ endsN ls a n.toNat ↔ 0 < cstL ls a x ∧ y = cstL ls a x := by
  rw [endsN_nb h, List.mem_map]
  constructor
  · rintro ⟨m, hm, e⟩
    injection e with e1 e2
    subst e1
    exact ⟨(mem_nbL h).1 hm, e2.symm⟩
  · rintro ⟨h1, rfl⟩
    exact ⟨x, (mem_nbL h).2 h1, rfl⟩
theorem ends_asc {n : Int} {ls : List LinkD} (h : GOk n ls) (a : Int) : (endsN ls a n.toNat).Pairwise (fun p q => p.1 < q.1) := by
  rw [endsN_nb h, List.pairwise_map]
  exact nbL_asc n ls a
theorem ends_ok {n : Int} {ls : List LinkD} (h : GOk n ls) {a s : Int} (ha : nd n.toNat a) (hs : inB s 1 99 = true) : lsaOk a s (endsN ls a n.toNat) = true := by
  have hi := h.nN.1 ha
  have h8 := h.n8
  refine lsaOk_iff.2 ⟨inB_iff.2 (by omega), hs, fun k x y hk => ?_, fun i j x y x' y' hij hi hj => ?_⟩
  · obtain ⟨h1, h2⟩ := (mem_ends h).1 (List.mem_of_getElem? hk)
    have h3 := (h.fits.ok.node a x h1).2
    have h4 := h.nN.1 h3
    have hne : x ≠ a := by
      rintro rfl
      have := h.fits.ok.ne x
      omega
    have hc : cstL ls a x ≤ 20 := by
      rcases lk_cases ls a x with ⟨_, e, _⟩ | ⟨i, l, _, e2, _, e4⟩
      · omega
      · have := h.link i l e2; omega
    exact ⟨inB_iff.2 (by omega), hne, inB_iff.2 (by omega)⟩
  · have hp := ends_asc h a
    rw [List.pairwise_iff_getElem] at hp
    obtain ⟨l1, e1⟩ := List.getElem?_eq_some_iff.1 hi
    obtain ⟨l2, e2⟩ := List.getElem?_eq_some_iff.1 hj
    have := hp i j l1 l2 hij
    rw [e1, e2] at this
    exact this
def lsaR (n : Int) (ls : List LinkD) (a s : Int) : LsaD × Bool := if (gOk n ls && inB a 0 (n - 1) && inB s 1 99) = true then ((a, s, endsN ls a n.toNat), true) else ((0, 0, []), false)
theorem lsaR_yes {n : Int} {ls : List LinkD} {a s : Int} (h : GOk n ls) (ha : nd n.toNat a) (hs : inB s 1 99 = true) : lsaR n ls a s = ((a, s, endsN ls a n.toNat), true) := by
  have hi := h.nN.1 ha
  unfold lsaR
  rw [if_pos (by rw [gOk_iff.2 h, inB_iff.2 (by omega), hs]; rfl)]
theorem lsaR_no {n : Int} {ls : List LinkD} {a s : Int} (h : (gOk n ls && inB a 0 (n - 1) && inB s 1 99) = false) : lsaR n ls a s = ((0, 0, []), false) := by
  unfold lsaR
  rw [if_neg (by simp [h])]

/-! What is announced. -/
def endC (es : List (Int × Int)) (b : Int) : Int := match es.find? (fun e => e.1 == b) with | some e => e.2 | none => 0
def annD (db : List LsaD) (a b : Int) : Int := match findD db a with | some d => endC d.2.2 b | none => 0
theorem endC_at {es : List (Int × Int)} {b x y : Int} {i : Nat} (h : es[i]? = some (x, y)) (hx : x = b) (hlt : ∀ (j : Nat) (e : Int × Int), j < i → es[j]? = some e → e.1 ≠ b) : endC es b = y := by
  obtain ⟨hl, he⟩ := List.getElem?_eq_some_iff.1 h
  have : es.find? (fun e => e.1 == b) = some (x, y) := by
    rw [List.find?_eq_some_iff_getElem]
    refine ⟨by simpa using hx, i, hl, he, fun j hj => ?_⟩
    have := hlt j es[j] hj (List.getElem?_eq_getElem (by omega))
    simpa using this
  unfold endC
  rw [this]
theorem endC_no {es : List (Int × Int)} {b : Int} (h : ∀ (j : Nat) (e : Int × Int), es[j]? = some e → e.1 ≠ b) : endC es b = 0 := by
  have : es.find? (fun e => e.1 == b) = none := by
    rw [List.find?_eq_none]
    intro e he
    obtain ⟨k, hk⟩ := List.getElem?_of_mem he
    simpa using h k e hk
  unfold endC
  rw [this]
theorem endC_mem {es : List (Int × Int)} (hp : es.Pairwise (fun p q => p.1 < q.1)) {x y : Int} (h : (x, y) ∈ es) : endC es x = y := by
  obtain ⟨i, hi⟩ := List.getElem?_of_mem h
  refine endC_at hi rfl fun j e hj he => ?_
  rw [List.pairwise_iff_getElem] at hp
  obtain ⟨l1, e1⟩ := List.getElem?_eq_some_iff.1 he
  obtain ⟨l2, e2⟩ := List.getElem?_eq_some_iff.1 hi
  have := hp j i l1 l2 hj
  rw [e1, e2] at this
  simp only at this
  omega
theorem endC_cases (es : List (Int × Int)) (b : Int) : (endC es b = 0 ∧ ∀ e ∈ es, e.1 ≠ b) ∨ ∃ e ∈ es, e.1 = b ∧ endC es b = e.2 := by
  have hu : endC es b = match es.find? (fun e => e.1 == b) with | some e => e.2 | none => 0 := rfl
  rw [hu]
  rcases h : es.find? (fun e => e.1 == b) with _ | e
  · exact .inl ⟨by simp only [h], fun e he => by have := List.find?_eq_none.1 h e he; simpa using this⟩
  · exact .inr ⟨e, List.mem_of_find?_eq_some h, by have := List.find?_some h; simpa using this, by simp only [h]⟩
theorem annD_yes {db : List LsaD} {a b : Int} {d : LsaD} (h : findD db a = some d) : annD db a b = endC d.2.2 b := by unfold annD; rw [h]
theorem annD_no {db : List LsaD} {a b : Int} (h : findD db a = none) : annD db a b = 0 := by unfold annD; rw [h]
theorem annD_bnd {db : List LsaD} (h : dbOk db = true) (a b : Int) : 0 ≤ annD db a b ∧ annD db a b ≤ 20 := by
  rcases hf : findD db a with _ | d
  · rw [annD_no hf]; omega
  · rw [annD_yes hf]
    have hd := ok_mem h (List.mem_of_find?_eq_some hf)
    rcases endC_cases d.2.2 b with ⟨e, _⟩ | ⟨⟨x, y⟩, he, _, e⟩
    · omega
    · obtain ⟨k, hk⟩ := List.getElem?_of_mem he
      have := inB_iff.1 ((lsaOk_iff.1 hd).2.2.1 k x y hk).2.2
      simp only at e
      omega

/-! The graph of announcements. -/
def lkD (db : List LsaD) (a b : Int) : List LinkD := if 0 < annD db a b ∧ 0 < annD db b a then [(a, b, max (annD db a b) (annD db b a))] else []
def rowN (db : List LsaD) (a : Nat) : Nat → List LinkD
  | 0 => []
  | b + 1 => rowN db a b ++ if a < b then lkD db a b else []
def upN (db : List LsaD) (N : Nat) : Nat → List LinkD
  | 0 => []
  | a + 1 => upN db N a ++ rowN db a N
def dgL (db : List LsaD) (n : Int) : List LinkD := upN db n.toNat n.toNat
theorem rowN_start (db : List LsaD) (a : Nat) : ∀ b, b ≤ a + 1 → rowN db a b = []
  | 0, _ => rfl
  | b + 1, h => by rw [rowN, rowN_start db a b (by omega), if_neg (by omega)]; rfl
theorem rowN_succ (db : List LsaD) {a b : Nat} (h : a < b) : rowN db a (b + 1) = rowN db a b ++ lkD db a b := by rw [rowN, if_pos h]
theorem lkD_len (db : List LsaD) (a b : Int) : (lkD db a b).length ≤ 1 := by unfold lkD; split <;> simp
theorem rowN_len (db : List LsaD) (a : Nat) : ∀ b, (rowN db a b).length ≤ b
  | 0 => by simp [rowN]
  | b + 1 => by
    have h1 := rowN_len db a b
    have h2 := lkD_len db a b
    rw [rowN, List.length_append]
    split
    · omega
    · simp; omega
theorem upN_len (db : List LsaD) (N : Nat) : ∀ a, (upN db N a).length ≤ a * N
  | 0 => by simp [upN]
  | a + 1 => by
    have h1 := upN_len db N a
    have h2 := rowN_len db a N
    rw [upN, List.length_append, Nat.add_mul]
    omega
theorem mem_lkD {db : List LsaD} {a b : Int} {l : LinkD} : l ∈ lkD db a b ↔ 0 < annD db a b ∧ 0 < annD db b a ∧ l = (a, b, max (annD db a b) (annD db b a)) := by
  unfold lkD
  split
  · rename_i h; simp [h.1, h.2]
  · rename_i h
    simp only [List.not_mem_nil, false_iff]
    rintro ⟨h1, h2, _⟩
    exact h ⟨h1, h2⟩
theorem mem_rowN {db : List LsaD} {a : Nat} {l : LinkD} : ∀ {b : Nat}, l ∈ rowN db a b ↔ ∃ y : Nat, a < y ∧ y < b ∧ l ∈ lkD db a y
  | 0 => by simp [rowN]
  | b + 1 => by
    rw [rowN, List.mem_append, mem_rowN]
    constructor
    · rintro (⟨y, h1, h2, h3⟩ | h)
      · exact ⟨y, h1, by omega, h3⟩
      · split at h
        · rename_i hab; exact ⟨b, hab, by omega, h⟩
        · simp at h
    · rintro ⟨y, h1, h2, h3⟩
      by_cases hy : y = b
      · subst hy
        exact .inr (by rw [if_pos h1]; exact h3)
      · exact .inl ⟨y, h1, by omega, h3⟩
theorem mem_upN {db : List LsaD} {N : Nat} {l : LinkD} : ∀ {a : Nat}, l ∈ upN db N a ↔ ∃ x y : Nat, x < a ∧ x < y ∧ y < N ∧ l ∈ lkD db x y
  | 0 => by simp [upN]
  | a + 1 => by
    rw [upN, List.mem_append, mem_upN, mem_rowN]
    constructor
    · rintro (⟨x, y, h1, h2, h3, h4⟩ | ⟨y, h1, h2, h3⟩)
      · exact ⟨x, y, by omega, h2, h3, h4⟩
      · exact ⟨a, y, by omega, h1, h2, h3⟩
    · rintro ⟨x, y, h1, h2, h3, h4⟩
      by_cases hx : x = a
      · subst hx
        exact .inr ⟨y, h2, h3, h4⟩
      · exact .inl ⟨x, y, by omega, h2, h3, h4⟩
theorem row_asc (db : List LsaD) (a : Nat) : ∀ b, (rowN db a b).Pairwise (fun p q => lexB p q = true)
  | 0 => by simp [rowN]
  | b + 1 => by
    rw [rowN, List.pairwise_append]
    refine ⟨row_asc db a b, ?_, fun p hp q hq => ?_⟩
    · split
      · unfold lkD; split <;> simp
      · simp
    · split at hq
      · obtain ⟨y, h1, h2, h3⟩ := mem_rowN.1 hp
        obtain ⟨_, _, rfl⟩ := mem_lkD.1 h3
        obtain ⟨_, _, rfl⟩ := mem_lkD.1 hq
        exact lex_iff.2 (.inr ⟨rfl, by simp only; omega⟩)
      · simp at hq
theorem up_asc (db : List LsaD) (N : Nat) : ∀ a, (upN db N a).Pairwise (fun p q => lexB p q = true)
  | 0 => by simp [upN]
  | a + 1 => by
    rw [upN, List.pairwise_append]
    refine ⟨up_asc db N a, row_asc db a N, fun p hp q hq => ?_⟩
    obtain ⟨x, y, h1, h2, h3, h4⟩ := mem_upN.1 hp
    obtain ⟨y', h1', h2', h3'⟩ := mem_rowN.1 hq
    obtain ⟨_, _, rfl⟩ := mem_lkD.1 h4
    obtain ⟨_, _, rfl⟩ := mem_lkD.1 h3'
    exact lex_iff.2 (.inl (by simp only; omega))
theorem mem_dgL {db : List LsaD} {n : Int} (h0 : 0 ≤ n) {l : LinkD} : l ∈ dgL db n ↔ 0 ≤ l.1 ∧ l.1 < l.2.1 ∧ l.2.1 < n ∧ 0 < annD db l.1 l.2.1 ∧ 0 < annD db l.2.1 l.1 ∧ l.2.2 = max (annD db l.1 l.2.1) (annD db l.2.1 l.1) := by
  unfold dgL
  rw [mem_upN]
  constructor
  · rintro ⟨x, y, h1, h2, h3, h4⟩
    obtain ⟨a1, a2, rfl⟩ := mem_lkD.1 h4
    exact ⟨by simp only; omega, by simp only; omega, by simp only; omega, a1, a2, rfl⟩
  · rintro ⟨h1, h2, h3, h4, h5, h6⟩
    obtain ⟨x, hx⟩ : ∃ x : Nat, l.1 = x := ⟨l.1.toNat, by omega⟩
    obtain ⟨y, hy⟩ : ∃ y : Nat, l.2.1 = y := ⟨l.2.1.toNat, by omega⟩
    refine ⟨x, y, by omega, by omega, by omega, mem_lkD.2 ?_⟩
    rw [hx, hy] at h4 h5 h6
    exact ⟨h4, h5, by rw [← h6, ← hx, ← hy]⟩
theorem lex_at {L : List LinkD} (hp : L.Pairwise (fun p q => lexB p q = true)) (i j : Nat) (l l' : LinkD) (hij : i < j) (h1 : L[i]? = some l) (h2 : L[j]? = some l') : lexB l l' = true := by
  rw [List.pairwise_iff_getElem] at hp
  obtain ⟨l1, e1⟩ := List.getElem?_eq_some_iff.1 h1
  obtain ⟨l2, e2⟩ := List.getElem?_eq_some_iff.1 h2
  have := hp i j l1 l2 hij
  rwa [e1, e2] at this
theorem dg_ok {db : List LsaD} {n : Int} (h : dbOk db = true) (h1 : 1 ≤ n) (h8 : n ≤ 8) : gOk n (dgL db n) = decide ((dgL db n).length ≤ 14) := by
  rcases Nat.lt_or_ge 14 (dgL db n).length with hl | hl
  · rw [decide_eq_false (by omega)]
    rw [Bool.eq_false_iff]
    intro hg
    have := (gOk_iff.1 hg).len
    omega
  · rw [decide_eq_true hl]
    refine gOk_iff.2 ⟨h1, h8, hl, fun k l hk => ?_, fun i j l l' hij hi hj => lex_at (up_asc db _ _) i j l l' hij hi hj⟩
    obtain ⟨a1, a2, a3, a4, a5, a6⟩ := (mem_dgL (by omega)).1 (List.mem_of_getElem? hk)
    have b1 := annD_bnd h l.1 l.2.1
    have b2 := annD_bnd h l.2.1 l.1
    omega
/-- The link between two nodes. -/
theorem dg_link {db : List LsaD} {n : Int} (h0 : 0 ≤ n) {a b : Int} (ha : 0 ≤ a) (hab : a < b) (hb : b < n) :
    (0 < annD db a b ∧ 0 < annD db b a → ∃ i : Nat, lkOf (dgL db n) a b = i ∧ (dgL db n)[i]? = some (a, b, max (annD db a b) (annD db b a))) ∧ (¬ (0 < annD db a b ∧ 0 < annD db b a) → lkOf (dgL db n) a b = -1) := by
  rcases lk_cases (dgL db n) a b with ⟨e1, e2, e3⟩ | ⟨i, l, e1, e2, e3, e4⟩
  · refine ⟨fun ⟨h1, h2⟩ => ?_, fun _ => e1⟩
    have := e3 (a, b, max (annD db a b) (annD db b a)) ((mem_dgL h0).2 ⟨ha, hab, hb, h1, h2, rfl⟩)
    rw [linkAt_iff.2 ⟨by simp only; omega, by simp only; omega⟩] at this
    cases this
  · have hl := linkAt_iff.1 e3
    have hm := (mem_dgL h0).1 (List.mem_of_getElem? e2)
    have h1 : l.1 = a := by omega
    have h2 : l.2.1 = b := by omega
    obtain ⟨x, y, z⟩ := l
    simp only at h1 h2 hm
    subst h1
    subst h2
    refine ⟨fun _ => ⟨i, e1, by rw [e2, hm.2.2.2.2.2]⟩, fun h => absurd ⟨hm.2.2.2.1, hm.2.2.2.2.1⟩ h⟩
def dgO (n : Int) (db : List LsaD) : (Int × List LinkD) × Bool := if (inB n 1 8 && dbOk db && decide ((dgL db n).length ≤ 14)) = true then ((n, dgL db n), true) else ((0, []), false)
theorem dgO_yes {n : Int} {db : List LsaD} (h : dbOk db = true) (h1 : 1 ≤ n) (h8 : n ≤ 8) (hl : (dgL db n).length ≤ 14) : dgO n db = ((n, dgL db n), true) := by
  unfold dgO
  rw [if_pos (by rw [inB_iff.2 ⟨h1, h8⟩, h, decide_eq_true hl]; rfl)]
theorem dgO_no {n : Int} {db : List LsaD} (h : (inB n 1 8 && dbOk db && decide ((dgL db n).length ≤ 14)) = false) : dgO n db = ((0, []), false) := by
  unfold dgO
  rw [if_neg (by simp [h])]
theorem dgO_cases (n : Int) (db : List LsaD) : dgO n db = ((0, []), false) ∨ (dgO n db = ((n, dgL db n), true) ∧ dbOk db = true ∧ 1 ≤ n ∧ n ≤ 8 ∧ (dgL db n).length ≤ 14 ∧ GOk n (dgL db n)) := by
  rcases Bool.eq_false_or_eq_true (inB n 1 8 && dbOk db && decide ((dgL db n).length ≤ 14)) with h | h
  · have h' := h
    simp only [Bool.and_eq_true, decide_eq_true_iff] at h'
    obtain ⟨⟨h1, h2⟩, h3⟩ := h'
    obtain ⟨h4, h5⟩ := inB_iff.1 h1
    exact .inr ⟨dgO_yes h2 h4 h5 h3, h2, h4, h5, h3, gOk_iff.1 (by rw [dg_ok h2 h4 h5]; exact decide_eq_true h3)⟩
  · exact .inl (dgO_no h)

/-! Without an announcement. -/
theorem erase_find {db : List LsaD} (h : ascD db) {k : Nat} {d : LsaD} (hd : db[k]? = some d) (o : Int) : findD (db.take k ++ db.drop (k + 1)) o = if o = d.1 then none else findD db o := by
  split
  · rename_i he
    refine find_none fun j d' hj e => ?_
    rw [erase_at] at hj
    split at hj
    · rename_i hjk
      have := h j k d' d hjk hj hd
      omega
    · have := h k (j + 1) d d' (by omega) hd hj
      omega
  · rename_i hne
    have hs : ascD (db.take k ++ db.drop (k + 1)) := fun i j x y hij hi hj => by
      rw [erase_at] at hi hj
      split at hi <;> split at hj
      · exact h _ _ _ _ hij hi hj
      · exact h _ _ _ _ (by omega) hi hj
      · omega
      · exact h _ _ _ _ (by omega) hi hj
    rcases hf : findD db o with _ | d'
    · have := find_none_iff.1 hf
      exact find_none_iff.2 fun x hx => this x (by
        rw [← List.eraseIdx_eq_take_drop_succ] at hx
        exact List.mem_of_mem_eraseIdx hx)
    · obtain ⟨hm, ho⟩ := (find_some_iff h).1 hf
      refine (find_some_iff hs).2 ⟨?_, ho⟩
      obtain ⟨i, hi⟩ := List.getElem?_of_mem hm
      have hik : i ≠ k := by
        rintro rfl
        rw [hd] at hi
        injection hi with hi
        subst hi
        exact hne ho.symm
      rcases Nat.lt_or_ge i k with h1 | h1
      · exact List.mem_of_getElem? (i := i) (by rw [erase_at, if_pos h1]; exact hi)
      · exact List.mem_of_getElem? (i := i - 1) (by rw [erase_at, if_neg (by omega), show i - 1 + 1 = i by omega]; exact hi)
theorem erase_ok {db : List LsaD} (h : dbOk db = true) (k : Nat) : dbOk (db.take k ++ db.drop (k + 1)) = true := by
  obtain ⟨h1, h2⟩ := dbOk_iff.1 h
  refine dbOk_iff.2 ⟨fun i d hi => ?_, fun i j x y hij hi hj => ?_⟩
  · rw [erase_at] at hi
    split at hi <;> exact h1 _ d hi
  · rw [erase_at] at hi hj
    split at hi <;> split at hj
    · exact h2 _ _ _ _ hij hi hj
    · exact h2 _ _ _ _ (by omega) hi hj
    · omega
    · exact h2 _ _ _ _ (by omega) hi hj
theorem erase_ann {db : List LsaD} (h : ascD db) {k : Nat} {d : LsaD} (hd : db[k]? = some d) (a b : Int) : annD (db.take k ++ db.drop (k + 1)) a b = if a = d.1 then 0 else annD db a b := by
  have he := erase_find h hd a
  by_cases e : a = d.1
  · rw [if_pos e] at he ⊢
    exact annD_no he
  · rw [if_neg e] at he ⊢
    unfold annD
    rw [he]
theorem up_less {db db' : List LsaD} (h : ∀ a b : Int, annD db' a b ≤ 0 ∨ annD db' a b = annD db a b) (N : Nat) : ∀ a, (upN db' N a).length ≤ (upN db N a).length := by
  have hl : ∀ a b : Int, (lkD db' a b).length ≤ (lkD db a b).length := fun a b => by
    unfold lkD
    split
    · rename_i hp
      have e1 := (h a b).resolve_left (by omega)
      have e2 := (h b a).resolve_left (by omega)
      rw [if_pos (by rw [← e1, ← e2]; exact hp)]
      simp
    · simp
  have hr : ∀ (a b : Nat), (rowN db' a b).length ≤ (rowN db a b).length := fun a b => by
    induction b with
    | zero => simp [rowN]
    | succ b ih =>
      rw [rowN, rowN, List.length_append, List.length_append]
      split
      · have := hl a b; omega
      · simp only [List.length_nil]; omega
  intro a
  induction a with
  | zero => simp [upN]
  | succ a ih =>
    rw [upN, upN, List.length_append, List.length_append]
    have := hr a N
    omega
theorem dg_less {db : List LsaD} {n : Int} (h : dbOk db = true) (h1 : 1 ≤ n) (h8 : n ≤ 8) (hl : (dgL db n).length ≤ 14) {k : Nat} {d : LsaD} (hd : db[k]? = some d) :
    dgO n (db.take k ++ db.drop (k + 1)) = ((n, dgL (db.take k ++ db.drop (k + 1)) n), true) ∧ GOk n (dgL (db.take k ++ db.drop (k + 1)) n) ∧ nbL n (dgL (db.take k ++ db.drop (k + 1)) n) d.1 = [] := by
  have ho := erase_ok h k
  have ha := (dbOk_iff.1 h).2
  have hl2 : (dgL (db.take k ++ db.drop (k + 1)) n).length ≤ 14 := by
    have := up_less (db := db) (db' := db.take k ++ db.drop (k + 1)) (fun a b => by rw [erase_ann ha hd]; split; exact .inl (Int.le_refl _); exact .inr rfl) n.toNat n.toNat
    unfold dgL at hl ⊢
    omega
  have hg : GOk n (dgL (db.take k ++ db.drop (k + 1)) n) := gOk_iff.1 (by rw [dg_ok ho h1 h8]; exact decide_eq_true hl2)
  refine ⟨dgO_yes ho h1 h8 hl2, hg, ?_⟩
  apply List.eq_nil_iff_forall_not_mem.2
  intro z hz
  have hc := (mem_nbL hg).1 hz
  rcases lk_cases (dgL (db.take k ++ db.drop (k + 1)) n) d.1 z with ⟨_, e, _⟩ | ⟨i, l, _, e2, e3, _⟩
  · omega
  · obtain ⟨a1, a2, a3, a4, a5, a6⟩ := (mem_dgL (by omega)).1 (List.mem_of_getElem? e2)
    have := linkAt_iff.1 e3
    rw [erase_ann ha hd] at a4 a5
    by_cases e : l.1 = d.1
    · rw [if_pos e] at a4; omega
    · have e' : l.2.1 = d.1 := by omega
      rw [if_pos e'] at a5; omega

/-! All nodes announce themselves. -/
def allD (ls : List LinkD) (N : Nat) (s : Int) (k : Nat) : List LsaD := (List.range k).map fun (i : Nat) => ((i : Int), s, endsN ls i N)
theorem allD_succ (ls : List LinkD) (N : Nat) (s : Int) (k : Nat) : allD ls N s (k + 1) = allD ls N s k ++ [((k : Int), s, endsN ls k N)] := by simp [allD, List.range_succ]
theorem allD_at {ls : List LinkD} {N : Nat} {s : Int} {k i : Nat} {d : LsaD} : (allD ls N s k)[i]? = some d ↔ i < k ∧ d = ((i : Int), s, endsN ls i N) := by
  unfold allD
  rw [List.getElem?_map]
  by_cases h : i < k
  · rw [List.getElem?_range h]
    simp only [Option.map_some, Option.some.injEq]
    exact ⟨fun e => ⟨h, e.symm⟩, fun e => e.2.symm⟩
  · rw [List.getElem?_eq_none (by simp; omega)]
    simp [h]
theorem allD_ok {n : Int} {ls : List LinkD} (h : GOk n ls) {s : Int} (hs : inB s 1 99 = true) {k : Nat} (hk : k ≤ n.toNat) : dbOk (allD ls n.toNat s k) = true := by
  refine dbOk_iff.2 ⟨fun i d hi => ?_, fun i j x y hij hi hj => ?_⟩
  · obtain ⟨h1, rfl⟩ := allD_at.1 hi
    exact ends_ok h (by unfold nd; omega) hs
  · obtain ⟨_, rfl⟩ := allD_at.1 hi
    obtain ⟨_, rfl⟩ := allD_at.1 hj
    simp only
    omega
theorem allD_find {ls : List LinkD} {N : Nat} {s : Int} {k : Nat} {o : Int} : findD (allD ls N s k) o = if 0 ≤ o ∧ o < k then some (o, s, endsN ls o N) else none := by
  by_cases h : 0 ≤ o ∧ o < k
  · rw [if_pos h]
    obtain ⟨i, rfl⟩ : ∃ i : Nat, o = i := ⟨o.toNat, by omega⟩
    refine find_at (i := i) (allD_at.2 ⟨by omega, rfl⟩) rfl fun j d hj hd => ?_
    obtain ⟨_, rfl⟩ := allD_at.1 hd
    simp only
    omega
  · rw [if_neg h]
    refine find_none fun j d hd e => h ?_
    obtain ⟨h1, rfl⟩ := allD_at.1 hd
    simp only at e
    omega
theorem all_put {n : Int} {ls : List LinkD} (h : GOk n ls) {s : Int} (hs : inB s 1 99 = true) {k : Nat} (hk : k < n.toNat) : putOf (allD ls n.toNat s k) ((k : Int), s, endsN ls k n.toNat) = (allD ls n.toNat s (k + 1), 0) := by
  have h1 := allD_ok h hs (k := k) (by omega)
  have h2 := ends_ok h (a := (k : Int)) (s := s) (by unfold nd; omega) hs
  rw [putOf_ok h1 h2, putD_new (by rw [allD_find, if_neg (by simp only; omega)]), allD_succ]
  unfold insD
  have e1 : (allD ls n.toNat s k).filter (fun d => decide (d.1 < (k : Int))) = allD ls n.toNat s k := by
    rw [List.filter_eq_self]
    intro d hd
    obtain ⟨i, hi⟩ := List.getElem?_of_mem hd
    obtain ⟨h1, rfl⟩ := allD_at.1 hi
    simp only [decide_eq_true_iff]
    omega
  have e2 : (allD ls n.toNat s k).filter (fun d => decide ((k : Int) < d.1)) = [] := by
    rw [List.filter_eq_nil_iff]
    intro d hd
    obtain ⟨i, hi⟩ := List.getElem?_of_mem hd
    obtain ⟨h1, rfl⟩ := allD_at.1 hi
    simp only [decide_eq_true_iff]
    omega
  simp only [e1, e2]
theorem all_ann {n : Int} {ls : List LinkD} (h : GOk n ls) {s : Int} {a b : Int} (ha : nd n.toNat a) : annD (allD ls n.toNat s n.toNat) a b = cstL ls a b := by
  rw [annD_yes (by rw [allD_find, if_pos (show 0 ≤ a ∧ a < (n.toNat : Int) from ha)])]
  simp only
  have hc := h.fits.ok.nn a b
  by_cases hp : 0 < cstL ls a b
  · exact endC_mem (ends_asc h a) ((mem_ends h).2 ⟨hp, rfl⟩)
  · rw [show cstL ls a b = 0 by omega]
    refine endC_no fun j e he hb => ?_
    obtain ⟨x, y⟩ := e
    have := (mem_ends h).1 (List.mem_of_getElem? he)
    simp only at hb
    subst hb
    exact hp this.1
theorem lex_irr (a : LinkD) : ¬ lexB a a = true := by rw [lex_iff]; omega
theorem sorted_ext : ∀ {a b : List LinkD}, a.Pairwise (fun p q => lexB p q = true) → b.Pairwise (fun p q => lexB p q = true) → (∀ l, l ∈ a ↔ l ∈ b) → a = b
  | [], [], _, _, _ => rfl
  | [], y :: b, _, _, h => by have := (h y).2 (by simp); simp at this
  | x :: a, [], _, _, h => by have := (h x).1 (by simp); simp at this
  | x :: a, y :: b, ha, hb, h => by
    have ha' := List.pairwise_cons.1 ha
    have hb' := List.pairwise_cons.1 hb
    have e : x = y := by
      have h1 := (h x).1 (by simp)
      have h2 := (h y).2 (by simp)
      rcases List.mem_cons.1 h1 with e | h1
      · exact e
      · rcases List.mem_cons.1 h2 with e | h2
        · exact e.symm
        · have p1 := hb'.1 x h1
          have p2 := ha'.1 y h2
          exact absurd (lex_trans p1 p2) (lex_irr _)
    subst e
    congr 1
    refine sorted_ext ha'.2 hb'.2 fun l => ?_
    have hl := h l
    simp only [List.mem_cons] at hl
    constructor
    · intro hm
      rcases hl.1 (.inr hm) with e | h2
      · subst e; exact absurd (ha'.1 l hm) (lex_irr _)
      · exact h2
    · intro hm
      rcases hl.2 (.inr hm) with e | h2
      · subst e; exact absurd (hb'.1 l hm) (lex_irr _)
      · exact h2
theorem all_graph {n : Int} {ls : List LinkD} (h : GOk n ls) {s : Int} (hs : inB s 1 99 = true) : dgO n (allD ls n.toNat s n.toNat) = ((n, ls), true) := by
  have h1 := h.n1
  have h8 := h.n8
  have e : dgL (allD ls n.toNat s n.toNat) n = ls := by
    refine sorted_ext (up_asc _ _ _) ?_ fun l => ?_
    · rw [List.pairwise_iff_getElem]
      intro i j hi hj hij
      exact h.lex i j _ _ hij (List.getElem?_eq_getElem hi) (List.getElem?_eq_getElem hj)
    · rw [mem_dgL (by omega)]
      constructor
      · rintro ⟨a1, a2, a3, a4, a5, a6⟩
        have n1 : nd n.toNat l.1 := h.nN.2 (by omega)
        have n2 : nd n.toNat l.2.1 := h.nN.2 (by omega)
        rw [all_ann h n1] at a4 a6
        rw [all_ann h n2, cstL_comm ls l.2.1 l.1] at a5 a6
        rcases lk_cases ls l.1 l.2.1 with ⟨_, e, _⟩ | ⟨i, l', _, e2, e3, e4⟩
        · omega
        · have hx := linkAt_iff.1 e3
          have hl' := h.link i l' e2
          have : l' = l := by
            obtain ⟨x, y, z⟩ := l
            obtain ⟨x', y', z'⟩ := l'
            simp only at hx a2 a6 e4
            have e1 : x' = x := by omega
            have e2 : y' = y := by omega
            have e3 : z' = z := by omega
            rw [e1, e2, e3]
          rw [← this]
          exact List.mem_of_getElem? e2
      · intro hm
        obtain ⟨i, hi⟩ := List.getElem?_of_mem hm
        have hl := h.link i l hi
        have n1 : nd n.toNat l.1 := h.nN.2 (by omega)
        have n2 : nd n.toNat l.2.1 := h.nN.2 (by omega)
        have hc := (h.lk hi).2
        rw [all_ann h n1, all_ann h n2, cstL_comm ls l.2.1 l.1, hc]
        exact ⟨hl.1, hl.2.1, hl.2.2.1, by omega, by omega, by omega⟩
  have hk := dgO_yes (n := n) (allD_ok h hs (k := n.toNat) (Nat.le_refl _)) h1 h8 (by rw [e]; exact h.len)
  rw [e] at hk
  exact hk
end Go.Proofs.Ytnnkdoomjkccgaa
