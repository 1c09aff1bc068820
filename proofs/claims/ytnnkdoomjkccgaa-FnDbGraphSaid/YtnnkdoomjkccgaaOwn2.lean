/- Rows that the call itself makes, filled cell by cell; databases in memory; eqB. No program in sight. · Rows of the call's own between two block numbers; databases that the call made. No program in sight. -/
import Derived.Test.YtnnkdoomjkccgaaPre
import Derived.Deep.OwnRows
namespace Go.Proofs.Ytnnkdoomjkccgaa
set_option linter.unusedSimpArgs false
set_option linter.unusedVariables false
open Go.RowKit

def eqB {α : Type} [DecidableEq α] (a b : α) : Bool := decide (a = b)
theorem eqB_self {α : Type} [DecidableEq α] (a : α) : eqB a a = true := by simp [eqB]

/-- Block b is a row of n cells, none frozen, whose first cells are xs. -/
def Filled (w : World) (b : Nat) (t : TypeId) (n : Nat) (xs : List Value) : Prop := ∃ cur, w.heap[b]? = some (.cells cur t (0, 0)) ∧ cur.size = n ∧ xs.length ≤ n ∧ cur.toList.take xs.length = xs
theorem filled_new (w : World) (c : Array Value) (t : TypeId) (n : Nat) (hc : c.size = n) : Filled (w.alloc (.cells c t)) w.heap.size t n [] := ⟨c, heap_alloc_new w _, hc, by simp, by simp⟩
theorem Filled.lt {w : World} {b : Nat} {t : TypeId} {n : Nat} {xs : List Value} (h : Filled w b t n xs) : b < w.heap.size := let ⟨_, h, _⟩ := h; (Array.getElem?_eq_some_iff.1 h).1
theorem Filled.cell {w : World} {b : Nat} {t : TypeId} {n : Nat} {xs : List Value} (h : Filled w b t n xs) (i : Nat) (hi : i < n) : ∃ u, w.cell? ⟨b, i, none⟩ = some u := by
  obtain ⟨cur, hc, hs, _, _⟩ := h
  refine ⟨cur[i]'(by omega), ?_⟩
  simp only [World.cell?]
  rw [hc]
  simp [Array.getElem?_eq_getElem (show i < cur.size by omega)]
theorem Filled.frozen {w : World} {b : Nat} {t : TypeId} {n : Nat} {xs : List Value} (h : Filled w b t n xs) (i : Nat) : w.frozen? ⟨b, i, none⟩ = false := by
  obtain ⟨cur, hc, _⟩ := h
  simp only [World.frozen?]
  rw [hc]
  simp
theorem Filled.block {w w' : World} {b : Nat} {t : TypeId} {n : Nat} {xs : List Value} (h : Filled w b t n xs) (hb : w'.heap[b]? = w.heap[b]?) : Filled w' b t n xs := let ⟨cur, h1, h2⟩ := h; ⟨cur, hb.trans h1, h2⟩
theorem Filled.alloc {w : World} {b : Nat} {t : TypeId} {n : Nat} {xs : List Value} (h : Filled w b t n xs) (o : Obj) : Filled (w.alloc o) b t n xs := h.block (Below.heap_alloc w o b h.lt)
theorem Filled.drewN {w : World} {b : Nat} {t : TypeId} {n : Nat} {xs : List Value} (h : Filled w b t n xs) (k : Nat) : Filled (w.drewN k) b t n xs := h
theorem Filled.below {w w' : World} {b B : Nat} {t : TypeId} {n : Nat} {xs : List Value} (h : Filled w b t n xs) (hb : Below B w w') (hB : b < B) : Filled w' b t n xs := h.block (hb.block b hB)
theorem Filled.set {w : World} {b i : Nat} {t : TypeId} {n : Nat} {xs : List Value} (h : Filled w b t n xs) (hi : i = xs.length) (hn : i < n) (v : Value) : Filled (w.setCell ⟨b, i, none⟩ v) b t n (xs ++ [v]) := by
  subst hi
  obtain ⟨cur, h1, h2, h3, h4⟩ := h
  refine ⟨cur.setIfInBounds xs.length v, ?_, by simpa using h2, by simp; omega, ?_⟩
  · show (w.setCell ⟨b, xs.length, none⟩ v).heap[b]? = _
    simp only [World.setCell, Array.getElem?_modify]
    rw [h1]
    simp
  · apply List.ext_getElem?
    intro j
    simp only [List.length_append, List.length_singleton, List.getElem?_take, Array.getElem?_toList, Array.getElem?_setIfInBounds, List.getElem?_append]
    have h5 : ∀ j, j < xs.length → cur[j]? = xs[j]? := by
      intro j hj
      have := congrArg (fun l : List Value => l[j]?) h4
      simpa [List.getElem?_take, hj] using this
    by_cases h6 : j < xs.length
    · have : ¬ xs.length = j := by omega
      simp [h6, this, h5 j h6, show j < xs.length + 1 by omega]
    · by_cases h7 : j = xs.length
      · subst h7
        simp [show xs.length < cur.size by omega]
      · have h8 : ¬ j < xs.length + 1 := by omega
        have h9 : j - xs.length ≠ 0 := by omega
        simp [h6, h8]
        omega
theorem Filled.owns {w : World} {b base : Nat} {t : TypeId} {n size : Nat} {xs : List Value} (h : Filled w b t (n * size) xs) (hx : xs.length = n * size) (hb : base ≤ b) (hn : n ≤ maxLen) : w.ownsRow base t size (.slice (some ⟨b, 0, none⟩) n n) n xs := by
  obtain ⟨cur, h1, h2, h3, h4⟩ := h
  exact ⟨hx, .inr ⟨b, n, cur, rfl, hb, h1, Nat.le_refl _, hn, h2, by rw [← hx]; exact h4⟩⟩

/-- The cells of a list of pairs. -/
def cells2 (es : List (Int × Int)) : List Value := es.flatMap fun e => [.int .i64 e.1, .int .i64 e.2]
theorem cells2_len (es : List (Int × Int)) : (cells2 es).length = es.length * 2 := by
  induction es with
  | nil => rfl
  | cons e es ih => simp [cells2] at *; omega
theorem cells2_snoc (es : List (Int × Int)) (x y : Int) : cells2 (es ++ [(x, y)]) = (cells2 es ++ [.int .i64 x]) ++ [.int .i64 y] := by simp [cells2]
theorem cells2_at {es : List (Int × Int)} {k : Nat} {x y : Int} (h : es[k]? = some (x, y)) : (cells2 es)[k * 2]? = some (.int .i64 x) ∧ (cells2 es)[k * 2 + 1]? = some (.int .i64 y) := by
  induction es generalizing k with
  | nil => simp at h
  | cons e es ih =>
    cases k with
    | zero => simp at h; subst h; exact ⟨rfl, rfl⟩
    | succ k =>
      simp at h
      have := ih h
      have e2 : (k + 1) * 2 = (k * 2) + 1 + 1 := by omega
      have c : cells2 (e :: es) = .int .i64 e.1 :: .int .i64 e.2 :: cells2 es := rfl
      rw [c, e2]
      simpa using this
theorem take_succ2 {es : List (Int × Int)} {k : Nat} {x y : Int} (h : es[k]? = some (x, y)) : cells2 (es.take (k + 1)) = (cells2 (es.take k) ++ [.int .i64 x]) ++ [.int .i64 y] := by
  have hk := (List.getElem?_eq_some_iff.1 h)
  obtain ⟨hl, he⟩ := hk
  rw [List.take_succ_eq_append_getElem hl, he, cells2_snoc]
theorem pairs_of_owns {w : World} {base : Nat} {e : TypeId} {v : Value} {es : List (Int × Int)} (h : w.ownsRow base e 2 v es.length (cells2 es)) : PairsAt w v es := by
  obtain ⟨_, h⟩ := h
  rcases h with ⟨rfl, h0⟩ | ⟨g, cap, cur, rfl, _, hg, hn, hm, hs, ht⟩
  · refine ⟨none, 0, 0, 0, by rw [h0], by omega, by unfold maxLen; omega, fun h => by omega, fun k x y hk => ?_⟩
    have := (List.getElem?_eq_some_iff.1 hk).1
    omega
  · refine ⟨_, cap, g, 0, rfl, hn, hm, fun _ => rfl, fun k x y hk => ?_⟩
    have hl := (List.getElem?_eq_some_iff.1 hk).1
    obtain ⟨c0, c1⟩ := cells2_at hk
    rw [← ht, List.getElem?_take, if_pos (by omega)] at c0 c1
    constructor
    · simp only [World.cell?]; rw [hg]; simpa using c0
    · simp only [World.cell?]; rw [hg]; simpa using c1
theorem PairsAt.form {w : World} {v : Value} {es : List (Int × Int)} (h : PairsAt w v es) : ∃ a n cap, v = .slice a n cap := let ⟨a, cap, _, _, hv, _⟩ := h; ⟨a, _, cap, hv⟩
theorem LsasAt.form {w : World} {v : Value} {db : List LsaD} (h : LsasAt w v db) : ∃ a n cap, v = .slice a n cap := let ⟨a, cap, _, _, hv, _⟩ := h; ⟨a, _, cap, hv⟩
end Go.Proofs.Ytnnkdoomjkccgaa
namespace Go.Proofs.Ytnnkdoomjkccgaa
set_option linter.unusedSimpArgs false
set_option linter.unusedVariables false
open Go.RowKit

/-- A row of the call's own, in a block of [lo, hi). -/
def OwnR (w : World) (lo hi : Nat) (t : TypeId) (size : Nat) (v : Value) (n : Nat) (xs : List Value) : Prop := w.ownsRow lo t size v n xs ∧ ∀ g, v.ownBlock = some g → g < hi
theorem OwnR.kept {w w' : World} {lo hi : Nat} {t : TypeId} {size : Nat} {v : Value} {n : Nat} {xs : List Value} (h : OwnR w lo hi t size v n xs) {row : Option Nat} (hg : w.grownBy w' row) (hr : ∀ g, v.ownBlock = some g → row ≠ some g) : OwnR w' lo hi t size v n xs :=
  ⟨h.1.kept hg (by cases hv : v.ownBlock with | none => exact .inl rfl | some g => exact .inr (fun e => hr g hv e.symm)), h.2⟩
theorem OwnR.below {w w' : World} {lo hi B : Nat} {t : TypeId} {size : Nat} {v : Value} {n : Nat} {xs : List Value} (h : OwnR w lo hi t size v n xs) (hb : Below B w w') (hB : hi ≤ B) : OwnR w' lo hi t size v n xs := by
  refine ⟨⟨h.1.1, ?_⟩, h.2⟩
  rcases h.1.2 with h0 | ⟨g, cap, cur, rfl, h1, h2, h3⟩
  · exact .inl h0
  · exact .inr ⟨g, cap, cur, rfl, h1, (hb.block g (by have := h.2 g rfl; omega)).trans h2, h3⟩
/-- Outside the blocks [lo, hi) all is as it was; there may be new blocks. -/
structure Btw (lo hi : Nat) (w w' : World) : Prop where
  os : w'.os = w.os
  tape : w'.tape = w.tape
  output : w'.output = w.output
  size : w.heap.size ≤ w'.heap.size
  block : ∀ i, i < w.heap.size → i < lo ∨ hi ≤ i → w'.heap[i]? = w.heap[i]?
theorem Btw.refl (lo hi : Nat) (w : World) : Btw lo hi w w := ⟨rfl, rfl, rfl, Nat.le_refl _, fun _ _ _ => rfl⟩
theorem Btw.trans {lo hi : Nat} {a b c : World} (h : Btw lo hi a b) (k : Btw lo hi b c) : Btw lo hi a c :=
  ⟨k.os.trans h.os, k.tape.trans h.tape, k.output.trans h.output, Nat.le_trans h.size k.size, fun i hi hn => (k.block i (Nat.lt_of_lt_of_le hi h.size) hn).trans (h.block i hi hn)⟩
theorem Btw.grown {lo hi : Nat} {a b : World} {row : Option Nat} (h : a.grownBy b row) (hr : ∀ g, row = some g → lo ≤ g ∧ g < hi) : Btw lo hi a b :=
  ⟨h.os, h.tape, h.output, h.size, fun i hi hn => h.block i hi (fun e => by have := hr i e.symm; omega)⟩
theorem Btw.of_below {lo hi : Nat} {a b : World} (h : Below a.heap.size a b) : Btw lo hi a b := ⟨h.os, h.tape, h.output, h.size, fun i hi _ => h.block i hi⟩
theorem Btw.mono {lo hi lo' hi' : Nat} {a b : World} (h : Btw lo hi a b) (h1 : lo' ≤ lo) (h2 : hi ≤ hi') : Btw lo' hi' a b := ⟨h.os, h.tape, h.output, h.size, fun i hi hn => h.block i hi (by omega)⟩
theorem Btw.below {lo hi B : Nat} {a b : World} (h : Btw lo hi a b) (hB : B ≤ lo) (hs : B ≤ a.heap.size) : Below B a b := ⟨h.os, h.tape, h.output, h.size, fun i hi => h.block i (by omega) (by omega)⟩
theorem OwnR.btw {w w' : World} {lo hi l h : Nat} {t : TypeId} {size : Nat} {v : Value} {n : Nat} {xs : List Value} (o : OwnR w lo hi t size v n xs) (b : Btw l h w w') (hd : hi ≤ l ∨ h ≤ lo) : OwnR w' lo hi t size v n xs := by
  refine ⟨⟨o.1.1, ?_⟩, o.2⟩
  rcases o.1.2 with h0 | ⟨g, cap, cur, rfl, h1, h2, h3⟩
  · exact .inl h0
  · exact .inr ⟨g, cap, cur, rfl, h1, (b.block g (Array.getElem?_eq_some_iff.1 h2).1 (by have := o.2 g rfl; omega)).trans h2, h3⟩
theorem OwnR.mono {w : World} {lo hi lo' hi' : Nat} {t : TypeId} {size : Nat} {v : Value} {n : Nat} {xs : List Value} (h : OwnR w lo hi t size v n xs) (h1 : lo' ≤ lo) (h2 : hi ≤ hi') : OwnR w lo' hi' t size v n xs := by
  refine ⟨⟨h.1.1, ?_⟩, fun g hg => by have := h.2 g hg; omega⟩
  rcases h.1.2 with h0 | ⟨g, cap, cur, rfl, h3, h4⟩
  · exact .inl h0
  · exact .inr ⟨g, cap, cur, rfl, by omega, h4⟩
theorem OwnR.of {w : World} {lo : Nat} {t : TypeId} {size : Nat} {v : Value} {n : Nat} {xs : List Value} (h : w.ownsRow lo t size v n xs) : OwnR w lo w.heap.size t size v n xs := ⟨h, fun g hg => (h.lt g hg).2⟩
theorem OwnR.set {w : World} {lo hi : Nat} {t : TypeId} {size : Nat} {v : Value} {n : Nat} {xs : List Value} (h : OwnR w lo hi t size v n xs) {p : Addr} (hp : p.block < lo) (u : Value) : OwnR (w.setCell p u) lo hi t size v n xs := ⟨own_setCell h.1 hp u, h.2⟩
theorem OwnR.alloc {w : World} {lo hi : Nat} {t : TypeId} {size : Nat} {v : Value} {n : Nat} {xs : List Value} (h : OwnR w lo hi t size v n xs) (o : Obj) : OwnR (w.alloc o) lo hi t size v n xs := ⟨h.1.alloc o, h.2⟩
theorem OwnR.drewN {w : World} {lo hi : Nat} {t : TypeId} {size : Nat} {v : Value} {n : Nat} {xs : List Value} (h : OwnR w lo hi t size v n xs) (k : Nat) : OwnR (w.drewN k) lo hi t size v n xs := h
theorem OwnR.lt {w : World} {lo hi : Nat} {t : TypeId} {size : Nat} {v : Value} {n : Nat} {xs : List Value} (h : OwnR w lo hi t size v n xs) : ∀ g, v.ownBlock = some g → lo ≤ g ∧ g < hi ∧ g < w.heap.size := fun g hg => ⟨(h.1.lt g hg).1, h.2 g hg, (h.1.lt g hg).2⟩
/-- A row of the call's own, opened for writing. -/
theorem OwnR.open_ {w : World} {lo hi : Nat} {t : TypeId} {size : Nat} {v : Value} {n : Nat} {xs : List Value} (h : OwnR w lo hi t size v n xs) :
    (v = .slice none 0 0 ∧ n = 0) ∨ ∃ g cap, v = .slice (some ⟨g, 0, none⟩) n cap ∧ lo ≤ g ∧ g < hi ∧ n ≤ cap ∧ cap ≤ maxLen ∧ Filled w g t (cap * size) [] := by
  rcases h.1.2 with h0 | ⟨g, cap, cur, rfl, h1, h2, h3, h4, h5, _⟩
  · exact .inl h0
  · exact .inr ⟨g, cap, rfl, h1, h.2 g rfl, h3, h4, cur, h2, h5, by simp, by simp⟩
theorem Filled.shut {w : World} {g lo hi n cap size : Nat} {t : TypeId} {xs : List Value} (h : Filled w g t (cap * size) xs) (hx : xs.length = n * size) (h1 : lo ≤ g) (h2 : g < hi) (hn : n ≤ cap) (hm : cap ≤ maxLen) : OwnR w lo hi t size (.slice (some ⟨g, 0, none⟩) n cap) n xs := by
  obtain ⟨cur, c1, c2, c3, c4⟩ := h
  exact ⟨⟨hx, .inr ⟨g, cap, cur, rfl, h1, c1, hn, hm, c2, by rw [← hx]; exact c4⟩⟩, fun k hk => by simp [Value.ownBlock] at hk; omega⟩
theorem grown_setCell {a w : World} {g : Nat} (h : a.grownBy w (some g)) (i : Nat) (u : Value) : a.grownBy (w.setCell ⟨g, i, none⟩ u) (some g) := only_setCell h (.inl rfl) u

/-- The cells of a list of announcements whose ends lie in the slices us. -/
def cellsL : List LsaD → List Value → List Value
  | (o, s, _) :: db, u :: us => .int .i64 o :: .int .i64 s :: u :: cellsL db us
  | _, _ => []
theorem cellsL_len : ∀ (db : List LsaD) (us : List Value), us.length = db.length → (cellsL db us).length = db.length * 3
  | [], us, h => by cases us <;> simp_all [cellsL]
  | (o, s, es) :: db, [], h => by simp at h
  | (o, s, es) :: db, u :: us, h => by
    have := cellsL_len db us (by simpa using h)
    simp [cellsL, this]; omega
theorem cellsL_at : ∀ {db : List LsaD} {us : List Value} {k : Nat} {o s : Int} {es : List (Int × Int)} {u : Value}, db[k]? = some (o, s, es) → us[k]? = some u →
    (cellsL db us)[k * 3]? = some (.int .i64 o) ∧ (cellsL db us)[k * 3 + 1]? = some (.int .i64 s) ∧ (cellsL db us)[k * 3 + 2]? = some u
  | [], _, _, _, _, _, _, h, _ => by simp at h
  | _ :: _, [], _, _, _, _, _, _, h => by simp at h
  | (o', s', es') :: db, u' :: us, 0, o, s, es, u, h, hu => by
    simp at h hu
    obtain ⟨rfl, rfl, rfl⟩ := h
    subst hu
    exact ⟨rfl, rfl, rfl⟩
  | (o', s', es') :: db, u' :: us, k + 1, o, s, es, u, h, hu => by
    have := cellsL_at (db := db) (us := us) (k := k) (o := o) (s := s) (es := es) (u := u) (by simpa using h) (by simpa using hu)
    have e0 : (k + 1) * 3 = (k * 3) + 1 + 1 + 1 := by omega
    rw [e0]
    simpa [cellsL] using this
theorem cellsL_snoc : ∀ (db : List LsaD) (us : List Value) (o s : Int) (es : List (Int × Int)) (u : Value), us.length = db.length →
    cellsL (db ++ [(o, s, es)]) (us ++ [u]) = cellsL db us ++ [.int .i64 o, .int .i64 s, u]
  | [], us, _, _, _, _, h => by cases us <;> simp_all [cellsL]
  | _ :: _, [], _, _, _, _, h => by simp at h
  | (o', s', es') :: db, u' :: us, o, s, es, u, h => by simpa [cellsL] using cellsL_snoc db us o s es u (by simpa using h)
theorem take_snoc_of {α : Type} {l : List α} {k : Nat} {x : α} (h : l[k]? = some x) : l.take (k + 1) = l.take k ++ [x] := by
  obtain ⟨hl, he⟩ := List.getElem?_eq_some_iff.1 h
  rw [List.take_succ_eq_append_getElem hl, he]

/-- The ends of announcements: in slices us, each in a block of [lo, hi), no two in one. -/
structure EndsOwn (w : World) (lo hi : Nat) (tE : TypeId) (db : List LsaD) (us : List Value) : Prop where
  len : us.length = db.length
  ends : ∀ (k : Nat) (o s : Int) (es : List (Int × Int)) (u : Value), db[k]? = some (o, s, es) → us[k]? = some u → OwnR w lo hi tE 2 u es.length (cells2 es)
  apart : ∀ (i j : Nat) (u u' : Value), i < j → us[i]? = some u → us[j]? = some u' → ∀ g, u.ownBlock = some g → u'.ownBlock ≠ some g
/-- Announcements that the call made: the row and each announcement's ends lie in blocks of [lo, hi), no two in one. -/
structure OwnLs (w : World) (lo hi : Nat) (tL tE : TypeId) (v : Value) (db : List LsaD) (us : List Value) : Prop where
  row : OwnR w lo hi tL 3 v db.length (cellsL db us)
  own : EndsOwn w lo hi tE db us
theorem EndsOwn.nil (w : World) (lo hi : Nat) (tE : TypeId) : EndsOwn w lo hi tE [] [] := ⟨rfl, fun k o s es u h => by simp at h, fun i j u u' _ h => by simp at h⟩
theorem EndsOwn.mono {w : World} {lo hi lo' hi' : Nat} {tE : TypeId} {db : List LsaD} {us : List Value} (h : EndsOwn w lo hi tE db us) (h1 : lo' ≤ lo) (h2 : hi ≤ hi') : EndsOwn w lo' hi' tE db us :=
  ⟨h.len, fun k o s es u hk hu => (h.ends k o s es u hk hu).mono h1 h2, h.apart⟩
theorem EndsOwn.block {w w' : World} {lo hi : Nat} {tE : TypeId} {db : List LsaD} {us : List Value} (h : EndsOwn w lo hi tE db us) {row : Option Nat} (hg : w.grownBy w' row) (hr : ∀ g, row = some g → ∀ (k : Nat) (u : Value), us[k]? = some u → u.ownBlock ≠ some g) : EndsOwn w' lo hi tE db us :=
  ⟨h.len, fun k o s es u hk hu => (h.ends k o s es u hk hu).kept hg (fun g hg' e => hr g e k u hu hg'), h.apart⟩
theorem EndsOwn.below {w w' : World} {lo hi B : Nat} {tE : TypeId} {db : List LsaD} {us : List Value} (h : EndsOwn w lo hi tE db us) (hb : Below B w w') (hB : hi ≤ B) : EndsOwn w' lo hi tE db us :=
  ⟨h.len, fun k o s es u hk hu => (h.ends k o s es u hk hu).below hb hB, h.apart⟩
theorem EndsOwn.btw {w w' : World} {lo hi l m : Nat} {tE : TypeId} {db : List LsaD} {us : List Value} (h : EndsOwn w lo hi tE db us) (b : Btw l m w w') (hd : hi ≤ l ∨ m ≤ lo) : EndsOwn w' lo hi tE db us :=
  ⟨h.len, fun k o s es u hk hu => (h.ends k o s es u hk hu).btw b hd, h.apart⟩
theorem EndsOwn.set {w : World} {lo hi : Nat} {tE : TypeId} {db : List LsaD} {us : List Value} (h : EndsOwn w lo hi tE db us) {p : Addr} (hp : p.block < lo) (u : Value) : EndsOwn (w.setCell p u) lo hi tE db us :=
  ⟨h.len, fun k o s es x hk hu => (h.ends k o s es x hk hu).set hp u, h.apart⟩
theorem EndsOwn.alloc {w : World} {lo hi : Nat} {tE : TypeId} {db : List LsaD} {us : List Value} (h : EndsOwn w lo hi tE db us) (o : Obj) : EndsOwn (w.alloc o) lo hi tE db us :=
  ⟨h.len, fun k o' s es x hk hu => (h.ends k o' s es x hk hu).alloc o, h.apart⟩
theorem EndsOwn.drewN {w : World} {lo hi : Nat} {tE : TypeId} {db : List LsaD} {us : List Value} (h : EndsOwn w lo hi tE db us) (k : Nat) : EndsOwn (w.drewN k) lo hi tE db us := ⟨h.len, h.ends, h.apart⟩
/-- One more, in a block behind the others. -/
theorem EndsOwn.snoc {w : World} {lo hi hi' : Nat} {tE : TypeId} {db : List LsaD} {us : List Value} (h : EndsOwn w lo hi tE db us) {o s : Int} {es : List (Int × Int)} {u : Value} {l : Nat} (hu : OwnR w l hi' tE 2 u es.length (cells2 es)) (hl : hi ≤ l) (hh : hi ≤ hi') (hlo : lo ≤ l) :
    EndsOwn w lo hi' tE (db ++ [(o, s, es)]) (us ++ [u]) := by
  refine ⟨by simp [h.len], fun k o' s' es' u' hk hu' => ?_, fun i j x x' hij hx hx' g hg => ?_⟩
  · rcases Nat.lt_or_ge k db.length with h1 | h1
    · rw [List.getElem?_append_left h1] at hk
      rw [List.getElem?_append_left (by rw [h.len]; exact h1)] at hu'
      exact (h.ends k o' s' es' u' hk hu').mono (Nat.le_refl _) hh
    · rw [List.getElem?_append_right h1] at hk
      rw [List.getElem?_append_right (by rw [h.len]; exact h1)] at hu'
      have e : k - db.length = 0 := by
        have := (List.getElem?_eq_some_iff.1 hk).1
        simp at this; omega
      rw [e] at hk
      rw [h.len, e] at hu'
      simp at hk hu'
      obtain ⟨rfl, rfl, rfl⟩ := hk
      subst hu'
      exact hu.mono hlo (Nat.le_refl _)
  · rcases Nat.lt_or_ge j us.length with h1 | h1
    · rw [List.getElem?_append_left (by omega)] at hx
      rw [List.getElem?_append_left h1] at hx'
      exact h.apart i j x x' hij hx hx' g hg
    · rw [List.getElem?_append_right h1] at hx'
      have e : j - us.length = 0 := by
        have := (List.getElem?_eq_some_iff.1 hx').1
        simp at this; omega
      rw [e] at hx'
      simp at hx'
      subst hx'
      rw [List.getElem?_append_left (by omega)] at hx
      obtain ⟨⟨o', s', es'⟩, hd⟩ := at_lt (l := db) (n := db.length) rfl (k := i) (by have := h.len; omega)
      have h2 := (h.ends i o' s' es' x hd hx).2 g hg
      intro h3
      have := (hu.lt g h3).1
      omega
theorem own_pairs {w : World} {lo hi : Nat} {t : TypeId} {v : Value} {es : List (Int × Int)} (h : OwnR w lo hi t 2 v es.length (cells2 es)) : PairsAt w v es := pairs_of_owns h.1
theorem own_ints {w : World} {lo hi : Nat} {t : TypeId} {v : Value} {l : List Int} (h : OwnR w lo hi t 1 v l.length (l.map (Value.int .i64))) : IntsAt w v l := ints_of_owns h.1
theorem OwnLs.at_ {w : World} {lo hi : Nat} {tL tE : TypeId} {v : Value} {db : List LsaD} {us : List Value} (h : OwnLs w lo hi tL tE v db us) : LsasAt w v db := by
  obtain ⟨_, h1⟩ := h.row.1
  rcases h1 with ⟨rfl, h0⟩ | ⟨g, cap, cur, rfl, _, hg, hn, hm, hs, ht⟩
  · refine ⟨none, 0, 0, 0, by rw [h0], by omega, by unfold maxLen; omega, fun h => by omega, fun k o s es hk => ?_⟩
    have := (List.getElem?_eq_some_iff.1 hk).1
    omega
  · refine ⟨_, cap, g, 0, rfl, hn, hm, fun _ => rfl, fun k o s es hk => ?_⟩
    have hl := (List.getElem?_eq_some_iff.1 hk).1
    obtain ⟨u, hu⟩ := at_lt (l := us) (n := us.length) rfl (k := k) (by have := h.own.len; omega)
    obtain ⟨c0, c1, c2⟩ := cellsL_at hk hu
    rw [← ht, List.getElem?_take, if_pos (by omega)] at c0 c1 c2
    refine ⟨u, ?_, ?_, ?_, own_pairs (h.own.ends k o s es u hk hu)⟩
    · simp only [World.cell?]; rw [hg]; simpa using c0
    · simp only [World.cell?]; rw [hg]; simpa using c1
    · simp only [World.cell?]; rw [hg]; simpa using c2
theorem OwnLs.below {w w' : World} {lo hi B : Nat} {tL tE : TypeId} {v : Value} {db : List LsaD} {us : List Value} (h : OwnLs w lo hi tL tE v db us) (hb : Below B w w') (hB : hi ≤ B) : OwnLs w' lo hi tL tE v db us := ⟨h.row.below hb hB, h.own.below hb hB⟩
theorem OwnLs.btw {w w' : World} {lo hi l m : Nat} {tL tE : TypeId} {v : Value} {db : List LsaD} {us : List Value} (h : OwnLs w lo hi tL tE v db us) (b : Btw l m w w') (hd : hi ≤ l ∨ m ≤ lo) : OwnLs w' lo hi tL tE v db us := ⟨h.row.btw b hd, h.own.btw b hd⟩
theorem OwnLs.mono {w : World} {lo hi lo' hi' : Nat} {tL tE : TypeId} {v : Value} {db : List LsaD} {us : List Value} (h : OwnLs w lo hi tL tE v db us) (h1 : lo' ≤ lo) (h2 : hi ≤ hi') : OwnLs w lo' hi' tL tE v db us := ⟨h.row.mono h1 h2, h.own.mono h1 h2⟩
theorem OwnLs.drewN {w : World} {lo hi : Nat} {tL tE : TypeId} {v : Value} {db : List LsaD} {us : List Value} (h : OwnLs w lo hi tL tE v db us) (k : Nat) : OwnLs (w.drewN k) lo hi tL tE v db us := ⟨h.row, h.own.drewN k⟩
theorem box_own_ne {w : World} {b : Nat} {c : Array Value} {t e : TypeId} {base size n : Nat} {v : Value} {xs : List Value} (hb : Box w b c t) (h : w.ownsRow base e size v n xs) (hne : e ≠ t) : v.ownBlock ≠ some b := by
  rcases h.2 with ⟨rfl, _⟩ | ⟨g, cap, cur, rfl, _, hg, _⟩
  · simp [Value.ownBlock]
  · intro he
    simp only [Value.ownBlock, Option.some.injEq] at he
    subst he
    rw [show w.heap[g]? = _ from hb] at hg
    injection hg with hg
    injection hg with _ h2
    exact hne h2.symm
theorem own_slice {w : World} {base : Nat} {e : TypeId} {size : Nat} {v : Value} {n : Nat} {xs : List Value} (h : w.ownsRow base e size v n xs) : ∃ a c, v = .slice a n c := by
  rcases h.2 with ⟨rfl, rfl⟩ | ⟨g, cap, cur, rfl, _⟩
  · exact ⟨_, _, rfl⟩
  · exact ⟨_, _, rfl⟩

end Go.Proofs.Ytnnkdoomjkccgaa
