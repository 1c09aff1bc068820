/- Small general lemmas about worlds, slices that are read, and families of worlds; plain functions. No program in sight. -/
import Derived.WalkKit
import Derived.Lib.Hide
import Derived.BigGuardPart
import Derived.BigQuiet
import Derived.Deep.QuietTactic
import Derived.Deep.RegionWith
import Derived.Deep.LoopGhost
import Derived.OpenShut
import Derived.Laws.BitsAllLaws
import Derived.Laws.BitsLemmas
namespace Go.Proofs.Ytnnkdoomjkccgaa
set_option linter.unusedSimpArgs false
set_option linter.unusedVariables false
open Go.RowKit

theorem below_drewN {B : Nat} {a w : World} (h : Below B a w) (n : Nat) : Below B a (w.drewN n) := ⟨h.os, h.tape, h.output, h.size, h.block⟩
theorem cell_alloc {w : World} {p : Addr} {v : Value} (h : w.cell? p = some v) (o : Obj) : (w.alloc o).cell? p = some v :=
  (World.cell?_of_block (w := w) (Below.heap_alloc w o p.block (World.block_lt_of_cell? w _ h))).trans h
theorem cell_below {B : Nat} {w w' : World} (hb : Below B w w') {p : Addr} {v : Value} (h : w.cell? p = some v) (hp : p.block < B) : w'.cell? p = some v := (hb.cell hp).trans h
theorem cell_lt {w : World} {b o : Nat} {v : Value} (h : w.cell? ⟨b, o, none⟩ = some v) : b < w.heap.size := World.block_lt_of_cell? w _ h
theorem below_alloc {B : Nat} {a w : World} (h : Below B a w) (hB : B ≤ a.heap.size) (o : Obj) : Below B a (w.alloc o) := h.alloc (Nat.le_trans hB h.size) o
theorem below_call {B : Nat} {a w w' : World} (h : Below B a w) (hB : B ≤ a.heap.size) (h2 : Below w.heap.size w w') : Below B a w' := h.trans (h2.mono (Nat.le_trans hB h.size))
theorem bcell {W w1 : World} (hb : Below W.heap.size W w1) : (∀ b o, b < W.heap.size → w1.cell? ⟨b, o, none⟩ = W.cell? ⟨b, o, none⟩) ∧ (∀ b o, b < W.heap.size → w1.frozen? ⟨b, o, none⟩ = W.frozen? ⟨b, o, none⟩) ∧ ∀ b, b < W.heap.size → b < w1.heap.size :=
  ⟨fun b o h => hb.cell (p := ⟨b, o, none⟩) h, fun b o h => hb.frozen (p := ⟨b, o, none⟩) h, fun _ h => Nat.lt_of_lt_of_le h hb.size⟩
theorem ret_bool {a b : Bool} (h : a = b) : Ending.returned (.bool a) = .returned (.bool b) := by rw [h]
theorem ret_int {a b : Int} (h : a = b) : Ending.returned (.int .i64 a) = .returned (.int .i64 b) := by rw [h]
theorem below_all {B : Nat} {w w' : World} (h : Below w.heap.size w w') (hB : B ≤ w.heap.size) : Below B w w' := h.mono hB

/-- The worlds that are as W was below B: as a family, so that the walk of a region that draws its order may use facts of all of them. -/
theorem famOf (B : Nat) (W : World) : ∃ (I : Type) (φ : I → World), (∃ i, W.drew = φ i) ∧ (∀ i, Below B W (φ i)) ∧ (∀ i w', Below B (φ i) w' → ∃ j, w' = φ j) :=
  ⟨{w' : World // Below B W w'}, Subtype.val, ⟨⟨_, (Below.refl B W).drew⟩, rfl⟩, fun i => i.2, fun i w' h => ⟨⟨w', i.2.trans h⟩, rfl⟩⟩
theorem wp_region_fam {P : Program} {id : Nat} {Q : Exit → Act → World → Prop} {a : Act} {w : World} {l : List Oper} {I : Type} (φ : I → World) (h0 : ∃ i, w.drew = φ i) (hm : P.follows .mixedOrders = true) (hB : Region.lexB .any l.toArray = true)
    (h : wpQuiet P l.toArray (fun w' => ∃ i, w' = φ i) (fun a' => ∀ w', (∃ i, w' = φ i) → Q .normal a' w') l a) : (Code.region id l.toArray true).wp P Q a w :=
  wp_region_quiet (C := fun w' => ∃ i, w' = φ i) hm hB h0 (by simpa using h)
/-- A contract that leaves the world as it was, or makes blocks only, met in a family. -/
theorem quiet_fam_same {P : Program} {f : FuncId} {args : Array Value} {I : Type} {φ : I → World} {i : I} {v : Value} (h : Calls P f args (φ i) fun e w' => e = .returned v ∧ φ i = w') : Calls P f args (φ i) fun e w'' => e = .returned v ∧ ∃ j, w'' = φ j :=
  h.mono fun _ _ ⟨he, hw⟩ => ⟨he, i, hw.symm⟩
theorem quiet_fam {P : Program} {f : FuncId} {args : Array Value} {I : Type} {φ : I → World} {i : I} {v : Value} {B : Nat} {W : World} (hB : ∀ i, Below B W (φ i)) (hBW : B ≤ W.heap.size) (hmk : ∀ i w', Below B (φ i) w' → ∃ j, w' = φ j)
    (h : Calls P f args (φ i) fun e w' => e = .returned v ∧ Below (φ i).heap.size (φ i) w') : Calls P f args (φ i) fun e w'' => e = .returned v ∧ ∃ j, w'' = φ j :=
  h.mono fun _ _ ⟨he, hw⟩ => ⟨he, hmk i _ (hw.mono (by have := (hB i).size; omega))⟩
/-- .. in 'w after some draws'. -/
theorem quiet_drewN_same {P : Program} {f : FuncId} {args : Array Value} {w : World} {n : Nat} {v : Value}
    (h : Calls P f args (w.drewN n) fun e w' => e = .returned v ∧ w.drewN n = w') : Calls P f args (w.drewN n) fun e w'' => e = .returned v ∧ ∃ m, w'' = w.drewN m :=
  h.mono fun _ _ ⟨he, hm⟩ => ⟨he, n, hm.symm⟩

theorem quiet_add_left {P : Program} {f : FuncId} {args : Array Value} {w : World} {a n : Nat} {v : Value}
    (h : Calls P f args (w.drewN (a + n)) fun e w' => e = .returned v ∧ w.drewN (a + n) = w') : Calls P f args (w.drewN (a + n)) fun e w'' => e = .returned v ∧ ∃ m, w'' = w.drewN (a + m) :=
  h.mono fun _ _ ⟨he, hm⟩ => ⟨he, n, hm.symm⟩
/-- A slice of ints that is read: its elements are xs. -/
def IntsAt (w : World) (v : Value) (xs : List Int) : Prop :=
  ∃ a cap b off, v = .slice a xs.length cap ∧ xs.length ≤ cap ∧ cap ≤ maxLen ∧ (0 < xs.length → a = some ⟨b, off, none⟩) ∧
    ∀ k x, xs[k]? = some x → w.cell? ⟨b, off + k, none⟩ = some (.int .i64 x)
/-- A slice of structs of two ints. -/
def PairsAt (w : World) (v : Value) (es : List (Int × Int)) : Prop :=
  ∃ a cap b off, v = .slice a es.length cap ∧ es.length ≤ cap ∧ cap ≤ maxLen ∧ (0 < es.length → a = some ⟨b, off, none⟩) ∧
    ∀ k x y, es[k]? = some (x, y) → w.cell? ⟨b, off + k * 2, none⟩ = some (.int .i64 x) ∧ w.cell? ⟨b, off + k * 2 + 1, none⟩ = some (.int .i64 y)
/-- A slice of structs of three ints. -/
def TriplesAt (w : World) (v : Value) (es : List (Int × Int × Int)) : Prop :=
  ∃ a cap b off, v = .slice a es.length cap ∧ es.length ≤ cap ∧ cap ≤ maxLen ∧ (0 < es.length → a = some ⟨b, off, none⟩) ∧
    ∀ k x y z, es[k]? = some (x, y, z) → w.cell? ⟨b, off + k * 3, none⟩ = some (.int .i64 x) ∧ w.cell? ⟨b, off + k * 3 + 1, none⟩ = some (.int .i64 y) ∧ w.cell? ⟨b, off + k * 3 + 2, none⟩ = some (.int .i64 z)
/-- An announcement: origin, sequence number, ends. -/
abbrev LsaD := Int × Int × List (Int × Int)
/-- A slice of announcements. -/
def LsasAt (w : World) (v : Value) (db : List LsaD) : Prop :=
  ∃ a cap b off, v = .slice a db.length cap ∧ db.length ≤ cap ∧ cap ≤ maxLen ∧ (0 < db.length → a = some ⟨b, off, none⟩) ∧
    ∀ k o s es, db[k]? = some (o, s, es) → ∃ u, w.cell? ⟨b, off + k * 3, none⟩ = some (.int .i64 o) ∧ w.cell? ⟨b, off + k * 3 + 1, none⟩ = some (.int .i64 s) ∧ w.cell? ⟨b, off + k * 3 + 2, none⟩ = some u ∧ PairsAt w u es

theorem IntsAt.below {w w' : World} {v : Value} {xs : List Int} (h : IntsAt w v xs) {B : Nat} (hB : Below B w w') (hb : w.heap.size ≤ B) : IntsAt w' v xs := by
  obtain ⟨a, cap, b, off, hv, h1, h2, h3, h4⟩ := h
  exact ⟨a, cap, b, off, hv, h1, h2, h3, fun k x hk => cell_below hB (h4 k x hk) (by have := cell_lt (h4 k x hk); simp; omega)⟩
theorem PairsAt.below {w w' : World} {v : Value} {xs : List (Int × Int)} (h : PairsAt w v xs) {B : Nat} (hB : Below B w w') (hb : w.heap.size ≤ B) : PairsAt w' v xs := by
  obtain ⟨a, cap, b, off, hv, h1, h2, h3, h4⟩ := h
  exact ⟨a, cap, b, off, hv, h1, h2, h3, fun k x y hk => ⟨cell_below hB (h4 k x y hk).1 (by have := cell_lt (h4 k x y hk).1; simp; omega), cell_below hB (h4 k x y hk).2 (by have := cell_lt (h4 k x y hk).1; simp; omega)⟩⟩
theorem TriplesAt.below {w w' : World} {v : Value} {xs : List (Int × Int × Int)} (h : TriplesAt w v xs) {B : Nat} (hB : Below B w w') (hb : w.heap.size ≤ B) : TriplesAt w' v xs := by
  obtain ⟨a, cap, b, off, hv, h1, h2, h3, h4⟩ := h
  refine ⟨a, cap, b, off, hv, h1, h2, h3, fun k x y z hk => ?_⟩
  have hl := cell_lt (h4 k x y z hk).1
  exact ⟨cell_below hB (h4 k x y z hk).1 (by simp; omega), cell_below hB (h4 k x y z hk).2.1 (by simp; omega), cell_below hB (h4 k x y z hk).2.2 (by simp; omega)⟩
theorem LsasAt.below {w w' : World} {v : Value} {db : List LsaD} (h : LsasAt w v db) {B : Nat} (hB : Below B w w') (hb : w.heap.size ≤ B) : LsasAt w' v db := by
  obtain ⟨a, cap, b, off, hv, h1, h2, h3, h4⟩ := h
  refine ⟨a, cap, b, off, hv, h1, h2, h3, fun k o s es hk => ?_⟩
  obtain ⟨u, c0, c1, c2, hu⟩ := h4 k o s es hk
  have hl := cell_lt c0
  exact ⟨u, cell_below hB c0 (by simp; omega), cell_below hB c1 (by simp; omega), cell_below hB c2 (by simp; omega), hu.below hB hb⟩

/-- Element k of a list that has more than k. -/
theorem at_lt {α : Type} {n : Nat} {l : List α} (hn : n = l.length) {k : Nat} (hk : k < n) : ∃ x, l[k]? = some x := ⟨_, List.getElem?_eq_getElem (by omega)⟩

def inB (n lo hi : Int) : Bool := decide (lo ≤ n) && decide (n ≤ hi)
theorem inB_iff {n lo hi : Int} : inB n lo hi = true ↔ lo ≤ n ∧ n ≤ hi := by simp [inB]

/-- A slice of bytes that came in. -/
def CodeAt (w : World) (v : Value) : Prop :=
  ∃ a n cap b off, v = .slice a n cap ∧ n ≤ cap ∧ cap ≤ maxLen ∧ (0 < n → a = some ⟨b, off, none⟩) ∧ ∀ k, k < n → ∃ x : Int, w.cell? ⟨b, off + k, none⟩ = some (.int .u8 x) ∧ 0 ≤ x ∧ x ≤ 255
theorem codeAt_of_row {w : World} {x : Addr} {len cap : Nat} {zs : List Int} (hl : len ≤ cap) (hm : cap ≤ maxLen) (hz : zs.length = cap)
    (hcell : ∀ i, i < zs.length → w.cell? (x.add i) = some (.int .u8 (zs.getD i 0))) (hwz : ∀ n ∈ zs, (Lit.int .u8 n).wf = true) : CodeAt w (.slice (some x) len cap) := by
  obtain ⟨b, off, spot⟩ := x
  refine ⟨_, len, cap, b, off, rfl, hl, hm, fun h0 => ?_, fun k hk => ?_⟩
  · have hspot : spot = none := by simpa [Addr.add] using World.cell?_spot (hcell 0 (by omega))
    rw [hspot]
  · have hspot : spot = none := by simpa [Addr.add] using World.cell?_spot (hcell 0 (by omega))
    subst hspot
    have hc := hcell k (by omega)
    have e : (⟨b, off, none⟩ : Addr).add k = ⟨b, off + k, none⟩ := by unfold Addr.add; split <;> simp_all
    rw [e] at hc
    have hw := hwz (zs.getD k 0) (by rw [List.getD_eq_getElem?_getD, List.getElem?_eq_getElem (by omega)]; exact List.getElem_mem _)
    exact ⟨_, hc, (bounds_u8 hw).1, (bounds_u8 hw).2⟩
theorem codeAt_nil (w : World) : CodeAt w (.slice none 0 0) := ⟨none, 0, 0, 0, 0, rfl, Nat.le_refl _, by unfold maxLen; omega, fun h => by omega, fun k h => by omega⟩

/-- A reader of a code: block B holds the code and the place p. -/
def RdAt (w : World) (B : Nat) (p : Int) : Prop :=
  ∃ a n cap b off, w.cell? ⟨B, 0, none⟩ = some (.slice a n cap) ∧ w.cell? ⟨B, 1, none⟩ = some (.int .i64 p) ∧ w.frozen? ⟨B, 1, none⟩ = false ∧ n ≤ 2000 ∧ (0 < n → a = some ⟨b, off, none⟩ ∧ b < B) ∧
    ∀ k, k < n → ∃ x : Int, w.cell? ⟨b, off + k, none⟩ = some (.int .u8 x) ∧ 0 ≤ x ∧ x ≤ 255
def RdLe (w : World) (B : Nat) (m : Int) : Prop := ∃ p, 0 ≤ p ∧ p ≤ m ∧ RdAt w B p
def PickPost (w : World) (B : Nat) (m n : Int) (e : Ending) (w' : World) : Prop :=
  ∃ v p q, e = .returned (.int .i64 v) ∧ 0 ≤ v ∧ (v < n ∨ v = 0) ∧ 0 ≤ p ∧ p ≤ m + 1 ∧ w' = (w.setCell ⟨B, 1, none⟩ (.int .i64 p)).drewN q
theorem ofInt_i64 (a : Nat) (ha : a < 9223372036854775808) : (BitVec.ofInt 64 (a : Int)).toNat = a := by
  rw [BitVec.ofInt_natCast, BitVec.toNat_ofNat]; exact Nat.mod_eq_of_lt (by omega)
theorem xor_nonneg {x y : Int} (hx : 0 ≤ x) (hx1 : x < 9223372036854775808) (hy : 0 ≤ y) (hy1 : y < 9223372036854775808) : 0 ≤ bits .xor .i64 x y := by
  obtain ⟨a, rfl⟩ := Int.eq_ofNat_of_zero_le hx
  obtain ⟨b, rfl⟩ := Int.eq_ofNat_of_zero_le hy
  have ha : a < 9223372036854775808 := by omega
  have hb : b < 9223372036854775808 := by omega
  have h : a ^^^ b < 2 ^ 63 := Nat.xor_lt_two_pow (by omega) (by omega)
  show 0 ≤ IntKind.i64.wrap ((BitVec.ofInt 64 (a : Int) ^^^ BitVec.ofInt 64 (b : Int)).toNat : Int)
  rw [BitVec.toNat_xor, ofInt_i64 a ha, ofInt_i64 b hb, IntKind.wrap_i64]
  omega
theorem rd_new {w : World} {a : Option Addr} {n cap b off : Nat} {t : TypeId} (hn : n ≤ 2000) (ha : 0 < n → a = some ⟨b, off, none⟩) (hc : ∀ k, k < n → ∃ x : Int, w.cell? ⟨b, off + k, none⟩ = some (.int .u8 x) ∧ 0 ≤ x ∧ x ≤ 255) :
    RdLe (w.alloc (.cells #[.slice a n cap, .int .i64 0] t)) w.heap.size 0 := by
  have c0 : (w.alloc (.cells #[.slice a n cap, .int .i64 0] t)).cell? ⟨w.heap.size, 0, none⟩ = some (.slice a n cap) := by simp [go_sem]
  have c1 : (w.alloc (.cells #[.slice a n cap, .int .i64 0] t)).cell? ⟨w.heap.size, 1, none⟩ = some (.int .i64 0) := by simp [go_sem]
  have f1 : (w.alloc (.cells #[.slice a n cap, .int .i64 0] t)).frozen? ⟨w.heap.size, 1, none⟩ = false := by simp [go_sem]
  by_cases h0 : n = 0
  · subst h0
    exact ⟨0, Int.le_refl _, Int.le_refl _, a, 0, cap, 0, 0, c0, c1, f1, hn, fun h => by omega, fun k hk => by omega⟩
  · obtain ⟨x, hx, _⟩ := hc 0 (by omega)
    have hb := cell_lt hx
    exact ⟨0, Int.le_refl _, Int.le_refl _, a, n, cap, b, off, c0, c1, f1, hn, fun h => ⟨ha h, by omega⟩, fun k hk => let ⟨x, hx, hy⟩ := hc k hk; ⟨x, cell_alloc hx _, hy⟩⟩

/-- Block g alone may have changed, and there may be new blocks. -/
theorem only_refl (w : World) (g : Option Nat) : w.grownBy w g := ⟨rfl, rfl, rfl, Nat.le_refl _, fun _ _ _ => rfl⟩
theorem only_drewN {a w : World} {row : Option Nat} (h : a.grownBy w row) (n : Nat) : a.grownBy (w.drewN n) row := ⟨h.os, h.tape, h.output, h.size, h.block⟩
theorem only_drew {a w : World} {row : Option Nat} (h : a.grownBy w row) : a.grownBy w.drew row := ⟨h.os, h.tape, h.output, h.size, h.block⟩
theorem only_alloc {a w : World} {row : Option Nat} (h : a.grownBy w row) (o : Obj) : a.grownBy (w.alloc o) row :=
  ⟨h.os, h.tape, h.output, Nat.le_trans h.size (by simp), fun i hi hne => (Below.heap_alloc w o i (Nat.lt_of_lt_of_le hi h.size)).trans (h.block i hi hne)⟩
theorem only_setCell {a w : World} {g : Nat} (h : a.grownBy w (some g)) {p : Addr} (hp : p.block = g ∨ a.heap.size ≤ p.block) (u : Value) : a.grownBy (w.setCell p u) (some g) :=
  ⟨h.os, h.tape, h.output, by simpa [World.setCell] using h.size, fun i hi hne => (Below.heap_setCell w p u i (by
    rintro rfl
    rcases hp with hp | hp
    · exact hne (by rw [hp])
    · omega)).trans (h.block i hi hne)⟩
theorem only_below {a w w' : World} {row : Option Nat} (h : a.grownBy w row) (hb : Below w.heap.size w w') : a.grownBy w' row :=
  ⟨hb.os.trans h.os, hb.tape.trans h.tape, hb.output.trans h.output, Nat.le_trans h.size hb.size, fun i hi hne => (hb.block i (Nat.lt_of_lt_of_le hi h.size)).trans (h.block i hi hne)⟩
theorem only_trans {a b c : World} {row : Option Nat} (h : a.grownBy b row) (k : b.grownBy c row) : a.grownBy c row :=
  ⟨k.os.trans h.os, k.tape.trans h.tape, k.output.trans h.output, Nat.le_trans h.size k.size, fun i hi hne => (k.block i (Nat.lt_of_lt_of_le hi h.size) hne).trans (h.block i hi hne)⟩
theorem rdAt_setCell {w : World} {B : Nat} {p : Int} (h : RdAt w B p) {a : Addr} (ha : B < a.block) (u : Value) : RdAt (w.setCell a u) B p := by
  obtain ⟨a', n, cap, b, off, c0, c1, f1, h1, h2, h4⟩ := h
  have hk : ∀ i o v, i ≠ a.block → w.cell? ⟨i, o, none⟩ = some v → (w.setCell a u).cell? ⟨i, o, none⟩ = some v := fun i o v hi hc => (World.cell?_of_block (w := w) (Below.heap_setCell w a u i hi)).trans hc
  refine ⟨a', n, cap, b, off, hk _ _ _ (by omega) c0, hk _ _ _ (by omega) c1, by simpa using f1, h1, h2, fun k hkn => ?_⟩
  obtain ⟨x, hx, hb⟩ := h4 k hkn
  have := (h2 (by omega)).2
  exact ⟨x, hk _ _ _ (by omega) hx, hb⟩
theorem rdAt_next {w : World} {B : Nat} {p q : Int} (h : RdAt w B p) (k : Nat) : RdAt ((w.setCell ⟨B, 1, none⟩ (.int .i64 q)).drewN k) B q := by
  obtain ⟨a, n, cap, b, off, c0, c1, f1, h1, h2, h4⟩ := h
  refine ⟨a, n, cap, b, off, ?_, ?_, ?_, h1, h2, fun k hk => ?_⟩
  · show (w.setCell ⟨B, 1, none⟩ (.int .i64 q)).cell? _ = _
    rw [World.cell?_setCell_other]
    · exact c0
    · intro e; injection e; omega
  · show (w.setCell ⟨B, 1, none⟩ (.int .i64 q)).cell? _ = _
    exact World.cell?_setCell_same _ _ _ c1
  · show (w.setCell ⟨B, 1, none⟩ (.int .i64 q)).frozen? _ = _
    simpa using f1
  · obtain ⟨x, hx, hb⟩ := h4 k hk
    have h3 := (h2 (by omega)).2
    refine ⟨x, ?_, hb⟩
    show (w.setCell ⟨B, 1, none⟩ (.int .i64 q)).cell? _ = _
    rw [World.cell?_setCell_other]
    · exact hx
    · intro e; injection e; omega
theorem pick_post {w : World} {B : Nat} {p m n v : Int} (h0 : 0 ≤ p) (hp : p ≤ m) (q : Nat) (hv : 0 ≤ v) (hn : v < n ∨ v = 0) : PickPost w B m n (.returned (.int .i64 v)) ((w.setCell ⟨B, 1, none⟩ (.int .i64 (p + 1))).drewN q) :=
  ⟨v, p + 1, q, rfl, hv, hn, by omega, by omega, rfl⟩
theorem rdLe_set {w : World} {B : Nat} {m m' p : Int} (h : RdLe w B m) (h0 : 0 ≤ p) (hp : p ≤ m') : RdLe (w.setCell ⟨B, 1, none⟩ (.int .i64 p)) B m' := let ⟨_, _, _, h2⟩ := h; ⟨p, h0, hp, rdAt_next h2 0⟩
theorem rdLe_setCell {w : World} {B : Nat} {m : Int} (h : RdLe w B m) {a : Addr} (ha : B < a.block) (u : Value) : RdLe (w.setCell a u) B m := let ⟨p, h0, h1, h2⟩ := h; ⟨p, h0, h1, rdAt_setCell h2 ha u⟩
/-- Behind a call that may write a row of our own. -/
theorem below_only {B g : Nat} {a w w' : World} (h : Below B a w) (hB : B ≤ a.heap.size) (hg : B ≤ g) (k : w.grownBy w' (some g)) : Below B a w' :=
  h.trans ⟨k.os, k.tape, k.output, k.size, fun i hi => k.block i (by have := h.size; omega) (by simp; omega)⟩
theorem ocell {W w1 : World} {g : Nat} (hb : W.grownBy w1 (some g)) : (∀ b o, b < W.heap.size → b ≠ g → w1.cell? ⟨b, o, none⟩ = W.cell? ⟨b, o, none⟩) ∧ (∀ b o, b < W.heap.size → b ≠ g → w1.frozen? ⟨b, o, none⟩ = W.frozen? ⟨b, o, none⟩) ∧ ∀ b, b < W.heap.size → b < w1.heap.size :=
  ⟨fun b o h hn => World.cell?_of_block (w := W) (hb.block b h (by simpa using hn)), fun b o h hn => World.frozen?_of_block (w := W) (hb.block b h (by simpa using hn)), fun _ h => Nat.lt_of_lt_of_le h hb.size⟩
theorem rdLe_mono {w : World} {B : Nat} {m m' : Int} (h : RdLe w B m) (hm : m ≤ m') : RdLe w B m' := let ⟨p, h0, h1, h2⟩ := h; ⟨p, h0, by omega, h2⟩
theorem rdLe_lt {w : World} {B : Nat} {m : Int} (h : RdLe w B m) : B < w.heap.size := by
  obtain ⟨p, _, _, a, n, cap, b, off, c0, _⟩ := h
  exact cell_lt c0
theorem rdLe_block {w w' : World} {B : Nat} {m : Int} (h : RdLe w B m) (hk : ∀ i, i < w.heap.size → w'.heap[i]? = w.heap[i]?) : RdLe w' B m := by
  obtain ⟨p, h0, h1, a, n, cap, b, off, c0, c1, f1, h2, h3, h5⟩ := h
  have hB := cell_lt c0
  refine ⟨p, h0, h1, a, n, cap, b, off, (World.cell?_of_block (w := w) (hk B hB)).trans c0, (World.cell?_of_block (w := w) (hk B hB)).trans c1, (World.frozen?_of_block (w := w) (hk B hB)).trans f1, h2, h3, fun k hkn => ?_⟩
  obtain ⟨x, hx, hy⟩ := h5 k hkn
  exact ⟨x, (World.cell?_of_block (w := w) (hk b (cell_lt hx))).trans hx, hy⟩
theorem rdLe_alloc {w : World} {B : Nat} {m : Int} (h : RdLe w B m) (o : Obj) : RdLe (w.alloc o) B m := rdLe_block h fun i hi => Below.heap_alloc w o i hi
theorem rdLe_drewN {w : World} {B : Nat} {m : Int} (h : RdLe w B m) (n : Nat) : RdLe (w.drewN n) B m := h
theorem rdLe_drew {w : World} {B : Nat} {m : Int} (h : RdLe w B m) : RdLe w.drew B m := h
theorem rdLe_below {w w' : World} {B : Nat} {m : Int} (h : RdLe w B m) (hb : Below w.heap.size w w') : RdLe w' B m := rdLe_block h hb.block

/-- Draws go outward: given to the walk as hypotheses. -/
theorem drewN_out : (∀ (W : World) q a v, (W.drewN q).setCell a v = (W.setCell a v).drewN q) ∧ (∀ (W : World) q o, (W.drewN q).alloc o = (W.alloc o).drewN q) ∧ (∀ (W : World) q r, (W.drewN q).drewN r = W.drewN (q + r)) ∧ (∀ (W : World) q, (W.drewN q).heap.size = W.heap.size) :=
  ⟨fun _ _ _ _ => rfl, fun _ _ _ => rfl, fun W q r => World.drewN_drewN W q r, fun _ _ => rfl⟩
theorem codeAt_below {w w' : World} {v : Value} (h : CodeAt w v) (hb : Below w.heap.size w w') : CodeAt w' v := by
  obtain ⟨a, n, cap, b, off, hv, h1, h2, h3, h4⟩ := h
  exact ⟨a, n, cap, b, off, hv, h1, h2, h3, fun k hk => let ⟨x, hx, hy⟩ := h4 k hk; ⟨x, cell_below hb hx (cell_lt hx), hy⟩⟩
theorem codeAt_alloc {w : World} {v : Value} (h : CodeAt w v) (o : Obj) : CodeAt (w.alloc o) v := codeAt_below h ((Below.refl _ _).alloc (Nat.le_refl _) _)

/-- A block known whole, none of its cells frozen. -/
def Box (w : World) (b : Nat) (c : Array Value) (t : TypeId) : Prop := w.heap[b]? = some (.cells c t (0, 0))
theorem box_new (w : World) (c : Array Value) (t : TypeId) : Box (w.alloc (.cells c t)) w.heap.size c t := heap_alloc_new w _
theorem Box.lt {w : World} {b : Nat} {c : Array Value} {t : TypeId} (h : Box w b c t) : b < w.heap.size := (Array.getElem?_eq_some_iff.1 h).1
theorem Box.alloc {w : World} {b : Nat} {c : Array Value} {t : TypeId} (h : Box w b c t) (o : Obj) : Box (w.alloc o) b c t := (Below.heap_alloc w o b h.lt).trans h
theorem Box.drewN {w : World} {b : Nat} {c : Array Value} {t : TypeId} (h : Box w b c t) (n : Nat) : Box (w.drewN n) b c t := h
theorem Box.below {w w' : World} {b B : Nat} {c : Array Value} {t : TypeId} (h : Box w b c t) (hb : Below B w w') (hB : b < B) : Box w' b c t := (hb.block b hB).trans h
theorem Box.only {w w' : World} {b g : Nat} {c : Array Value} {t : TypeId} (h : Box w b c t) (hb : w.grownBy w' (some g)) (hg : b ≠ g) : Box w' b c t := (hb.block b h.lt (by simpa using hg)).trans h
theorem Box.setOther {w : World} {b : Nat} {c : Array Value} {t : TypeId} (h : Box w b c t) {a : Addr} (ha : b ≠ a.block) (u : Value) : Box (w.setCell a u) b c t := (Below.heap_setCell w a u b ha).trans h
theorem Box.set {w : World} {b o : Nat} {c : Array Value} {t : TypeId} (h : Box w b c t) (u : Value) : Box (w.setCell ⟨b, o, none⟩ u) b (c.setIfInBounds o u) t := by
  show (w.setCell ⟨b, o, none⟩ u).heap[b]? = _
  simp only [World.setCell, Array.getElem?_modify]
  rw [show w.heap[b]? = _ from h]
  simp
theorem Box.cell {w : World} {b : Nat} {c : Array Value} {t : TypeId} (h : Box w b c t) (i : Nat) (v : Value) (hv : c[i]? = some v) : w.cell? ⟨b, i, none⟩ = some v := by
  simp only [World.cell?]
  rw [show w.heap[b]? = _ from h]
  simpa using hv
theorem Box.frozen {w : World} {b : Nat} {c : Array Value} {t : TypeId} (h : Box w b c t) (i : Nat) : w.frozen? ⟨b, i, none⟩ = false := by
  simp only [World.frozen?]
  rw [show w.heap[b]? = _ from h]
  simp
theorem box2 {w : World} {b : Nat} {x y : Value} {t : TypeId} (h : Box w b #[x, y] t) : w.cell? ⟨b, 0, none⟩ = some x ∧ w.cell? ⟨b, 1, none⟩ = some y ∧ w.frozen? ⟨b, 0, none⟩ = false ∧ w.frozen? ⟨b, 1, none⟩ = false ∧ b < w.heap.size :=
  ⟨h.cell 0 x rfl, h.cell 1 y rfl, h.frozen 0, h.frozen 1, h.lt⟩
theorem box3 {w : World} {b : Nat} {x y z : Value} {t : TypeId} (h : Box w b #[x, y, z] t) : w.cell? ⟨b, 0, none⟩ = some x ∧ w.cell? ⟨b, 1, none⟩ = some y ∧ w.cell? ⟨b, 2, none⟩ = some z ∧ w.frozen? ⟨b, 0, none⟩ = false ∧ w.frozen? ⟨b, 1, none⟩ = false ∧ w.frozen? ⟨b, 2, none⟩ = false ∧ b < w.heap.size :=
  ⟨h.cell 0 x rfl, h.cell 1 y rfl, h.cell 2 z rfl, h.frozen 0, h.frozen 1, h.frozen 2, h.lt⟩

theorem box1 {w : World} {b : Nat} {x : Value} {t : TypeId} (h : Box w b #[x] t) : w.cell? ⟨b, 0, none⟩ = some x ∧ w.frozen? ⟨b, 0, none⟩ = false ∧ b < w.heap.size := ⟨h.cell 0 x rfl, h.frozen 0, h.lt⟩
theorem box_at (w : World) (c : Array Value) (t : TypeId) {b : Nat} (hb : w.heap.size = b) : Box (w.alloc (.cells c t)) b c t := hb ▸ box_new w c t
theorem Box.call {W w' : World} {b : Nat} {c : Array Value} {t : TypeId} (hb : Below W.heap.size W w') (h : Box W b c t) : Box w' b c t := h.below hb h.lt
theorem Box.drew {w : World} {b : Nat} {c : Array Value} {t : TypeId} (h : Box w b c t) : Box w.drew b c t := h

/-! Rows of the call's own. -/
theorem rdLe_grown {w w' : World} {B : Nat} {m : Int} {row : Option Nat} (h : RdLe w B m) (hg : w.grownBy w' row) (hr : ∀ k, row = some k → B < k) : RdLe w' B m := by
  obtain ⟨p, h0, h1, a, n, cap, b, off, c0, c1, f1, h2, h3, h5⟩ := h
  have hB := cell_lt c0
  have hk : ∀ i, i ≤ B → i < w.heap.size → w'.heap[i]? = w.heap[i]? := fun i hi hl => hg.block i hl (fun e => by have := hr i e.symm; omega)
  refine ⟨p, h0, h1, a, n, cap, b, off, (World.cell?_of_block (w := w) (hk B (Nat.le_refl _) hB)).trans c0, (World.cell?_of_block (w := w) (hk B (Nat.le_refl _) hB)).trans c1, (World.frozen?_of_block (w := w) (hk B (Nat.le_refl _) hB)).trans f1, h2, h3, fun k hkn => ?_⟩
  obtain ⟨x, hx, hy⟩ := h5 k hkn
  have := (h3 (by omega)).2
  exact ⟨x, (World.cell?_of_block (w := w) (hk b (by omega) (cell_lt hx))).trans hx, hy⟩
theorem Box.grown {w w' : World} {b : Nat} {c : Array Value} {t : TypeId} {row : Option Nat} (h : Box w b c t) (hg : w.grownBy w' row) (hr : ∀ k, row = some k → b ≠ k) : Box w' b c t :=
  (hg.block b h.lt (fun e => hr b e.symm rfl)).trans h
theorem own_ge {w : World} {base : Nat} {e : TypeId} {size : Nat} {v : Value} {n : Nat} {xs : List Value} (h : w.ownsRow base e size v n xs) : ∀ k, v.ownBlock = some k → base ≤ k := fun k hk => (h.lt k hk).1
theorem own_setCell {w : World} {base : Nat} {e : TypeId} {size : Nat} {v : Value} {n : Nat} {xs : List Value} (h : w.ownsRow base e size v n xs) {a : Addr} (ha : a.block < base) (u : Value) : (w.setCell a u).ownsRow base e size v n xs := ownsRow_setCell_below h ha u
theorem own_setOther {w : World} {base : Nat} {e : TypeId} {size : Nat} {v : Value} {n : Nat} {xs : List Value} (h : w.ownsRow base e size v n xs) {a : Addr} (ha : v.ownBlock ≠ some a.block) (u : Value) : (w.setCell a u).ownsRow base e size v n xs :=
  h.kept (row := some a.block) (only_setCell (only_refl _ _) (.inl rfl) u) (.inr ha)
theorem box3_set2 {w : World} {b : Nat} {x y z : Value} {t : TypeId} (h : Box w b #[x, y, z] t) (u : Value) : Box (w.setCell ⟨b, 2, none⟩ u) b #[x, y, u] t := h.set u
theorem box3_set1 {w : World} {b : Nat} {x y z : Value} {t : TypeId} (h : Box w b #[x, y, z] t) (u : Value) : Box (w.setCell ⟨b, 1, none⟩ u) b #[x, u, z] t := h.set u
theorem box3_set0 {w : World} {b : Nat} {x y z : Value} {t : TypeId} (h : Box w b #[x, y, z] t) (u : Value) : Box (w.setCell ⟨b, 0, none⟩ u) b #[u, y, z] t := h.set u
theorem box2_set0 {w : World} {b : Nat} {x y : Value} {t : TypeId} (h : Box w b #[x, y] t) (u : Value) : Box (w.setCell ⟨b, 0, none⟩ u) b #[u, y] t := h.set u
theorem box2_set1 {w : World} {b : Nat} {x y : Value} {t : TypeId} (h : Box w b #[x, y] t) (u : Value) : Box (w.setCell ⟨b, 1, none⟩ u) b #[x, u] t := h.set u
theorem own_drewN {w : World} {base : Nat} {e : TypeId} {size : Nat} {v : Value} {n : Nat} {xs : List Value} (h : w.ownsRow base e size v n xs) (k : Nat) : (w.drewN k).ownsRow base e size v n xs := h
theorem own_drew {w : World} {base : Nat} {e : TypeId} {size : Nat} {v : Value} {n : Nat} {xs : List Value} (h : w.ownsRow base e size v n xs) : w.drew.ownsRow base e size v n xs := h
theorem own_new {w : World} {base g : Nat} {e : TypeId} {size : Nat} (hg : w.heap.size = g) (hb : base ≤ g) : (w.alloc (.cells #[] e)).ownsRow base e size (.slice (some ⟨g, 0, none⟩) 0 0) 0 [] := by
  subst hg
  exact ⟨by simp, .inr ⟨w.heap.size, 0, #[], rfl, hb, heap_alloc_new w _, Nat.le_refl _, by unfold maxLen; omega, by simp, by simp⟩⟩
theorem own_empty (w : World) (base : Nat) (e : TypeId) (size : Nat) (hb : base ≤ w.heap.size) : (w.alloc (.cells #[] e)).ownsRow base e size (.slice (some ⟨w.heap.size, 0, none⟩) 0 0) 0 [] :=
  ⟨by simp, .inr ⟨w.heap.size, 0, #[], rfl, hb, heap_alloc_new w _, Nat.le_refl _, by unfold maxLen; omega, by simp, by simp⟩⟩
theorem ints_of_owns {w : World} {base : Nat} {e : TypeId} {v : Value} {l : List Int} (h : w.ownsRow base e 1 v l.length (l.map (Value.int .i64))) : IntsAt w v l := by
  obtain ⟨_, h⟩ := h
  rcases h with ⟨rfl, h0⟩ | ⟨g, cap, cur, rfl, _, hg, hn, hm, hs, ht⟩
  · refine ⟨none, 0, 0, 0, by rw [h0], by omega, by unfold maxLen; omega, fun h => by omega, fun k x hk => ?_⟩
    have := (List.getElem?_eq_some_iff.1 hk).1
    omega
  · refine ⟨_, cap, g, 0, rfl, hn, hm, fun _ => rfl, fun k x hk => ?_⟩
    have hl := (List.getElem?_eq_some_iff.1 hk).1
    have : (l.map (Value.int .i64))[k]? = some (.int .i64 x) := by rw [List.getElem?_map, hk]; rfl
    rw [← ht, List.getElem?_take] at this
    rw [if_pos (by omega)] at this
    simp only [World.cell?]
    rw [hg]
    simpa using this
theorem IntsAt.set {w : World} {v : Value} {xs : List Int} (h : IntsAt w v xs) {a : Addr} (ha : ∀ k, v.ownBlock = some k → k ≠ a.block) (u : Value) : IntsAt (w.setCell a u) v xs := by
  obtain ⟨ao, cap, b, off, rfl, h1, h2, h3, h4⟩ := h
  refine ⟨ao, cap, b, off, rfl, h1, h2, h3, fun k x hk => ?_⟩
  have hl := (List.getElem?_eq_some_iff.1 hk).1
  have e := h3 (by omega)
  subst e
  exact (World.cell?_of_block (w := w) (Below.heap_setCell w a u b (ha b rfl))).trans (h4 k x hk)
theorem IntsAt.drewN {w : World} {v : Value} {xs : List Int} (h : IntsAt w v xs) (k : Nat) : IntsAt (w.drewN k) v xs := h
theorem IntsAt.alloc {w : World} {v : Value} {xs : List Int} (h : IntsAt w v xs) (o : Obj) : IntsAt (w.alloc o) v xs := h.below ((Below.refl _ _).alloc (Nat.le_refl _) _) (Nat.le_refl _)
theorem one_cell {w : World} {ad : Addr} {u : Value} (h : w.cell? ad = some u) : ∀ j x, [u][j]? = some x → w.cell? (ad.add j) = some x := by
  intro j x hj
  match j, hj with
  | 0, hj => simp at hj; subst hj; simpa [Addr.add] using h
theorem one_ok (k : IntKind) (n : Int) : ∀ u ∈ [Value.int k n], u.oneCell' = true := by intro u hu; simp at hu; subst hu; rfl
theorem map_snoc {α β : Type} (f : α → β) (l : List α) (x : α) : l.map f ++ [f x] = (l ++ [x]).map f := by simp
end Go.Proofs.Ytnnkdoomjkccgaa
