/- What a call that makes announcements leaves behind. -/
import Derived.Test.YtnnkdoomjkccgaaBase
import Derived.Test.YtnnkdoomjkccgaaApp
import Derived.Test.YtnnkdoomjkccgaaMakeI
namespace Go.Proofs.Ytnnkdoomjkccgaa
set_option linter.unusedSimpArgs false
set_option linter.unusedVariables false
open Go.RowKit

theorem infoE : (Try.prog.info? 43).map (fun i => (i.zero, i.size, i.bytes)) = some (some (.agg #[.int .i64 0, .int .i64 0]), 2, 16) := by kernel_rfl
theorem infoL : (Try.prog.info? 41).map (fun i => (i.zero, i.size, i.bytes)) = some (some (.agg #[.int .i64 0, .int .i64 0, .slice none 0 0]), 3, 40) := by kernel_rfl
def MadeLsa (w : World) (o s : Int) (es : List (Int × Int)) (e : Ending) (w' : World) : Prop := ∃ u, e = .returned (.agg #[.int .i64 o, .int .i64 s, u]) ∧ OwnR w' w.heap.size w'.heap.size 43 2 u es.length (cells2 es) ∧ Below w.heap.size w w'
def MadeLs (w : World) (db : List LsaD) (e : Ending) (w' : World) : Prop := ∃ v us, e = .returned v ∧ OwnLs w' w.heap.size w'.heap.size 41 43 v db us ∧ Below w.heap.size w w'
/-- Lists of a size that any machine holds. -/
def SmallDb (db : List LsaD) : Prop := db.length ≤ 1048576 ∧ ∀ (k : Nat) (d : LsaD), db[k]? = some d → d.2.2.length ≤ 1048576
theorem own_own_ne {w : World} {base base' size size' n n' : Nat} {e e' : TypeId} {v v' : Value} {xs xs' : List Value} (h : w.ownsRow base e size v n xs) (h' : w.ownsRow base' e' size' v' n' xs') (hne : e ≠ e') : ∀ g, v.ownBlock = some g → v'.ownBlock ≠ some g := by
  intro g hg
  rcases h.2 with ⟨rfl, _⟩ | ⟨k, cap, cur, rfl, _, hk, _⟩
  · simp [Value.ownBlock] at hg
  · simp only [Value.ownBlock, Option.some.injEq] at hg
    subst hg
    exact box_own_ne hk h' (fun e1 => hne e1.symm)
/-- Announcements under way: the row and the ends in blocks from lo on. -/
def RowLs (w : World) (lo : Nat) (v : Value) (db : List LsaD) (us : List Value) : Prop := w.ownsRow lo 41 3 v db.length (cellsL db us) ∧ EndsOwn w lo w.heap.size 43 db us
theorem RowLs.own {w : World} {lo : Nat} {v : Value} {db : List LsaD} {us : List Value} (h : RowLs w lo v db us) : OwnLs w lo w.heap.size 41 43 v db us := ⟨.of h.1, h.2⟩
theorem RowLs.below {w w' : World} {lo : Nat} {v : Value} {db : List LsaD} {us : List Value} (h : RowLs w lo v db us) (hb : Below w.heap.size w w') : RowLs w' lo v db us :=
  ⟨((OwnR.of h.1).below hb (Nat.le_refl _)).1, (h.2.below hb (Nat.le_refl _)).mono (Nat.le_refl _) hb.size⟩
theorem RowLs.drewN {w : World} {lo : Nat} {v : Value} {db : List LsaD} {us : List Value} (h : RowLs w lo v db us) (k : Nat) : RowLs (w.drewN k) lo v db us := ⟨h.1, h.2.drewN k⟩
/-- One announcement more, its ends in a block of its own behind, appended to the row. -/
theorem RowLs.snoc {w w1 w2 : World} {lo : Nat} {v v' : Value} {db : List LsaD} {us : List Value} {o s : Int} {es : List (Int × Int)} {u : Value} {ob : Obj} (h : RowLs w lo v db us) (hb : Below w.heap.size w w1) (hu : OwnR w1 w.heap.size w1.heap.size 43 2 u es.length (cells2 es)) (hlo : lo ≤ w.heap.size)
    (hown : w2.ownsRow lo 41 3 v' (db.length + 1) (cellsL db us ++ [.int .i64 o, .int .i64 s, u])) (hg : (w1.alloc ob).grownBy w2 v.ownBlock) : RowLs w2 lo v' (db ++ [(o, s, es)]) (us ++ [u]) := by
  have h1 := h.below hb
  have hend := (h.2.below hb (Nat.le_refl _)).snoc (o := o) (s := s) hu (Nat.le_refl _) hb.size hlo
  refine ⟨?_, ?_⟩
  · rw [List.length_append, cellsL_snoc _ _ _ _ _ _ h.2.len]; exact hown
  · refine ((hend.alloc ob).block hg fun g hgv k x hx => ?_).mono (Nat.le_refl _) (by have := hg.size; simp at this; omega)
    obtain ⟨⟨o', s', es'⟩, hd⟩ := at_lt (l := db ++ [(o, s, es)]) (n := (db ++ [(o, s, es)]).length) rfl (k := k) (by have := hend.len; have := (List.getElem?_eq_some_iff.1 hx).1; omega)
    exact own_own_ne h1.1 (hend.ends k o' s' es' x hd hx).1 (by decide) g hgv
/-- The same, where the row and the ends are told in the world of the append. -/
theorem RowLs.snoc2 {w1 w2 : World} {lo h0 : Nat} {v v' : Value} {db : List LsaD} {us : List Value} {o s : Int} {es : List (Int × Int)} {u : Value} {ob : Obj} (hrow : w1.ownsRow lo 41 3 v db.length (cellsL db us)) (hends : EndsOwn w1 lo h0 43 db us) (hu : OwnR w1 h0 w1.heap.size 43 2 u es.length (cells2 es)) (hlo : lo ≤ h0) (hh : h0 ≤ w1.heap.size)
    (hown : w2.ownsRow lo 41 3 v' (db.length + 1) (cellsL db us ++ [.int .i64 o, .int .i64 s, u])) (hg : (w1.alloc ob).grownBy w2 v.ownBlock) : RowLs w2 lo v' (db ++ [(o, s, es)]) (us ++ [u]) := by
  have hend := hends.snoc (o := o) (s := s) hu (Nat.le_refl _) hh hlo
  refine ⟨?_, ?_⟩
  · rw [List.length_append, cellsL_snoc _ _ _ _ _ _ hends.len]; exact hown
  · refine ((hend.alloc ob).block hg fun g hgv k x hx => ?_).mono (Nat.le_refl _) (by have := hg.size; simp at this; omega)
    obtain ⟨⟨o', s', es'⟩, hd⟩ := at_lt (l := db ++ [(o, s, es)]) (n := (db ++ [(o, s, es)]).length) rfl (k := k) (by have := hend.len; have := (List.getElem?_eq_some_iff.1 hx).1; omega)
    exact own_own_ne hrow (hend.ends k o' s' es' x hd hx).1 (by decide) g hgv
/-- Behind a call that turned one block below the row. -/
theorem RowLs.only {w w' : World} {lo B : Nat} {v : Value} {db : List LsaD} {us : List Value} (h : RowLs w lo v db us) (hg : w.grownBy w' (some B)) (hB : B < lo) : w'.ownsRow lo 41 3 v db.length (cellsL db us) ∧ EndsOwn w' lo w.heap.size 43 db us :=
  ⟨h.1.kept hg (by
    cases hv : v.ownBlock with
    | none => exact .inl rfl
    | some k => exact .inr (fun e => by injection e with e; have := (h.1.lt k hv).1; omega)), h.2.block hg fun g e k u hu hk => by
      injection e with e
      subst e
      obtain ⟨⟨o', s', es'⟩, hd⟩ := at_lt (l := db) (n := db.length) rfl (k := k) (by have := h.2.len; have := (List.getElem?_eq_some_iff.1 hu).1; omega)
      have := ((h.2.ends k o' s' es' u hd hu).1.lt _ hk).1
      omega⟩
theorem RowLs.keepOnly {w w' : World} {lo B : Nat} {v : Value} {db : List LsaD} {us : List Value} (h : RowLs w lo v db us) (hg : w.grownBy w' (some B)) (hB : B < lo) : RowLs w' lo v db us := ⟨(h.only hg hB).1, (h.only hg hB).2.mono (Nat.le_refl _) hg.size⟩
theorem rowLs_of {w : World} {lo : Nat} {v : Value} {db : List LsaD} {us : List Value} (h : OwnLs w lo w.heap.size 41 43 v db us) : RowLs w lo v db us := ⟨h.row.1, h.own⟩
theorem rowLs_new {w : World} {g lo : Nat} (hg : w.heap.size = g) (hlo : lo ≤ g) : RowLs (w.alloc (.cells #[] 41)) lo (.slice (some ⟨g, 0, none⟩) 0 0) [] [] := ⟨own_new hg hlo, EndsOwn.nil _ _ _ _⟩
end Go.Proofs.Ytnnkdoomjkccgaa
