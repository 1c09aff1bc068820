/- What the laws on labels carry: the world below, the graph's box, the graph, the labels. -/
import Derived.Test.YtoebefpmfgkpoaaDrawSE
import Derived.Test.YtoebefpmfgkpoaaStkEnd
import Derived.Test.YtoebefpmfgkpoaaLawG
namespace Go.Proofs.Ytoebefpmfgkpoaa
set_option linter.unusedSimpArgs false
set_option linter.unusedVariables false
open Go.RowKit

theorem PairsAt.form2 {w : World} {v : Value} {s : List (Int × Int)} (h : PairsAt w v s) : ∃ a c, v = .slice a s.length c ∧ s.length ≤ c ∧ c ≤ maxLen := let ⟨a, c, _, _, e, h1, h2, _⟩ := h; ⟨a, c, e, h1, h2⟩
theorem TriplesAt.form2 {w : World} {v : Value} {s : List (Int × Int × Int)} (h : TriplesAt w v s) : ∃ a c, v = .slice a s.length c ∧ s.length ≤ c ∧ c ≤ maxLen := let ⟨a, c, _, _, e, h1, h2, _⟩ := h; ⟨a, c, e, h1, h2⟩
theorem IntsAt.form2 {w : World} {v : Value} {s : List Int} (h : IntsAt w v s) : ∃ a c, v = .slice a s.length c ∧ s.length ≤ c ∧ c ≤ maxLen := let ⟨a, c, _, _, e, h1, h2, _⟩ := h; ⟨a, c, e, h1, h2⟩
/-- Where a slice that is not empty lies. -/
theorem PairsAt.some {w : World} {a : Option Addr} {m c : Nat} {s : List (Int × Int)} (h : PairsAt w (.slice a m c) s) (h0 : 0 < s.length) : ∃ b o, a = .some ⟨b, o, none⟩ ∧ b < w.heap.size := by
  obtain ⟨a', c', b, o, e, h1, h2, h3, h4⟩ := h
  injection e with e _ _
  obtain ⟨⟨p1, p2⟩, hp⟩ := at_lt (l := s) (n := s.length) rfl h0
  exact ⟨b, o, e.trans (h3 h0), cell_lt (h4 0 p1 p2 hp).1⟩
theorem TriplesAt.some {w : World} {a : Option Addr} {m c : Nat} {s : List (Int × Int × Int)} (h : TriplesAt w (.slice a m c) s) (h0 : 0 < s.length) : ∃ b o, a = .some ⟨b, o, none⟩ ∧ b < w.heap.size := by
  obtain ⟨a', c', b, o, e, h1, h2, h3, h4⟩ := h
  injection e with e _ _
  obtain ⟨⟨p1, p2, p3⟩, hp⟩ := at_lt (l := s) (n := s.length) rfl h0
  exact ⟨b, o, e.trans (h3 h0), cell_lt (h4 0 p1 p2 p3 hp).1⟩
theorem IntsAt.some {w : World} {a : Option Addr} {m c : Nat} {s : List Int} (h : IntsAt w (.slice a m c) s) (h0 : 0 < s.length) : ∃ b o, a = .some ⟨b, o, none⟩ ∧ b < w.heap.size := by
  obtain ⟨a', c', b, o, e, h1, h2, h3, h4⟩ := h
  injection e with e _ _
  obtain ⟨p, hp⟩ := at_lt (l := s) (n := s.length) rfl h0
  exact ⟨b, o, e.trans (h3 h0), cell_lt (h4 0 p hp)⟩
theorem PairsAt.get {w : World} {b o m c k : Nat} {s : List (Int × Int)} {x y : Int} (h : PairsAt w (.slice (.some ⟨b, o, none⟩) m c) s) (hk : s[k]? = .some (x, y)) : w.cell? ⟨b, o + k * 2, none⟩ = .some (.int .i64 x) ∧ w.cell? ⟨b, o + k * 2 + 1, none⟩ = .some (.int .i64 y) := by
  obtain ⟨a', c', b', o', e, h1, h2, h3, h4⟩ := h
  injection e with e _ _
  have h0 : 0 < s.length := by have := (List.getElem?_eq_some_iff.1 hk).1; omega
  have e2 := e.trans (h3 h0)
  injection e2 with e2
  injection e2 with e3 e4 _
  subst e3
  subst e4
  exact h4 k x y hk
theorem TriplesAt.get {w : World} {b o m c k : Nat} {s : List (Int × Int × Int)} {x y z : Int} (h : TriplesAt w (.slice (.some ⟨b, o, none⟩) m c) s) (hk : s[k]? = .some (x, y, z)) : w.cell? ⟨b, o + k * 3, none⟩ = .some (.int .i64 x) ∧ w.cell? ⟨b, o + k * 3 + 1, none⟩ = .some (.int .i64 y) ∧ w.cell? ⟨b, o + k * 3 + 2, none⟩ = .some (.int .i64 z) := by
  obtain ⟨a', c', b', o', e, h1, h2, h3, h4⟩ := h
  injection e with e _ _
  have h0 : 0 < s.length := by have := (List.getElem?_eq_some_iff.1 hk).1; omega
  have e2 := e.trans (h3 h0)
  injection e2 with e2
  injection e2 with e3 e4 _
  subst e3
  subst e4
  exact h4 k x y z hk
theorem IntsAt.get {w : World} {b o m c k : Nat} {s : List Int} {x : Int} (h : IntsAt w (.slice (.some ⟨b, o, none⟩) m c) s) (hk : s[k]? = .some x) : w.cell? ⟨b, o + k, none⟩ = .some (.int .i64 x) := by
  obtain ⟨a', c', b', o', e, h1, h2, h3, h4⟩ := h
  injection e with e _ _
  have h0 : 0 < s.length := by have := (List.getElem?_eq_some_iff.1 hk).1; omega
  have e2 := e.trans (h3 h0)
  injection e2 with e2
  injection e2 with e3 e4 _
  subst e3
  subst e4
  exact h4 k x hk
structure LwS (w : World) (R : Nat) (n : Int) (u : Value) (ls : List LinkD) (x : Value) (s : List LabelD) (W : World) : Prop where
  bw : Below w.heap.size w W
  box : Box W R #[.int .i64 n, u] 25
  tri : TriplesAt W u ls
  prs : PairsAt W x s
section
variable {w : World} {R : Nat} {n : Int} {u : Value} {ls : List LinkD} {x : Value} {s : List LabelD} {W W' : World}
theorem LwS.below (h : LwS w R n u ls x s W) (hb : Below W.heap.size W W') : LwS w R n u ls x s W' :=
  ⟨h.bw.trans (hb.mono h.bw.size), h.box.below hb h.box.lt, h.tri.below hb (Nat.le_refl _), h.prs.below hb (Nat.le_refl _)⟩
theorem LwS.alloc (h : LwS w R n u ls x s W) (o : Obj) : LwS w R n u ls x s (W.alloc o) := h.below ((Below.refl _ _).alloc (Nat.le_refl _) _)
theorem LwS.drew (h : LwS w R n u ls x s W) : LwS w R n u ls x s W.drew := h.below (Below.refl _ _).drew
theorem LwS.new (hb : Below w.heap.size w W) (hT : TriplesAt W u ls) (hP : PairsAt W x s) : LwS w W.heap.size n u ls x s (W.alloc (.cells #[.int .i64 n, u] 25)) :=
  ⟨hb.alloc hb.size _, box_new _ _ _, hT.below ((Below.refl _ _).alloc (Nat.le_refl _) _) (Nat.le_refl _), hP.below ((Below.refl _ _).alloc (Nat.le_refl _) _) (Nat.le_refl _)⟩
end
end Go.Proofs.Ytoebefpmfgkpoaa
