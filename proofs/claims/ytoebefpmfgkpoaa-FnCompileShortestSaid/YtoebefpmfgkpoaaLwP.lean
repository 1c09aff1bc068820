/- What the laws on paths carry: the world below, the graph's box, the graph, the path. -/
import Derived.Test.YtoebefpmfgkpoaaDrawPV
import Derived.Test.YtoebefpmfgkpoaaLwD
namespace Go.Proofs.Ytoebefpmfgkpoaa
set_option linter.unusedSimpArgs false
set_option linter.unusedVariables false
open Go.RowKit

structure LwP (w : World) (R : Nat) (n : Int) (u : Value) (ls : List LinkD) (x : Value) (p : List Int) (W : World) : Prop where
  bw : Below w.heap.size w W
  box : Box W R #[.int .i64 n, u] 25
  tri : TriplesAt W u ls
  ints : IntsAt W x p
section
variable {w : World} {R : Nat} {n : Int} {u : Value} {ls : List LinkD} {x : Value} {p : List Int} {W W' : World}
theorem LwP.below (h : LwP w R n u ls x p W) (hb : Below W.heap.size W W') : LwP w R n u ls x p W' :=
  ⟨h.bw.trans (hb.mono h.bw.size), h.box.below hb h.box.lt, h.tri.below hb (Nat.le_refl _), h.ints.below hb (Nat.le_refl _)⟩
theorem LwP.alloc (h : LwP w R n u ls x p W) (o : Obj) : LwP w R n u ls x p (W.alloc o) := h.below ((Below.refl _ _).alloc (Nat.le_refl _) _)
theorem LwP.drew (h : LwP w R n u ls x p W) : LwP w R n u ls x p W.drew := h.below (Below.refl _ _).drew
theorem LwP.new (hb : Below w.heap.size w W) (hT : TriplesAt W u ls) (hP : IntsAt W x p) : LwP w W.heap.size n u ls x p (W.alloc (.cells #[.int .i64 n, u] 25)) :=
  ⟨hb.alloc hb.size _, box_new _ _ _, hT.below ((Below.refl _ _).alloc (Nat.le_refl _) _) (Nat.le_refl _), hP.below ((Below.refl _ _).alloc (Nat.le_refl _) _) (Nat.le_refl _)⟩
end
end Go.Proofs.Ytoebefpmfgkpoaa
