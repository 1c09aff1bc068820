/- What the laws on packets' paths use: StackPath behind one contract, GraphLink, same lists. -/
import Derived.Test.YtoebefpmfgkpoaaLawH
import Derived.Test.YtoebefpmfgkpoaaLwD
import Derived.Test.YtoebefpmfgkpoaaSkPathS
import Derived.Test.YtoebefpmfgkpoaaEqI
namespace Go.Proofs.Ytoebefpmfgkpoaa
set_option linter.unusedSimpArgs false
set_option linter.unusedVariables false
open Go.RowKit

theorem iPathAny {n : Int} {ls : List LinkD} {a : Int} {s : List LabelD} {v u : Value} {w : World} {P : List Int} (hP : stkPV n ls a s = P) (hv : TriplesAt w v ls) (hu : PairsAt w u s) :
    Calls Try.prog 18 #[.agg #[.int .i64 n, v], .int .i64 a, u] w fun e w' => ∃ A c, e = .returned (.slice A P.length c) ∧ IntsAt w' (.slice A P.length c) P ∧ Below w.heap.size w w' := by
  subst hP
  refine (iStackPath n ls a s v u w hv hu).mono ?_
  rintro e w' ⟨x, rfl, hO, hb⟩
  obtain ⟨A, c, rfl⟩ := own_slice hO.1
  exact ⟨A, c, rfl, ints_of_owns hO.1, hb⟩
theorem sameInts_self {P : List Int} {v u : Value} {w : World} (hv : IntsAt w v P) (hu : IntsAt w u P) : Calls Try.prog 17 #[v, u] w fun e w' => e = .returned (.bool true) ∧ Below w.heap.size w w' := by
  have h := sameInts P P v u w hv hu
  rw [show eqB P P = true by simp [eqB]] at h
  exact h
/-- LwS, and a packet's path in a slice of its own. -/
structure LwH (w : World) (R : Nat) (n : Int) (u : Value) (ls : List LinkD) (x : Value) (s : List LabelD) (o : Value) (P : List Int) (W : World) : Prop where
  st : LwS w R n u ls x s W
  out : IntsAt W o P
theorem LwH.below {w : World} {R : Nat} {n : Int} {u : Value} {ls : List LinkD} {x : Value} {s : List LabelD} {o : Value} {P : List Int} {W W' : World} (h : LwH w R n u ls x s o P W) (hb : Below W.heap.size W W') : LwH w R n u ls x s o P W' :=
  ⟨h.st.below hb, h.out.below hb (Nat.le_refl _)⟩
theorem LwH.drew {w : World} {R : Nat} {n : Int} {u : Value} {ls : List LinkD} {x : Value} {s : List LabelD} {o : Value} {P : List Int} {W : World} (h : LwH w R n u ls x s o P W) : LwH w R n u ls x s o P W.drew := h.below (Below.refl _ _).drew
end Go.Proofs.Ytoebefpmfgkpoaa
