/- From the row's reading of an argument to what the walks ask of it. -/
import Derived.Test.YtpcjhgglgjmomaaPre
import Derived.ProofKit
import Derived.OpenShut
import Derived.Lib.SmallJoins
import Derived.Deep.Slices
namespace Go.Proofs.Ytpcjhgglgjmomaa
open Go.ChangeShapes Go.WideShapes Go.ChangeAt Go.RowKit Go.Joins Go.Deep
section
variable {H : Type} {enc : TypeId × Value → H} {P : Program} {w : World} {base b0 : Nat} {held : Bool} {r : Reach} {v : Value} {d : DataW H} {p : List MemPlace}
theorem codeAt_of_trod {T E : TypeId} (hT : P.underlying T = some (.slice E)) (hE : P.underlying E = some (.int .u8)) (hC : P.cellsOf E = 1)
    (hv : Value.okWide P w r b0 T v) (h : DataW.Trod enc P w base (fun _ => true) held T v d p) : CodeAt w v := by
  obtain ⟨a0, len, cap, rfl⟩ := okWide_slice hT hv
  obtain ⟨fuel, hf⟩ := h
  rcases open_ints hT hE hC hf with ⟨hcs, _⟩ | ⟨x, l, c, zs, hcs, _, hl, hm, hz, _, hcell, hwz⟩
  · simp [Value.cells] at hcs
    obtain ⟨rfl, rfl, rfl⟩ := hcs
    exact codeAt_nil w
  · simp [Value.cells] at hcs
    obtain ⟨rfl, rfl, rfl⟩ := hcs
    exact codeAt_of_row hl hm (by simpa using hz) hcell hwz
theorem adj_of_trod {T : TypeId} {f0 f1 : Field} (hs : P.underlying T = some (.struct #[f0, f1])) (hone : oneCellFields P #[f0, f1] = true) (hC : P.cellsOf T = 2) (hI : P.underlying f0.type = some (.int .i64)) (hI1 : P.underlying f1.type = some (.int .i64))
    (hv : Value.okWide P w r b0 T v) (h : DataW.Trod enc P w base (fun _ => true) held T v d p) : ∃ s a : Int, v = .agg #[.int .i64 s, .int .i64 a] := by
  obtain ⟨c0, c1, y0, y1, m, rfl, _, _, hy0, hy1⟩ := open_agg2 hs hone hC hv h
  obtain ⟨a0, e0, _, _⟩ := DataW.trod_int hI hy0
  obtain ⟨a1, e1, _, _⟩ := DataW.trod_int hI1 hy1
  simp at e0 e1
  subst e0 e1
  exact ⟨_, _, rfl⟩
end
end Go.Proofs.Ytpcjhgglgjmomaa
