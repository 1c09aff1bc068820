/- What a call that makes a list of integers leaves behind. -/
import Derived.Test.YtoebefpmfgkpoaaBase
import Derived.Test.YtoebefpmfgkpoaaApp
namespace Go.Proofs.Ytoebefpmfgkpoaa
set_option linter.unusedSimpArgs false
set_option linter.unusedVariables false
open Go.RowKit
theorem infoI : (Try.prog.info? 3).map (fun i => (i.zero, i.size, i.bytes)) = some (some (.int .i64 0), 1, 8) := by kernel_rfl
def MadeInts (w : World) (xs : List Int) (e : Ending) (w' : World) : Prop := ∃ v, e = .returned v ∧ OwnR w' w.heap.size w'.heap.size 3 1 v xs.length (xs.map (Value.int .i64)) ∧ Below w.heap.size w w'
def MadePairs (w : World) (t : TypeId) (es : List (Int × Int)) (e : Ending) (w' : World) : Prop := ∃ v, e = .returned v ∧ OwnR w' w.heap.size w'.heap.size t 2 v es.length (cells2 es) ∧ Below w.heap.size w w'
/-- What is left of a budget. -/
def leftOf (n left : Int) : Int := if n ≤ left then left - n else -1
end Go.Proofs.Ytoebefpmfgkpoaa
