/- The cost of a stack: StackCost of the reference. -/
import Derived.Test.YtoebefpmfgkpoaaStkCost
namespace Go.Proofs.Ytoebefpmfgkpoaa
set_option linter.unusedSimpArgs false
set_option linter.unusedVariables false
open Go.RowKit
end Go.Proofs.Ytoebefpmfgkpoaa
