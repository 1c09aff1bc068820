/- The nodes of a packet: l4Part, StackPath of the reference: stkPV. -/
import Derived.Test.YtoebefpmfgkpoaaSkPathI
namespace Go.Proofs.Ytoebefpmfgkpoaa
set_option linter.unusedSimpArgs false
set_option linter.unusedVariables false
open Go.RowKit
end Go.Proofs.Ytoebefpmfgkpoaa
