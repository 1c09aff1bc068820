/- The draws: adjacencies, announcements. -/
import Derived.Test.YtnnkdoomjkccgaaPick
namespace Go.Proofs.Ytnnkdoomjkccgaa
set_option linter.unusedSimpArgs false
set_option linter.unusedVariables false
open Go.RowKit


end Go.Proofs.Ytnnkdoomjkccgaa
