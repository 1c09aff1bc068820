/- Comparisons of lists of integers: eqIntS, sameInts. -/
import Derived.Test.YtnnkdoomjkccgaaBase
import Derived.Test.YtnnkdoomjkccgaaOwn2
import Derived.Test.YtnnkdoomjkccgaaGrAll
namespace Go.Proofs.Ytnnkdoomjkccgaa
set_option linter.unusedSimpArgs false
set_option linter.unusedVariables false
open Go.RowKit
end Go.Proofs.Ytnnkdoomjkccgaa
