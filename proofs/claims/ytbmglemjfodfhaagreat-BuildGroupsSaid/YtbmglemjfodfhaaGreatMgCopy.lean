/- A list copied. -/
import Derived.Test.YtbmglemjfodfhaaGreatMgSlices
set_option linter.unusedVariables false
set_option linter.unusedSimpArgs false
namespace Go.Proofs.YtbmglemjfodfhaaGreat
open Go.RowKit
end Go.Proofs.YtbmglemjfodfhaaGreat
