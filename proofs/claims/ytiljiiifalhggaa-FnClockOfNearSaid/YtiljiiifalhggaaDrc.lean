/- The draws of the laws that hold a clock against a time. -/
import Derived.Test.YtiljiiifalhggaaDrw
namespace Go.Proofs.Ytiljiiifalhggaa
open Go Go.RowKit
set_option linter.unusedVariables false
set_option linter.unusedSimpArgs false
end Go.Proofs.Ytiljiiifalhggaa
