/- Formulas turned, by the reference, whole. -/
import Derived.Test.YtndjjnnljihmnaaFmL
namespace Go.Proofs.Ytndjjnnljihmnaa
open Go.RowKit
set_option linter.unusedVariables false
set_option linter.unusedSimpArgs false
end Go.Proofs.Ytndjjnnljihmnaa
