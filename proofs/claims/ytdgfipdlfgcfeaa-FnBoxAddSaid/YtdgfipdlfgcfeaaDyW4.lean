/- What DyadAdd gives. -/
import Derived.Test.YtdgfipdlfgcfeaaDyW3
import Derived.Test.YtdgfipdlfgcfeaaDyM2
namespace Go.Proofs.Ytdgfipdlfgcfeaa
set_option linter.unusedSimpArgs false
set_option linter.unusedVariables false
open Go.RowKit


/-! ### DyadAdd -/

end Go.Proofs.Ytdgfipdlfgcfeaa
