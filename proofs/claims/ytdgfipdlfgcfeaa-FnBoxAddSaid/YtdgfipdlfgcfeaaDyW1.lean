/- What lowest terms and DyadMake give. -/
import Derived.Test.YtdgfipdlfgcfeaaDyW
import Derived.Deep.LoopGhost
namespace Go.Proofs.Ytdgfipdlfgcfeaa
set_option linter.unusedSimpArgs false
set_option linter.unusedVariables false
open Go.RowKit



theorem I64_of_le {x y : Int} (h : x.natAbs ≤ y.natAbs) (hy : -4611686018427387904 ≤ y ∧ y ≤ 4611686018427387904) : I64 x := ⟨by omega, by omega⟩


end Go.Proofs.Ytdgfipdlfgcfeaa
