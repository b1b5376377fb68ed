/- The functions that may be run in company as they run alone: the static check. -/
import Derived.Test.YtjbpaejjpamcpaaMCb
import Derived.Test.YtjbpaejjpamcpaaCe5
import Derived.Test.YtjbpaejjpamcpaaCe2
namespace Go.Proofs.Ytjbpaejjpamcpaa.Sim
set_option linter.unusedSimpArgs false
set_option linter.unusedVariables false
open Go Go.Conc Go.RowKit

def fset : List Nat := [5, 11, 13, 14, 15, 16, 21, 22, 23, 24, 25, 26, 27, 28, 29, 30, 49, 50, 51, 52, 53, 54, 55, 56, 57, 58, 59, 60, 61, 62, 63, 64, 65, 66, 67, 73, 74, 75, 76, 77, 78, 79, 80, 81]
def Sb (f : FuncId) : Bool := fset.elem f
theorem fset_ok : fset.all (fun f => okFn Try.prog Sb f) = true := by kernel_rfl
theorem hS : FnsOk Try.prog (SS Sb) (KK Try.prog Sb) := fnsOk fun f hf => List.all_eq_true.1 fset_ok f (List.elem_iff.1 hf)
end Go.Proofs.Ytjbpaejjpamcpaa.Sim
