/- The quarters of a box, their states: contracts of the functions that give them as rows. -/
import Derived.Test.YtjbpaejjpamcpaaEs6
import Derived.Test.YtjbpaejjpamcpaaRow4
namespace Go.Proofs.Ytjbpaejjpamcpaa
set_option linter.unusedSimpArgs false
set_option linter.unusedVariables false
variable {pv : Int → Int → Int}
open Go.RowKit Eng
def GSp : List CEnt := [e_iCellState, e_sCellState] ++ GE4
theorem GSp_ok : ∀ e ∈ GSp, ∀ w : World, e.ok Try.prog w (FI pv) FB := by
  intro e he w
  rcases List.mem_append.1 he with he | he
  case inr => exact GE4_ok e he w
  simp only [List.mem_cons, List.not_mem_nil, or_false] at he
  rcases he with rfl | rfl
  · exact ok_iCellState w
  · exact ok_sCellState w
def enSp : List Nat := [14]
theorem enSp_14 : Enters Try.prog 14 := enters_of Try.func14 rfl (by kernel_rfl)
theorem enSp_ok : ∀ f ∈ enSp, Enters Try.prog f := by
  intro f hf
  simp only [enSp, List.mem_cons, List.not_mem_nil, or_false] at hf
  rcases hf with rfl
  · exact enSp_14
def XSpc (P : Program) : Cx := { P := P, G := GSp, en := enSp, call := nil0 }
noncomputable def XSp : Cx := XSpc Try.prog
theorem XSp_ok (w : World) (E : Env) (hi : E.fi = FI pv) (hb : E.fb = FB) : XOk XSp w E := xok GSp_ok enSp_ok w E hi hb
end Go.Proofs.Ytjbpaejjpamcpaa
