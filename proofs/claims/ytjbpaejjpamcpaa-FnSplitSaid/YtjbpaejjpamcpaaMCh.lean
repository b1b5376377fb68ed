import Derived.Test.YtjbpaejjpamcpaaDrC
import Derived.Test.YtjbpaejjpamcpaaBoG
/- The context of what is drawn for FnSplit. -/
namespace Go.Proofs.Ytjbpaejjpamcpaa
set_option linter.unusedSimpArgs false
set_option linter.unusedVariables false
variable {pv : Int → Int → Int}
open Go.RowKit Eng
def enCh : List Nat := [11, 21, 51]
theorem enCh_11 : Enters Try.prog 11 := enters_of Try.func11 rfl (by kernel_rfl)
theorem enCh_21 : Enters Try.prog 21 := enters_of Try.func21 rfl (by kernel_rfl)
theorem enCh_51 : Enters Try.prog 51 := enters_of Try.func51 rfl (by kernel_rfl)
theorem enCh_ok : ∀ f ∈ enCh, Enters Try.prog f := by
  intro f hf
  simp only [enCh, List.mem_cons, List.not_mem_nil, or_false] at hf
  rcases hf with rfl | rfl | rfl
  · exact enCh_11
  · exact enCh_21
  · exact enCh_51
def XH3c (P : Program) : Cx := { P := P, G := G3, en := enCh, call := nil0 }
noncomputable def XH3 : Cx := XH3c Try.prog
theorem XH3_ok (w : World) (E : Env) (hi : E.fi = FI pv) (hb : E.fb = FB) : XOk XH3 w E := xok G3_ok enCh_ok w E hi hb
end Go.Proofs.Ytjbpaejjpamcpaa
/- What DrawCellSplit gives, alone: a drawn box and a number. -/
namespace Go.Proofs.Ytjbpaejjpamcpaa
set_option linter.unusedSimpArgs false
set_option linter.unusedVariables false
open Go.RowKit Eng
def kn_dcs : Kn := []
theorem run_dcs : runFn (drawn XH3) kn_dcs 400 11 [.cv (.one (.opq 0))] = .ok (.tup [(.agg [(.int .i64 (.app 1001 0 (.cons (.lit 0) .nil))), (.int .i64 (.app 1001 1 (.cons (.lit 0) .nil))), (.int .i64 (.app 1001 2 (.cons (.lit 0) .nil))), (.int .i64 (.app 1001 3 (.cons (.lit 0) .nil)))]), (.one (.int .i64 (.wrap .i64 (.bin .add .i64 (.wrap .i64 (.bin .sub .i64 (.app 1000 0 (.cons (.app 1001 100 (.cons (.lit 0) .nil)) (.cons (.lit 40) .nil))) (.wrap .i64 (.bin .mul .i64 (.wrap .i64 (.bin .tdiv .i64 (.app 1000 0 (.cons (.app 1000 100 (.cons (.app 1001 100 (.cons (.lit 0) .nil)) .nil)) (.cons (.lit 20) .nil))) (.lit 19))) (.lit 41))))) (.wrap .i64 (.bin .mul .i64 (.wrap .i64 (.bin .tdiv .i64 (.app 1000 0 (.cons (.app 1000 100 (.cons (.app 1000 100 (.cons (.app 1001 100 (.cons (.lit 0) .nil)) .nil)) .nil)) (.cons (.lit 20) .nil))) (.lit 19))) (.lit 400)))))))]) := by kernel_rfl
end Go.Proofs.Ytjbpaejjpamcpaa
