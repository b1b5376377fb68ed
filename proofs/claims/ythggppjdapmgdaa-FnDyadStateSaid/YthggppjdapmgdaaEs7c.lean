/- The context of the states of exact numbers. -/
import Derived.Test.YthggppjdapmgdaaEs6
namespace Go.Proofs.Ythggppjdapmgdaa
set_option linter.unusedSimpArgs false
set_option linter.unusedVariables false
variable {pv : Int → Int → Int}
open Go.RowKit Eng
def G5 : List CEnt := [e_iCellState, e_sCellState] ++ GE4
theorem G5_ok : ∀ e ∈ G5, ∀ w, e.ok Try.prog w (FI pv) FB := by
  intro e he w
  rcases List.mem_append.1 he with he | he
  case inr => exact GE4_ok e he w
  simp only [List.mem_cons, List.not_mem_nil, or_false] at he
  rcases he with rfl | rfl
  · exact ok_iCellState w
  · exact ok_sCellState w
def en5 : List Nat := [56, 57, 60, 58]
theorem en5_56 : Enters Try.prog 56 := enters_of Try.func56 rfl (by kernel_rfl)
theorem en5_57 : Enters Try.prog 57 := enters_of Try.func57 rfl (by kernel_rfl)
theorem en5_60 : Enters Try.prog 60 := enters_of Try.func60 rfl (by kernel_rfl)
theorem en5_58 : Enters Try.prog 58 := enters_of Try.func58 rfl (by kernel_rfl)
theorem en5_ok : ∀ f ∈ en5, Enters Try.prog f := by
  intro f hf
  simp only [en5, List.mem_cons, List.not_mem_nil, or_false] at hf
  rcases hf with rfl | rfl | rfl | rfl
  · exact en5_56
  · exact en5_57
  · exact en5_60
  · exact en5_58
def X5c (P : Program) : Cx := { P := P, G := G5, en := en5, call := nil0 }
noncomputable def X5 : Cx := X5c Try.prog
theorem X5_ok (w : World) (E : Env) (hi : E.fi = FI pv) (hb : E.fb = FB) : XOk X5 w E := xok G5_ok en5_ok w E hi hb
end Go.Proofs.Ythggppjdapmgdaa
