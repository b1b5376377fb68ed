/- The contracts on boxes together. -/
import Derived.Test.YtdgfipdlfgcfeaaBo3
import Derived.Test.YtdgfipdlfgcfeaaBo4
import Derived.Test.YtdgfipdlfgcfeaaBo5
import Derived.Test.YtdgfipdlfgcfeaaBo6
import Derived.Test.YtdgfipdlfgcfeaaBo7
namespace Go.Proofs.Ytdgfipdlfgcfeaa
set_option linter.unusedSimpArgs false
set_option linter.unusedVariables false
variable {pv : Int → Int → Int}
open Go.RowKit Eng
def G3 : List CEnt := [e_iBoxAdd, e_sBoxAdd, e_iBoxNorm, e_sBoxNorm, e_iBoxWithin, e_sBoxWithin, e_iBoxSquare, e_sBoxSquare, e_iDiscBound, e_sDiscBound, e_iCardioidBound, e_sCardioidBound, e_iBoxHas, e_sBoxHas] ++ G2
theorem G3_ok : ∀ e ∈ G3, ∀ w, e.ok Try.prog w (FI pv) FB := by
  intro e he w
  rcases List.mem_append.1 he with he | he
  case inr => exact G2_ok e he w
  simp only [List.mem_cons, List.not_mem_nil, or_false] at he
  rcases he with rfl | rfl | rfl | rfl | rfl | rfl | rfl | rfl | rfl | rfl | rfl | rfl | rfl | rfl
  · exact ok_iBoxAdd w
  · exact ok_sBoxAdd w
  · exact ok_iBoxNorm w
  · exact ok_sBoxNorm w
  · exact ok_iBoxWithin w
  · exact ok_sBoxWithin w
  · exact ok_iBoxSquare w
  · exact ok_sBoxSquare w
  · exact ok_iDiscBound w
  · exact ok_sDiscBound w
  · exact ok_iCardioidBound w
  · exact ok_sCardioidBound w
  · exact ok_iBoxHas w
  · exact ok_sBoxHas w
def en3 : List Nat := [30, 29, 31, 32, 33, 55]
theorem en3_30 : Enters Try.prog 30 := enters_of Try.func30 rfl (by kernel_rfl)
theorem en3_29 : Enters Try.prog 29 := enters_of Try.func29 rfl (by kernel_rfl)
theorem en3_31 : Enters Try.prog 31 := enters_of Try.func31 rfl (by kernel_rfl)
theorem en3_32 : Enters Try.prog 32 := enters_of Try.func32 rfl (by kernel_rfl)
theorem en3_33 : Enters Try.prog 33 := enters_of Try.func33 rfl (by kernel_rfl)
theorem en3_55 : Enters Try.prog 55 := enters_of Try.func55 rfl (by kernel_rfl)
theorem en3_ok : ∀ f ∈ en3, Enters Try.prog f := by
  intro f hf
  simp only [en3, List.mem_cons, List.not_mem_nil, or_false] at hf
  rcases hf with rfl | rfl | rfl | rfl | rfl | rfl
  · exact en3_30
  · exact en3_29
  · exact en3_31
  · exact en3_32
  · exact en3_33
  · exact en3_55
def X3c (P : Program) : Cx := { P := P, G := G3, en := en3, call := nil0 }
noncomputable def X3 : Cx := X3c Try.prog
theorem X3_ok (w : World) (E : Env) (hi : E.fi = FI pv) (hb : E.fb = FB) : XOk X3 w E := xok G3_ok en3_ok w E hi hb
end Go.Proofs.Ytdgfipdlfgcfeaa
