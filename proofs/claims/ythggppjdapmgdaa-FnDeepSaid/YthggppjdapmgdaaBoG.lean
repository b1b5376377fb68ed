/- The contracts on boxes together. -/
import Derived.Test.YthggppjdapmgdaaBo3
import Derived.Test.YthggppjdapmgdaaBo4
import Derived.Test.YthggppjdapmgdaaBo5
import Derived.Test.YthggppjdapmgdaaBo6
import Derived.Test.YthggppjdapmgdaaBo7
namespace Go.Proofs.Ythggppjdapmgdaa
set_option linter.unusedSimpArgs false
set_option linter.unusedVariables false
variable {pv : Int → Int → Int}
open Go.RowKit Eng
def G3 : List CEnt := [e_iBoxAdd, e_sBoxAdd, e_iBoxNorm, e_sBoxNorm, e_iBoxWithin, e_iBoxSquare, e_sBoxSquare, e_iDiscBound, e_sDiscBound, e_iCardioidBound, e_sCardioidBound, e_iBoxHas, e_sBoxHas] ++ G2
theorem G3_ok : ∀ e ∈ G3, ∀ w : World, e.ok Try.prog w (FI pv) FB := by
  intro e he w
  rcases List.mem_append.1 he with he | he
  case inr => exact G2_ok e he w
  simp only [List.mem_cons, List.not_mem_nil, or_false] at he
  rcases he with rfl | rfl | rfl | rfl | rfl | rfl | rfl | rfl | rfl | rfl | rfl | rfl | rfl
  · exact ok_iBoxAdd w
  · exact ok_sBoxAdd w
  · exact ok_iBoxNorm w
  · exact ok_sBoxNorm w
  · exact ok_iBoxWithin w
  · exact ok_iBoxSquare w
  · exact ok_sBoxSquare w
  · exact ok_iDiscBound w
  · exact ok_sDiscBound w
  · exact ok_iCardioidBound w
  · exact ok_sCardioidBound w
  · exact ok_iBoxHas w
  · exact ok_sBoxHas w
def en3 : List Nat := [21, 22, 32, 33, 34, 56, 23]
theorem en3_21 : Enters Try.prog 21 := enters_of Try.func21 rfl (by kernel_rfl)
theorem en3_22 : Enters Try.prog 22 := enters_of Try.func22 rfl (by kernel_rfl)
theorem en3_32 : Enters Try.prog 32 := enters_of Try.func32 rfl (by kernel_rfl)
theorem en3_33 : Enters Try.prog 33 := enters_of Try.func33 rfl (by kernel_rfl)
theorem en3_34 : Enters Try.prog 34 := enters_of Try.func34 rfl (by kernel_rfl)
theorem en3_56 : Enters Try.prog 56 := enters_of Try.func56 rfl (by kernel_rfl)
theorem en3_23 : Enters Try.prog 23 := enters_of Try.func23 rfl (by kernel_rfl)
theorem en3_ok : ∀ f ∈ en3, Enters Try.prog f := by
  intro f hf
  simp only [en3, List.mem_cons, List.not_mem_nil, or_false] at hf
  rcases hf with rfl | rfl | rfl | rfl | rfl | rfl | rfl
  · exact en3_21
  · exact en3_22
  · exact en3_32
  · exact en3_33
  · exact en3_34
  · exact en3_56
  · exact en3_23
def X3c (P : Program) : Cx := { P := P, G := G3, en := en3, call := nil0 }
noncomputable def X3 : Cx := X3c Try.prog
theorem X3_ok (w : World) (E : Env) (hi : E.fi = FI pv) (hb : E.fb = FB) : XOk X3 w E := xok G3_ok en3_ok w E hi hb
end Go.Proofs.Ythggppjdapmgdaa
