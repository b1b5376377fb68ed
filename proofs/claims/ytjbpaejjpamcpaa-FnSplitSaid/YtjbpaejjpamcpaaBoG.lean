/- The contracts on boxes together. -/
import Derived.Test.YtjbpaejjpamcpaaBo3
import Derived.Test.YtjbpaejjpamcpaaBo4
import Derived.Test.YtjbpaejjpamcpaaBo5
import Derived.Test.YtjbpaejjpamcpaaBo6
import Derived.Test.YtjbpaejjpamcpaaBo7
namespace Go.Proofs.Ytjbpaejjpamcpaa
set_option linter.unusedSimpArgs false
set_option linter.unusedVariables false
variable {pv : Int → Int → Int}
open Go.RowKit Eng
def G3 : List CEnt := [e_iBoxAdd, e_sBoxAdd, e_sBoxNorm, e_iBoxSquare, e_sBoxSquare, e_iDiscBound, e_sDiscBound, e_iCardioidBound, e_sCardioidBound] ++ G2
theorem G3_ok : ∀ e ∈ G3, ∀ w : World, e.ok Try.prog w (FI pv) FB := by
  intro e he w
  rcases List.mem_append.1 he with he | he
  case inr => exact G2_ok e he w
  simp only [List.mem_cons, List.not_mem_nil, or_false] at he
  rcases he with rfl | rfl | rfl | rfl | rfl | rfl | rfl | rfl | rfl
  · exact ok_iBoxAdd w
  · exact ok_sBoxAdd w
  · exact ok_sBoxNorm w
  · exact ok_iBoxSquare w
  · exact ok_sBoxSquare w
  · exact ok_iDiscBound w
  · exact ok_sDiscBound w
  · exact ok_iCardioidBound w
  · exact ok_sCardioidBound w
def en3 : List Nat := [16, 14]
theorem en3_16 : Enters Try.prog 16 := enters_of Try.func16 rfl (by kernel_rfl)
theorem en3_14 : Enters Try.prog 14 := enters_of Try.func14 rfl (by kernel_rfl)
theorem en3_ok : ∀ f ∈ en3, Enters Try.prog f := by
  intro f hf
  simp only [en3, List.mem_cons, List.not_mem_nil, or_false] at hf
  rcases hf with rfl | rfl
  · exact en3_16
  · exact en3_14
def X3c (P : Program) : Cx := { P := P, G := G3, en := en3, call := nil0 }
noncomputable def X3 : Cx := X3c Try.prog
theorem X3_ok (w : World) (E : Env) (hi : E.fi = FI pv) (hb : E.fb = FB) : XOk X3 w E := xok G3_ok en3_ok w E hi hb
end Go.Proofs.Ytjbpaejjpamcpaa
