/- The context of walks over the boxes of an orbit. -/
import Derived.Test.YtjbpaejjpamcpaaBoG
import Derived.Test.YtjbpaejjpamcpaaLoop
namespace Go.Proofs.Ytjbpaejjpamcpaa
set_option linter.unusedSimpArgs false
set_option linter.unusedVariables false
variable {pv : Int → Int → Int}
open Go.RowKit Eng
def enE : List Nat := [63, 60, 57, 78, 67, 56, 58]
theorem enE_63 : Enters Try.prog 63 := enters_of Try.func63 rfl (by kernel_rfl)
theorem enE_60 : Enters Try.prog 60 := enters_of Try.func60 rfl (by kernel_rfl)
theorem enE_57 : Enters Try.prog 57 := enters_of Try.func57 rfl (by kernel_rfl)
theorem enE_78 : Enters Try.prog 78 := enters_of Try.func78 rfl (by kernel_rfl)
theorem enE_67 : Enters Try.prog 67 := enters_of Try.func67 rfl (by kernel_rfl)
theorem enE_56 : Enters Try.prog 56 := enters_of Try.func56 rfl (by kernel_rfl)
theorem enE_58 : Enters Try.prog 58 := enters_of Try.func58 rfl (by kernel_rfl)
theorem enE_ok : ∀ f ∈ enE, Enters Try.prog f := by
  intro f hf
  simp only [enE, List.mem_cons, List.not_mem_nil, or_false] at hf
  rcases hf with rfl | rfl | rfl | rfl | rfl | rfl | rfl
  · exact enE_63
  · exact enE_60
  · exact enE_57
  · exact enE_78
  · exact enE_67
  · exact enE_56
  · exact enE_58
def XEc (P : Program) : Cx := { P := P, G := G3, en := enE, call := nil0 }
noncomputable def XE : Cx := XEc Try.prog
theorem XE_ok (w : World) (E : Env) (hi : E.fi = FI pv) (hb : E.fb = FB) : XOk XE w E := xok G3_ok enE_ok w E hi hb
end Go.Proofs.Ytjbpaejjpamcpaa
