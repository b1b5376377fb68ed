/- The context of walks over the boxes of an orbit. -/
import Derived.Test.YthggppjdapmgdaaBoG
import Derived.Test.YthggppjdapmgdaaLoop
namespace Go.Proofs.Ythggppjdapmgdaa
set_option linter.unusedSimpArgs false
set_option linter.unusedVariables false
variable {pv : Int → Int → Int}
open Go.RowKit Eng
def enE : List Nat := [71, 78, 75, 95, 58, 77, 76]
theorem enE_71 : Enters Try.prog 71 := enters_of Try.func71 rfl (by kernel_rfl)
theorem enE_78 : Enters Try.prog 78 := enters_of Try.func78 rfl (by kernel_rfl)
theorem enE_75 : Enters Try.prog 75 := enters_of Try.func75 rfl (by kernel_rfl)
theorem enE_95 : Enters Try.prog 95 := enters_of Try.func95 rfl (by kernel_rfl)
theorem enE_58 : Enters Try.prog 58 := enters_of Try.func58 rfl (by kernel_rfl)
theorem enE_77 : Enters Try.prog 77 := enters_of Try.func77 rfl (by kernel_rfl)
theorem enE_76 : Enters Try.prog 76 := enters_of Try.func76 rfl (by kernel_rfl)
theorem enE_ok : ∀ f ∈ enE, Enters Try.prog f := by
  intro f hf
  simp only [enE, List.mem_cons, List.not_mem_nil, or_false] at hf
  rcases hf with rfl | rfl | rfl | rfl | rfl | rfl | rfl
  · exact enE_71
  · exact enE_78
  · exact enE_75
  · exact enE_95
  · exact enE_58
  · exact enE_77
  · exact enE_76
def XEc (P : Program) : Cx := { P := P, G := G3, en := enE, call := nil0 }
noncomputable def XE : Cx := XEc Try.prog
theorem XE_ok (w : World) (E : Env) (hi : E.fi = FI pv) (hb : E.fb = FB) : XOk XE w E := xok G3_ok enE_ok w E hi hb
end Go.Proofs.Ythggppjdapmgdaa
