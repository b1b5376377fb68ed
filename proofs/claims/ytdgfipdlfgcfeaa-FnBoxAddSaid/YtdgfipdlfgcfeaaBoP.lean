/- The context of laws that draw boxes: what is walked in place. -/
import Derived.Test.YtdgfipdlfgcfeaaDrC
import Derived.Test.YtdgfipdlfgcfeaaBoG
namespace Go.Proofs.Ytdgfipdlfgcfeaa
set_option linter.unusedSimpArgs false
set_option linter.unusedVariables false
variable {pv : Int → Int → Int}
open Go.RowKit Eng
def G5 : List CEnt := G3
theorem G5_ok : ∀ e ∈ G5, ∀ w, e.ok Try.prog w (FI pv) FB := G3_ok
def en5 : List Nat := [29, 30, 37, 41, 44, 55]
theorem en5_29 : Enters Try.prog 29 := enters_of Try.func29 rfl (by kernel_rfl)
theorem en5_30 : Enters Try.prog 30 := enters_of Try.func30 rfl (by kernel_rfl)
theorem en5_37 : Enters Try.prog 37 := enters_of Try.func37 rfl (by kernel_rfl)
theorem en5_41 : Enters Try.prog 41 := enters_of Try.func41 rfl (by kernel_rfl)
theorem en5_44 : Enters Try.prog 44 := enters_of Try.func44 rfl (by kernel_rfl)
theorem en5_55 : Enters Try.prog 55 := enters_of Try.func55 rfl (by kernel_rfl)
theorem en5_ok : ∀ f ∈ en5, Enters Try.prog f := by
  intro f hf
  simp only [en5, List.mem_cons, List.not_mem_nil, or_false] at hf
  rcases hf with rfl | rfl | rfl | rfl | rfl | rfl
  · exact en5_29
  · exact en5_30
  · exact en5_37
  · exact en5_41
  · exact en5_44
  · exact en5_55
def X5c (P : Program) : Cx := { P := P, G := G5, en := en5, call := nil0 }
noncomputable def X5 : Cx := X5c Try.prog
theorem X5_ok (w : World) (E : Env) (hi : E.fi = FI pv) (hb : E.fb = FB) : XOk X5 w E := xok G5_ok en5_ok w E hi hb
end Go.Proofs.Ytdgfipdlfgcfeaa
