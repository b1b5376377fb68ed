/- The context in which the orbits of exact numbers are known. -/
import Derived.Test.YtmfpeknhangmoaaOr2
namespace Go.Proofs.Ytmfpeknhangmoaa
set_option linter.unusedSimpArgs false
set_option linter.unusedVariables false
variable {pv : Int → Int → Int}
open Go.RowKit Eng
def RD : List REnt := [r_iOrb, r_sOrb]
theorem RD_ok : ∀ e ∈ RD, ∀ w, e.ok Try.prog w (FI pv) FB := by
  intro e he w
  simp only [RD, List.mem_cons, List.not_mem_nil, or_false] at he
  rcases he with rfl | rfl
  · exact rok_iOrb w
  · exact rok_sOrb w
def LR0 : List LEnt := []
theorem LR0_ok : ∀ e ∈ LR0, ∀ w, e.ok Try.prog w (FI pv) FB := by
  intro e he w
  simp only [LR0, List.mem_cons, List.not_mem_nil, or_false] at he
def enR : List Nat := [19, 29, 26, 27, 28, 14, 12, 25]
theorem enR_19 : Enters Try.prog 19 := enters_of Try.func19 rfl (by kernel_rfl)
theorem enR_29 : Enters Try.prog 29 := enters_of Try.func29 rfl (by kernel_rfl)
theorem enR_26 : Enters Try.prog 26 := enters_of Try.func26 rfl (by kernel_rfl)
theorem enR_27 : Enters Try.prog 27 := enters_of Try.func27 rfl (by kernel_rfl)
theorem enR_28 : Enters Try.prog 28 := enters_of Try.func28 rfl (by kernel_rfl)
theorem enR_14 : Enters Try.prog 14 := enters_of Try.func14 rfl (by kernel_rfl)
theorem enR_12 : Enters Try.prog 12 := enters_of Try.func12 rfl (by kernel_rfl)
theorem enR_25 : Enters Try.prog 25 := enters_of Try.func25 rfl (by kernel_rfl)
theorem enR_ok : ∀ f ∈ enR, Enters Try.prog f := by
  intro f hf
  simp only [enR, List.mem_cons, List.not_mem_nil, or_false] at hf
  rcases hf with rfl | rfl | rfl | rfl | rfl | rfl | rfl | rfl
  · exact enR_19
  · exact enR_29
  · exact enR_26
  · exact enR_27
  · exact enR_28
  · exact enR_14
  · exact enR_12
  · exact enR_25
def XR0c (P : Program) : Cx := { P := P, G := D1, en := enR, call := nil0, L := LR0, R := RD }
noncomputable def XR0 : Cx := XR0c Try.prog
theorem XR0_ok (w : World) (E : Env) (hi : E.fi = FI pv) (hb : E.fb = FB) : XOk XR0 w E := xokR D1_ok enR_ok LR0_ok RD_ok w E hi hb
end Go.Proofs.Ytmfpeknhangmoaa
