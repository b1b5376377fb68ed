/- The context in which the orbits of boxes are known. -/
import Derived.Test.YthggppjdapmgdaaBo9
namespace Go.Proofs.Ythggppjdapmgdaa
set_option linter.unusedSimpArgs false
set_option linter.unusedVariables false
variable {pv : Int → Int → Int}
open Go.RowKit Eng
def RB : List REnt := [r_iBOrb, r_sBOrb]
theorem RB_ok : ∀ e ∈ RB, ∀ w, e.ok Try.prog w (FI pv) FB := by
  intro e he w
  simp only [RB, List.mem_cons, List.not_mem_nil, or_false] at he
  rcases he with rfl | rfl
  · exact rok_iBOrb w
  · exact rok_sBOrb w
def LB0 : List LEnt := []
theorem LB0_ok : ∀ e ∈ LB0, ∀ w, e.ok Try.prog w (FI pv) FB := by
  intro e he w
  simp only [LB0, List.mem_cons, List.not_mem_nil, or_false] at he
def enB0 : List Nat := [78, 32, 33, 34, 28, 79, 23]
theorem enB0_78 : Enters Try.prog 78 := enters_of Try.func78 rfl (by kernel_rfl)
theorem enB0_32 : Enters Try.prog 32 := enters_of Try.func32 rfl (by kernel_rfl)
theorem enB0_33 : Enters Try.prog 33 := enters_of Try.func33 rfl (by kernel_rfl)
theorem enB0_34 : Enters Try.prog 34 := enters_of Try.func34 rfl (by kernel_rfl)
theorem enB0_28 : Enters Try.prog 28 := enters_of Try.func28 rfl (by kernel_rfl)
theorem enB0_79 : Enters Try.prog 79 := enters_of Try.func79 rfl (by kernel_rfl)
theorem enB0_23 : Enters Try.prog 23 := enters_of Try.func23 rfl (by kernel_rfl)
theorem enB0_ok : ∀ f ∈ enB0, Enters Try.prog f := by
  intro f hf
  simp only [enB0, List.mem_cons, List.not_mem_nil, or_false] at hf
  rcases hf with rfl | rfl | rfl | rfl | rfl | rfl | rfl
  · exact enB0_78
  · exact enB0_32
  · exact enB0_33
  · exact enB0_34
  · exact enB0_28
  · exact enB0_79
  · exact enB0_23
def XB0c (P : Program) : Cx := { P := P, G := G3, en := enB0, call := nil0, L := LB0, R := RB }
noncomputable def XB0 : Cx := XB0c Try.prog
theorem XB0_ok (w : World) (E : Env) (hi : E.fi = FI pv) (hb : E.fb = FB) : XOk XB0 w E := xokR G3_ok enB0_ok LB0_ok RB_ok w E hi hb
end Go.Proofs.Ythggppjdapmgdaa
