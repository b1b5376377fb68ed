/- The context in which orbits of drawn boxes and of their numbers are known. -/
import Derived.Test.YthggppjdapmgdaaBo9
import Derived.Test.YthggppjdapmgdaaOr2
import Derived.Test.YthggppjdapmgdaaIns
import Derived.Test.YthggppjdapmgdaaDrC
namespace Go.Proofs.Ythggppjdapmgdaa
set_option linter.unusedSimpArgs false
set_option linter.unusedVariables false
variable {pv : Int → Int → Int}
open Go.RowKit Eng
def RQ : List REnt := [r_iBOrb, r_sBOrb, r_iOrb, r_ins]
theorem RQ_ok : ∀ e ∈ RQ, ∀ w, e.ok Try.prog w (FI pv) FB := by
  intro e he w
  simp only [RQ, List.mem_cons, List.not_mem_nil, or_false] at he
  rcases he with rfl | rfl | rfl | rfl
  · exact rok_iBOrb w
  · exact rok_sBOrb w
  · exact rok_iOrb w
  · exact rok_ins w
def LQ0 : List LEnt := []
theorem LQ0_ok : ∀ e ∈ LQ0, ∀ w, e.ok Try.prog w (FI pv) FB := by
  intro e he w
  simp only [LQ0, List.mem_cons, List.not_mem_nil, or_false] at he
def enQ : List Nat := [56, 78, 23, 42, 44, 55]
theorem enQ_56 : Enters Try.prog 56 := enters_of Try.func56 rfl (by kernel_rfl)
theorem enQ_78 : Enters Try.prog 78 := enters_of Try.func78 rfl (by kernel_rfl)
theorem enQ_23 : Enters Try.prog 23 := enters_of Try.func23 rfl (by kernel_rfl)
theorem enQ_42 : Enters Try.prog 42 := enters_of Try.func42 rfl (by kernel_rfl)
theorem enQ_44 : Enters Try.prog 44 := enters_of Try.func44 rfl (by kernel_rfl)
theorem enQ_55 : Enters Try.prog 55 := enters_of Try.func55 rfl (by kernel_rfl)
theorem enQ_ok : ∀ f ∈ enQ, Enters Try.prog f := by
  intro f hf
  simp only [enQ, List.mem_cons, List.not_mem_nil, or_false] at hf
  rcases hf with rfl | rfl | rfl | rfl | rfl | rfl
  · exact enQ_56
  · exact enQ_78
  · exact enQ_23
  · exact enQ_42
  · exact enQ_44
  · exact enQ_55
def XQ0c (P : Program) : Cx := { P := P, G := G3, en := enQ, call := nil0, L := LQ0, R := RQ }
noncomputable def XQ0 : Cx := XQ0c Try.prog
theorem XQ0_ok (w : World) (E : Env) (hi : E.fi = FI pv) (hb : E.fb = FB) : XOk XQ0 w E := xokR G3_ok enQ_ok LQ0_ok RQ_ok w E hi hb
end Go.Proofs.Ythggppjdapmgdaa
