/- The context of the law of states of drawn boxes. -/
import Derived.Test.YthggppjdapmgdaaEs6
import Derived.Test.YthggppjdapmgdaaEb0
namespace Go.Proofs.Ythggppjdapmgdaa
set_option linter.unusedSimpArgs false
set_option linter.unusedVariables false
variable {pv : Int → Int → Int}
open Go.RowKit Eng
def GS : List CEnt := [e_iCellState, e_sCellState, e_iNrm] ++ GE4
theorem GS_ok : ∀ e ∈ GS, ∀ w, e.ok Try.prog w (FI pv) FB := by
  intro e he w
  rcases List.mem_append.1 he with he | he
  case inr => exact GE4_ok e he w
  simp only [List.mem_cons, List.not_mem_nil, or_false] at he
  rcases he with rfl | rfl | rfl
  · exact ok_iCellState w
  · exact ok_sCellState w
  · exact ok_iNrm w
def LS0 : List LEnt := []
theorem LS0_ok : ∀ e ∈ LS0, ∀ w, e.ok Try.prog w (FI pv) FB := by
  intro e he w
  simp only [LS0, List.mem_cons, List.not_mem_nil, or_false] at he
def enS : List Nat := [56, 78, 44, 52, 55]
theorem enS_56 : Enters Try.prog 56 := enters_of Try.func56 rfl (by kernel_rfl)
theorem enS_78 : Enters Try.prog 78 := enters_of Try.func78 rfl (by kernel_rfl)
theorem enS_44 : Enters Try.prog 44 := enters_of Try.func44 rfl (by kernel_rfl)
theorem enS_52 : Enters Try.prog 52 := enters_of Try.func52 rfl (by kernel_rfl)
theorem enS_55 : Enters Try.prog 55 := enters_of Try.func55 rfl (by kernel_rfl)
theorem enS_ok : ∀ f ∈ enS, Enters Try.prog f := by
  intro f hf
  simp only [enS, List.mem_cons, List.not_mem_nil, or_false] at hf
  rcases hf with rfl | rfl | rfl | rfl | rfl
  · exact enS_56
  · exact enS_78
  · exact enS_44
  · exact enS_52
  · exact enS_55
def XS0c (P : Program) : Cx := { P := P, G := GS, en := enS, call := nil0, L := LS0, R := RE }
noncomputable def XS0 : Cx := XS0c Try.prog
theorem XS0_ok (w : World) (E : Env) (hi : E.fi = FI pv) (hb : E.fb = FB) : XOk XS0 w E := xokR GS_ok enS_ok LS0_ok RE_ok w E hi hb
end Go.Proofs.Ythggppjdapmgdaa
