/- The context in which orbits of exact numbers are drawn and known. -/
import Derived.Test.YtmfpeknhangmoaaOr2
import Derived.Test.YtmfpeknhangmoaaDrC
namespace Go.Proofs.Ytmfpeknhangmoaa
set_option linter.unusedSimpArgs false
set_option linter.unusedVariables false
variable {pv : Int → Int → Int}
open Go.RowKit Eng
def RDd : List REnt := [r_iOrb, r_sOrb]
theorem RDd_ok : ∀ e ∈ RDd, ∀ w, e.ok Try.prog w (FI pv) FB := by
  intro e he w
  simp only [RDd, List.mem_cons, List.not_mem_nil, or_false] at he
  rcases he with rfl | rfl
  · exact rok_iOrb w
  · exact rok_sOrb w
def LR2 : List LEnt := []
theorem LR2_ok : ∀ e ∈ LR2, ∀ w, e.ok Try.prog w (FI pv) FB := by
  intro e he w
  simp only [LR2, List.mem_cons, List.not_mem_nil, or_false] at he
def enR2 : List Nat := [19, 29, 25, 22]
theorem enR2_19 : Enters Try.prog 19 := enters_of Try.func19 rfl (by kernel_rfl)
theorem enR2_29 : Enters Try.prog 29 := enters_of Try.func29 rfl (by kernel_rfl)
theorem enR2_25 : Enters Try.prog 25 := enters_of Try.func25 rfl (by kernel_rfl)
theorem enR2_22 : Enters Try.prog 22 := enters_of Try.func22 rfl (by kernel_rfl)
theorem enR2_ok : ∀ f ∈ enR2, Enters Try.prog f := by
  intro f hf
  simp only [enR2, List.mem_cons, List.not_mem_nil, or_false] at hf
  rcases hf with rfl | rfl | rfl | rfl
  · exact enR2_19
  · exact enR2_29
  · exact enR2_25
  · exact enR2_22
def XR2c (P : Program) : Cx := { P := P, G := D1, en := enR2, call := nil0, L := LR2, R := RDd }
noncomputable def XR2 : Cx := XR2c Try.prog
theorem XR2_ok (w : World) (E : Env) (hi : E.fi = FI pv) (hb : E.fb = FB) : XOk XR2 w E := xokR D1_ok enR2_ok LR2_ok RDd_ok w E hi hb
end Go.Proofs.Ytmfpeknhangmoaa
