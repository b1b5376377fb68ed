/- Digits: what the walks of laws over bytes use. -/
import Derived.Test.YtjpmpjcenajmbaaDoorMBj
import Derived.Test.YtjpmpjcenajmbaaDoorDrT
namespace Go.Proofs.YtjpmpjcenajmbaaDoor
set_option linter.unusedSimpArgs false
set_option linter.unusedVariables false
variable {pv : Int → Int → Int}
open Go.RowKit Eng
/-- In what is drawn both numbers' parts, changed for one another, are an exact number as well. -/
theorem DV_swap (r i s : Int) : DV i r s = DV r i s := by
  rw [Bool.eq_iff_iff, DV_iff, DV_iff]; omega
def enB6 : List Nat := [69, 59, 43, 15]
theorem enB6_69 : Enters Tryd.prog 69 := enters_of Tryd.func69 rfl (by kernel_rfl)
theorem enB6_59 : Enters Tryd.prog 59 := enters_of Tryd.func59 rfl (by kernel_rfl)
theorem enB6_43 : Enters Tryd.prog 43 := enters_of Tryd.func43 rfl (by kernel_rfl)
theorem enB6_15 : Enters Tryd.prog 15 := enters_of Tryd.func15 rfl (by kernel_rfl)
theorem enB6_ok : ∀ f ∈ enB6, Enters Tryd.prog f := by
  intro f hf
  simp only [enB6, List.mem_cons, List.not_mem_nil, or_false] at hf
  rcases hf with rfl | rfl | rfl | rfl
  · exact enB6_69
  · exact enB6_59
  · exact enB6_43
  · exact enB6_15
def XT4c (P : Program) : Cx := { P := P, G := GT3, en := enB6, call := nil0, L := [], R := [], ext := [] }
noncomputable def XT4 : Cx := XT4c Tryd.prog
theorem XT4_ok (w : World) (hT : Tb w) (E : Env) (hi : E.fi = FI pv) (hb : E.fb = FB) : XOk XT4 w E := xokT GT3_ok enB6_ok (fun _ h => by cases h) (fun _ h => by cases h) (fun _ h => by cases h) w hT E hi hb
end Go.Proofs.YtjpmpjcenajmbaaDoor
