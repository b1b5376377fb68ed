/- Digits: what the walks of laws over bytes use. -/
import Derived.Test.YtmfpeknhangmoaaDoorBi5
import Derived.Test.YtmfpeknhangmoaaDoorDrT
namespace Go.Proofs.YtmfpeknhangmoaaDoor
set_option linter.unusedSimpArgs false
set_option linter.unusedVariables false
variable {pv : Int → Int → Int}
open Go.RowKit Eng
/-- In what is drawn both numbers' parts, changed for one another, are an exact number as well. -/
theorem DV_swap (r i s : Int) : DV i r s = DV r i s := by
  rw [Bool.eq_iff_iff, DV_iff, DV_iff]; omega
def enB6 : List Nat := [16, 17, 15, 8]
theorem enB6_16 : Enters Tryd.prog 16 := enters_of Tryd.func16 rfl (by kernel_rfl)
theorem enB6_17 : Enters Tryd.prog 17 := enters_of Tryd.func17 rfl (by kernel_rfl)
theorem enB6_15 : Enters Tryd.prog 15 := enters_of Tryd.func15 rfl (by kernel_rfl)
theorem enB6_8 : Enters Tryd.prog 8 := enters_of Tryd.func8 rfl (by kernel_rfl)
theorem enB6_ok : ∀ f ∈ enB6, Enters Tryd.prog f := by
  intro f hf
  simp only [enB6, List.mem_cons, List.not_mem_nil, or_false] at hf
  rcases hf with rfl | rfl | rfl | rfl
  · exact enB6_16
  · exact enB6_17
  · exact enB6_15
  · exact enB6_8
def XT4c (P : Program) : Cx := { P := P, G := GT3, en := enB6, call := nil0, L := [], R := [], ext := [] }
noncomputable def XT4 : Cx := XT4c Tryd.prog
theorem XT4_ok (w : World) (hT : Tb w) (E : Env) (hi : E.fi = FI pv) (hb : E.fb = FB) : XOk XT4 w E := xokT GT3_ok enB6_ok (fun _ h => by cases h) (fun _ h => by cases h) (fun _ h => by cases h) w hT E hi hb
end Go.Proofs.YtmfpeknhangmoaaDoor
