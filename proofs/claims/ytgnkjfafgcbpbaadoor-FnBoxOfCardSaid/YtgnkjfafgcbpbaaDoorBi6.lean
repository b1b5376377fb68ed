/- Digits: what the walks of laws over bytes use. -/
import Derived.Test.YtgnkjfafgcbpbaaDoorBi5
import Derived.Test.YtgnkjfafgcbpbaaDoorDrT
namespace Go.Proofs.YtgnkjfafgcbpbaaDoor
set_option linter.unusedSimpArgs false
set_option linter.unusedVariables false
variable {pv : Int → Int → Int}
open Go.RowKit Eng
/-- In what is drawn both numbers' parts, changed for one another, are an exact number as well. -/
theorem DV_swap (r i s : Int) : DV i r s = DV r i s := by
  rw [Bool.eq_iff_iff, DV_iff, DV_iff]; omega
def enB6 : List Nat := [47, 41, 15, 21, 26, 9]
theorem enB6_47 : Enters Tryd.prog 47 := enters_of Tryd.func47 rfl (by kernel_rfl)
theorem enB6_41 : Enters Tryd.prog 41 := enters_of Tryd.func41 rfl (by kernel_rfl)
theorem enB6_15 : Enters Tryd.prog 15 := enters_of Tryd.func15 rfl (by kernel_rfl)
theorem enB6_21 : Enters Tryd.prog 21 := enters_of Tryd.func21 rfl (by kernel_rfl)
theorem enB6_26 : Enters Tryd.prog 26 := enters_of Tryd.func26 rfl (by kernel_rfl)
theorem enB6_9 : Enters Tryd.prog 9 := enters_of Tryd.func9 rfl (by kernel_rfl)
theorem enB6_ok : ∀ f ∈ enB6, Enters Tryd.prog f := by
  intro f hf
  simp only [enB6, List.mem_cons, List.not_mem_nil, or_false] at hf
  rcases hf with rfl | rfl | rfl | rfl | rfl | rfl
  · exact enB6_47
  · exact enB6_41
  · exact enB6_15
  · exact enB6_21
  · exact enB6_26
  · exact enB6_9
def XT4c (P : Program) : Cx := { P := P, G := GT3, en := enB6, call := nil0, L := [], R := [], ext := [] }
noncomputable def XT4 : Cx := XT4c Tryd.prog
theorem XT4_ok (w : World) (hT : Tb w) (E : Env) (hi : E.fi = FI pv) (hb : E.fb = FB) : XOk XT4 w E := xokT GT3_ok enB6_ok (fun _ h => by cases h) (fun _ h => by cases h) (fun _ h => by cases h) w hT E hi hb
end Go.Proofs.YtgnkjfafgcbpbaaDoor
