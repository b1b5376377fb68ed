/- The context of laws that draw boxes: what is walked in place. -/
import Derived.Test.YthggppjdapmgdaaDrC
import Derived.Test.YthggppjdapmgdaaBoG
namespace Go.Proofs.Ythggppjdapmgdaa
set_option linter.unusedSimpArgs false
set_option linter.unusedVariables false
variable {pv : Int → Int → Int}
open Go.RowKit Eng
/-- Lowest terms. -/
def e_sLow : CEnt := ⟨93, [0, 0, 0], some (.app 104 0 (vs 3)), .cv (og (oapps 38 3 (vs 3)))⟩
theorem ok_sLow (w : World) : e_sLow.ok Try.prog w (FI pv) FB := by
  refine ⟨enters_of Try.func93 rfl (by kernel_rfl), fun zs hz hp w' hb => ?_⟩
  obtain ⟨r, i, s, rfl⟩ := len3 hz
  replace hp : (le60 r && le60 i && decide (0 ≤ s) && decide (s ≤ 120)) = true := hp _ rfl
  simp only [Bool.and_eq_true, le60_iff, decide_eq_true_eq] at hp
  exact l2Low_any r i s w' ⟨by omega, by omega⟩ ⟨by omega, by omega⟩ hp.1.2 (by omega)
def G5 : List CEnt := [e_sLow] ++ G3
theorem G5_ok : ∀ e ∈ G5, ∀ w, e.ok Try.prog w (FI pv) FB := by
  intro e he w
  rcases List.mem_append.1 he with he | he
  case inr => exact G3_ok e he w
  simp only [List.mem_cons, List.not_mem_nil, or_false] at he
  rcases he with rfl
  · exact ok_sLow w
def en5 : List Nat := [22, 21, 23, 24, 20, 35, 81, 56]
theorem en5_22 : Enters Try.prog 22 := enters_of Try.func22 rfl (by kernel_rfl)
theorem en5_21 : Enters Try.prog 21 := enters_of Try.func21 rfl (by kernel_rfl)
theorem en5_23 : Enters Try.prog 23 := enters_of Try.func23 rfl (by kernel_rfl)
theorem en5_24 : Enters Try.prog 24 := enters_of Try.func24 rfl (by kernel_rfl)
theorem en5_20 : Enters Try.prog 20 := enters_of Try.func20 rfl (by kernel_rfl)
theorem en5_35 : Enters Try.prog 35 := enters_of Try.func35 rfl (by kernel_rfl)
theorem en5_81 : Enters Try.prog 81 := enters_of Try.func81 rfl (by kernel_rfl)
theorem en5_56 : Enters Try.prog 56 := enters_of Try.func56 rfl (by kernel_rfl)
theorem en5_ok : ∀ f ∈ en5, Enters Try.prog f := by
  intro f hf
  simp only [en5, List.mem_cons, List.not_mem_nil, or_false] at hf
  rcases hf with rfl | rfl | rfl | rfl | rfl | rfl | rfl | rfl
  · exact en5_22
  · exact en5_21
  · exact en5_23
  · exact en5_24
  · exact en5_20
  · exact en5_35
  · exact en5_81
  · exact en5_56
def X5c (P : Program) : Cx := { P := P, G := G5, en := en5, call := nil0 }
noncomputable def X5 : Cx := X5c Try.prog
theorem X5_ok (w : World) (E : Env) (hi : E.fi = FI pv) (hb : E.fb = FB) : XOk X5 w E := xok G5_ok en5_ok w E hi hb
end Go.Proofs.Ythggppjdapmgdaa
