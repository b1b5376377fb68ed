/- The context of the law of escapes of drawn boxes. -/
import Derived.Test.YthggppjdapmgdaaMEs
import Derived.Test.YthggppjdapmgdaaEbM
import Derived.Test.YthggppjdapmgdaaOr2
import Derived.Test.YthggppjdapmgdaaIns
import Derived.Test.YthggppjdapmgdaaDrC
namespace Go.Proofs.Ythggppjdapmgdaa
set_option linter.unusedSimpArgs false
set_option linter.unusedVariables false
variable {pv : Int → Int → Int}
open Go.RowKit Eng
def e_iNrm : CEnt := ⟨19, [3], none, .tup [.one (ai (.app 12 0 (vs 3))), .one (.bool (.app 3 0 (vs 3)))]⟩
theorem ok_iNrm (w : World) : e_iNrm.ok Try.prog w (FI pv) FB := by
  refine ⟨enters_of Try.func19 rfl (by kernel_rfl), fun zs hz hp w' hb => ?_⟩
  obtain ⟨r, i, s, rfl⟩ := len3 hz
  have e3 : FB 3 0 [r, i, s] = DV r i s := rfl
  cases h : DV r i s
  · refine (impl_DyadNorm_no r i s w' h).mono fun e w'' hg => ?_
    have e0 : FI pv 12 0 [r, i, s] = 0 := show FI0 12 0 [r, i, s] = 0 from if_neg (show ¬ DV r i s = true by rw [h]; decide)
    show Gives (.tuple #[.int .i64 (FI pv 12 0 [r, i, s]), .bool (FB 3 0 [r, i, s])]) _ _ _
    rw [e0, e3, h]; exact hg
  · refine (impl_DyadNorm_yes r i s w' h).mono fun e w'' hg => ?_
    have e0 : FI pv 12 0 [r, i, s] = NM r i s := if_pos h
    show Gives (.tuple #[.int .i64 (FI pv 12 0 [r, i, s]), .bool (FB 3 0 [r, i, s])]) _ _ _
    rw [e0, e3, h]; exact hg
def G9 : List CEnt := [e_iBoxEscape, e_sBoxEscape, e_iNrm] ++ G3
theorem G9_ok : ∀ e ∈ G9, ∀ w, e.ok Try.prog w (FI pv) FB := by
  intro e he w
  rcases List.mem_append.1 he with he | he
  case inr => exact G3_ok e he w
  simp only [List.mem_cons, List.not_mem_nil, or_false] at he
  rcases he with rfl | rfl | rfl
  · exact ok_iBoxEscape w
  · exact ok_sBoxEscape w
  · exact ok_iNrm w
def RE : List REnt := [r_iOrb, r_ins]
theorem RE_ok : ∀ e ∈ RE, ∀ w, e.ok Try.prog w (FI pv) FB := by
  intro e he w
  simp only [RE, List.mem_cons, List.not_mem_nil, or_false] at he
  rcases he with rfl | rfl
  · exact rok_iOrb w
  · exact rok_ins w
def LE0 : List LEnt := []
theorem LE0_ok : ∀ e ∈ LE0, ∀ w, e.ok Try.prog w (FI pv) FB := by
  intro e he w
  simp only [LE0, List.mem_cons, List.not_mem_nil, or_false] at he
def enB : List Nat := [56, 78, 44, 55]
theorem enB_56 : Enters Try.prog 56 := enters_of Try.func56 rfl (by kernel_rfl)
theorem enB_78 : Enters Try.prog 78 := enters_of Try.func78 rfl (by kernel_rfl)
theorem enB_44 : Enters Try.prog 44 := enters_of Try.func44 rfl (by kernel_rfl)
theorem enB_55 : Enters Try.prog 55 := enters_of Try.func55 rfl (by kernel_rfl)
theorem enB_ok : ∀ f ∈ enB, Enters Try.prog f := by
  intro f hf
  simp only [enB, List.mem_cons, List.not_mem_nil, or_false] at hf
  rcases hf with rfl | rfl | rfl | rfl
  · exact enB_56
  · exact enB_78
  · exact enB_44
  · exact enB_55
def XE9c (P : Program) : Cx := { P := P, G := G9, en := enB, call := nil0, L := LE0, R := RE }
noncomputable def XE9 : Cx := XE9c Try.prog
theorem XE9_ok (w : World) (E : Env) (hi : E.fi = FI pv) (hb : E.fb = FB) : XOk XE9 w E := xokR G9_ok enB_ok LE0_ok RE_ok w E hi hb
end Go.Proofs.Ythggppjdapmgdaa
