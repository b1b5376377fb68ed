/- The context of laws on squares and norms of numbers in drawn boxes. -/
import Derived.Test.YthggppjdapmgdaaBoP2
import Derived.Test.YthggppjdapmgdaaDyW3
namespace Go.Proofs.Ythggppjdapmgdaa
set_option linter.unusedSimpArgs false
set_option linter.unusedVariables false
variable {pv : Int → Int → Int}
open Go.RowKit Eng
def e_iSq : CEnt := ⟨37, [3], none, .tup [og (oapps 11 3 (vs 3)), .one (.bool (.app 11 0 (vs 3)))]⟩
theorem ok_iSq (w : World) : e_iSq.ok Try.prog w (FI pv) FB := by
  refine ⟨enters_of Try.func37 rfl (by kernel_rfl), fun zs hz hp w' hb => ?_⟩
  obtain ⟨r, i, s, rfl⟩ := len3 hz
  have e3 : FB 11 0 [r, i, s] = SQ r i s := rfl
  cases h : SQ r i s
  · refine (impl_DyadSquare_no r i s w' h).mono fun e w'' hg => ?_
    have hn : ¬ SQ r i s = true := by rw [h]; decide
    have e0 : FI pv 11 0 [r, i, s] = 0 := if_neg hn
    have e1 : FI pv 11 1 [r, i, s] = 0 := if_neg hn
    have e2 : FI pv 11 2 [r, i, s] = 0 := if_neg hn
    show Gives (.tuple #[.agg #[.int .i64 (FI pv 11 0 [r, i, s]), .int .i64 (FI pv 11 1 [r, i, s]), .int .i64 (FI pv 11 2 [r, i, s])], .bool (FB 11 0 [r, i, s])]) _ _ _
    rw [e0, e1, e2, e3, h]; exact hg
  · refine (impl_DyadSquare_yes r i s w' h).mono fun e w'' hg => ?_
    have e0 : FI pv 11 0 [r, i, s] = lR (SR r i) (SI r i) (2 * s) := if_pos h
    have e1 : FI pv 11 1 [r, i, s] = lI (SR r i) (SI r i) (2 * s) := if_pos h
    have e2 : FI pv 11 2 [r, i, s] = lS (SR r i) (SI r i) (2 * s) := if_pos h
    show Gives (.tuple #[.agg #[.int .i64 (FI pv 11 0 [r, i, s]), .int .i64 (FI pv 11 1 [r, i, s]), .int .i64 (FI pv 11 2 [r, i, s])], .bool (FB 11 0 [r, i, s])]) _ _ _
    rw [e0, e1, e2, e3, h]; exact hg
def e_iNrm : CEnt := ⟨19, [3], none, .tup [.one (ai (.app 12 0 (vs 3))), .one (.bool (.app 3 0 (vs 3)))]⟩
theorem ok_iNrm (w : World) : e_iNrm.ok Try.prog w (FI pv) FB := by
  refine ⟨enters_of Try.func19 rfl (by kernel_rfl), fun zs hz hp w' hb => ?_⟩
  obtain ⟨r, i, s, rfl⟩ := len3 hz
  have e3 : FB 3 0 [r, i, s] = DV r i s := rfl
  cases h : DV r i s
  · refine (impl_DyadNorm_no r i s w' h).mono fun e w'' hg => ?_
    have e0 : FI pv 12 0 [r, i, s] = 0 := show FI0 12 0 [r, i, s] = 0 from if_neg (show ¬ DV r i s = true by rw [h]; decide)
    show Gives (.tuple #[.int .i64 (FI pv 12 0 [r, i, s]), .bool (FB 3 0 [r, i, s])]) _ _ _
    rw [e0, e3, h]; exact hg
  · refine (impl_DyadNorm_yes r i s w' h).mono fun e w'' hg => ?_
    have e0 : FI pv 12 0 [r, i, s] = NM r i s := if_pos h
    show Gives (.tuple #[.int .i64 (FI pv 12 0 [r, i, s]), .bool (FB 3 0 [r, i, s])]) _ _ _
    rw [e0, e3, h]; exact hg
def G8 : List CEnt := [e_iSq, e_iNrm] ++ G6
theorem G8_ok : ∀ e ∈ G8, ∀ w, e.ok Try.prog w (FI pv) FB := by
  intro e he w
  rcases List.mem_append.1 he with he | he
  case inr => exact G6_ok e he w
  simp only [List.mem_cons, List.not_mem_nil, or_false] at he
  rcases he with rfl | rfl
  · exact ok_iSq w
  · exact ok_iNrm w
def X8c (P : Program) : Cx := { P := P, G := G8, en := en5, call := nil0 }
noncomputable def X8 : Cx := X8c Try.prog
theorem X8_ok (w : World) (E : Env) (hi : E.fi = FI pv) (hb : E.fb = FB) : XOk X8 w E := xok G8_ok en5_ok w E hi hb
end Go.Proofs.Ythggppjdapmgdaa
