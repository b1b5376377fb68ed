/- The context of laws on sums of numbers in drawn boxes. -/
import Derived.Test.YtdgfipdlfgcfeaaBoP2
import Derived.Test.YtdgfipdlfgcfeaaDyW6
namespace Go.Proofs.Ytdgfipdlfgcfeaa
set_option linter.unusedSimpArgs false
set_option linter.unusedVariables false
variable {pv : Int → Int → Int}
open Go.RowKit Eng
def e_iAdd : CEnt := ⟨47, [3, 3], none, .tup [og (oapps 5 3 (vs 6)), .one (.bool (.app 5 0 (vs 6)))]⟩
theorem ok_iAdd (w : World) : e_iAdd.ok Try.prog w (FI pv) FB := by
  refine ⟨enters_of Try.func47 rfl (by kernel_rfl), fun zs hz hp w' hb => ?_⟩
  obtain ⟨r, i, s, x, y, t, rfl⟩ := len6 hz
  refine (impl_DyadAdd_any r i s x y t w').mono fun e w'' hg => ?_
  have e3 : FB 5 0 [r, i, s, x, y, t] = ADD r i s x y t := rfl
  cases h : ADD r i s x y t
  · rw [ADV_no h] at hg
    have hn : ¬ ADD r i s x y t = true := by rw [h]; decide
    have e0 : FI pv 5 0 [r, i, s, x, y, t] = 0 := if_neg hn
    have e1 : FI pv 5 1 [r, i, s, x, y, t] = 0 := if_neg hn
    have e2 : FI pv 5 2 [r, i, s, x, y, t] = 0 := if_neg hn
    show Gives (.tuple #[.agg #[.int .i64 (FI pv 5 0 [r, i, s, x, y, t]), .int .i64 (FI pv 5 1 [r, i, s, x, y, t]), .int .i64 (FI pv 5 2 [r, i, s, x, y, t])], .bool (FB 5 0 [r, i, s, x, y, t])]) _ _ _
    rw [e0, e1, e2, e3, h]; exact hg
  · rw [ADV_yes h] at hg
    have e0 : FI pv 5 0 [r, i, s, x, y, t] = lR (AP r s x t) (AP i s y t) (max s t) := if_pos h
    have e1 : FI pv 5 1 [r, i, s, x, y, t] = lI (AP r s x t) (AP i s y t) (max s t) := if_pos h
    have e2 : FI pv 5 2 [r, i, s, x, y, t] = lS (AP r s x t) (AP i s y t) (max s t) := if_pos h
    show Gives (.tuple #[.agg #[.int .i64 (FI pv 5 0 [r, i, s, x, y, t]), .int .i64 (FI pv 5 1 [r, i, s, x, y, t]), .int .i64 (FI pv 5 2 [r, i, s, x, y, t])], .bool (FB 5 0 [r, i, s, x, y, t])]) _ _ _
    rw [e0, e1, e2, e3, h]; exact hg
def G7 : List CEnt := [e_iAdd] ++ G6
theorem G7_ok : ∀ e ∈ G7, ∀ w, e.ok Try.prog w (FI pv) FB := by
  intro e he w
  rcases List.mem_append.1 he with he | he
  case inr => exact G6_ok e he w
  simp only [List.mem_cons, List.not_mem_nil, or_false] at he
  rcases he with rfl
  · exact ok_iAdd w
def X7c (P : Program) : Cx := { P := P, G := G7, en := en5, call := nil0 }
noncomputable def X7 : Cx := X7c Try.prog
theorem X7_ok (w : World) (E : Env) (hi : E.fi = FI pv) (hb : E.fb = FB) : XOk X7 w E := xok G7_ok en5_ok w E hi hb
end Go.Proofs.Ytdgfipdlfgcfeaa
