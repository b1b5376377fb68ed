/- The context in which the states of exact numbers are known. -/
import Derived.Test.YthggppjdapmgdaaEs7
namespace Go.Proofs.Ythggppjdapmgdaa
set_option linter.unusedSimpArgs false
set_option linter.unusedVariables false
variable {pv : Int → Int → Int}
open Go.RowKit Eng
def G6 : List CEnt := [e_iDyadState, e_sDyadState] ++ G5
theorem G6_ok : ∀ e ∈ G6, ∀ w, e.ok Try.prog w (FI pv) FB := by
  intro e he w
  rcases List.mem_append.1 he with he | he
  case inr => exact G5_ok e he w
  simp only [List.mem_cons, List.not_mem_nil, or_false] at he
  rcases he with rfl | rfl
  · exact ok_iDyadState w
  · exact ok_sDyadState w
def X6c (P : Program) : Cx := { P := P, G := G6, en := en3, call := nil0 }
noncomputable def X6 : Cx := X6c Try.prog
theorem X6_ok (w : World) (E : Env) (hi : E.fi = FI pv) (hb : E.fb = FB) : XOk X6 w E := xok G6_ok en3_ok w E hi hb
end Go.Proofs.Ythggppjdapmgdaa
