/- The context of the outer loop of the law of orbits of drawn boxes. -/
import Derived.Test.YthggppjdapmgdaaBq1
namespace Go.Proofs.Ythggppjdapmgdaa
set_option linter.unusedSimpArgs false
set_option linter.unusedVariables false
variable {pv : Int → Int → Int}
open Go.RowKit Eng
def LQ1 : List LEnt := [l_qA, l_qI]
theorem LQ1_ok : ∀ e ∈ LQ1, ∀ w, e.ok Try.prog w (FI pv) FB := by
  intro e he w
  simp only [LQ1, List.mem_cons, List.not_mem_nil, or_false] at he
  rcases he with rfl | rfl
  · exact lok_qA w
  · exact lok_qI w
def XQ1c (P : Program) : Cx := { P := P, G := G3, en := enQ, call := nil0, L := LQ1, R := RQ }
noncomputable def XQ1 : Cx := XQ1c Try.prog
theorem XQ1_ok (w : World) (E : Env) (hi : E.fi = FI pv) (hb : E.fb = FB) : XOk XQ1 w E := xokR G3_ok enQ_ok LQ1_ok RQ_ok w E hi hb
end Go.Proofs.Ythggppjdapmgdaa
