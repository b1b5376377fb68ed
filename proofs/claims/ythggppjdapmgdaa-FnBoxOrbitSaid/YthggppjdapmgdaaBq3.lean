/- The context of the law of orbits of drawn boxes. -/
import Derived.Test.YthggppjdapmgdaaBq2
namespace Go.Proofs.Ythggppjdapmgdaa
set_option linter.unusedSimpArgs false
set_option linter.unusedVariables false
variable {pv : Int → Int → Int}
open Go.RowKit Eng
def LQ2 : List LEnt := [l_qA, l_qI, l_qO]
theorem LQ2_ok : ∀ e ∈ LQ2, ∀ w, e.ok Try.prog w (FI pv) FB := by
  intro e he w
  simp only [LQ2, List.mem_cons, List.not_mem_nil, or_false] at he
  rcases he with rfl | rfl | rfl
  · exact lok_qA w
  · exact lok_qI w
  · exact lok_qO w
def XQ2c (P : Program) : Cx := { P := P, G := G3, en := enQ, call := nil0, L := LQ2, R := RQ }
noncomputable def XQ2 : Cx := XQ2c Try.prog
theorem XQ2_ok (w : World) (E : Env) (hi : E.fi = FI pv) (hb : E.fb = FB) : XOk XQ2 w E := xokR G3_ok enQ_ok LQ2_ok RQ_ok w E hi hb
end Go.Proofs.Ythggppjdapmgdaa
