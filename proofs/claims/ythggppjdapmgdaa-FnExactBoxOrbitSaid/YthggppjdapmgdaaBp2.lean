/- The context of the law of exact orbits of boxes. -/
import Derived.Test.YthggppjdapmgdaaBp1
namespace Go.Proofs.Ythggppjdapmgdaa
set_option linter.unusedSimpArgs false
set_option linter.unusedVariables false
variable {pv : Int → Int → Int}
open Go.RowKit Eng
def LB1 : List LEnt := [l_qb1, l_mb1, l_hb1, l_qb2, l_hb2]
theorem LB1_ok : ∀ e ∈ LB1, ∀ w, e.ok Try.prog w (FI pv) FB := by
  intro e he w
  simp only [LB1, List.mem_cons, List.not_mem_nil, or_false] at he
  rcases he with rfl | rfl | rfl | rfl | rfl
  · exact lok_qb1 w
  · exact lok_mb1 w
  · exact lok_hb1 w
  · exact lok_qb2 w
  · exact lok_hb2 w
def XB1c (P : Program) : Cx := { P := P, G := G3, en := enB0, call := nil0, L := LB1, R := RB }
noncomputable def XB1 : Cx := XB1c Try.prog
theorem XB1_ok (w : World) (E : Env) (hi : E.fi = FI pv) (hb : E.fb = FB) : XOk XB1 w E := xokR G3_ok enB0_ok LB1_ok RB_ok w E hi hb
end Go.Proofs.Ythggppjdapmgdaa
