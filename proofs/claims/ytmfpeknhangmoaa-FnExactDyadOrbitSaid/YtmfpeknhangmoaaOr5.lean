/- The context of the law of exact orbits. -/
import Derived.Test.YtmfpeknhangmoaaOr4
namespace Go.Proofs.Ytmfpeknhangmoaa
set_option linter.unusedSimpArgs false
set_option linter.unusedVariables false
variable {pv : Int → Int → Int}
open Go.RowKit Eng
def LR1 : List LEnt := [l_eq1, l_mk1, l_hl1, l_eq2, l_hl2]
theorem LR1_ok : ∀ e ∈ LR1, ∀ w, e.ok Try.prog w (FI pv) FB := by
  intro e he w
  simp only [LR1, List.mem_cons, List.not_mem_nil, or_false] at he
  rcases he with rfl | rfl | rfl | rfl | rfl
  · exact lok_eq1 w
  · exact lok_mk1 w
  · exact lok_hl1 w
  · exact lok_eq2 w
  · exact lok_hl2 w
def XR1c (P : Program) : Cx := { P := P, G := D1, en := enR, call := nil0, L := LR1, R := RD }
noncomputable def XR1 : Cx := XR1c Try.prog
theorem XR1_ok (w : World) (E : Env) (hi : E.fi = FI pv) (hb : E.fb = FB) : XOk XR1 w E := xokR D1_ok enR_ok LR1_ok RD_ok w E hi hb
end Go.Proofs.Ytmfpeknhangmoaa
