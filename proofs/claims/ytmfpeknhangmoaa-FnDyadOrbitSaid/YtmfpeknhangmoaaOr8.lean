/- The context of the law of exact steps. -/
import Derived.Test.YtmfpeknhangmoaaOr7
namespace Go.Proofs.Ytmfpeknhangmoaa
set_option linter.unusedSimpArgs false
set_option linter.unusedVariables false
variable {pv : Int → Int → Int}
open Go.RowKit Eng
def LR3 : List LEnt := [l_dA, l_dB, l_dC]
theorem LR3_ok : ∀ e ∈ LR3, ∀ w, e.ok Try.prog w (FI pv) FB := by
  intro e he w
  simp only [LR3, List.mem_cons, List.not_mem_nil, or_false] at he
  rcases he with rfl | rfl | rfl
  · exact lok_dA w
  · exact lok_dB w
  · exact lok_dC w
def XR3c (P : Program) : Cx := { P := P, G := D1, en := enR2, call := nil0, L := LR3, R := RDd }
noncomputable def XR3 : Cx := XR3c Try.prog
theorem XR3_ok (w : World) (E : Env) (hi : E.fi = FI pv) (hb : E.fb = FB) : XOk XR3 w E := xokR D1_ok enR2_ok LR3_ok RDd_ok w E hi hb
end Go.Proofs.Ytmfpeknhangmoaa
