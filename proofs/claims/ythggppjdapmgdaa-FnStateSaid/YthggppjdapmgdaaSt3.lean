/- The context of the law of states of drawn boxes. -/
import Derived.Test.YthggppjdapmgdaaSt2
namespace Go.Proofs.Ythggppjdapmgdaa
set_option linter.unusedSimpArgs false
set_option linter.unusedVariables false
variable {pv : Int → Int → Int}
open Go.RowKit Eng
def LS2 : List LEnt := [l_sI, l_sO]
theorem LS2_ok : ∀ e ∈ LS2, ∀ w, e.ok Try.prog w (FI pv) FB := by
  intro e he w
  simp only [LS2, List.mem_cons, List.not_mem_nil, or_false] at he
  rcases he with rfl | rfl
  · exact lok_sI w
  · exact lok_sO w
def XS2c (P : Program) : Cx := { P := P, G := GS, en := enS, call := nil0, L := LS2, R := RE }
noncomputable def XS2 : Cx := XS2c Try.prog
theorem XS2_ok (w : World) (E : Env) (hi : E.fi = FI pv) (hb : E.fb = FB) : XOk XS2 w E := xokR GS_ok enS_ok LS2_ok RE_ok w E hi hb
end Go.Proofs.Ythggppjdapmgdaa
