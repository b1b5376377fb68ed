/- The context of the outer loop of the law of states of drawn boxes. -/
import Derived.Test.YthggppjdapmgdaaSt1
namespace Go.Proofs.Ythggppjdapmgdaa
set_option linter.unusedSimpArgs false
set_option linter.unusedVariables false
variable {pv : Int → Int → Int}
open Go.RowKit Eng
def LS1 : List LEnt := [l_sI]
theorem LS1_ok : ∀ e ∈ LS1, ∀ w, e.ok Try.prog w (FI pv) FB := by
  intro e he w
  simp only [LS1, List.mem_cons, List.not_mem_nil, or_false] at he
  rcases he with rfl
  · exact lok_sI w
def XS1c (P : Program) : Cx := { P := P, G := GS, en := enS, call := nil0, L := LS1, R := RE }
noncomputable def XS1 : Cx := XS1c Try.prog
theorem XS1_ok (w : World) (E : Env) (hi : E.fi = FI pv) (hb : E.fb = FB) : XOk XS1 w E := xokR GS_ok enS_ok LS1_ok RE_ok w E hi hb
end Go.Proofs.Ythggppjdapmgdaa
