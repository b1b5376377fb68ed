/- The context of the outer loop of the law of escapes of drawn boxes. -/
import Derived.Test.YthggppjdapmgdaaEb1
namespace Go.Proofs.Ythggppjdapmgdaa
set_option linter.unusedSimpArgs false
set_option linter.unusedVariables false
variable {pv : Int → Int → Int}
open Go.RowKit Eng
def LE1 : List LEnt := [l_bI]
theorem LE1_ok : ∀ e ∈ LE1, ∀ w, e.ok Try.prog w (FI pv) FB := by
  intro e he w
  simp only [LE1, List.mem_cons, List.not_mem_nil, or_false] at he
  rcases he with rfl
  · exact lok_bI w
def XE10c (P : Program) : Cx := { P := P, G := G9, en := enB, call := nil0, L := LE1, R := RE }
noncomputable def XE10 : Cx := XE10c Try.prog
theorem XE10_ok (w : World) (E : Env) (hi : E.fi = FI pv) (hb : E.fb = FB) : XOk XE10 w E := xokR G9_ok enB_ok LE1_ok RE_ok w E hi hb
end Go.Proofs.Ythggppjdapmgdaa
