/- The context of the law of states of drawn numbers. -/
import Derived.Test.YthggppjdapmgdaaDs1
namespace Go.Proofs.Ythggppjdapmgdaa
set_option linter.unusedSimpArgs false
set_option linter.unusedVariables false
variable {pv : Int → Int → Int}
open Go.RowKit Eng
def LD1 : List LEnt := [l_wI]
theorem LD1_ok : ∀ e ∈ LD1, ∀ w, e.ok Try.prog w (FI pv) FB := by
  intro e he w
  simp only [LD1, List.mem_cons, List.not_mem_nil, or_false] at he
  rcases he with rfl
  · exact lok_wI w
def XD7c (P : Program) : Cx := { P := P, G := GD, en := enDs, call := nil0, L := LD1, R := RD1 }
noncomputable def XD7 : Cx := XD7c Try.prog
theorem XD7_ok (w : World) (E : Env) (hi : E.fi = FI pv) (hb : E.fb = FB) : XOk XD7 w E := xokR GD_ok enDs_ok LD1_ok RD1_ok w E hi hb
end Go.Proofs.Ythggppjdapmgdaa
