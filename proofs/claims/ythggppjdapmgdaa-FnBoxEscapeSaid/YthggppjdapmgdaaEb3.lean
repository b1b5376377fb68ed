/- The context of the law of escapes of drawn boxes. -/
import Derived.Test.YthggppjdapmgdaaEb2
namespace Go.Proofs.Ythggppjdapmgdaa
set_option linter.unusedSimpArgs false
set_option linter.unusedVariables false
variable {pv : Int → Int → Int}
open Go.RowKit Eng
def LE2 : List LEnt := [l_bI, l_bO]
theorem LE2_ok : ∀ e ∈ LE2, ∀ w, e.ok Try.prog w (FI pv) FB := by
  intro e he w
  simp only [LE2, List.mem_cons, List.not_mem_nil, or_false] at he
  rcases he with rfl | rfl
  · exact lok_bI w
  · exact lok_bO w
def XE11c (P : Program) : Cx := { P := P, G := G9, en := enB, call := nil0, L := LE2, R := RE }
noncomputable def XE11 : Cx := XE11c Try.prog
theorem XE11_ok (w : World) (E : Env) (hi : E.fi = FI pv) (hb : E.fb = FB) : XOk XE11 w E := xokR G9_ok enB_ok LE2_ok RE_ok w E hi hb
end Go.Proofs.Ythggppjdapmgdaa
