/- The context in which the reference's orbits of boxes are known. -/
import Derived.Test.YtjbpaejjpamcpaaEs1
namespace Go.Proofs.Ytjbpaejjpamcpaa
set_option linter.unusedSimpArgs false
set_option linter.unusedVariables false
variable {pv : Int → Int → Int}
open Go.RowKit Eng
def LE : List LEnt := [l_sEsc]
theorem LE_ok : ∀ e ∈ LE, ∀ w : World, e.ok Try.prog w (FI pv) FB := by
  intro e he w
  simp only [LE, List.mem_cons, List.not_mem_nil, or_false] at he
  rcases he with rfl
  · exact lok_sEsc w
def XE2c (P : Program) : Cx := { P := P, G := G3, en := enE, call := nil0, L := LE }
noncomputable def XE2 : Cx := XE2c Try.prog
theorem XE2_ok (w : World) (E : Env) (hi : E.fi = FI pv) (hb : E.fb = FB) : XOk XE2 w E := xokL G3_ok enE_ok LE_ok w E hi hb
end Go.Proofs.Ytjbpaejjpamcpaa
