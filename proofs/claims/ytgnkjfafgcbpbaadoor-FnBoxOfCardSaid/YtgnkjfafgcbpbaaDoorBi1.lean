/- The reference's count of digits: its loops and its contract. -/
import Derived.Test.YtgnkjfafgcbpbaaDoorBi0
import Derived.Test.YtgnkjfafgcbpbaaDoorLoop
namespace Go.Proofs.YtgnkjfafgcbpbaaDoor
set_option linter.unusedSimpArgs false
set_option linter.unusedVariables false
variable {pv : Int → Int → Int}
open Go.RowKit Eng
theorem tdiv2 {n : Int} (h : 0 ≤ n) : n.tdiv 2 = n / 2 := Int.tdiv_eq_ediv_of_nonneg h
def LB : List LEnt := []
theorem LB_ok : ∀ e ∈ LB, ∀ w : World, e.ok Tryd.prog w (FI pv) FB := by
  intro e he w
  simp only [LB, List.mem_cons, List.not_mem_nil, or_false] at he
def XB1c (P : Program) : Cx := { P := P, G := G2, en := enB0, call := nil0, L := LB }
noncomputable def XB1 : Cx := XB1c Tryd.prog
theorem XB1_ok (w : World) (E : Env) (hi : E.fi = FI pv) (hb : E.fb = FB) : XOk XB1 w E := xokL G2_ok enB0_ok LB_ok w E hi hb
end Go.Proofs.YtgnkjfafgcbpbaaDoor
