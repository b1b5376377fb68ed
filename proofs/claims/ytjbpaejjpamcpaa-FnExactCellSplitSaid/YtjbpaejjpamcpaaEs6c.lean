/- The context of the states of boxes. -/
import Derived.Test.YtjbpaejjpamcpaaEs5
namespace Go.Proofs.Ytjbpaejjpamcpaa
set_option linter.unusedSimpArgs false
set_option linter.unusedVariables false
variable {pv : Int → Int → Int}
open Go.RowKit Eng
/-- Where a box wholly escapes: nowhere, or at an index. -/
theorem esc_rng (m c0 c1 c2 c3 : Int) : ∀ (n : Nat) (f k z0 z1 z2 z3 : Int), 0 ≤ k → (esc m c0 c1 c2 c3 n f k z0 z1 z2 z3).2.2 = -1 ∨ 0 ≤ (esc m c0 c1 c2 c3 n f k z0 z1 z2 z3).2.2
  | 0, _, _, _, _, _, _, _ => by simp [esc]
  | n + 1, f, k, z0, z1, z2, z3, hk => by
    unfold esc
    split
    · split
      · exact Or.inr hk
      · split
        · exact esc_rng m c0 c1 c2 c3 n _ _ _ _ _ _ (by omega)
        · simp
    · simp
theorem escW_rng (a b c d m : Int) : escW a b c d m = -1 ∨ 0 ≤ escW a b c d m := esc_rng m a b c d 402 (-1) 0 0 0 0 0 (by omega)
def GE4 : List CEnt := [e_iBoxEscape, e_sBoxEscape] ++ G3
theorem GE4_ok : ∀ e ∈ GE4, ∀ w : World, e.ok Try.prog w (FI pv) FB := by
  intro e he w
  rcases List.mem_append.1 he with he | he
  case inr => exact G3_ok e he w
  simp only [List.mem_cons, List.not_mem_nil, or_false] at he
  rcases he with rfl | rfl
  · exact ok_iBoxEscape w
  · exact ok_sBoxEscape w
def XE4c (P : Program) : Cx := { P := P, G := GE4, en := en3, call := nil0 }
noncomputable def XE4 : Cx := XE4c Try.prog
theorem XE4_ok (w : World) (E : Env) (hi : E.fi = FI pv) (hb : E.fb = FB) : XOk XE4 w E := xok GE4_ok en3_ok w E hi hb
end Go.Proofs.Ytjbpaejjpamcpaa
