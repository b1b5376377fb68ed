/- Plain laws on boxes. -/
import Derived.Test.YtjbpaejjpamcpaaKit
namespace Go.Proofs.Ytjbpaejjpamcpaa
set_option linter.unusedSimpArgs false
set_option linter.unusedVariables false

/-- An interval that may be one of a valid box. -/
def SV (l h : Int) : Bool := decide (-134217728 ≤ l) && decide (l ≤ h) && decide (h ≤ 134217728)
/-- A valid box. -/
def BV (a b c d : Int) : Bool := SV a b && SV c d
/-- An interval within another. -/
def SW (a b c d : Int) : Bool := decide (c ≤ a) && decide (b ≤ d)
theorem SV_iff (l h : Int) : SV l h = true ↔ -134217728 ≤ l ∧ l ≤ h ∧ h ≤ 134217728 := by unfold SV; simp; omega
theorem SV_false (l h : Int) : SV l h = false ↔ (l < -134217728 ∨ h < l ∨ 134217728 < h) := by
  rw [← Bool.not_eq_true, SV_iff]; omega
theorem SW_iff (a b c d : Int) : SW a b c d = true ↔ c ≤ a ∧ b ≤ d := by unfold SW; simp
theorem SW_false (a b c d : Int) : SW a b c d = false ↔ (a < c ∨ d < b) := by
  rw [← Bool.not_eq_true, SW_iff]; omega
theorem BV_iff (a b c d : Int) : BV a b c d = true ↔ -134217728 ≤ a ∧ a ≤ b ∧ b ≤ 134217728 ∧ -134217728 ≤ c ∧ c ≤ d ∧ d ≤ 134217728 := by
  unfold BV; rw [Bool.and_eq_true, SV_iff, SV_iff]; omega

end Go.Proofs.Ytjbpaejjpamcpaa
