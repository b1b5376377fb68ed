/- The reference's count of digits: its contract. -/
import Derived.Test.YtgnkjfafgcbpbaaDoorBi1
namespace Go.Proofs.YtgnkjfafgcbpbaaDoor
set_option linter.unusedSimpArgs false
set_option linter.unusedVariables false
variable {pv : Int → Int → Int}
open Go.RowKit Eng
theorem bits_val {m : Int} (h1 : 1 ≤ m) (h2 : m ≤ 9223372036854775807) :
    (bif decide (1 ≤ m) && decide (m ≤ 9223372036854775807) then bif decide (0 ≤ FI pv 94 0 [m]) && decide (FI pv 94 0 [m] ≤ 9223372036854775807) then some (Value.int IntKind.i64 (FI pv 95 0 [FI pv 94 0 [m], 0])) else none else none) = some (Value.int .i64 (bl m - tz m)) := by
  have e1 : FI pv 94 0 [m] = m / 2 ^ (tz m).toNat := rfl
  have e2 : ∀ x, FI pv 95 0 [x, 0] = 0 + bl x := fun _ => rfl
  have q1 : 0 ≤ m / 2 ^ (tz m).toNat := Int.ediv_nonneg (by omega) (Int.le_of_lt (pos2 _))
  have q2 : m / 2 ^ (tz m).toNat ≤ m := Int.ediv_le_self _ (by omega)
  rw [e1, e2, bl_odd h1 (by omega), decide_eq_true h1, decide_eq_true h2, decide_eq_true q1, decide_eq_true (show m / 2 ^ (tz m).toNat ≤ 9223372036854775807 by omega), Int.zero_add]
  rfl
end Go.Proofs.YtgnkjfafgcbpbaaDoor
