/- Contracts of the greater functions on boxes, by the reckoner: exact numbers in boxes. -/
import Derived.Test.YtjbpaejjpamcpaaBoB
namespace Go.Proofs.Ytjbpaejjpamcpaa
set_option linter.unusedSimpArgs false
set_option linter.unusedVariables false
variable {pv : Int → Int → Int}
open Go.RowKit Eng

theorem pow24 {s : Int} (h0 : 0 ≤ s) (h : s ≤ 24) : (16777216 : Int) = 2 ^ (24 - s).toNat * 2 ^ s.toNat := by
  rw [← Int.pow_add, show (24 - s).toNat + s.toNat = 24 from by omega]; decide
theorem pow24' {s : Int} (h : 24 < s) : (2 : Int) ^ s.toNat = 2 ^ (s - 24).toNat * 16777216 := by
  rw [show s.toNat = (s - 24).toNat + 24 from by omega, Int.pow_add]; rfl
theorem FL_le (n : Int) {s : Int} (h0 : 0 ≤ s) (h : s ≤ 24) : FLq n s = n * 2 ^ (24 - s).toNat := by
  unfold FLq; rw [pow24 h0 h, ← Int.mul_assoc, Int.mul_ediv_cancel _ (Int.ne_of_gt (pos2 _))]
theorem CE_le (n : Int) {s : Int} (h0 : 0 ≤ s) (h : s ≤ 24) : CEq n s = n * 2 ^ (24 - s).toNat := by
  unfold CEq; rw [pow24 h0 h, ← Int.mul_assoc, ← Int.neg_mul, Int.mul_ediv_cancel _ (Int.ne_of_gt (pos2 _)), Int.neg_neg]
theorem FL_gt (n : Int) {s : Int} (h : 24 < s) : FLq n s = fl n (2 ^ (s - 24).toNat) := by
  unfold FLq fl; rw [pow24' h, Int.mul_ediv_mul_of_pos_left _ _ (by decide)]
theorem CE_gt (n : Int) {s : Int} (h : 24 < s) : CEq n s = ce n (2 ^ (s - 24).toNat) := by
  unfold CEq ce; rw [pow24' h, ← Int.neg_mul, Int.mul_ediv_mul_of_pos_left _ _ (by decide)]
theorem g3 (a b c : Int) : FB 3 0 [a, b, c] = DV a b c := rfl
theorem p24 : (2 : Int) ^ min (Int.toNat 24) IntKind.i64.bits = 16777216 := by decide
theorem f32_0 (n k : Int) : (FI pv) 32 0 [n, k] = n / 2 ^ k.toNat := rfl
theorem f32_1 (n k : Int) : (FI pv) 32 1 [n, k] = -(-n / 2 ^ k.toNat) := rfl
theorem shl_bd {n k : Int} (h1 : -1073741824 ≤ n) (h2 : n ≤ 1073741824) (h3 : 0 ≤ k) (h4 : k ≤ 24) : min k.toNat IntKind.i64.bits = k.toNat ∧ -18014398509481984 ≤ n * 2 ^ k.toNat ∧ n * 2 ^ k.toNat ≤ 18014398509481984 := by
  have hp : (2 : Int) ^ k.toNat ≤ 2 ^ 24 := by exact_mod_cast Nat.pow_le_pow_right (n := 2) (by decide) (show k.toNat ≤ 24 by omega)
  have hq := pos2 k.toNat
  have h24 : (2 : Int) ^ 24 = 16777216 := by decide
  have m := mul_bd (x := n) (y := 2 ^ k.toNat) (A := 1073741824) (B := 16777216) (by omega) (by omega) (by omega) (by omega)
  exact ⟨by simp [IntKind.bits]; omega, by omega, by omega⟩
theorem shr_bd {k : Int} (h3 : 0 ≤ k) (h4 : k ≤ 36) : min k.toNat IntKind.i64.bits = k.toNat ∧ 1 ≤ (2 : Int) ^ k.toNat ∧ (2 : Int) ^ k.toNat ≤ 68719476736 := by
  have hp : (2 : Int) ^ k.toNat ≤ 2 ^ 36 := by exact_mod_cast Nat.pow_le_pow_right (n := 2) (by decide) (show k.toNat ≤ 36 by omega)
  have hq := pos2 k.toNat
  have h24 : (2 : Int) ^ 36 = 68719476736 := by decide
  exact ⟨by simp [IntKind.bits]; omega, by omega, by omega⟩

end Go.Proofs.Ytjbpaejjpamcpaa
