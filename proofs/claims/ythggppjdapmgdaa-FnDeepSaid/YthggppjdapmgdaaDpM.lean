/- Cutting deeper: how many boxes are in, out, open. No program in sight. -/
import Derived.Test.YthggppjdapmgdaaSig
namespace Go.Proofs.Ythggppjdapmgdaa
set_option linter.unusedSimpArgs false
set_option linter.unusedVariables false
open Go.RowKit
theorem gAdd_zero (c : Int) : gAdd c 0 = c := rfl
theorem gAdd_pos (c : Int) {z : Int} (h : z ≠ 0) : gAdd c z = IntKind.i64.wrap (c + z) := if_neg h
theorem gAdd0 {z : Int} (h : 0 ≤ z) (h' : z ≤ 1152921504606846976) : gAdd 0 z = z := by
  unfold gAdd
  split
  · omega
  · rw [wrap_in (by omega) (by omega)]; omega
theorem wrap_two (x y : Int) : IntKind.i64.wrap (IntKind.i64.wrap x + y) = IntKind.i64.wrap (x + y) := by
  simp [IntKind.wrap, IntKind.bits, IntKind.signed]; omega
theorem gAdd_add (c : Int) {x y : Int} (hx : 0 ≤ x) (hy : 0 ≤ y) : gAdd (gAdd c x) y = gAdd c (x + y) := by
  by_cases h1 : x = 0
  · subst h1; rw [gAdd_zero, Int.zero_add]
  · by_cases h2 : y = 0
    · subst h2; rw [gAdd_zero, Int.add_zero]
    · rw [gAdd_pos c h1, gAdd_pos _ h2, gAdd_pos c (show x + y ≠ 0 by omega), wrap_two, Int.add_assoc]
theorem pow4_pos (n : Nat) : (0 : Int) < 4 ^ n := Int.pow_pos (by decide)
theorem cdv_in {a b c d m : Int} (h : CST a b c d m = 1) (j n : Nat) : cdv j n a b c d m = if j = 0 then 4 ^ n else 0 := by
  cases n <;> (unfold cdv; rw [if_pos h])
  rfl
theorem cdv_out {a b c d m : Int} (h : CST a b c d m = -1) (j n : Nat) : cdv j n a b c d m = if j = 1 then 4 ^ n else 0 := by
  cases n <;> (unfold cdv; rw [if_neg (by omega), if_pos h])
  rfl
theorem cdv_open0 {a b c d m : Int} (h : CST a b c d m ≠ 1) (h' : CST a b c d m ≠ -1) (j : Nat) : cdv j 0 a b c d m = if j = 2 then 1 else 0 := by
  unfold cdv; rw [if_neg h, if_neg h']
theorem cdv_open {a b c d m : Int} (h : CST a b c d m ≠ 1) (h' : CST a b c d m ≠ -1) (j n : Nat) : cdv j (n + 1) a b c d m =
    cdv j n a (fl (a + b) 2) c (fl (c + d) 2) m + cdv j n (fl (a + b) 2) b c (fl (c + d) 2) m + cdv j n a (fl (a + b) 2) (fl (c + d) 2) d m + cdv j n (fl (a + b) 2) b (fl (c + d) 2) d m := by
  conv => lhs; unfold cdv
  rw [if_neg h, if_neg h']
theorem cdv_nonneg (j : Nat) : ∀ (n : Nat) (a b c d m : Int), 0 ≤ cdv j n a b c d m := by
  intro n
  induction n with
  | zero => intro a b c d m; unfold cdv; split <;> split <;> first | omega | (split <;> omega)
  | succ n ih =>
    intro a b c d m
    have hp := pow4_pos (n + 1)
    by_cases h : CST a b c d m = 1
    · rw [cdv_in h]; split <;> omega
    · by_cases h' : CST a b c d m = -1
      · rw [cdv_out h']; split <;> omega
      · rw [cdv_open h h']
        have h1 := ih a (fl (a + b) 2) c (fl (c + d) 2) m
        have h2 := ih (fl (a + b) 2) b c (fl (c + d) 2) m
        have h3 := ih a (fl (a + b) 2) (fl (c + d) 2) d m
        have h4 := ih (fl (a + b) 2) b (fl (c + d) 2) d m
        omega
theorem cdv_sum : ∀ (n : Nat) (a b c d m : Int), cdv 0 n a b c d m + cdv 1 n a b c d m + cdv 2 n a b c d m = 4 ^ n := by
  intro n
  induction n with
  | zero =>
    intro a b c d m
    by_cases h : CST a b c d m = 1
    · simp [cdv_in h]
    · by_cases h' : CST a b c d m = -1
      · simp [cdv_out h']
      · simp [cdv_open0 h h']
  | succ n ih =>
    intro a b c d m
    by_cases h : CST a b c d m = 1
    · simp [cdv_in h]
    · by_cases h' : CST a b c d m = -1
      · simp [cdv_out h']
      · rw [cdv_open h h', cdv_open h h', cdv_open h h', Int.pow_succ]
        have h1 := ih a (fl (a + b) 2) c (fl (c + d) 2) m
        have h2 := ih (fl (a + b) 2) b c (fl (c + d) 2) m
        have h3 := ih a (fl (a + b) 2) (fl (c + d) 2) d m
        have h4 := ih (fl (a + b) 2) b (fl (c + d) 2) d m
        omega
theorem cdv_more {j : Nat} (hj : j < 2) : ∀ (n : Nat) (a b c d m : Int), 4 * cdv j n a b c d m ≤ cdv j (n + 1) a b c d m := by
  intro n
  induction n with
  | zero =>
    intro a b c d m
    by_cases h : CST a b c d m = 1
    · rw [cdv_in h, cdv_in h]; split <;> simp
    · by_cases h' : CST a b c d m = -1
      · rw [cdv_out h', cdv_out h']; split <;> simp
      · have := cdv_nonneg j (0 + 1) a b c d m
        rw [cdv_open0 h h', if_neg (by omega)]; omega
  | succ n ih =>
    intro a b c d m
    by_cases h : CST a b c d m = 1
    · rw [cdv_in h, cdv_in h, Int.pow_succ 4 (n + 1)]; split <;> omega
    · by_cases h' : CST a b c d m = -1
      · rw [cdv_out h', cdv_out h', Int.pow_succ 4 (n + 1)]; split <;> omega
      · rw [cdv_open h h', cdv_open h h']
        have h1 := ih a (fl (a + b) 2) c (fl (c + d) 2) m
        have h2 := ih (fl (a + b) 2) b c (fl (c + d) 2) m
        have h3 := ih a (fl (a + b) 2) (fl (c + d) 2) d m
        have h4 := ih (fl (a + b) 2) b (fl (c + d) 2) d m
        omega
/-- The boxes together, to a depth of 5. -/
theorem cdv_le {j : Nat} (hj : j < 3) {n : Nat} (hn : n ≤ 5) (a b c d m : Int) : cdv j n a b c d m ≤ 1024 := by
  have h0 := cdv_nonneg 0 n a b c d m
  have h1 := cdv_nonneg 1 n a b c d m
  have h2 := cdv_nonneg 2 n a b c d m
  have h := cdv_sum n a b c d m
  have hp : (4 : Int) ^ n ≤ 1024 := by
    have : n = 0 ∨ n = 1 ∨ n = 2 ∨ n = 3 ∨ n = 4 ∨ n = 5 := by omega
    rcases this with rfl | rfl | rfl | rfl | rfl | rfl <;> decide
  have : j = 0 ∨ j = 1 ∨ j = 2 := by omega
  rcases this with rfl | rfl | rfl <;> omega
/-- 1 moved up by twice the depth. -/
theorem all_eq {n : Int} (h0 : 0 ≤ n) (h : n ≤ 5) : IntKind.i64.wrap (1 * 2 ^ min (IntKind.i64.wrap (2 * n)).toNat IntKind.i64.bits) = 4 ^ n.toNat := by
  have : n = 0 ∨ n = 1 ∨ n = 2 ∨ n = 3 ∨ n = 4 ∨ n = 5 := by omega
  rcases this with rfl | rfl | rfl | rfl | rfl | rfl <;> decide
end Go.Proofs.Ythggppjdapmgdaa
