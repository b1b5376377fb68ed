/- What DyadAdd gives. -/
import Derived.Test.YtgnkjfafgcbpbaaDyW3
import Derived.Test.YtgnkjfafgcbpbaaDyM2
namespace Go.Proofs.Ytgnkjfafgcbpbaa
set_option linter.unusedSimpArgs false
set_option linter.unusedVariables false
open Go.RowKit

theorem l2Size_any (n : Int) (w : World) (_h : -9223372036854775807 ≤ n) (_h' : n ≤ 9223372036854775807) :
    Calls Try.prog 29 #[.int .i64 n] w fun e w' => e = .returned (.int .i64 n.natAbs) ∧ w = w' := by
  by_cases h0 : n < 0
  · have HE : Hid (((n.natAbs : Nat) : Int) = -n) := by unfold Hid; omega
    go_enter Try.func29, Try.ntmps29
    go_wp2
    go_returns
    exact ⟨by rw [HE.out]; first | done | simp, rfl⟩
  · have HE : Hid (((n.natAbs : Nat) : Int) = n) := by unfold Hid; omega
    go_enter Try.func29, Try.ntmps29
    go_wp2
    go_returns
    exact ⟨by rw [HE.out]; first | done | rfl, rfl⟩

theorem RA_step (n : Int) (k : Nat) (j : Nat) (hj : j < k) (h : 1152921504606846976 < (n * 2 ^ j).natAbs) : RA n k = false := by
  unfold RA
  rw [decide_eq_false_iff_not]
  rintro (h0 | h0)
  · omega
  · rw [abs_mul_pow] at h
    have h1 : 2 ^ j ≤ 2 ^ ((k : Int) - 1).toNat := Nat.pow_le_pow_right (by omega) (by omega)
    have h2 := Nat.mul_le_mul_left n.natAbs h1
    omega
theorem RA_end (n : Int) (k : Nat) (h : k = 0 ∨ n.natAbs * 2 ^ (k - 1) ≤ 1152921504606846976) : RA n k = true := by
  unfold RA
  rw [decide_eq_true_iff]
  rcases h with h | h
  · left; omega
  · right; rw [show ((k : Int) - 1).toNat = k - 1 by omega]; exact h

/-- What raising gives. -/
def RV (n k : Int) : Value := if RA n k = true then .tuple #[.int .i64 (n * 2 ^ k.toNat), .bool true] else .tuple #[.int .i64 0, .bool false]
theorem RV_yes {n k : Int} (h : RA n k = true) : RV n k = .tuple #[.int .i64 (n * 2 ^ k.toNat), .bool true] := if_pos h
theorem RV_no {n k : Int} (h : RA n k = false) : RV n k = .tuple #[.int .i64 0, .bool false] := if_neg (by rw [h]; decide)

/-- The loop: j doublings are done. -/
def RaInv (n : Int) (k : Nat) (u i : Value) : Prop := ∃ j : Nat, ∃ x : Int, j ≤ k ∧ i = .int .i64 j ∧ u = .int .i64 x ∧ x = n * 2 ^ j ∧ x.natAbs ≤ 2305843009213693952 ∧ (j = 0 ∨ n.natAbs * 2 ^ (j - 1) ≤ 1152921504606846976)
theorem l2Raise_v (n : Int) (k : Nat) (w : World) (hn : n.natAbs ≤ 1073741824) (hk' : k ≤ 60) :
    Calls Try.prog 21 #[.int .i64 n, .int .i64 k] w fun e w' => e = .returned (RV n k) ∧ w = w' := by
  go_enter Try.func21, Try.ntmps21
  go_wp2
  go_loop [0, 6] (fun u i => RaInv n k u i) (fun _ i => k - (intOf i).toNat)
  case atStart => exact ⟨0, n, by omega, rfl, rfl, by simp, by omega, Or.inl rfl⟩
  case round =>
    obtain ⟨j, x, hj, rfl, rfl, hx, hb, hc⟩ := hrel
    have HX := Lib.hid hx; have HC := Lib.hid hc; clear hx hc
    have x1 : -2305843009213693952 ≤ x := by omega
    have x2 : x ≤ 2305843009213693952 := by omega
    by_cases hlt : j < k
    · by_cases hbig : 1152921504606846976 < x.natAbs
      · have hbig' : (1152921504606846976 : Int) < ((x.natAbs : Nat) : Int) := by omega
        have HR := Lib.hid (RV_no (RA_step n k j hlt (by rw [← HX.out]; exact hbig)))
        clear hbig hb
        go_wp2_with (go_at_call 29; refine (l2Size_any _ _ (by omega) (by omega)).mono ?_; rintro e w1 ⟨rfl, rfl⟩)
        go_returns
        exact ⟨by rw [HR.out]; first | done | rfl, rfl⟩
      · have hbig' : ¬ (1152921504606846976 : Int) < ((x.natAbs : Nat) : Int) := by omega
        have HB := Lib.hid hbig
        clear hbig hb
        go_wp2_with (go_at_call 29; refine (l2Size_any _ _ (by omega) (by omega)).mono ?_; rintro e w1 ⟨rfl, rfl⟩)
        have y1 : -1152921504606846976 ≤ x := by have := HB.out; omega
        have y2 : x ≤ 1152921504606846976 := by have := HB.out; omega
        go_wp2
        go_round
        case rel => exact ⟨j + 1, 2 * x, by omega, by go_num, rfl, by rw [HX.out, Int.pow_succ, Int.mul_comm 2, Int.mul_assoc], by omega, Or.inr (by rw [Nat.add_sub_cancel, ← abs_mul_pow, ← HX.out]; omega)⟩
        case measure => simp [intOf]; omega
    · obtain rfl : j = k := by omega
      have HR := Lib.hid (RV_yes (RA_end n j HC.out))
      go_wp2
      go_returns
      exact ⟨by rw [HR.out, HX.out]; first | done | simp, rfl⟩

/-! ### DyadAdd -/
theorem l2Raise_yes (n k : Int) (w : World) (hn : n.natAbs ≤ 1073741824) (h0 : 0 ≤ k) (hk : k ≤ 60) (h : RA n k = true) :
    Calls Try.prog 21 #[.int .i64 n, .int .i64 k] w (Gives (.tuple #[.int .i64 (n * 2 ^ k.toNat), .bool true]) w) := by
  obtain ⟨m, rfl⟩ := Int.eq_ofNat_of_zero_le h0
  refine (l2Raise_v n m w hn (by omega)).mono ?_
  rintro e w' ⟨rfl, rfl⟩
  exact ⟨by rw [RV_yes h], Below.refl _ _⟩
theorem l2Raise_no (n k : Int) (w : World) (hn : n.natAbs ≤ 1073741824) (h0 : 0 ≤ k) (hk : k ≤ 60) (h : RA n k = false) :
    Calls Try.prog 21 #[.int .i64 n, .int .i64 k] w (Gives (.tuple #[.int .i64 0, .bool false]) w) := by
  obtain ⟨m, rfl⟩ := Int.eq_ofNat_of_zero_le h0
  refine (l2Raise_v n m w hn (by omega)).mono ?_
  rintro e w' ⟨rfl, rfl⟩
  exact ⟨by rw [RV_no h], Below.refl _ _⟩

theorem l2Raise_0 (n : Int) (w : World) (hn : n.natAbs ≤ 1073741824) :
    Calls Try.prog 21 #[.int .i64 n, .int .i64 0] w (Gives (.tuple #[.int .i64 n, .bool true]) w) := by
  refine (l2Raise_yes n 0 w hn (by omega) (by omega) (RA_zero n)).mono ?_
  intro e w' h
  simpa using h

end Go.Proofs.Ytgnkjfafgcbpbaa
