/- Doubling mod a number: when it comes back. No program in sight. -/
import Derived.Test.YtlochdfemphhfaaDoorAngM
namespace Go.Proofs.YtlochdfemphhfaaDoor
set_option linter.unusedSimpArgs false
set_option linter.unusedVariables false
theorem pigeon : ∀ (N : Nat) (f : Nat → Nat), (∀ i, i ≤ N → f i < N) → ∃ i j, i < j ∧ j ≤ N ∧ f i = f j
  | 0, f, h => absurd (h 0 (Nat.le_refl 0)) (Nat.not_lt_zero _)
  | N + 1, f, h => by
    by_cases he : ∃ i, i ≤ N ∧ f i = f (N + 1)
    · obtain ⟨i, hi, hf⟩ := he
      exact ⟨i, N + 1, by omega, Nat.le_refl _, hf⟩
    · have hne : ∀ i, i ≤ N → f i ≠ f (N + 1) := fun i hi hf => he ⟨i, hi, hf⟩
      obtain ⟨i, j, h1, h2, h3⟩ := pigeon N (fun i => if f i = N then f (N + 1) else f i) (fun i hi => by
        have a := h i (by omega)
        have b := h (N + 1) (Nat.le_refl _)
        have c := hne i hi
        show (if f i = N then f (N + 1) else f i) < N
        split <;> omega)
      refine ⟨i, j, h1, by omega, ?_⟩
      have c := hne i (by omega)
      have e := hne j h2
      split at h3 <;> split at h3 <;> omega
theorem least {Q : Nat → Prop} : ∀ (N : Nat), (∃ m, m ≤ N ∧ Q m) → ∃ m, m ≤ N ∧ Q m ∧ ∀ k, k < m → ¬ Q k
  | 0, ⟨m, hm, hq⟩ => ⟨m, hm, hq, fun k hk => by omega⟩
  | N + 1, ⟨m, hm, hq⟩ => by
    by_cases h : ∃ m, m ≤ N ∧ Q m
    · obtain ⟨m, h1, h2⟩ := least N h
      exact ⟨m, by omega, h2⟩
    · refine ⟨m, hm, hq, fun k hk hqk => h ⟨k, by omega, hqk⟩⟩
def dbl (n d k : Nat) : Nat := n * 2 ^ k % d
theorem dbl_zero {n d : Nat} (h : n < d) : dbl n d 0 = n := by unfold dbl; rw [Nat.pow_zero, Nat.mul_one, Nat.mod_eq_of_lt h]
theorem dbl_succ (n d k : Nat) : dbl n d (k + 1) = 2 * dbl n d k % d := by
  unfold dbl
  rw [Nat.pow_succ, ← Nat.mul_assoc, Nat.mul_comm 2, Nat.mod_mul_mod]
theorem dbl_lt {n d : Nat} (h : 0 < d) (k : Nat) : dbl n d k < d := Nat.mod_lt _ h
theorem mod_mul_iff {x a d : Nat} (ha : 1 ≤ a) : x * a % d = x % d ↔ d ∣ x * (a - 1) := by
  constructor
  · intro h
    have := Nat.sub_mod_eq_zero_of_mod_eq h
    rw [Nat.mul_sub_one]
    exact Nat.dvd_of_mod_eq_zero this
  · rintro ⟨c, hc⟩
    have e : x * a = x + d * c := by
      rw [← hc, Nat.mul_sub_one]
      have : x * 1 ≤ x * a := Nat.mul_le_mul_left x ha
      omega
    rw [e, Nat.add_mul_mod_self_left]
theorem cop2 {x : Nat} (h : x % 2 = 1) (p : Nat) : Nat.Coprime (2 ^ p) x := by
  refine Nat.Coprime.pow_left p ?_
  show Nat.gcd 2 x = 1
  rw [Nat.gcd_rec, h]
  rfl
theorem odd_pow {t : Nat} (ht : 1 ≤ t) : (2 ^ t - 1) % 2 = 1 := by
  obtain ⟨s, rfl⟩ : ∃ s, t = s + 1 := ⟨t - 1, by omega⟩
  have := Nat.two_pow_pos s
  rw [Nat.pow_succ]; omega
theorem back_iff {n p q i t : Nat} (hq : q % 2 = 1) (hc : Nat.Coprime n (2 ^ p * q)) (ht : 1 ≤ t) : dbl n (2 ^ p * q) (i + t) = dbl n (2 ^ p * q) i ↔ p ≤ i ∧ 2 ^ t % q = 1 % q := by
  unfold dbl
  have h1 : 1 ≤ 2 ^ t := Nat.two_pow_pos t
  rw [Nat.pow_add, ← Nat.mul_assoc, mod_mul_iff h1, show (2 ^ t % q = 1 % q) = (1 * 2 ^ t % q = 1 % q) by rw [Nat.one_mul], mod_mul_iff h1, Nat.one_mul, Nat.mul_assoc]
  constructor
  · intro h
    have h2 := hc.symm.dvd_of_dvd_mul_left h
    have h3 : 2 ^ p ∣ 2 ^ i * (2 ^ t - 1) := Nat.dvd_trans ⟨q, rfl⟩ h2
    have h4 : q ∣ 2 ^ i * (2 ^ t - 1) := Nat.dvd_trans ⟨2 ^ p, Nat.mul_comm _ _⟩ h2
    have h5 : 2 ^ p ∣ 2 ^ i := (cop2 (odd_pow ht) p).dvd_of_dvd_mul_right h3
    refine ⟨?_, (cop2 hq i).symm.dvd_of_dvd_mul_left h4⟩
    exact (Nat.pow_le_pow_iff_right (by decide)).1 (Nat.le_of_dvd (Nat.two_pow_pos i) h5)
  · rintro ⟨h1, h2⟩
    exact Nat.dvd_trans (Nat.mul_dvd_mul (Nat.pow_dvd_pow 2 h1) h2) ⟨n, by rw [Nat.mul_comm]⟩
/-- 2 has an order. -/
theorem ord2 {q : Nat} (hq : q % 2 = 1) : ∃ m, 1 ≤ m ∧ m ≤ q ∧ 2 ^ m % q = 1 % q ∧ ∀ k, 1 ≤ k → k < m → 2 ^ k % q ≠ 1 % q := by
  have hq0 : 0 < q := by omega
  obtain ⟨i, j, h1, h2, h3⟩ := pigeon q (fun i => 2 ^ i % q) (fun i _ => Nat.mod_lt _ hq0)
  have h4 : dbl 1 (2 ^ 0 * q) (i + (j - i)) = dbl 1 (2 ^ 0 * q) i := by
    unfold dbl
    rw [show i + (j - i) = j by omega, Nat.pow_zero, Nat.one_mul, Nat.one_mul, Nat.one_mul]
    exact h3.symm
  have h5 := ((back_iff hq (Nat.coprime_one_left _) (by omega)).1 h4).2
  obtain ⟨m, g1, g2, g3⟩ := least (Q := fun m => 1 ≤ m ∧ 2 ^ m % q = 1 % q) q ⟨j - i, by omega, by omega, h5⟩
  exact ⟨m, g2.1, g1, g2.2, fun k hk hkm he => g3 k hkm ⟨hk, he⟩⟩
theorem first_back {n p q m : Nat} (hq : q % 2 = 1) (hc : Nat.Coprime n (2 ^ p * q)) (hm : ∀ k, 1 ≤ k → k < m → 2 ^ k % q ≠ 1 % q) {i j : Nat} (hi : i ≤ p + m) (hj : j < i) (he : dbl n (2 ^ p * q) i = dbl n (2 ^ p * q) j) : i = p + m ∧ j = p := by
  have := (back_iff (i := j) (t := i - j) hq hc (by omega)).1 (by rw [show j + (i - j) = i by omega]; exact he)
  by_cases h : i - j < m
  · exact absurd this.2 (hm _ (by omega) h)
  · omega
theorem comes_back {n p q m : Nat} (hq : q % 2 = 1) (hc : Nat.Coprime n (2 ^ p * q)) (h1 : 1 ≤ m) (hm : 2 ^ m % q = 1 % q) : dbl n (2 ^ p * q) (p + m) = dbl n (2 ^ p * q) p :=
  (back_iff hq hc h1).2 ⟨Nat.le_refl p, hm⟩
end Go.Proofs.YtlochdfemphhfaaDoor
