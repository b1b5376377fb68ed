/- Plain numbers: greatest common divisors, fractions in lowest terms. No program in sight. -/
namespace Go.Proofs.Ytlochdfemphhfaa

theorem gcd_step (x y : Int) (hx : 0 ≤ x) (hy : 0 < y) : Int.gcd y (x % y) = Int.gcd x y := by
  obtain ⟨m, rfl⟩ := Int.eq_ofNat_of_zero_le hx
  obtain ⟨n, rfl⟩ := Int.eq_ofNat_of_zero_le (Int.le_of_lt hy)
  rw [← Int.natCast_emod]
  simp only [Int.gcd_natCast_natCast]
  rw [Nat.gcd_comm n, ← Nat.gcd_rec, Nat.gcd_comm]

/-- A valid angle. -/
def AV (n d : Int) : Bool := decide (1 ≤ d ∧ d ≤ 1048576 ∧ 0 ≤ n ∧ n < d ∧ Int.gcd n d = 1)
theorem AV_iff (n d : Int) : AV n d = true ↔ 1 ≤ d ∧ d ≤ 1048576 ∧ 0 ≤ n ∧ n < d ∧ Int.gcd n d = 1 := by
  unfold AV; rw [decide_eq_true_iff]
/-- What AngleMake takes. -/
def AMok (n d : Int) : Bool := decide (1 ≤ d ∧ d ≤ 1048576 ∧ -1000000000 ≤ n ∧ n ≤ 1000000000)
theorem AMok_iff (n d : Int) : AMok n d = true ↔ 1 ≤ d ∧ d ≤ 1048576 ∧ -1000000000 ≤ n ∧ n ≤ 1000000000 := by
  unfold AMok; rw [decide_eq_true_iff]
/-- The divisor of the fractional part's top and bottom, as a whole number. -/
def AG (n d : Int) : Int := (Int.gcd (n % d) d : Nat)
/-- The top and the bottom of the fractional part, in lowest terms. -/
def AN (n d : Int) : Int := (n % d) / AG n d
def AD (n d : Int) : Int := d / AG n d

theorem AG_pos (n d : Int) (h : 1 ≤ d) : 1 ≤ AG n d := by
  unfold AG
  have : 0 < Int.gcd (n % d) d := Int.gcd_pos_of_ne_zero_right _ (by omega)
  omega
theorem AG_le (n d : Int) (h : 1 ≤ d) : AG n d ≤ d := by
  unfold AG
  have := Int.gcd_dvd_right (n % d) d
  exact Int.le_of_dvd (by omega) this
theorem AG_dvd_l (n d : Int) : AG n d ∣ n % d := Int.gcd_dvd_left _ _
theorem AG_dvd_r (n d : Int) : AG n d ∣ d := Int.gcd_dvd_right _ _
theorem AG_emod (n d : Int) : AG (n % d) d = AG n d := by unfold AG; rw [Int.emod_emod]
theorem AN_emod (n d : Int) : AN (n % d) d = AN n d := by unfold AN; rw [AG_emod, Int.emod_emod]
theorem AD_emod (n d : Int) : AD (n % d) d = AD n d := by unfold AD; rw [AG_emod]
theorem AN_of (n d m : Int) (h : m % d = n % d) : AN m d = AN n d := by rw [← AN_emod m, h, AN_emod]
theorem AD_of (n d m : Int) (h : m % d = n % d) : AD m d = AD n d := by rw [← AD_emod m, h, AD_emod]

theorem AN_nonneg (n d : Int) (h : 1 ≤ d) : 0 ≤ AN n d := Int.ediv_nonneg (Int.emod_nonneg _ (by omega)) (by have := AG_pos n d h; omega)
theorem AD_pos (n d : Int) (h : 1 ≤ d) : 1 ≤ AD n d := by
  obtain ⟨k, hk⟩ := AG_dvd_r n d
  have hp := AG_pos n d h
  unfold AD
  have e : d / AG n d = k := by rw [Int.ediv_eq_of_eq_mul_right (by omega) hk]
  rw [e]
  rcases Int.lt_or_le 0 k with h0 | h0
  · omega
  · have : AG n d * k ≤ 0 := Int.mul_nonpos_of_nonneg_of_nonpos (by omega) h0
    omega
theorem AD_le (n d : Int) (h : 1 ≤ d) : AD n d ≤ d := by
  unfold AD; exact Int.ediv_le_self _ (by omega)
theorem AN_mul (n d : Int) : AG n d * AN n d = n % d := Int.mul_ediv_cancel' (AG_dvd_l n d)
theorem AD_mul (n d : Int) : AG n d * AD n d = d := Int.mul_ediv_cancel' (AG_dvd_r n d)
theorem AN_lt (n d : Int) (h : 1 ≤ d) : AN n d < AD n d := by
  have h1 : n % d < d := Int.emod_lt_of_pos _ (by omega)
  rw [← AN_mul n d] at h1
  have h2 := AD_mul n d
  have hp := AG_pos n d h
  rcases Int.lt_or_le (AN n d) (AD n d) with h0 | h0
  · exact h0
  · have := Int.mul_le_mul_of_nonneg_left h0 (show 0 ≤ AG n d by omega)
    omega

end Go.Proofs.Ytlochdfemphhfaa
