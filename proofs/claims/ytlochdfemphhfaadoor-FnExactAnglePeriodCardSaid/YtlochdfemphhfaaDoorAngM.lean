/- Plain numbers: greatest common divisors, fractions in lowest terms. No program in sight. -/
namespace Go.Proofs.YtlochdfemphhfaaDoor
set_option linter.unusedSimpArgs false
set_option linter.unusedVariables false

theorem gcd_step (x y : Int) (hx : 0 ≤ x) (hy : 0 < y) : Int.gcd y (x % y) = Int.gcd x y := by
  obtain ⟨m, rfl⟩ := Int.eq_ofNat_of_zero_le hx
  obtain ⟨n, rfl⟩ := Int.eq_ofNat_of_zero_le (Int.le_of_lt hy)
  rw [← Int.natCast_emod]
  simp only [Int.gcd_natCast_natCast]
  rw [Nat.gcd_comm n, ← Nat.gcd_rec, Nat.gcd_comm]

/-- A valid angle. -/
def AV (n d : Int) : Bool := decide (1 ≤ d ∧ d ≤ 1048576 ∧ 0 ≤ n ∧ n < d ∧ Int.gcd n d = 1)
theorem AV_iff (n d : Int) : AV n d = true ↔ 1 ≤ d ∧ d ≤ 1048576 ∧ 0 ≤ n ∧ n < d ∧ Int.gcd n d = 1 := by
  unfold AV; rw [decide_eq_true_iff]
/-- What AngleMake takes. -/
def AMok (n d : Int) : Bool := decide (1 ≤ d ∧ d ≤ 1048576 ∧ -1000000000 ≤ n ∧ n ≤ 1000000000)
theorem AMok_iff (n d : Int) : AMok n d = true ↔ 1 ≤ d ∧ d ≤ 1048576 ∧ -1000000000 ≤ n ∧ n ≤ 1000000000 := by
  unfold AMok; rw [decide_eq_true_iff]
/-- The divisor of the fractional part's top and bottom, as a whole number. -/
def AG (n d : Int) : Int := (Int.gcd (n % d) d : Nat)
/-- The top and the bottom of the fractional part, in lowest terms. -/
def AN (n d : Int) : Int := (n % d) / AG n d
def AD (n d : Int) : Int := d / AG n d

theorem AG_pos (n d : Int) (h : 1 ≤ d) : 1 ≤ AG n d := by
  unfold AG
  have : 0 < Int.gcd (n % d) d := Int.gcd_pos_of_ne_zero_right _ (by omega)
  omega
theorem AG_le (n d : Int) (h : 1 ≤ d) : AG n d ≤ d := by
  unfold AG
  have := Int.gcd_dvd_right (n % d) d
  exact Int.le_of_dvd (by omega) this
theorem AG_dvd_l (n d : Int) : AG n d ∣ n % d := Int.gcd_dvd_left _ _
theorem AG_dvd_r (n d : Int) : AG n d ∣ d := Int.gcd_dvd_right _ _
theorem AG_emod (n d : Int) : AG (n % d) d = AG n d := by unfold AG; rw [Int.emod_emod]
theorem AN_emod (n d : Int) : AN (n % d) d = AN n d := by unfold AN; rw [AG_emod, Int.emod_emod]
theorem AD_emod (n d : Int) : AD (n % d) d = AD n d := by unfold AD; rw [AG_emod]
theorem AN_of (n d m : Int) (h : m % d = n % d) : AN m d = AN n d := by rw [← AN_emod m, h, AN_emod]
theorem AD_of (n d m : Int) (h : m % d = n % d) : AD m d = AD n d := by rw [← AD_emod m, h, AD_emod]

theorem AN_nonneg (n d : Int) (h : 1 ≤ d) : 0 ≤ AN n d := Int.ediv_nonneg (Int.emod_nonneg _ (by omega)) (by have := AG_pos n d h; omega)
theorem AD_pos (n d : Int) (h : 1 ≤ d) : 1 ≤ AD n d := by
  obtain ⟨k, hk⟩ := AG_dvd_r n d
  have hp := AG_pos n d h
  unfold AD
  have e : d / AG n d = k := by rw [Int.ediv_eq_of_eq_mul_right (by omega) hk]
  rw [e]
  rcases Int.lt_or_le 0 k with h0 | h0
  · omega
  · have : AG n d * k ≤ 0 := Int.mul_nonpos_of_nonneg_of_nonpos (by omega) h0
    omega
theorem AD_le (n d : Int) (h : 1 ≤ d) : AD n d ≤ d := by
  unfold AD; exact Int.ediv_le_self _ (by omega)
theorem AN_mul (n d : Int) : AG n d * AN n d = n % d := Int.mul_ediv_cancel' (AG_dvd_l n d)
theorem AD_mul (n d : Int) : AG n d * AD n d = d := Int.mul_ediv_cancel' (AG_dvd_r n d)
theorem AN_lt (n d : Int) (h : 1 ≤ d) : AN n d < AD n d := by
  have h1 : n % d < d := Int.emod_lt_of_pos _ (by omega)
  rw [← AN_mul n d] at h1
  have h2 := AD_mul n d
  have hp := AG_pos n d h
  rcases Int.lt_or_le (AN n d) (AD n d) with h0 | h0
  · exact h0
  · have := Int.mul_le_mul_of_nonneg_left h0 (show 0 ≤ AG n d by omega)
    omega

theorem AG_scale (k n d : Int) (hk : 1 ≤ k) : AG (k * n) (k * d) = k * AG n d := by
  unfold AG
  rw [Int.mul_emod_mul_of_pos _ _ (by omega), Int.gcd_mul_left]
  rw [Int.natCast_mul]
  congr 1
  omega
theorem AN_scale (k n d : Int) (hk : 1 ≤ k) : AN (k * n) (k * d) = AN n d := by
  unfold AN
  rw [AG_scale k n d hk, Int.mul_emod_mul_of_pos _ _ (by omega), Int.mul_ediv_mul_of_pos _ _ (by omega)]
theorem AD_scale (k n d : Int) (hk : 1 ≤ k) : AD (k * n) (k * d) = AD n d := by
  unfold AD
  rw [AG_scale k n d hk, Int.mul_ediv_mul_of_pos _ _ (by omega)]
theorem gcd_AN (n d : Int) (h : 1 ≤ d) : Int.gcd (AN n d) (AD n d) = 1 := by
  have h1 := AN_mul n d
  have h2 := AD_mul n d
  have hp := AG_pos n d h
  have e : Int.gcd (AG n d * AN n d) (AG n d * AD n d) = (AG n d).natAbs * Int.gcd (AN n d) (AD n d) := Int.gcd_mul_left ..
  rw [h1, h2] at e
  have e2 : (AG n d).natAbs = Int.gcd (n % d) d := by unfold AG; simp
  rw [e2] at e
  have h3 : 0 < Int.gcd (n % d) d := by have : AG n d = (Int.gcd (n % d) d : Nat) := rfl; omega
  exact (Nat.eq_of_mul_eq_mul_left h3 (by rw [Nat.mul_one]; exact e)).symm
theorem AV_AN (n d : Int) (h : 1 ≤ d) (h' : d ≤ 1048576) : AV (AN n d) (AD n d) = true :=
  (AV_iff _ _).2 ⟨AD_pos n d h, by have := AD_le n d h; omega, AN_nonneg n d h, AN_lt n d h, gcd_AN n d h⟩
theorem AN_self (n d : Int) (h : AV n d = true) : AN n d = n ∧ AD n d = d := by
  obtain ⟨h1, h2, h3, h4, h5⟩ := (AV_iff n d).1 h
  have e : n % d = n := Int.emod_eq_of_lt h3 h4
  have g : AG n d = 1 := by unfold AG; rw [e, h5]; rfl
  unfold AN AD
  rw [g, e]; simp
theorem AN_add (n d : Int) : AN (n + d) d = AN n d ∧ AD (n + d) d = AD n d := ⟨AN_of n d _ (by simp), AD_of n d _ (by simp)⟩
theorem AN_sub (n d : Int) : AN (n - d) d = AN n d ∧ AD (n - d) d = AD n d := ⟨AN_of n d _ (by simp), AD_of n d _ (by simp)⟩
/-- The double of a half. -/
theorem AN_half (n d : Int) (h : 1 ≤ d) : AN (2 * AN (2 * n + d) (2 * d)) (AD (2 * n + d) (2 * d)) = AN (2 * n) d ∧ AD (2 * AN (2 * n + d) (2 * d)) (AD (2 * n + d) (2 * d)) = AD (2 * n) d := by
  have hp := AG_pos (2 * n + d) (2 * d) (by omega)
  have h1 := AN_mul (2 * n + d) (2 * d)
  have h2 := AD_mul (2 * n + d) (2 * d)
  have e : (2 * ((2 * n + d) % (2 * d))) % (2 * d) = (2 * (2 * n + d)) % (2 * d) := by rw [Int.mul_emod, Int.emod_emod, ← Int.mul_emod]
  have e2 : AG (2 * n + d) (2 * d) * (2 * AN (2 * n + d) (2 * d)) = 2 * ((2 * n + d) % (2 * d)) := by rw [← h1, Int.mul_left_comm]
  constructor
  · rw [← AN_scale _ _ _ hp, e2, h2, AN_of _ _ _ e, AN_scale _ _ _ (by omega), (AN_add (2 * n) d).1]
  · rw [← AD_scale _ _ _ hp, e2, h2, AD_of _ _ _ e, AD_scale _ _ _ (by omega), (AN_add (2 * n) d).2]

end Go.Proofs.YtlochdfemphhfaaDoor
