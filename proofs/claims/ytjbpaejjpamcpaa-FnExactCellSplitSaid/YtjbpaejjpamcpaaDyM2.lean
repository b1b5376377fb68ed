/- Plain numbers: sums of exact dyadic numbers. No program in sight. -/
import Derived.Test.YtjbpaejjpamcpaaDyM
namespace Go.Proofs.Ytjbpaejjpamcpaa
set_option linter.unusedSimpArgs false
set_option linter.unusedVariables false

/-- A part of the sum, over the greater shift. -/
def AP (r s x t : Int) : Int := r * 2 ^ (max s t - s).toNat + x * 2 ^ (max s t - t).toNat
/-- There is a sum. -/
def ADD (r i s x y t : Int) : Bool := DV r i s && DV x y t && DV (lR (AP r s x t) (AP i s y t) (max s t)) (lI (AP r s x t) (AP i s y t) (max s t)) (lS (AP r s x t) (AP i s y t) (max s t))

theorem AP_comm (r s x t : Int) : AP r s x t = AP x t r s := by
  unfold AP; rw [Int.max_comm s t, Int.add_comm]
theorem ADD_comm (r i s x y t : Int) : ADD r i s x y t = ADD x y t r i s := by
  unfold ADD; rw [AP_comm r s x t, AP_comm i s y t, Int.max_comm s t, Bool.and_comm (DV r i s)]
theorem AP_ge (r s x t : Int) (h : t ≤ s) : AP r s x t = r + x * 2 ^ (s - t).toNat := by
  unfold AP
  rw [Int.max_eq_left h, show (s - s).toNat = 0 by omega]; simp
theorem pow_pos' (n : Nat) : (1 : Int) ≤ 2 ^ n := by
  have h : 0 < 2 ^ n := Nat.two_pow_pos n
  have e : ((2 : Int) ^ n) = ((2 ^ n : Nat) : Int) := by simp
  omega
theorem pow_le' {m n : Nat} (h : m ≤ n) : (2 : Int) ^ m ≤ 2 ^ n := by
  have h1 : 2 ^ m ≤ 2 ^ n := Nat.pow_le_pow_right (by omega) h
  have e1 : ((2 : Int) ^ m) = ((2 ^ m : Nat) : Int) := by simp
  have e2 : ((2 : Int) ^ n) = ((2 ^ n : Nat) : Int) := by simp
  omega
theorem abs_mul (x : Int) (n : Nat) : (x * 2 ^ n).natAbs = x.natAbs * 2 ^ n := abs_mul_pow x n
theorem abs_far (x : Int) (n : Nat) (h : x ≠ 0) (hn : 32 ≤ n) : 4294967296 ≤ (x * 2 ^ n).natAbs := by
  rw [abs_mul_pow]
  have h1 : 1 ≤ x.natAbs := by omega
  have h2 : 2 ^ 32 ≤ 2 ^ n := Nat.pow_le_pow_right (by omega) hn
  calc 4294967296 = 1 * 2 ^ 32 := rfl
    _ ≤ x.natAbs * 2 ^ n := Nat.mul_le_mul h1 h2
theorem abs_near (x : Int) (n : Nat) (h : x.natAbs ≤ 1073741824) (hn : n ≤ 31) : (x * 2 ^ n).natAbs ≤ 2305843009213693952 := by
  rw [abs_mul_pow]
  have h2 : 2 ^ n ≤ 2 ^ 31 := Nat.pow_le_pow_right (by omega) hn
  calc x.natAbs * 2 ^ n ≤ 1073741824 * 2 ^ 31 := Nat.mul_le_mul h h2
    _ = 2305843009213693952 := rfl
theorem par_mul (x : Int) (n : Nat) (h : 1 ≤ n) : (x * 2 ^ n) % 2 = 0 := by
  obtain ⟨k, rfl⟩ : ∃ k, n = k + 1 := ⟨n - 1, by omega⟩
  rw [Int.pow_succ, ← Int.mul_assoc]; omega

/-- A part that is moved too far leaves no valid number. -/
theorem add_far (r i s x y t : Int) (hst : t ≤ s) (ha : DV r i s = true) (hne : ¬ (x = 0 ∧ y = 0)) (h : 31 < s - t) :
    DV (lR (AP r s x t) (AP i s y t) (max s t)) (lI (AP r s x t) (AP i s y t) (max s t)) (lS (AP r s x t) (AP i s y t) (max s t)) = false := by
  obtain ⟨a1, a2, a3, a4, a5, a6, a7⟩ := (DV_iff r i s).1 ha
  rw [AP_ge _ _ _ _ hst, AP_ge _ _ _ _ hst, Int.max_eq_left hst]
  have hn : 32 ≤ (s - t).toNat := by omega
  have p1 := par_mul x (s - t).toNat (by omega)
  have p2 := par_mul y (s - t).toNat (by omega)
  obtain ⟨e1, e2, e3⟩ := l_stop (r + x * 2 ^ (s - t).toNat) (i + y * 2 ^ (s - t).toNat) s a5 (by omega)
  rw [e1, e2, e3, DV_false]
  intro hv
  by_cases hx : x = 0
  · have hy : y ≠ 0 := fun e => hne ⟨hx, e⟩
    have := abs_far y _ hy hn
    omega
  · have := abs_far x _ hx hn
    omega
/-- Nothing added leaves the number. -/
theorem add_zero' (r i s t : Int) (hst : t ≤ s) (ha : DV r i s = true) : lR (AP r s 0 t) (AP i s 0 t) (max s t) = r ∧ lI (AP r s 0 t) (AP i s 0 t) (max s t) = i ∧ lS (AP r s 0 t) (AP i s 0 t) (max s t) = s := by
  rw [AP_ge _ _ _ _ hst, AP_ge _ _ _ _ hst, Int.max_eq_left hst]
  simp only [Int.zero_mul, Int.add_zero]
  exact l_norm r i s ha
theorem zero_shift (t : Int) (h : DV 0 0 t = true) : t = 0 := by
  obtain ⟨_, _, _, _, _, _, h7⟩ := (DV_iff 0 0 t).1 h
  omega
/-- A near sum fits DyadMake. -/
theorem add_near (r i s x y t : Int) (hst : t ≤ s) (ha : DV r i s = true) (hb : DV x y t = true) (h : s - t ≤ 31) :
    MKr (AP r s x t) (AP i s y t) (max s t) = true ∧ -2305843009213693952 ≤ x * 2 ^ (s - t).toNat ∧ x * 2 ^ (s - t).toNat ≤ 2305843009213693952 ∧ -2305843009213693952 ≤ y * 2 ^ (s - t).toNat ∧ y * 2 ^ (s - t).toNat ≤ 2305843009213693952 := by
  obtain ⟨a1, a2, a3, a4, a5, a6, _⟩ := (DV_iff r i s).1 ha
  obtain ⟨b1, b2, b3, b4, b5, b6, _⟩ := (DV_iff x y t).1 hb
  have n1 := abs_near x (s - t).toNat (by omega) (by omega)
  have n2 := abs_near y (s - t).toNat (by omega) (by omega)
  rw [AP_ge _ _ _ _ hst, AP_ge _ _ _ _ hst, Int.max_eq_left hst]
  refine ⟨(MKr_iff _ _ _).2 ⟨by omega, by omega, by omega, by omega, by omega, by omega⟩, by omega, by omega, by omega, by omega⟩

/-- A number can be raised (the reference's way of asking). -/
def RA (n k : Int) : Bool := decide (k = 0 ∨ n.natAbs * 2 ^ (k - 1).toNat ≤ 1152921504606846976)
theorem RA_bd (n k : Int) (h : RA n k = true) (hk : 0 ≤ k) (hn : n.natAbs ≤ 1073741824) : (n * 2 ^ k.toNat).natAbs ≤ 2305843009213693952 := by
  unfold RA at h
  rw [decide_eq_true_iff] at h
  rw [abs_mul_pow]
  rcases h with h | h
  · subst h; simp; omega
  · by_cases h0 : k = 0
    · subst h0; simp; omega
    · have e : k.toNat = (k - 1).toNat + 1 := by omega
      rw [e, Nat.pow_succ, ← Nat.mul_assoc]; omega
theorem RA_false (n k : Int) (h : RA n k = false) (hk : 0 ≤ k) (hn : n.natAbs ≤ 1073741824) : n ≠ 0 ∧ 31 < k := by
  unfold RA at h
  rw [decide_eq_false_iff_not] at h
  refine ⟨?_, ?_⟩
  · intro e; subst e; simp at h
  · rcases Int.lt_or_le 31 k with h1 | h1
    · exact h1
    · exfalso; apply h
      by_cases h0 : k = 0
      · exact Or.inl h0
      · right
        have h2 : 2 ^ (k - 1).toNat ≤ 2 ^ 30 := Nat.pow_le_pow_right (by omega) (by omega)
        calc n.natAbs * 2 ^ (k - 1).toNat ≤ 1073741824 * 2 ^ 30 := Nat.mul_le_mul hn h2
          _ = 1152921504606846976 := rfl
theorem RA_zero (n : Int) : RA n 0 = true := by unfold RA; simp
/-- Raising fails: there is no sum. -/
theorem raise_fail (r i s x y t : Int) (ha : DV r i s = true) (hb : DV x y t = true)
    (h : RA r (max s t - s) = false ∨ RA i (max s t - s) = false ∨ RA x (max s t - t) = false ∨ RA y (max s t - t) = false) : ADD r i s x y t = false := by
  obtain ⟨a1, a2, a3, a4, a5, a6, _⟩ := (DV_iff r i s).1 ha
  obtain ⟨b1, b2, b3, b4, b5, b6, _⟩ := (DV_iff x y t).1 hb
  rcases Int.le_total t s with hst | hst
  · rw [Int.max_eq_left hst] at h
    have e0 : s - s = 0 := by omega
    rw [e0, RA_zero, RA_zero] at h
    have hk : ¬ (x = 0 ∧ y = 0) ∧ 31 < s - t := by
      rcases h with h | h | h | h
      · cases h
      · cases h
      · have := RA_false _ _ h (by omega) (by omega); omega
      · have := RA_false _ _ h (by omega) (by omega); omega
    unfold ADD
    rw [add_far r i s x y t hst ha hk.1 hk.2, Bool.and_false]
  · rw [Int.max_eq_right hst] at h
    have e0 : t - t = 0 := by omega
    rw [e0, RA_zero, RA_zero] at h
    have hk : ¬ (r = 0 ∧ i = 0) ∧ 31 < t - s := by
      rcases h with h | h | h | h
      · have := RA_false _ _ h (by omega) (by omega); omega
      · have := RA_false _ _ h (by omega) (by omega); omega
      · cases h
      · cases h
    rw [ADD_comm]
    unfold ADD
    rw [add_far x y t r i s hst hb hk.1 hk.2, Bool.and_false]

/-- 4 in the norm's own steps. -/
def F4 (s : Int) : Int := 4 * 2 ^ (2 * s).toNat
/-- The norm's sign against 4. -/
def NM (r i s : Int) : Int := if 30 ≤ s ∨ r * r + i * i < F4 s then -1 else if r * r + i * i = F4 s then 0 else 1
def SR (r i : Int) : Int := r * r - i * i
def SI (r i : Int) : Int := 2 * r * i
def SQ (r i s : Int) : Bool := DV r i s && MK (SR r i) (SI r i) (2 * s)
end Go.Proofs.Ytjbpaejjpamcpaa
