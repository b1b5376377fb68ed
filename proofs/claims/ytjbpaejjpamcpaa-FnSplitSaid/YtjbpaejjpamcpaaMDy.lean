
/- Plain numbers: exact dyadic numbers, lowest terms, sums and squares. No program in sight. -/
namespace Go.Proofs.Ytjbpaejjpamcpaa
set_option linter.unusedSimpArgs false
set_option linter.unusedVariables false

/-- A valid exact number. -/
def DV (r i s : Int) : Bool := decide (-1073741824 ≤ r ∧ r ≤ 1073741824 ∧ -1073741824 ≤ i ∧ i ≤ 1073741824 ∧ 0 ≤ s ∧ s ≤ 60 ∧ (s = 0 ∨ ¬ r % 2 = 0 ∨ ¬ i % 2 = 0))
theorem DV_iff (r i s : Int) : DV r i s = true ↔ -1073741824 ≤ r ∧ r ≤ 1073741824 ∧ -1073741824 ≤ i ∧ i ≤ 1073741824 ∧ 0 ≤ s ∧ s ≤ 60 ∧ (s = 0 ∨ ¬ r % 2 = 0 ∨ ¬ i % 2 = 0) := by
  unfold DV; rw [decide_eq_true_iff]
theorem DV_false (r i s : Int) : DV r i s = false ↔ ¬ (-1073741824 ≤ r ∧ r ≤ 1073741824 ∧ -1073741824 ≤ i ∧ i ≤ 1073741824 ∧ 0 ≤ s ∧ s ≤ 60 ∧ (s = 0 ∨ ¬ r % 2 = 0 ∨ ¬ i % 2 = 0)) := by
  unfold DV; rw [decide_eq_false_iff_not]

/-- Lowest terms, by so many halvings at the most: the real part, the imaginary part, the shift. -/
def low : Nat → Int → Int → Int × Int × Nat
  | 0, r, i => (r, i, 0)
  | k + 1, r, i => if r % 2 = 0 ∧ i % 2 = 0 then low k (r / 2) (i / 2) else (r, i, k + 1)
def lR (r i s : Int) : Int := (low s.toNat r i).1
def lI (r i s : Int) : Int := (low s.toNat r i).2.1
def lS (r i s : Int) : Int := ((low s.toNat r i).2.2 : Nat)

theorem low_step (k : Nat) (r i : Int) (h : r % 2 = 0) (h' : i % 2 = 0) : low (k + 1) r i = low k (r / 2) (i / 2) := by
  rw [low, if_pos ⟨h, h'⟩]
theorem low_stop (k : Nat) (r i : Int) (h : ¬ (r % 2 = 0 ∧ i % 2 = 0)) : low k r i = (r, i, k) := by
  cases k with
  | zero => rfl
  | succ k => rw [low, if_neg h]

theorem low_spec (k : Nat) : ∀ r i : Int, ∃ m : Nat, k = (low k r i).2.2 + m ∧ r = (low k r i).1 * 2 ^ m ∧ i = (low k r i).2.1 * 2 ^ m ∧ ((low k r i).2.2 = 0 ∨ ¬ (low k r i).1 % 2 = 0 ∨ ¬ (low k r i).2.1 % 2 = 0) := by
  induction k with
  | zero => intro r i; exact ⟨0, by simp [low], by simp [low], by simp [low], Or.inl rfl⟩
  | succ k ih =>
    intro r i
    by_cases h : r % 2 = 0 ∧ i % 2 = 0
    · rw [low_step k r i h.1 h.2]
      obtain ⟨m, h1, h2, h3, h4⟩ := ih (r / 2) (i / 2)
      refine ⟨m + 1, by omega, ?_, ?_, h4⟩
      · rw [Int.pow_succ, ← Int.mul_assoc, ← h2]; omega
      · rw [Int.pow_succ, ← Int.mul_assoc, ← h3]; omega
    · rw [low_stop _ r i h]
      exact ⟨0, by simp, by simp, by simp, Or.inr (by show ¬ r % 2 = 0 ∨ ¬ i % 2 = 0; omega)⟩

/-- What is in lowest terms is found again. -/
theorem low_up (m : Nat) : ∀ (s : Nat) (r i : Int), (s = 0 ∨ ¬ r % 2 = 0 ∨ ¬ i % 2 = 0) → low (s + m) (r * 2 ^ m) (i * 2 ^ m) = (r, i, s) := by
  induction m with
  | zero =>
    intro s r i h
    simp only [Nat.add_zero, Int.pow_zero, Int.mul_one]
    rcases h with h | h
    · subst h; rfl
    · exact low_stop s r i (by omega)
  | succ m ih =>
    intro s r i h
    have e : ∀ x : Int, x * 2 ^ (m + 1) = (x * 2 ^ m) * 2 := fun x => by rw [Int.pow_succ, Int.mul_assoc]
    rw [e, e, show s + (m + 1) = (s + m) + 1 by omega, low_step _ _ _ (by omega) (by omega), Int.mul_ediv_cancel _ (by omega), Int.mul_ediv_cancel _ (by omega)]
    exact ih s r i h

theorem lS_nonneg (r i s : Int) : 0 ≤ lS r i s := by unfold lS; omega
theorem low_eq {r i s a b c : Int} (h : low s.toNat r i = (a, b, c.toNat)) (hc : 0 ≤ c) : lR r i s = a ∧ lI r i s = b ∧ lS r i s = c := by
  unfold lR lI lS; rw [h]; exact ⟨rfl, rfl, by simp; omega⟩
theorem l_step (r i s : Int) (hs : 1 ≤ s) (h : r % 2 = 0) (h' : i % 2 = 0) : lR r i s = lR (r / 2) (i / 2) (s - 1) ∧ lI r i s = lI (r / 2) (i / 2) (s - 1) ∧ lS r i s = lS (r / 2) (i / 2) (s - 1) := by
  have e : s.toNat = (s - 1).toNat + 1 := by omega
  unfold lR lI lS; rw [e, low_step _ _ _ h h']; exact ⟨rfl, rfl, rfl⟩
theorem l_stop (r i s : Int) (hs : 0 ≤ s) (h : s = 0 ∨ ¬ r % 2 = 0 ∨ ¬ i % 2 = 0) : lR r i s = r ∧ lI r i s = i ∧ lS r i s = s := by
  have e : low s.toNat r i = (r, i, s.toNat) := by
    rcases h with h | h
    · subst h; rfl
    · exact low_stop _ _ _ (by omega)
  exact low_eq e hs
theorem l_norm (r i s : Int) (h : DV r i s = true) : lR r i s = r ∧ lI r i s = i ∧ lS r i s = s := by
  obtain ⟨_, _, _, _, h1, _, h2⟩ := (DV_iff r i s).1 h
  exact l_stop r i s h1 h2
/-- The value is kept. -/
theorem l_spec (r i s : Int) (hs : 0 ≤ s) : ∃ m : Nat, s = lS r i s + m ∧ r = lR r i s * 2 ^ m ∧ i = lI r i s * 2 ^ m ∧ (lS r i s = 0 ∨ ¬ lR r i s % 2 = 0 ∨ ¬ lI r i s % 2 = 0) := by
  obtain ⟨m, h1, h2, h3, h4⟩ := low_spec s.toNat r i
  refine ⟨m, ?_, h2, h3, ?_⟩
  · unfold lS; omega
  · unfold lS lR lI; rcases h4 with h4 | h4
    · left; omega
    · right; exact h4
theorem abs_mul_pow (a : Int) (m : Nat) : (a * 2 ^ m).natAbs = a.natAbs * 2 ^ m := by rw [Int.natAbs_mul, Int.natAbs_pow]; rfl
theorem le_mul_pow (a m : Nat) : a ≤ a * 2 ^ m := Nat.le_mul_of_pos_right _ (Nat.two_pow_pos m)
/-- Lowest terms are no greater. -/
theorem l_le (r i s : Int) (hs : 0 ≤ s) : (lR r i s).natAbs ≤ r.natAbs ∧ (lI r i s).natAbs ≤ i.natAbs ∧ lS r i s ≤ s := by
  obtain ⟨m, h1, h2, h3, _⟩ := l_spec r i s hs
  have e2 : r.natAbs = (lR r i s).natAbs * 2 ^ m := by rw [← abs_mul_pow, ← h2]
  have e3 : i.natAbs = (lI r i s).natAbs * 2 ^ m := by rw [← abs_mul_pow, ← h3]
  refine ⟨?_, ?_, by omega⟩
  · rw [e2]; exact le_mul_pow _ _
  · rw [e3]; exact le_mul_pow _ _

/-- What DyadMake takes and gives. -/
def MKr (r i s : Int) : Bool := decide (0 ≤ s ∧ s ≤ 120 ∧ -4611686018427387904 ≤ r ∧ r ≤ 4611686018427387904 ∧ -4611686018427387904 ≤ i ∧ i ≤ 4611686018427387904)
theorem MKr_iff (r i s : Int) : MKr r i s = true ↔ 0 ≤ s ∧ s ≤ 120 ∧ -4611686018427387904 ≤ r ∧ r ≤ 4611686018427387904 ∧ -4611686018427387904 ≤ i ∧ i ≤ 4611686018427387904 := by
  unfold MKr; rw [decide_eq_true_iff]
def MK (r i s : Int) : Bool := MKr r i s && DV (lR r i s) (lI r i s) (lS r i s)

theorem DV_neg (r i s : Int) : DV (-r) (-i) s = DV r i s := by
  rw [Bool.eq_iff_iff, DV_iff, DV_iff]; omega
theorem DV_zero : DV 0 0 0 = true := rfl

end Go.Proofs.Ytjbpaejjpamcpaa
/- Plain numbers: sums of exact dyadic numbers. No program in sight. -/
namespace Go.Proofs.Ytjbpaejjpamcpaa
set_option linter.unusedSimpArgs false
set_option linter.unusedVariables false

/-- A part of the sum, over the greater shift. -/
def AP (r s x t : Int) : Int := r * 2 ^ (max s t - s).toNat + x * 2 ^ (max s t - t).toNat
/-- There is a sum. -/
def ADD (r i s x y t : Int) : Bool := DV r i s && DV x y t && DV (lR (AP r s x t) (AP i s y t) (max s t)) (lI (AP r s x t) (AP i s y t) (max s t)) (lS (AP r s x t) (AP i s y t) (max s t))

theorem AP_comm (r s x t : Int) : AP r s x t = AP x t r s := by
  unfold AP; rw [Int.max_comm s t, Int.add_comm]
theorem ADD_comm (r i s x y t : Int) : ADD r i s x y t = ADD x y t r i s := by
  unfold ADD; rw [AP_comm r s x t, AP_comm i s y t, Int.max_comm s t, Bool.and_comm (DV r i s)]
theorem AP_ge (r s x t : Int) (h : t ≤ s) : AP r s x t = r + x * 2 ^ (s - t).toNat := by
  unfold AP
  rw [Int.max_eq_left h, show (s - s).toNat = 0 by omega]; simp
theorem pow_pos' (n : Nat) : (1 : Int) ≤ 2 ^ n := by
  have h : 0 < 2 ^ n := Nat.two_pow_pos n
  have e : ((2 : Int) ^ n) = ((2 ^ n : Nat) : Int) := by simp
  omega
theorem pow_le' {m n : Nat} (h : m ≤ n) : (2 : Int) ^ m ≤ 2 ^ n := by
  have h1 : 2 ^ m ≤ 2 ^ n := Nat.pow_le_pow_right (by omega) h
  have e1 : ((2 : Int) ^ m) = ((2 ^ m : Nat) : Int) := by simp
  have e2 : ((2 : Int) ^ n) = ((2 ^ n : Nat) : Int) := by simp
  omega
theorem abs_mul (x : Int) (n : Nat) : (x * 2 ^ n).natAbs = x.natAbs * 2 ^ n := abs_mul_pow x n
theorem abs_far (x : Int) (n : Nat) (h : x ≠ 0) (hn : 32 ≤ n) : 4294967296 ≤ (x * 2 ^ n).natAbs := by
  rw [abs_mul_pow]
  have h1 : 1 ≤ x.natAbs := by omega
  have h2 : 2 ^ 32 ≤ 2 ^ n := Nat.pow_le_pow_right (by omega) hn
  calc 4294967296 = 1 * 2 ^ 32 := rfl
    _ ≤ x.natAbs * 2 ^ n := Nat.mul_le_mul h1 h2
theorem abs_near (x : Int) (n : Nat) (h : x.natAbs ≤ 1073741824) (hn : n ≤ 31) : (x * 2 ^ n).natAbs ≤ 2305843009213693952 := by
  rw [abs_mul_pow]
  have h2 : 2 ^ n ≤ 2 ^ 31 := Nat.pow_le_pow_right (by omega) hn
  calc x.natAbs * 2 ^ n ≤ 1073741824 * 2 ^ 31 := Nat.mul_le_mul h h2
    _ = 2305843009213693952 := rfl
theorem par_mul (x : Int) (n : Nat) (h : 1 ≤ n) : (x * 2 ^ n) % 2 = 0 := by
  obtain ⟨k, rfl⟩ : ∃ k, n = k + 1 := ⟨n - 1, by omega⟩
  rw [Int.pow_succ, ← Int.mul_assoc]; omega

/-- A part that is moved too far leaves no valid number. -/
theorem add_far (r i s x y t : Int) (hst : t ≤ s) (ha : DV r i s = true) (hne : ¬ (x = 0 ∧ y = 0)) (h : 31 < s - t) :
    DV (lR (AP r s x t) (AP i s y t) (max s t)) (lI (AP r s x t) (AP i s y t) (max s t)) (lS (AP r s x t) (AP i s y t) (max s t)) = false := by
  obtain ⟨a1, a2, a3, a4, a5, a6, a7⟩ := (DV_iff r i s).1 ha
  rw [AP_ge _ _ _ _ hst, AP_ge _ _ _ _ hst, Int.max_eq_left hst]
  have hn : 32 ≤ (s - t).toNat := by omega
  have p1 := par_mul x (s - t).toNat (by omega)
  have p2 := par_mul y (s - t).toNat (by omega)
  obtain ⟨e1, e2, e3⟩ := l_stop (r + x * 2 ^ (s - t).toNat) (i + y * 2 ^ (s - t).toNat) s a5 (by omega)
  rw [e1, e2, e3, DV_false]
  intro hv
  by_cases hx : x = 0
  · have hy : y ≠ 0 := fun e => hne ⟨hx, e⟩
    have := abs_far y _ hy hn
    omega
  · have := abs_far x _ hx hn
    omega
/-- Nothing added leaves the number. -/
theorem add_zero' (r i s t : Int) (hst : t ≤ s) (ha : DV r i s = true) : lR (AP r s 0 t) (AP i s 0 t) (max s t) = r ∧ lI (AP r s 0 t) (AP i s 0 t) (max s t) = i ∧ lS (AP r s 0 t) (AP i s 0 t) (max s t) = s := by
  rw [AP_ge _ _ _ _ hst, AP_ge _ _ _ _ hst, Int.max_eq_left hst]
  simp only [Int.zero_mul, Int.add_zero]
  exact l_norm r i s ha
theorem zero_shift (t : Int) (h : DV 0 0 t = true) : t = 0 := by
  obtain ⟨_, _, _, _, _, _, h7⟩ := (DV_iff 0 0 t).1 h
  omega
/-- A near sum fits DyadMake. -/
theorem add_near (r i s x y t : Int) (hst : t ≤ s) (ha : DV r i s = true) (hb : DV x y t = true) (h : s - t ≤ 31) :
    MKr (AP r s x t) (AP i s y t) (max s t) = true ∧ -2305843009213693952 ≤ x * 2 ^ (s - t).toNat ∧ x * 2 ^ (s - t).toNat ≤ 2305843009213693952 ∧ -2305843009213693952 ≤ y * 2 ^ (s - t).toNat ∧ y * 2 ^ (s - t).toNat ≤ 2305843009213693952 := by
  obtain ⟨a1, a2, a3, a4, a5, a6, _⟩ := (DV_iff r i s).1 ha
  obtain ⟨b1, b2, b3, b4, b5, b6, _⟩ := (DV_iff x y t).1 hb
  have n1 := abs_near x (s - t).toNat (by omega) (by omega)
  have n2 := abs_near y (s - t).toNat (by omega) (by omega)
  rw [AP_ge _ _ _ _ hst, AP_ge _ _ _ _ hst, Int.max_eq_left hst]
  refine ⟨(MKr_iff _ _ _).2 ⟨by omega, by omega, by omega, by omega, by omega, by omega⟩, by omega, by omega, by omega, by omega⟩

/-- A number can be raised (the reference's way of asking). -/
def RA (n k : Int) : Bool := decide (k = 0 ∨ n.natAbs * 2 ^ (k - 1).toNat ≤ 1152921504606846976)
theorem RA_bd (n k : Int) (h : RA n k = true) (hk : 0 ≤ k) (hn : n.natAbs ≤ 1073741824) : (n * 2 ^ k.toNat).natAbs ≤ 2305843009213693952 := by
  unfold RA at h
  rw [decide_eq_true_iff] at h
  rw [abs_mul_pow]
  rcases h with h | h
  · subst h; simp; omega
  · by_cases h0 : k = 0
    · subst h0; simp; omega
    · have e : k.toNat = (k - 1).toNat + 1 := by omega
      rw [e, Nat.pow_succ, ← Nat.mul_assoc]; omega
theorem RA_false (n k : Int) (h : RA n k = false) (hk : 0 ≤ k) (hn : n.natAbs ≤ 1073741824) : n ≠ 0 ∧ 31 < k := by
  unfold RA at h
  rw [decide_eq_false_iff_not] at h
  refine ⟨?_, ?_⟩
  · intro e; subst e; simp at h
  · rcases Int.lt_or_le 31 k with h1 | h1
    · exact h1
    · exfalso; apply h
      by_cases h0 : k = 0
      · exact Or.inl h0
      · right
        have h2 : 2 ^ (k - 1).toNat ≤ 2 ^ 30 := Nat.pow_le_pow_right (by omega) (by omega)
        calc n.natAbs * 2 ^ (k - 1).toNat ≤ 1073741824 * 2 ^ 30 := Nat.mul_le_mul hn h2
          _ = 1152921504606846976 := rfl
theorem RA_zero (n : Int) : RA n 0 = true := by unfold RA; simp
/-- Raising fails: there is no sum. -/
theorem raise_fail (r i s x y t : Int) (ha : DV r i s = true) (hb : DV x y t = true)
    (h : RA r (max s t - s) = false ∨ RA i (max s t - s) = false ∨ RA x (max s t - t) = false ∨ RA y (max s t - t) = false) : ADD r i s x y t = false := by
  obtain ⟨a1, a2, a3, a4, a5, a6, _⟩ := (DV_iff r i s).1 ha
  obtain ⟨b1, b2, b3, b4, b5, b6, _⟩ := (DV_iff x y t).1 hb
  rcases Int.le_total t s with hst | hst
  · rw [Int.max_eq_left hst] at h
    have e0 : s - s = 0 := by omega
    rw [e0, RA_zero, RA_zero] at h
    have hk : ¬ (x = 0 ∧ y = 0) ∧ 31 < s - t := by
      rcases h with h | h | h | h
      · cases h
      · cases h
      · have := RA_false _ _ h (by omega) (by omega); omega
      · have := RA_false _ _ h (by omega) (by omega); omega
    unfold ADD
    rw [add_far r i s x y t hst ha hk.1 hk.2, Bool.and_false]
  · rw [Int.max_eq_right hst] at h
    have e0 : t - t = 0 := by omega
    rw [e0, RA_zero, RA_zero] at h
    have hk : ¬ (r = 0 ∧ i = 0) ∧ 31 < t - s := by
      rcases h with h | h | h | h
      · have := RA_false _ _ h (by omega) (by omega); omega
      · have := RA_false _ _ h (by omega) (by omega); omega
      · cases h
      · cases h
    rw [ADD_comm]
    unfold ADD
    rw [add_far x y t r i s hst hb hk.1 hk.2, Bool.and_false]

/-- 4 in the norm's own steps. -/
def F4 (s : Int) : Int := 4 * 2 ^ (2 * s).toNat
/-- The norm's sign against 4. -/
def NM (r i s : Int) : Int := if 30 ≤ s ∨ r * r + i * i < F4 s then -1 else if r * r + i * i = F4 s then 0 else 1
def SR (r i : Int) : Int := r * r - i * i
def SI (r i : Int) : Int := 2 * r * i
def SQ (r i s : Int) : Bool := DV r i s && MK (SR r i) (SI r i) (2 * s)
end Go.Proofs.Ytjbpaejjpamcpaa
/- What is drawn at a place, as plain arithmetic. No program in sight. -/
namespace Go.Proofs.Ytjbpaejjpamcpaa
set_option linter.unusedSimpArgs false
set_option linter.unusedVariables false
/-- The box that is drawn at place p, and the place behind it. -/
def wTab (k : Int) : Int := if k = 0 then 0 else if k = 1 then 1 else if k = 2 then 65536 else if k = 3 then 262144 else if k = 4 then 1048576 else if k = 5 then 4194304 else 33554432
def bxA (pv : Int → Int → Int) (p : Int) : Int := if pv (p + 3) 24 = 2 then -134217728 else (pv p 200 - 128) * 262144
def bxB (pv : Int → Int → Int) (p : Int) : Int := if pv (p + 3) 24 = 0 then (pv p 200 - 128) * 262144 - 1 else if pv (p + 3) 24 = 3 then (pv p 200 - 128) * 262144 + pv (p + 4) 200 * 262144 else (pv p 200 - 128) * 262144 + wTab (pv (p + 2) 7)
def bxC (pv : Int → Int → Int) (p : Int) : Int := (pv (p + 1) 160 - 80) * 262144
def bxD (pv : Int → Int → Int) (p : Int) : Int := if pv (p + 3) 24 = 1 then 134217729 else (pv (p + 1) 160 - 80) * 262144 + wTab (pv (p + 2) 7)
def bxP (pv : Int → Int → Int) (p : Int) : Int := if pv (p + 3) 24 = 3 then p + 5 else p + 4
/-- The exact number that is drawn at place p. -/
def dyR (pv : Int → Int → Int) (p : Int) : Int := if pv (p + 3) 30 = 0 then 2 else if pv (p + 3) 30 = 2 then 1073741823 else if pv (p + 3) 30 = 3 then 1 else lR (pv p 65 - 32) (pv (p + 1) 65 - 32) (pv (p + 2) 7)
def dyI (pv : Int → Int → Int) (p : Int) : Int := if pv (p + 3) 30 = 0 then 4 else if pv (p + 3) 30 = 1 then 1073741825 else if pv (p + 3) 30 = 2 then 7 else if pv (p + 3) 30 = 3 then 0 else lI (pv p 65 - 32) (pv (p + 1) 65 - 32) (pv (p + 2) 7)
def dyS (pv : Int → Int → Int) (p : Int) : Int := if pv (p + 3) 30 = 0 then 1 else if pv (p + 3) 30 = 2 then 60 else if pv (p + 3) 30 = 3 then 61 else lS (pv p 65 - 32) (pv (p + 1) 65 - 32) (pv (p + 2) 7)
/-- What pick gives is in its range. -/
def PvOk (pv : Int → Int → Int) : Prop := ∀ p n, 0 ≤ p → p < 1000000000000 → 1 ≤ n → 0 ≤ pv p n ∧ pv p n < n
theorem wTab_bd (k : Int) : 0 ≤ wTab k ∧ wTab k ≤ 33554432 := by unfold wTab; repeat' split <;> omega
theorem bx_bd {pv : Int → Int → Int} (h : PvOk pv) {p : Int} (hp : 0 ≤ p) (hp' : p ≤ 1000000) : -200000000 ≤ bxA pv p ∧ bxA pv p ≤ 200000000 ∧ -200000000 ≤ bxB pv p ∧ bxB pv p ≤ 200000000 ∧ -200000000 ≤ bxC pv p ∧ bxC pv p ≤ 200000000 ∧ -200000000 ≤ bxD pv p ∧ bxD pv p ≤ 200000000 := by
  have h1 := h p 200 hp (by omega) (by omega)
  have h2 := h (p + 1) 160 (by omega) (by omega) (by omega)
  have h3 := h (p + 4) 200 (by omega) (by omega) (by omega)
  have hw := wTab_bd (pv (p + 2) 7)
  unfold bxA bxB bxC bxD
  refine ⟨?_, ?_, ?_, ?_, ?_, ?_, ?_, ?_⟩ <;> (repeat' split) <;> omega
end Go.Proofs.Ytjbpaejjpamcpaa
