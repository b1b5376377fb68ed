/- Plain numbers: exact dyadic numbers, lowest terms, sums and squares. No program in sight. -/
namespace Go.Proofs.Ytjbpaejjpamcpaa
set_option linter.unusedSimpArgs false
set_option linter.unusedVariables false

/-- A valid exact number. -/
def DV (r i s : Int) : Bool := decide (-1073741824 ≤ r ∧ r ≤ 1073741824 ∧ -1073741824 ≤ i ∧ i ≤ 1073741824 ∧ 0 ≤ s ∧ s ≤ 60 ∧ (s = 0 ∨ ¬ r % 2 = 0 ∨ ¬ i % 2 = 0))
theorem DV_iff (r i s : Int) : DV r i s = true ↔ -1073741824 ≤ r ∧ r ≤ 1073741824 ∧ -1073741824 ≤ i ∧ i ≤ 1073741824 ∧ 0 ≤ s ∧ s ≤ 60 ∧ (s = 0 ∨ ¬ r % 2 = 0 ∨ ¬ i % 2 = 0) := by
  unfold DV; rw [decide_eq_true_iff]
theorem DV_false (r i s : Int) : DV r i s = false ↔ ¬ (-1073741824 ≤ r ∧ r ≤ 1073741824 ∧ -1073741824 ≤ i ∧ i ≤ 1073741824 ∧ 0 ≤ s ∧ s ≤ 60 ∧ (s = 0 ∨ ¬ r % 2 = 0 ∨ ¬ i % 2 = 0)) := by
  unfold DV; rw [decide_eq_false_iff_not]

/-- Lowest terms, by so many halvings at the most: the real part, the imaginary part, the shift. -/
def low : Nat → Int → Int → Int × Int × Nat
  | 0, r, i => (r, i, 0)
  | k + 1, r, i => if r % 2 = 0 ∧ i % 2 = 0 then low k (r / 2) (i / 2) else (r, i, k + 1)
def lR (r i s : Int) : Int := (low s.toNat r i).1
def lI (r i s : Int) : Int := (low s.toNat r i).2.1
def lS (r i s : Int) : Int := ((low s.toNat r i).2.2 : Nat)

theorem low_step (k : Nat) (r i : Int) (h : r % 2 = 0) (h' : i % 2 = 0) : low (k + 1) r i = low k (r / 2) (i / 2) := by
  rw [low, if_pos ⟨h, h'⟩]
theorem low_stop (k : Nat) (r i : Int) (h : ¬ (r % 2 = 0 ∧ i % 2 = 0)) : low k r i = (r, i, k) := by
  cases k with
  | zero => rfl
  | succ k => rw [low, if_neg h]

theorem low_spec (k : Nat) : ∀ r i : Int, ∃ m : Nat, k = (low k r i).2.2 + m ∧ r = (low k r i).1 * 2 ^ m ∧ i = (low k r i).2.1 * 2 ^ m ∧ ((low k r i).2.2 = 0 ∨ ¬ (low k r i).1 % 2 = 0 ∨ ¬ (low k r i).2.1 % 2 = 0) := by
  induction k with
  | zero => intro r i; exact ⟨0, by simp [low], by simp [low], by simp [low], Or.inl rfl⟩
  | succ k ih =>
    intro r i
    by_cases h : r % 2 = 0 ∧ i % 2 = 0
    · rw [low_step k r i h.1 h.2]
      obtain ⟨m, h1, h2, h3, h4⟩ := ih (r / 2) (i / 2)
      refine ⟨m + 1, by omega, ?_, ?_, h4⟩
      · rw [Int.pow_succ, ← Int.mul_assoc, ← h2]; omega
      · rw [Int.pow_succ, ← Int.mul_assoc, ← h3]; omega
    · rw [low_stop _ r i h]
      exact ⟨0, by simp, by simp, by simp, Or.inr (by show ¬ r % 2 = 0 ∨ ¬ i % 2 = 0; omega)⟩

/-- What is in lowest terms is found again. -/
theorem low_up (m : Nat) : ∀ (s : Nat) (r i : Int), (s = 0 ∨ ¬ r % 2 = 0 ∨ ¬ i % 2 = 0) → low (s + m) (r * 2 ^ m) (i * 2 ^ m) = (r, i, s) := by
  induction m with
  | zero =>
    intro s r i h
    simp only [Nat.add_zero, Int.pow_zero, Int.mul_one]
    rcases h with h | h
    · subst h; rfl
    · exact low_stop s r i (by omega)
  | succ m ih =>
    intro s r i h
    have e : ∀ x : Int, x * 2 ^ (m + 1) = (x * 2 ^ m) * 2 := fun x => by rw [Int.pow_succ, Int.mul_assoc]
    rw [e, e, show s + (m + 1) = (s + m) + 1 by omega, low_step _ _ _ (by omega) (by omega), Int.mul_ediv_cancel _ (by omega), Int.mul_ediv_cancel _ (by omega)]
    exact ih s r i h

theorem lS_nonneg (r i s : Int) : 0 ≤ lS r i s := by unfold lS; omega
theorem low_eq {r i s a b c : Int} (h : low s.toNat r i = (a, b, c.toNat)) (hc : 0 ≤ c) : lR r i s = a ∧ lI r i s = b ∧ lS r i s = c := by
  unfold lR lI lS; rw [h]; exact ⟨rfl, rfl, by simp; omega⟩
theorem l_step (r i s : Int) (hs : 1 ≤ s) (h : r % 2 = 0) (h' : i % 2 = 0) : lR r i s = lR (r / 2) (i / 2) (s - 1) ∧ lI r i s = lI (r / 2) (i / 2) (s - 1) ∧ lS r i s = lS (r / 2) (i / 2) (s - 1) := by
  have e : s.toNat = (s - 1).toNat + 1 := by omega
  unfold lR lI lS; rw [e, low_step _ _ _ h h']; exact ⟨rfl, rfl, rfl⟩
theorem l_stop (r i s : Int) (hs : 0 ≤ s) (h : s = 0 ∨ ¬ r % 2 = 0 ∨ ¬ i % 2 = 0) : lR r i s = r ∧ lI r i s = i ∧ lS r i s = s := by
  have e : low s.toNat r i = (r, i, s.toNat) := by
    rcases h with h | h
    · subst h; rfl
    · exact low_stop _ _ _ (by omega)
  exact low_eq e hs
theorem l_norm (r i s : Int) (h : DV r i s = true) : lR r i s = r ∧ lI r i s = i ∧ lS r i s = s := by
  obtain ⟨_, _, _, _, h1, _, h2⟩ := (DV_iff r i s).1 h
  exact l_stop r i s h1 h2
/-- The value is kept. -/
theorem l_spec (r i s : Int) (hs : 0 ≤ s) : ∃ m : Nat, s = lS r i s + m ∧ r = lR r i s * 2 ^ m ∧ i = lI r i s * 2 ^ m ∧ (lS r i s = 0 ∨ ¬ lR r i s % 2 = 0 ∨ ¬ lI r i s % 2 = 0) := by
  obtain ⟨m, h1, h2, h3, h4⟩ := low_spec s.toNat r i
  refine ⟨m, ?_, h2, h3, ?_⟩
  · unfold lS; omega
  · unfold lS lR lI; rcases h4 with h4 | h4
    · left; omega
    · right; exact h4
theorem abs_mul_pow (a : Int) (m : Nat) : (a * 2 ^ m).natAbs = a.natAbs * 2 ^ m := by rw [Int.natAbs_mul, Int.natAbs_pow]; rfl
theorem le_mul_pow (a m : Nat) : a ≤ a * 2 ^ m := Nat.le_mul_of_pos_right _ (Nat.two_pow_pos m)
/-- Lowest terms are no greater. -/
theorem l_le (r i s : Int) (hs : 0 ≤ s) : (lR r i s).natAbs ≤ r.natAbs ∧ (lI r i s).natAbs ≤ i.natAbs ∧ lS r i s ≤ s := by
  obtain ⟨m, h1, h2, h3, _⟩ := l_spec r i s hs
  have e2 : r.natAbs = (lR r i s).natAbs * 2 ^ m := by rw [← abs_mul_pow, ← h2]
  have e3 : i.natAbs = (lI r i s).natAbs * 2 ^ m := by rw [← abs_mul_pow, ← h3]
  refine ⟨?_, ?_, by omega⟩
  · rw [e2]; exact le_mul_pow _ _
  · rw [e3]; exact le_mul_pow _ _

/-- What DyadMake takes and gives. -/
def MKr (r i s : Int) : Bool := decide (0 ≤ s ∧ s ≤ 120 ∧ -4611686018427387904 ≤ r ∧ r ≤ 4611686018427387904 ∧ -4611686018427387904 ≤ i ∧ i ≤ 4611686018427387904)
theorem MKr_iff (r i s : Int) : MKr r i s = true ↔ 0 ≤ s ∧ s ≤ 120 ∧ -4611686018427387904 ≤ r ∧ r ≤ 4611686018427387904 ∧ -4611686018427387904 ≤ i ∧ i ≤ 4611686018427387904 := by
  unfold MKr; rw [decide_eq_true_iff]
def MK (r i s : Int) : Bool := MKr r i s && DV (lR r i s) (lI r i s) (lS r i s)

theorem DV_neg (r i s : Int) : DV (-r) (-i) s = DV r i s := by
  rw [Bool.eq_iff_iff, DV_iff, DV_iff]; omega
theorem DV_zero : DV 0 0 0 = true := rfl

end Go.Proofs.Ytjbpaejjpamcpaa
