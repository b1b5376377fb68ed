/- Words of float64 numbers that are neither great nor small: their fields; halves and doubles move the exponent's field. No program in sight. -/
import Derived.Test.YtgnkjfafgcbpbaaDoorFl0
namespace Go.Proofs.YtgnkjfafgcbpbaaDoor.Fl
set_option linter.unusedSimpArgs false
set_option linter.unusedVariables false
open Ieee
def fld (b : Nat) : Nat := b / 4503599627370496 % 2048
structure Nrm (b : Nat) : Prop where
  lt : b < 18446744073709551616
  lo : 1 ≤ fld b
  hi : fld b ≤ 2046
def neg (b : Nat) : Bool := b / 9223372036854775808 == 1
def mant (b : Nat) : Nat := 4503599627370496 + b % 4503599627370496
theorem std : Std double := Or.inr rfl
theorem dbl_facts : double.signWeight = 9223372036854775808 ∧ double.binade = 4503599627370496 ∧ double.infRung = 9218868437227405312 ∧ double.leastPlace = -1074 ∧ double.fractionBits = 52 := by decide
theorem lp_dbl : lp double = 1074 := by decide
theorem read_nrm {b : Nat} (h : Nrm b) : double.read b = .number (neg b) (mant b) ((fld b : Int) - 1075) := by
  obtain ⟨h1, h2, h3, h4, h5⟩ := dbl_facts
  obtain ⟨a1, a2, a3⟩ := h
  unfold Format.read
  simp only [h1, h2, h3, h4]
  unfold fld at a2 a3
  rw [if_neg (by omega), if_pos (by omega)]
  have e1 : (b / 9223372036854775808 % 2 == 1) = neg b := by
    unfold neg; rw [Nat.mod_eq_of_lt (by omega)]
  rw [e1]
  have e2 : 4503599627370496 + b % 9223372036854775808 % 4503599627370496 = mant b := by unfold mant; omega
  have e3 : (-1074 : Int) + ((b % 9223372036854775808 / 4503599627370496 - 1 : Nat) : Int) = (fld b : Int) - 1075 := by unfold fld; omega
  rw [e2, e3]
theorem mant_log (b : Nat) : (mant b).log2 = 52 := log2_eq (by unfold mant; omega) (by unfold mant; omega)
/-- A word is what is nearest to its number. -/
theorem write_nrm {b : Nat} (h : Nrm b) : double.nearest (neg b) (mant b) ((fld b : Int) - 1075) = b := by
  obtain ⟨h1, h2, h3, h4, h5⟩ := dbl_facts
  obtain ⟨a1, a2, a3⟩ := h
  unfold Format.nearest
  rw [if_neg (by unfold mant; omega), mant_log, h4, h5]
  have e : max ((fld b : Int) - 1075 + (52 : Nat) - (52 : Nat)) (-1074) = (fld b : Int) - 1075 := by omega
  simp only [e]
  have e1 : ((fld b : Int) - 1075 - ((fld b : Int) - 1075)).toNat = 0 := by omega
  rw [e1, cut_zero, Nat.shiftLeft_eq, Nat.pow_zero, Nat.mul_one, h2, h3]
  have e2 : ((fld b : Int) - 1075 - -1074).toNat * 4503599627370496 + mant b = b % 9223372036854775808 := by
    unfold mant; unfold fld at a2 a3 ⊢; omega
  rw [e2, Nat.min_eq_left (by unfold fld at a2 a3; omega)]
  unfold Format.word neg
  rw [h1]
  by_cases hs : b / 9223372036854775808 = 1
  · rw [if_pos (by simpa using hs)]; omega
  · rw [if_neg (by simpa using hs)]; omega
def vN (b : Nat) : Int := sg (neg b) (mant b * 2 ^ (fld b - 1))
theorem V_nrm {b : Nat} (h : Nrm b) : V double b (vN b) := by
  obtain ⟨h1, h2, h3, h4, h5⟩ := dbl_facts
  refine ⟨_, _, _, read_nrm h, by rw [h4]; have := h.lo; omega, ?_⟩
  unfold vN
  congr 3
  rw [h4]
  have := h.lo
  omega
theorem nrm_shift {b b' : Nat} {k : Int} (h : Nrm b) (hb : (b' : Int) = b + k * 4503599627370496) (h1 : 1 ≤ (fld b : Int) + k) (h2 : (fld b : Int) + k ≤ 2046) : Nrm b' ∧ (fld b' : Int) = fld b + k ∧ mant b' = mant b ∧ neg b' = neg b := by
  obtain ⟨a1, a2, a3⟩ := h
  have e1 : (fld b' : Int) = fld b + k := by unfold fld at a2 a3 h1 h2 ⊢; omega
  have e2 : b' / 9223372036854775808 = b / 9223372036854775808 := by unfold fld at a2 a3 h1 h2; omega
  refine ⟨⟨by unfold fld at a2 a3 h1 h2; omega, by omega, by omega⟩, e1, by unfold mant; omega, by unfold neg; rw [e2]⟩
theorem vN_shift {b b' : Nat} {k : Nat} (h : Nrm b) (hb : (b' : Int) = b - k * 4503599627370496) (h1 : 1 ≤ (fld b : Int) - k) : vN b' * 2 ^ k = vN b := by
  have := h.hi
  obtain ⟨n1, n2, n3, n4⟩ := nrm_shift (b' := b') (k := -k) h (by omega) (by omega) (by omega)
  unfold vN
  rw [n3, n4, ← sg_add_scale, show fld b' - 1 + k = fld b - 1 by omega]
theorem mul_one {b : Nat} (h : Nrm b) : double.mul 4607182418800017408 b = some b := by
  unfold Format.mul
  rw [read_nrm h, show double.read 4607182418800017408 = .number false 4503599627370496 (-52) by decide]
  show some (double.nearest (false ^^ neg b) (4503599627370496 * mant b) (-52 + ((fld b : Int) - 1075))) = some b
  have := nearest_scale double (neg b) (mant b) 52 ((fld b : Int) - 1075)
  rw [Bool.false_xor, show 4503599627370496 * mant b = mant b * 2 ^ 52 by rw [Nat.mul_comm], show (-52 : Int) + ((fld b : Int) - 1075) = (fld b : Int) - 1075 - (52 : Nat) by omega, this, write_nrm h]
theorem div_two {b : Nat} (h : Nrm b) (h2 : 2 ≤ fld b) : double.div b 4611686018427387904 = some (b - 4503599627370496) := by
  unfold Format.div
  rw [read_nrm h, show double.read 4611686018427387904 = .number false 4503599627370496 (-51) by decide]
  have hq : Datum.quotient (double.fractionBits + 2) (.number (neg b) (mant b) ((fld b : Int) - 1075)) (.number false 4503599627370496 (-51)) = some (.number (neg b) (mant b * 2 ^ 3) ((fld b : Int) - 1079)) := by
    unfold Datum.quotient
    simp only []
    rw [if_neg (by decide), mant_log]
    have e : double.fractionBits + 2 + Nat.log2 4503599627370496 - 52 = 54 := by decide
    simp only [e, Nat.shiftLeft_eq]
    have d1 : mant b * 2 ^ 54 / 4503599627370496 = mant b * 4 := by
      rw [show mant b * 2 ^ 54 = mant b * 4 * 4503599627370496 by rw [Nat.mul_assoc]]
      exact Nat.mul_div_cancel _ (by decide)
    have d2 : mant b * 2 ^ 54 % 4503599627370496 = 0 := by
      rw [show mant b * 2 ^ 54 = mant b * 4 * 4503599627370496 by rw [Nat.mul_assoc]]
      exact Nat.mul_mod_left _ _
    rw [d1, d2, Bool.xor_false]
    congr 2
    · simp; omega
    · omega
  rw [hq]
  show some (double.nearest (neg b) (mant b * 2 ^ 3) ((fld b : Int) - 1079)) = _
  have := nearest_scale double (neg b) (mant b) 3 ((fld b : Int) - 1076)
  rw [show (fld b : Int) - 1079 = (fld b : Int) - 1076 - (3 : Nat) by omega, this]
  have hi := h.hi
  have hge : 4503599627370496 ≤ b := by unfold fld at h2; omega
  obtain ⟨n1, n2, n3, n4⟩ := nrm_shift (b' := b - 4503599627370496) (k := -1) h (by omega) (by omega) (by omega)
  have w := write_nrm n1
  rw [n2, n3, n4, show (fld b : Int) + -1 - 1075 = (fld b : Int) - 1076 by omega] at w
  rw [w]
theorem read_zero : double.read 0 = .number false 0 (-1074) := by decide
theorem V_zero : V double 0 0 := ⟨false, 0, -1074, read_zero, by decide, by decide⟩
theorem div_two_zero : double.div 0 4611686018427387904 = some 0 := by decide
/-- The word of a whole number. -/
def FW (n : Int) : Nat := double.nearest (n < 0) n.natAbs 0
theorem FW_zero : FW 0 = 0 := by decide
theorem FW_nrm {n : Int} (h0 : n ≠ 0) (h : n.natAbs < 9007199254740992) : Nrm (FW n) ∧ fld (FW n) = 1023 + n.natAbs.log2 := by
  obtain ⟨h1, h2, h3, h4, h5⟩ := dbl_facts
  obtain ⟨L, hL⟩ : ∃ L, n.natAbs.log2 = L := ⟨_, rfl⟩
  have hm : n.natAbs ≠ 0 := by omega
  have hL1 : 2 ^ L ≤ n.natAbs := hL ▸ Nat.log2_self_le hm
  have hL2 : n.natAbs < 2 ^ (L + 1) := hL ▸ Nat.lt_log2_self
  have hL3 : L ≤ 52 := by
    have := (Nat.log2_lt (k := 53) hm).2 h; omega
  have hw : FW n = double.word (decide (n < 0)) ((1022 + L) * 4503599627370496 + n.natAbs * 2 ^ (52 - L)) ∧ 4503599627370496 ≤ n.natAbs * 2 ^ (52 - L) ∧ n.natAbs * 2 ^ (52 - L) < 9007199254740992 := by
    have k1 : 4503599627370496 ≤ n.natAbs * 2 ^ (52 - L) := by
      have : 2 ^ L * 2 ^ (52 - L) ≤ n.natAbs * 2 ^ (52 - L) := Nat.mul_le_mul_right _ hL1
      rwa [← Nat.pow_add, show L + (52 - L) = 52 by omega] at this
    have k2 : n.natAbs * 2 ^ (52 - L) < 9007199254740992 := by
      have : n.natAbs * 2 ^ (52 - L) < 2 ^ (L + 1) * 2 ^ (52 - L) := Nat.mul_lt_mul_of_pos_right hL2 (Nat.two_pow_pos _)
      rwa [← Nat.pow_add, show L + 1 + (52 - L) = 53 by omega] at this
    refine ⟨?_, k1, k2⟩
    unfold FW Format.nearest
    rw [if_neg hm, hL, h4, h5]
    have e : max ((0 : Int) + (L : Int) - (52 : Nat)) (-1074) = (L : Int) - 52 := by omega
    simp only [e]
    have e1 : ((0 : Int) - ((L : Int) - 52)).toNat = 52 - L := by omega
    have e2 : ((L : Int) - 52 - 0).toNat = 0 := by omega
    have e3 : ((L : Int) - 52 - -1074).toNat = 1022 + L := by omega
    rw [e1, e2, e3, cut_zero, Nat.shiftLeft_eq, h2, h3, Nat.min_eq_left (by omega)]
  obtain ⟨hw, k1, k2⟩ := hw
  rw [hw]
  generalize n.natAbs * 2 ^ (52 - L) = K at k1 k2
  unfold Format.word
  rw [h1, hL]
  by_cases hs : n < 0
  · rw [if_pos (by simpa using hs)]
    refine ⟨⟨by omega, by unfold fld; omega, by unfold fld; omega⟩, by unfold fld; omega⟩
  · rw [if_neg (by simpa using hs)]
    refine ⟨⟨by omega, by unfold fld; omega, by unfold fld; omega⟩, by unfold fld; omega⟩
theorem V_FW {n : Int} (h : n.natAbs < 9007199254740992) : V double (FW n) (n * 2 ^ 1074) := by
  have := V_int std n h (mul_pow_lt (b := 53) h (by decide))
  rwa [lp_dbl] at this
theorem V_unique {f : Format} {x : Nat} {v w : Int} (h : V f x v) (k : V f x w) : v = w := by
  obtain ⟨s, m, e, h1, -, rfl⟩ := h
  obtain ⟨t, n, j, h2, -, rfl⟩ := k
  rw [h1] at h2
  cases h2; rfl
/-- The word of a whole number over 2 to the power of s. -/
def DWn (n : Int) (s : Nat) : Nat := if n = 0 then 0 else FW n - s * 4503599627370496
theorem DWn_nrm {n : Int} {s : Nat} (h0 : n ≠ 0) (h : n.natAbs < 9007199254740992) (hs : s ≤ 1000) : Nrm (DWn n s) ∧ fld (DWn n s) = 1023 + n.natAbs.log2 - s ∧ ((DWn n s : Nat) : Int) = FW n - s * 4503599627370496 := by
  obtain ⟨a, b⟩ := FW_nrm h0 h
  unfold DWn
  rw [if_neg h0]
  have hge : s * 4503599627370496 ≤ FW n := by unfold fld at b; omega
  have hlog : n.natAbs.log2 ≤ 52 := by have := (Nat.log2_lt (k := 53) (by omega : n.natAbs ≠ 0)).2 h; omega
  obtain ⟨n1, n2, n3, n4⟩ := nrm_shift (b' := FW n - s * 4503599627370496) (k := -s) a (by omega) (by omega) (by omega)
  exact ⟨n1, by omega, by omega⟩
theorem V_DWn {n : Int} {s : Nat} (h : n.natAbs < 9007199254740992) (hs : s ≤ 1000) : V double (DWn n s) (n * 2 ^ (1074 - s)) := by
  by_cases h0 : n = 0
  · subst h0
    unfold DWn
    rw [if_pos rfl, Int.zero_mul]; exact V_zero
  · obtain ⟨a, b, c⟩ := DWn_nrm h0 h hs
    have v1 := V_nrm (FW_nrm h0 h).1
    have e1 := V_unique v1 (V_FW h)
    have hf := (FW_nrm h0 h).2
    have e2 := vN_shift (b := FW n) (b' := DWn n s) (k := s) (FW_nrm h0 h).1 c (by rw [hf]; omega)
    have v2 := V_nrm a
    have : vN (DWn n s) = n * 2 ^ (1074 - s) := by
      have hp : (2 : Int) ^ s ≠ 0 := by have : (0 : Int) < 2 ^ s := Int.pow_pos (by decide); omega
      apply Int.eq_of_mul_eq_mul_right hp
      rw [e2, e1, Int.mul_assoc, ← Int.pow_add, show 1074 - s + s = 1074 by omega]
    rwa [this] at v2
theorem DWn_lt {n : Int} {s : Nat} (h : n.natAbs < 9007199254740992) (hs : s ≤ 1000) : DWn n s < 18446744073709551616 := by
  by_cases h0 : n = 0
  · subst h0; unfold DWn; rw [if_pos rfl]; decide
  · exact (DWn_nrm h0 h hs).1.lt
end Go.Proofs.YtgnkjfafgcbpbaaDoor.Fl
