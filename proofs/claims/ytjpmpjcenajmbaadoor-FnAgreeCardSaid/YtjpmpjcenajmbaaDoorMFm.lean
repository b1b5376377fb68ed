import Derived.Test.YtjpmpjcenajmbaaDoorMFl
import GoSem.Core.Value
import Derived.Test.YtjpmpjcenajmbaaDoorEng
/- Bits of a float64's word: its sign struck, its exponent's field struck and set; orders. No program in sight. -/
namespace Go.Proofs.YtjpmpjcenajmbaaDoor.Fl
set_option linter.unusedSimpArgs false
set_option linter.unusedVariables false
open Ieee
theorem ofInt_nat {n : Nat} (h : n < 18446744073709551616) : (BitVec.ofInt 64 (n : Int)).toNat = n := by
  rw [BitVec.ofInt_natCast, BitVec.toNat_ofNat]; exact Nat.mod_eq_of_lt h
theorem and_mask {q : Nat} (h : q < 18446744073709551616) : (BitVec.ofInt 64 (q : Int) &&& BitVec.ofInt 64 2047).toNat = q % 2048 := by
  rw [BitVec.toNat_and, ofInt_nat h, show (BitVec.ofInt 64 2047).toNat = 2 ^ 11 - 1 by decide, Nat.and_two_pow_sub_one_eq_mod]
theorem and_not_sign {b : Nat} (h : b < 18446744073709551616) : (BitVec.ofInt 64 (b : Int) &&& ~~~BitVec.ofInt 64 9223372036854775808).toNat = b % 9223372036854775808 := by
  rw [BitVec.toNat_and, ofInt_nat h, show (~~~BitVec.ofInt 64 9223372036854775808).toNat = 2 ^ 63 - 1 by decide, Nat.and_two_pow_sub_one_eq_mod]
theorem and_top {b : Nat} (h : b < 18446744073709551616) : b &&& 2 ^ 63 = 2 ^ 63 * (b / 9223372036854775808) := by
  apply Nat.eq_of_testBit_eq
  intro i
  rw [Nat.testBit_and, Nat.testBit_two_pow, Nat.testBit_two_pow_mul]
  have hs : b / 9223372036854775808 < 2 := by omega
  by_cases hi : i = 63
  · subst hi
    simp only [Nat.testBit_eq_decide_div_mod_eq, decide_true, Bool.and_true, ge_iff_le, Nat.le_refl, Bool.true_and, Nat.sub_self, Nat.pow_zero, Nat.div_one]
  · rw [decide_eq_false (show ¬ 63 = i by omega), Bool.and_false]
    by_cases hj : 63 ≤ i
    · have : (b / 9223372036854775808).testBit (i - 63) = false := Nat.testBit_lt_two_pow (Nat.lt_of_lt_of_le hs (by
        have : 2 ^ 1 ≤ 2 ^ (i - 63) := Nat.pow_le_pow_right (by decide) (by omega)
        omega))
      rw [this, Bool.and_false]
    · rw [decide_eq_false (by omega), Bool.false_and]
theorem and_not_exp {b : Nat} (h : b < 18446744073709551616) : (BitVec.ofInt 64 (b : Int) &&& ~~~BitVec.ofInt 64 9218868437227405312).toNat = 9223372036854775808 * (b / 9223372036854775808) + b % 4503599627370496 := by
  rw [BitVec.toNat_and, ofInt_nat h, show (~~~BitVec.ofInt 64 9218868437227405312).toNat = 2 ^ 63 ||| (2 ^ 52 - 1) by decide, Nat.and_or_distrib_left, Nat.and_two_pow_sub_one_eq_mod, and_top h, ← Nat.two_pow_add_eq_or_of_lt (i := 63) (by omega)]
theorem or_exp {s F k : Nat} (hs : s ≤ 1) (hF : F < 4503599627370496) (hk : k < 2048) : (BitVec.ofInt 64 ((9223372036854775808 * s + F : Nat) : Int) ||| BitVec.ofInt 64 ((k * 4503599627370496 : Nat) : Int)).toNat = 9223372036854775808 * s + F + k * 4503599627370496 := by
  rw [BitVec.toNat_or, ofInt_nat (by omega), ofInt_nat (by omega)]
  have e1 : 9223372036854775808 * s + F = 2 ^ 63 * s ||| F := Nat.two_pow_add_eq_or_of_lt (i := 63) (by omega) s
  have e2 : F ||| k * 4503599627370496 = 2 ^ 52 * k + F := by
    rw [Nat.or_comm, show k * 4503599627370496 = 2 ^ 52 * k by omega, Nat.two_pow_add_eq_or_of_lt (i := 52) hF k]
  rw [e1, Nat.or_assoc, e2, ← Nat.two_pow_add_eq_or_of_lt (i := 63) (by omega)]
  omega
theorem abs_nrm {b : Nat} (h : Nrm b) : Nrm (b % 9223372036854775808) ∧ fld (b % 9223372036854775808) = fld b := by
  obtain ⟨a1, a2, a3⟩ := h
  have e : fld (b % 9223372036854775808) = fld b := by unfold fld; omega
  exact ⟨⟨by omega, by omega, by omega⟩, e⟩
theorem vN_pos {b : Nat} (h : Nrm b) (hn : b < 9223372036854775808) (K : Nat) (hK : fld b ≤ K + 1) : 2 ^ 52 ≤ vN b ∧ vN b ≤ 9007199254740991 * 2 ^ K := by
  have hneg : neg b = false := by unfold neg; rw [beq_eq_false_iff_ne]; omega
  have hm : mant b < 9007199254740992 := by unfold mant; omega
  have hm' : 4503599627370496 ≤ mant b := by unfold mant; omega
  unfold vN sg
  rw [hneg]
  simp only [Bool.false_eq_true, if_false]
  have hp := Nat.two_pow_pos (fld b - 1)
  have hlo := h.lo; have hhi := h.hi
  have q : mant b * 2 ^ (fld b - 1) ≤ 9007199254740991 * 2 ^ K := mul_pow_le (a := mant b) (b := 9007199254740991) (k := fld b - 1) (l := K) (by omega) (by omega)
  have q1 : 4503599627370496 * 1 ≤ mant b * 2 ^ (fld b - 1) := Nat.mul_le_mul hm' hp
  have c : ∀ x y : Nat, x ≤ y → (x : Int) ≤ y := fun x y h => by omega
  refine ⟨?_, ?_⟩
  · have := c _ _ q1; omega
  · have := c _ _ q
    rw [cast_mul_pow 9007199254740991] at this; exact this
theorem vN_ne {b : Nat} (h : Nrm b) : vN b ≠ 0 := by
  unfold vN sg
  have hm' : 4503599627370496 ≤ mant b := by unfold mant; omega
  have hp := Nat.two_pow_pos (fld b - 1)
  have q1 : 4503599627370496 * 1 ≤ mant b * 2 ^ (fld b - 1) := Nat.mul_le_mul hm' hp
  split <;> omega
theorem V_max : V double 9218868437227405311 (9007199254740991 * 2 ^ 2045) := by
  refine ⟨false, 9007199254740991, 971, by decide, by decide, ?_⟩
  unfold sg
  rw [show ((971 : Int) - double.leastPlace).toNat = 2045 by decide, if_neg (by decide)]
  generalize 2045 = k
  rw [cast_mul_pow]; rfl
theorem V_small : V double 4503599627370496 (2 ^ 52) := by
  refine ⟨false, 4503599627370496, -1074, by decide, by decide, by decide⟩
/-- Orders against bounds. -/
theorem abs_not_gt {b : Nat} (h : Nrm b) : double.order (b % 9223372036854775808) 9218868437227405311 ≠ some .gt := by
  obtain ⟨h1, h2⟩ := abs_nrm h
  rw [V_order (V_nrm h1) V_max]
  obtain ⟨-, q⟩ := vN_pos h1 (by omega) 2045 (by have := h1.hi; omega)
  intro e
  simp only [Option.some.injEq, Int.compare_eq_gt] at e
  omega
theorem abs_not_lt {b : Nat} (h : Nrm b) : double.order (b % 9223372036854775808) 4503599627370496 ≠ some .lt := by
  obtain ⟨h1, h2⟩ := abs_nrm h
  rw [V_order (V_nrm h1) V_small]
  obtain ⟨q, -⟩ := vN_pos h1 (by omega) 2045 (by have := h1.hi; omega)
  intro e
  simp only [Option.some.injEq, Int.compare_eq_lt] at e
  omega
theorem order_zero {b : Nat} (h : Nrm b) : double.order b 0 ≠ some .eq := by
  rw [V_order (V_nrm h) V_zero]
  intro e
  simp only [Option.some.injEq, Int.compare_eq_eq] at e
  exact vN_ne h e
theorem order_self {f : Format} {b : Nat} {v : Int} (h : V f b v) : f.order b b = some .eq := by
  rw [V_order h h, Int.compare_eq_eq.2 rfl]
end Go.Proofs.YtjpmpjcenajmbaaDoor.Fl
/- Words of exact numbers: their sums, products and orders. No program in sight. -/
namespace Go.Proofs.YtjpmpjcenajmbaaDoor.Fl
set_option linter.unusedSimpArgs false
set_option linter.unusedVariables false
open Ieee
theorem pow_ne (k : Nat) : (2 : Int) ^ k ≠ 0 := by have : (0 : Int) < 2 ^ k := Int.pow_pos (by decide); omega
theorem natAbs_mul_pow (a : Int) (k : Nat) : (a * 2 ^ k).natAbs = a.natAbs * 2 ^ k := by rw [Int.natAbs_mul, Int.natAbs_pow]; rfl
/-- A number with few digits is there. -/
theorem rep_of {f : Format} {a : Int} {k : Nat} {b : Nat} (h : a.natAbs < 2 ^ b) (hb : b ≤ f.fractionBits + 1) (hk : b + k ≤ 2 ^ f.exponentBits + f.fractionBits - 2) : Rep f (a * 2 ^ k).natAbs := by
  rw [natAbs_mul_pow]
  exact ⟨⟨a.natAbs, k, rfl, Nat.lt_of_lt_of_le h (Nat.pow_le_pow_right (by decide) hb)⟩, mul_pow_lt h hk⟩
theorem rep_dbl {a : Int} {k : Nat} (h : a.natAbs < 9007199254740992) (hk : k ≤ 2000) : Rep double (a * 2 ^ k).natAbs :=
  rep_of (b := 53) h (by decide) (Nat.le_trans (Nat.add_le_add_left hk 53) (by decide))
/-- A word that stands for the same number is equal. -/
theorem V_eq {f : Format} {x y : Nat} {v : Int} (hx : V f x v) (hy : V f y v) : f.order x y = some .eq := by
  rw [V_order hx hy, Int.compare_eq_eq.2 rfl]
/-- Sums of words of exact numbers. -/
theorem dw_add {r x R : Int} {s t S m : Nat} (hr : r.natAbs < 9007199254740992) (hx : x.natAbs < 9007199254740992) (hR : R.natAbs < 9007199254740992) (hs : s ≤ 500) (ht : t ≤ 500) (hS : S + m = max s t)
    (h : r * 2 ^ (max s t - s) + x * 2 ^ (max s t - t) = R * 2 ^ m) : ∃ q, double.add (DWn r s) (DWn x t) = some q ∧ V double q (R * 2 ^ (1074 - S)) := by
  have v1 := V_DWn hr (show s ≤ 1000 by omega)
  have v2 := V_DWn hx (show t ≤ 1000 by omega)
  have e : r * 2 ^ (1074 - s) + x * 2 ^ (1074 - t) = R * 2 ^ (1074 - S) := by
    obtain ⟨k, hk⟩ : ∃ k, 1074 - max s t = k := ⟨_, rfl⟩
    rw [show 1074 - s = (max s t - s) + k by omega, show 1074 - t = (max s t - t) + k by omega, show 1074 - S = m + k by omega, Int.pow_add, Int.pow_add, Int.pow_add, ← Int.mul_assoc, ← Int.mul_assoc, ← Int.mul_assoc, ← Int.add_mul, h]
  obtain ⟨q, h1, h2⟩ := V_add std v1 v2 (by rw [e]; exact rep_dbl hR (by omega))
  rw [e] at h2
  exact ⟨q, h1, h2⟩
end Go.Proofs.YtjpmpjcenajmbaaDoor.Fl
/- Words in both widths; what is always a word; digits. No program in sight. -/
namespace Go.Proofs.YtjpmpjcenajmbaaDoor.Fl
set_option linter.unusedSimpArgs false
set_option linter.unusedVariables false
open Ieee Eng
theorem sg_of {s : Bool} {w : Int} {M k : Nat} (h : w * 2 ^ k = sg s M) : sg s w.natAbs = w := by
  have hp : (0 : Int) < 2 ^ k := Int.pow_pos (by decide)
  cases s
  · have : 0 ≤ w := by
      by_cases hc : 0 ≤ w
      · exact hc
      · have : w * 2 ^ k < 0 := Int.mul_neg_of_neg_of_pos (by omega) hp
        simp [sg] at h; omega
    simp [sg]; omega
  · have : w ≤ 0 := by
      by_cases hc : w ≤ 0
      · exact hc
      · have : 0 < w * 2 ^ k := Int.mul_pos (by omega) hp
        simp [sg] at h; omega
    simp [sg]; omega
/-- A number written in another width. -/
theorem V_other {f g : Format} (hf : Std f) (hg : Std g) {x : Nat} {v w : Int} (hx : V f x v) (hw : w * 2 ^ lp f = v * 2 ^ lp g) (hr : Rep g w.natAbs) : ∃ s m e, f.read x = .number s m e ∧ V g (g.nearest s m e) w := by
  obtain ⟨s, m, e, h1, h2, rfl⟩ := hx
  refine ⟨s, m, e, h1, ?_⟩
  have hl := lp_eq hf
  have hl2 := lp_eq hg
  rw [← sg_add_scale] at hw
  have hs := sg_of hw
  have hn : m * 2 ^ ((e - f.leastPlace).toNat + lp g) = w.natAbs * 2 ^ lp f := by
    have := congrArg Int.natAbs hw
    rw [sg_natAbs, natAbs_mul_pow] at this
    exact this.symm
  have := V_nearest hg s (mag := m) (v := w.natAbs) (a := (e - f.leastPlace).toNat + lp g) (b := lp f) (place := e) hn (by omega) hr
  rwa [hs] at this
theorem V_not_inf {f : Format} {x : Nat} {v : Int} (h : V f x v) : (f.read x).isInfinity = false := by
  obtain ⟨s, m, e, h1, -⟩ := h
  rw [h1]; rfl
theorem lp_sgl : lp single = 149 := by decide
theorem std1 : Std single := Or.inl rfl
theorem V_narrow {x : Nat} {v w : Int} (hx : V double x v) (hw : w * 2 ^ 1074 = v * 2 ^ 149) (hr : Rep single w.natAbs) : ∃ r, cvI .f64 x = some r ∧ V single r w := by
  obtain ⟨s, m, e, h1, h2⟩ := V_other std std1 hx (by rw [lp_dbl, lp_sgl]; exact hw) hr
  refine ⟨_, ?_, h2⟩
  unfold cvI
  rw [show FloatKind.decode .f64 x = .number s m e from h1]
  show (if (single.read (single.nearest s m e)).isInfinity then none else some (single.nearest s m e)) = _
  rw [V_not_inf h2]; rfl
theorem V_widen {x : Nat} {v w : Int} (hx : V single x v) (hw : w * 2 ^ 149 = v * 2 ^ 1074) (hr : Rep double w.natAbs) : ∃ r, cvI .f32 x = some r ∧ V double r w := by
  obtain ⟨s, m, e, h1, h2⟩ := V_other std1 std hx (by rw [lp_dbl, lp_sgl]; exact hw) hr
  refine ⟨_, ?_, h2⟩
  unfold cvI
  rw [show FloatKind.decode .f32 x = .number s m e from h1]
  show (if (double.read (double.nearest s m e)).isInfinity then none else some (double.nearest s m e)) = _
  rw [V_not_inf h2]; rfl
/-- A word that is a number or infinite. -/
def Sound (f : Format) (x : Nat) (s : Bool) : Prop := (∃ m e, f.read x = .number s m e) ∨ f.read x = .infinity s
theorem sound_nearest {f : Format} (hf : Std f) (neg : Bool) (mag : Nat) (place : Int) : Sound f (f.nearest neg mag place) neg := by
  obtain ⟨hf1, hf2, hinf⟩ := exact_std hf
  have hlt := f.infRung_lt
  have hp : 0 < f.signWeight := Nat.two_pow_pos _
  have key : ∀ rung, rung ≤ f.infRung → Sound f (f.word neg rung) neg := by
    intro rung hr
    by_cases h : rung < f.infRung
    · left
      rw [read_word hf neg h]
      split <;> exact ⟨_, _, rfl⟩
    · obtain rfl : rung = f.infRung := by omega
      right
      have e1 : (f.word neg f.infRung) % f.signWeight = f.infRung := by
        unfold Format.word
        cases neg <;> simp <;> exact Nat.mod_eq_of_lt (by omega)
      have e2 : ((f.word neg f.infRung) / f.signWeight % 2 == 1) = neg := by
        unfold Format.word
        cases neg
        · simp [Nat.div_eq_of_lt (show f.infRung < f.signWeight by omega)]
        · simp [Nat.add_div_left _ hp, Nat.div_eq_of_lt (show f.infRung < f.signWeight by omega)]
      have hb : f.binade ≤ f.infRung := by
        rw [hinf]
        have : 1 * 2 ^ f.fractionBits ≤ (2 ^ f.exponentBits - 1) * 2 ^ f.fractionBits := Nat.mul_le_mul_right _ (by omega)
        unfold Format.binade; omega
      unfold Format.read
      simp only [e1, e2]
      rw [if_neg (by omega), if_neg (by omega)]; simp
  unfold Format.nearest
  split
  · exact key 0 (Nat.zero_le _)
  · exact key _ (Nat.min_le_right _ _)
theorem sound_self {f : Format} {x : Nat} {s : Bool} (h : Sound f x s) : f.order x x = some .eq := by
  unfold Format.order
  rcases h with ⟨m, e, h⟩ | h
  · rw [h]
    show some (compare (signed s m (e - min e e).toNat) (signed s m (e - min e e).toNat)) = _
    rw [Int.compare_eq_eq.2 rfl]
  · rw [h]
    show some (compare s.toNat s.toNat) = _
    rw [Nat.compare_eq_eq.2 rfl]
/-- Squares of numbers, and their sum, are always words. -/
theorem sqsum {f : Format} (hf : Std f) {x y : Nat} {v w : Int} (hx : V f x v) (hy : V f y w) : ∃ a b c, f.mul x x = some a ∧ f.mul y y = some b ∧ f.add a b = some c := by
  obtain ⟨s, m, e, h1, -⟩ := hx
  obtain ⟨t, n, j, h2, -⟩ := hy
  have p1 : f.mul x x = some (f.nearest (s ^^ s) (m * m) (e + e)) := by unfold Format.mul; rw [h1]; rfl
  have p2 : f.mul y y = some (f.nearest (t ^^ t) (n * n) (j + j)) := by unfold Format.mul; rw [h2]; rfl
  have s1 := sound_nearest hf (s ^^ s) (m * m) (e + e)
  have s2 := sound_nearest hf (t ^^ t) (n * n) (j + j)
  rw [Bool.xor_self] at p1 s1
  rw [Bool.xor_self] at p2 s2
  obtain ⟨c, hc⟩ : ∃ c, f.add (f.nearest false (m * m) (e + e)) (f.nearest false (n * n) (j + j)) = some c := by
    unfold Format.add
    rcases s1 with ⟨a, b, s1⟩ | s1 <;> rcases s2 with ⟨c, d, s2⟩ | s2 <;> rw [s1, s2] <;> exact ⟨_, rfl⟩
  exact ⟨_, _, c, p1, p2, hc⟩
/-- One over a number that is not 0. -/
theorem one_over {b : Nat} (h : Nrm b) : ∃ q s, double.div 4607182418800017408 b = some q ∧ Sound double q s := by
  unfold Format.div
  rw [read_nrm h, show double.read 4607182418800017408 = .number false 4503599627370496 (-52) by decide]
  have hm : mant b ≠ 0 := by unfold mant; omega
  unfold Datum.quotient
  simp only []
  rw [if_neg hm]
  exact ⟨_, _, rfl, sound_nearest std _ _ _⟩
/-- Numbers with few digits, over any step. -/
theorem rep_parts {a : Int} {m k j : Nat} (h : a.natAbs = m * 2 ^ k) (hm : m < 9007199254740992) (hb : a.natAbs < 2 ^ 90) (hj : j ≤ 2000) : Rep double (a * 2 ^ j).natAbs := by
  rw [natAbs_mul_pow]
  refine ⟨⟨m, k + j, by rw [h, Nat.pow_add, Nat.mul_assoc], Nat.lt_of_lt_of_le hm (by decide)⟩, mul_pow_lt (a := a.natAbs) (b := 90) (k := j) hb (Nat.le_trans (Nat.add_le_add_left hj 90) (by decide))⟩
/-- Products of words of exact numbers. -/
theorem V_prod {x y : Nat} {a b : Int} {s t m k : Nat} (hx : V double x (a * 2 ^ (1074 - s))) (hy : V double y (b * 2 ^ (1074 - t))) (hs : s + t ≤ 1000) (h : (a * b).natAbs = m * 2 ^ k) (hm : m < 9007199254740992) (hb : (a * b).natAbs < 2 ^ 90) : ∃ z, double.mul x y = some z ∧ V double z (a * b * 2 ^ (1074 - (s + t))) := by
  refine V_mul std hx hy ?_ (rep_parts h hm hb (by omega))
  rw [lp_dbl]
  obtain ⟨j, hj⟩ : ∃ j, 1074 - (s + t) = j := ⟨_, rfl⟩
  obtain ⟨l, hl⟩ : ∃ l : Nat, l = 1074 := ⟨_, rfl⟩
  rw [hj, ← hl, show l - s = j + t by omega, show l - t = j + s by omega, show l = j + (s + t) by omega]
  rw [Int.pow_add 2 j t, Int.pow_add 2 j s, Int.pow_add 2 j (s + t), Int.pow_add 2 s t]
  simp only [Int.mul_assoc, Int.mul_left_comm, Int.mul_comm]
end Go.Proofs.YtjpmpjcenajmbaaDoor.Fl
