/- Squares and norms of words of exact numbers with few digits. -/
import Derived.Test.YtgnkjfafgcbpbaaDoorFd2
namespace Go.Proofs.YtgnkjfafgcbpbaaDoor
set_option linter.unusedSimpArgs false
set_option linter.unusedVariables false
open Go.RowKit Eng
theorem digits_mul {r x : Int} (hr : r.natAbs ≤ 1073741824) (hx : x.natAbs ≤ 1073741824) (br : BT r ≤ 26) (bx : BT x ≤ 26) : ∃ m k : Nat, (r * x).natAbs = m * 2 ^ k ∧ m < 4503599627370496 ∧ (r * x).natAbs ≤ 1152921504606846976 := by
  have hle : (r * x).natAbs ≤ 1152921504606846976 := by
    rw [Int.natAbs_mul]
    calc r.natAbs * x.natAbs ≤ 1073741824 * 1073741824 := Nat.mul_le_mul hr hx
      _ = 1152921504606846976 := rfl
  by_cases h0 : r = 0
  · exact ⟨0, 0, by subst h0; simp, by decide, hle⟩
  by_cases h1 : x = 0
  · exact ⟨0, 0, by subst h1; simp, by decide, hle⟩
  obtain ⟨m, k, e1, e2⟩ := BT_split h0 (by omega)
  obtain ⟨n, j, e3, e4⟩ := BT_split h1 (by omega)
  refine ⟨m * n, k + j, ?_, ?_, hle⟩
  · rw [Int.natAbs_mul, e1, e3, Nat.pow_add]
    simp only [Nat.mul_assoc, Nat.mul_left_comm]
  · have a := e2 26 br
    have b := e4 26 bx
    calc m * n < 2 ^ 26 * 2 ^ 26 := Nat.mul_lt_mul'' a b
      _ = 4503599627370496 := rfl
theorem prod_word {r x s : Int} (hr : r.natAbs ≤ 1073741824) (hx : x.natAbs ≤ 1073741824) (hs : 0 ≤ s ∧ s ≤ 60) (br : BT r ≤ 26) (bx : BT x ≤ 26) :
    ∃ z, Ieee.double.mul (DWi r s).toNat (DWi x s).toNat = some z ∧ Fl.V Ieee.double z (r * x * 2 ^ (1074 - (s.toNat + s.toNat))) := by
  obtain ⟨m, k, h1, h2, h3⟩ := digits_mul hr hx br bx
  exact Fl.V_prod (DWi_V hr hs) (DWi_V hx hs) (by omega) h1 (by omega) (Nat.lt_of_le_of_lt h3 (by decide))
theorem V_two : Fl.V Ieee.double 4611686018427387904 (2 * 2 ^ (1074 - 0)) := Fl.V_FW (n := 2) (by decide)
/-- The square's real part; its imaginary part. -/
theorem square_word {r i s R I S : Int} {m : Nat} (hr : r.natAbs ≤ 1073741824) (hi : i.natAbs ≤ 1073741824) (hR : R.natAbs ≤ 1073741824) (hI : I.natAbs ≤ 1073741824) (hs : 0 ≤ s ∧ s ≤ 60) (hS : 0 ≤ S ∧ S ≤ 60) (br : BT r ≤ 26) (bi : BT i ≤ 26)
    (e1 : 2 * s = S + m) (e2 : SR r i = R * 2 ^ m) (e3 : SI r i = I * 2 ^ m) : ∃ a b c d e : Nat, Ieee.double.mul (DWi r s).toNat (DWi r s).toNat = some a ∧ Ieee.double.mul (DWi i s).toNat (DWi i s).toNat = some b ∧ Ieee.double.sub a b = some c ∧
      Ieee.double.mul (DWi r s).toNat (DWi i s).toNat = some d ∧ Ieee.double.mul 4611686018427387904 d = some e ∧ (ordI (Ieee.double.order (DWi R S).toNat c) == 0) = true ∧ (ordI (Ieee.double.order (DWi I S).toNat e) == 0) = true := by
  obtain ⟨a, a1, a2⟩ := prod_word hr hr hs br br
  obtain ⟨b, b1, b2⟩ := prod_word hi hi hs bi bi
  obtain ⟨d, d1, d2⟩ := prod_word hr hi hs br bi
  obtain ⟨J, hJ⟩ : ∃ J, 1074 - (s.toNat + s.toNat) = J := ⟨_, rfl⟩
  have hJS : 1074 - S.toNat = m + J := by omega
  have ec : r * r * 2 ^ J - i * i * 2 ^ J = R * 2 ^ (1074 - S.toNat) := by
    rw [← Int.sub_mul, hJS, Int.pow_add, ← Int.mul_assoc, ← e2]; rfl
  rw [hJ] at a2 b2 d2
  obtain ⟨c, c1, c2⟩ := Fl.V_sub Fl.std a2 b2 (by rw [ec]; exact Fl.rep_dbl (by omega) (by omega))
  rw [ec] at c2
  obtain ⟨mm, kk, f1, f2, f3⟩ := digits_mul hr hi br bi
  rw [← hJ] at d2
  obtain ⟨e, g1, g2⟩ := Fl.V_prod (m := mm) (k := kk + 1) V_two d2 (by omega) (by rw [Int.natAbs_mul, f1, Nat.pow_succ, Nat.mul_comm (2 ^ kk) 2, Nat.mul_left_comm]; rfl) (by omega) (by
    rw [Int.natAbs_mul]
    exact Nat.lt_of_le_of_lt (Nat.mul_le_mul_left 2 f3) (by decide))
  have ee : 2 * (r * i) * 2 ^ (1074 - (0 + (s.toNat + s.toNat))) = I * 2 ^ (1074 - S.toNat) := by
    rw [Nat.zero_add, hJ, hJS, Int.pow_add, ← Int.mul_assoc I, ← e3]
    unfold SI
    rw [Int.mul_assoc 2 r i]
  rw [ee] at g2
  exact ⟨a, b, c, d, e, a1, b1, c1, d1, g1, by rw [Fl.V_eq (DWi_V hR hS) c2]; rfl, by rw [Fl.V_eq (DWi_V hI hS) g2]; rfl⟩
theorem V_four : Fl.V Ieee.double 4616189618054758400 (4 * 2 ^ 1074) := Fl.V_FW (n := 4) (by decide)
theorem NM_cases {r i s : Int} (hs : s ≤ 20) : ordI (some (compare (r * r + i * i) (F4 s))) = NM r i s := by
  unfold NM
  have hn : ¬ 30 ≤ s := by omega
  by_cases h1 : r * r + i * i < F4 s
  · rw [if_pos (Or.inr h1), Int.compare_eq_lt.2 h1]; rfl
  · rw [if_neg (by omega)]
    by_cases h2 : r * r + i * i = F4 s
    · rw [if_pos h2, Int.compare_eq_eq.2 h2]; rfl
    · rw [if_neg h2, Int.compare_eq_gt.2 (by omega)]; rfl
theorem NM_three (r i s : Int) : NM r i s = -1 ∨ NM r i s = 0 ∨ NM r i s = 1 := by
  unfold NM; split
  · exact Or.inl rfl
  · split
    · exact Or.inr (Or.inl rfl)
    · exact Or.inr (Or.inr rfl)
theorem compare_mul {a b : Int} (k : Nat) : compare (a * 2 ^ k) (b * 2 ^ k) = compare a b := by
  have hp : (0 : Int) < 2 ^ k := Int.pow_pos (by decide)
  have l1 : (a * 2 ^ k < b * 2 ^ k) ↔ a < b := ⟨fun h => Int.lt_of_mul_lt_mul_right h (Int.le_of_lt hp), fun h => Int.mul_lt_mul_of_pos_right h hp⟩
  have l2 : (a * 2 ^ k = b * 2 ^ k) ↔ a = b := ⟨fun h => Int.eq_of_mul_eq_mul_right (by omega) h, fun h => by rw [h]⟩
  simp only [compare, compareOfLessAndEq, l1, l2]
/-- The norm of words: always there; with few digits, its order against 4 is the number's. -/
theorem norm_word {r i s : Int} (hr : r.natAbs ≤ 1073741824) (hi : i.natAbs ≤ 1073741824) (hs : 0 ≤ s ∧ s ≤ 60) : ∃ a b c : Nat, Ieee.double.mul (DWi r s).toNat (DWi r s).toNat = some a ∧ Ieee.double.mul (DWi i s).toNat (DWi i s).toNat = some b ∧ Ieee.double.add a b = some c ∧
    (BT r ≤ 26 → BT i ≤ 26 → s ≤ 20 → r.natAbs ≤ 33554432 → i.natAbs ≤ 33554432 → ordI (Ieee.double.order c 4616189618054758400) = NM r i s) := by
  obtain ⟨a, b, c, h1, h2, h3⟩ := Fl.sqsum Fl.std (DWi_V hr hs) (DWi_V hi hs)
  refine ⟨a, b, c, h1, h2, h3, fun br bi h20 hr' hi' => ?_⟩
  obtain ⟨a', a1, a2⟩ := prod_word hr hr hs br br
  obtain ⟨b', b1, b2⟩ := prod_word hi hi hs bi bi
  rw [h1] at a1; rw [h2] at b1
  cases a1; cases b1
  obtain ⟨J, hJ⟩ : ∃ J, 1074 - (s.toNat + s.toNat) = J := ⟨_, rfl⟩
  rw [hJ] at a2 b2
  have q1 : r * r ≤ 1125899906842624 ∧ 0 ≤ r * r := by
    have : (r * r).natAbs ≤ 33554432 * 33554432 := by rw [Int.natAbs_mul]; exact Nat.mul_le_mul hr' hr'
    have : 0 ≤ r * r := by rcases Int.le_total 0 r with h | h; exact Int.mul_nonneg h h; exact Int.mul_nonneg_of_nonpos_of_nonpos h h
    omega
  have q2 : i * i ≤ 1125899906842624 ∧ 0 ≤ i * i := by
    have : (i * i).natAbs ≤ 33554432 * 33554432 := by rw [Int.natAbs_mul]; exact Nat.mul_le_mul hi' hi'
    have : 0 ≤ i * i := by rcases Int.le_total 0 i with h | h; exact Int.mul_nonneg h h; exact Int.mul_nonneg_of_nonpos_of_nonpos h h
    omega
  obtain ⟨c', c1, c2⟩ := Fl.V_add Fl.std a2 b2 (by rw [← Int.add_mul]; exact Fl.rep_dbl (by omega) (by omega))
  rw [h3] at c1; cases c1
  have e4 : (4 : Int) * 2 ^ 1074 = F4 s * 2 ^ J := by
    unfold F4
    obtain ⟨l, hl⟩ : ∃ l : Nat, l = 1074 := ⟨_, rfl⟩
    rw [← hl] at hJ ⊢
    rw [Int.mul_assoc, ← Int.pow_add, show (2 * s).toNat + J = l by omega]
  rw [Fl.V_order c2 V_four, e4, ← Int.add_mul, compare_mul, NM_cases h20]
theorem sq_parts {r i s : Int} (h : SQ r i s = true) : DV r i s = true ∧ DV (lR (SR r i) (SI r i) (2 * s)) (lI (SR r i) (SI r i) (2 * s)) (lS (SR r i) (SI r i) (2 * s)) = true := by
  unfold SQ MK at h
  simp only [Bool.and_eq_true] at h
  exact ⟨h.1, h.2.2⟩
theorem SR_neg (r i : Int) : SR (-r) (-i) = SR r i := by unfold SR; rw [Int.neg_mul_neg, Int.neg_mul_neg]
theorem SI_neg (r i : Int) : SI (-r) (-i) = SI r i := by unfold SI; simp [Int.mul_neg, Int.neg_mul]
theorem SQ_neg (r i s : Int) : SQ (-r) (-i) s = SQ r i s := by unfold SQ; rw [SR_neg, SI_neg, DV_neg]
end Go.Proofs.YtgnkjfafgcbpbaaDoor
