/- Single words in steps of a box: widened, times a power of 2, rounded down and up. No program in sight. -/
import Derived.Test.YtjpmpjcenajmbaaDoorMFo
namespace Go.Proofs.YtjpmpjcenajmbaaDoor.Fl
set_option linter.unusedSimpArgs false
set_option linter.unusedVariables false
open Ieee Eng
theorem sgl_facts : single.signWeight = 2147483648 ∧ single.binade = 8388608 ∧ single.infRung = 2139095040 ∧ single.leastPlace = -149 ∧ single.fractionBits = 23 := by decide
theorem V1_rep {x : Nat} {u : Int} (h : V single x u) : ∃ (s : Bool) (m k : Nat), u = sg s (m * 2 ^ k) ∧ m < 16777216 ∧ k ≤ 253 := by
  obtain ⟨h1, h2, h3, h4, h5⟩ := sgl_facts
  obtain ⟨s, m, e, hr, he, hu⟩ := h
  have hm : m < 16777216 ∧ e ≤ 104 := by
    unfold Format.read at hr
    simp only [h1, h2, h3, h4] at hr
    split at hr
    · cases hr; omega
    · split at hr
      · cases hr; omega
      · split at hr <;> cases hr
  rw [h4] at he hu
  exact ⟨s, m, (e - -149).toNat, hu, hm.1, by omega⟩
theorem V1_or (x : Nat) : (∃ v, V single x v) ∨ (∃ s, single.read x = .infinity s) ∨ ∃ s t, single.read x = .nan s t := by
  obtain ⟨h1, h2, h3, h4, h5⟩ := sgl_facts
  cases h : single.read x with
  | infinity s => exact .inr (.inl ⟨s, rfl⟩)
  | nan s t => exact .inr (.inr ⟨s, t, rfl⟩)
  | number s m e =>
    refine .inl ⟨_, s, m, e, h, ?_, rfl⟩
    unfold Format.read at h
    simp only [h1, h2, h3, h4] at h
    rw [h4]
    split at h
    · cases h; omega
    · split at h
      · cases h; omega
      · split at h <;> cases h
theorem V1_num {x : Nat} {v : Int} (h : V single x v) : (∀ s, single.read x ≠ .infinity s) ∧ ∀ s t, single.read x ≠ .nan s t := by
  obtain ⟨s, m, e, h1, -⟩ := h
  rw [h1]
  exact ⟨fun _ h => (by cases h), fun _ _ h => (by cases h)⟩
/-- 2^24 as a word. -/
theorem V_unit : V double 4715268809856909312 (16777216 * 2 ^ 1074) := by
  have := V_FW (n := 16777216) (by decide)
  rwa [show FW 16777216 = 4715268809856909312 by decide] at this
/-- A single number in steps. -/
theorem steps_num {x : Nat} {u : Int} (h : V single x u) : ∃ r y, cvI .f32 x = some r ∧ V double r (u * 2 ^ 925) ∧ double.mul r 4715268809856909312 = some y ∧ V double y (u * 2 ^ 949) := by
  obtain ⟨s, m, k, hu, hm, hk⟩ := V1_rep h
  have rep : ∀ j, j ≤ 1000 → Rep double (u * 2 ^ j).natAbs := fun j hj => by
    have e : u * 2 ^ j = sg s m * 2 ^ (k + j) := by
      rw [hu, ← sg_add_scale]
      have := sg_add_scale s m 0 (k + j)
      rw [Nat.pow_zero, Nat.mul_one, Nat.zero_add] at this
      exact this
    rw [e]
    exact rep_dbl (by rw [sg_natAbs]; omega) (by omega)
  obtain ⟨c, hc⟩ : ∃ c : Nat, c = 925 := ⟨_, rfl⟩
  obtain ⟨r, r1, r2⟩ := V_widen h (w := u * 2 ^ c) (by
    rw [Int.mul_assoc, ← Int.pow_add]; congr 2; omega) (rep c (by omega))
  rw [hc] at r2
  obtain ⟨y, y1, y2⟩ := V_mul std r2 V_unit (r := u * 2 ^ 949) (by
    rw [lp_dbl, ← hc]
    obtain ⟨l, hl⟩ : ∃ l : Nat, l = 1074 := ⟨_, rfl⟩
    rw [← hl, show (949 : Nat) = c + 24 by omega, Int.pow_add 2 c 24, show ((2 : Int) ^ 24) = 16777216 by decide]
    simp only [Int.mul_assoc]) (rep 949 (by omega))
  exact ⟨r, y, r1, r2, y1, y2⟩
theorem steps_inf {x : Nat} {s : Bool} (h : single.read x = .infinity s) : ∃ r y, cvI .f32 x = some r ∧ double.mul r 4715268809856909312 = some y ∧ NotNum y := by
  refine ⟨double.word s double.infRung, double.word s double.infRung, ?_, ?_, ?_⟩
  · unfold cvI
    rw [show FloatKind.decode .f32 x = .infinity s from h]; rfl
  · cases s <;> decide
  · intro a b c
    rw [read_inf]; exact fun h => by cases h
theorem nan_mul {t : Nat} (c : Nat) : double.mul (nanW t) c = none := by
  unfold Format.mul
  cases h : double.read (nanW t) with
  | number s m e => exact absurd h (nanW_not t s m e)
  | infinity s =>
    exfalso
    obtain ⟨h1, h2, h3, h4, h5⟩ := dbl_facts
    have a : 9218868437227405312 < nanW t % 9223372036854775808 := by
      unfold nanW
      have := Nat.mod_lt (t / 2) (show 4503599627370495 > 0 by decide)
      generalize t / 2 % 4503599627370495 = u at this ⊢
      omega
    unfold Format.read at h
    simp only [h1, h2, h3, h4] at h
    split at h
    · omega
    · split at h
      · omega
      · split at h
        · omega
        · cases h
  | nan s f => cases double.read c <;> rfl
theorem nan_order (t c : Nat) : double.order (nanW t) c = none ∧ double.order c (nanW t) = none := by
  have hn : ∃ s f, double.read (nanW t) = .nan s f := by
    cases h : double.read (nanW t) with
    | number s m e => exact absurd h (nanW_not t s m e)
    | infinity s =>
      exfalso
      obtain ⟨h1, h2, h3, h4, h5⟩ := dbl_facts
      have a : 9218868437227405312 < nanW t % 9223372036854775808 := by
        unfold nanW
        have := Nat.mod_lt (t / 2) (show 4503599627370495 > 0 by decide)
        generalize t / 2 % 4503599627370495 = u at this ⊢
        omega
      unfold Format.read at h
      simp only [h1, h2, h3, h4] at h
      split at h
      · omega
      · split at h
        · omega
        · split at h
          · omega
          · cases h
    | nan s f => exact ⟨s, f, rfl⟩
  obtain ⟨s, f, hn⟩ := hn
  unfold Format.order
  rw [hn]
  refine ⟨?_, ?_⟩ <;> cases double.read c <;> rfl
/-- 2^27 and its opposite. -/
theorem V_edge : V double 4728779608739020800 (134217728 * 2 ^ 1074) := by
  have := V_FW (n := 134217728) (by decide)
  rwa [show FW 134217728 = 4728779608739020800 by decide] at this
theorem V_edgen : V double 13952151645593796608 (-134217728 * 2 ^ 1074) := by
  have := V_FW (n := -134217728) (by decide)
  rwa [show FW (-134217728) = 13952151645593796608 by decide] at this
theorem abs_pow {t : Int} {c : Nat} (hb : t.natAbs ≤ 134217728 * 2 ^ c) : -134217728 * 2 ^ c ≤ t ∧ t ≤ 134217728 * 2 ^ c := by
  have cT : ((2 ^ c : Nat) : Int) = (2 : Int) ^ c := by rw [Int.natCast_pow]; rfl
  rw [← cT, Int.neg_mul]
  generalize 2 ^ c = A at hb ⊢
  omega
/-- What lies between the edges: both ways to ask. -/
def inE (o1 o2 : Option Ordering) : Bool := (o1 == some .lt || o1 == some .eq) && (o2 == some .lt || o2 == some .eq)
def inE' (o1 o2 : Option Ordering) : Bool := (o1 == some .gt || o1 == some .eq) && (o2 == some .lt || o2 == some .eq)
theorem edge_num {y : Nat} {t : Int} (h : V double y t) : (inE (double.order 13952151645593796608 y) (double.order y 4728779608739020800) = true ↔ -134217728 * 2 ^ 1074 ≤ t ∧ t ≤ 134217728 * 2 ^ 1074) ∧ (inE' (double.order y 13952151645593796608) (double.order y 4728779608739020800) = true ↔ -134217728 * 2 ^ 1074 ≤ t ∧ t ≤ 134217728 * 2 ^ 1074) := by
  unfold inE inE'
  rw [V_order h V_edge, V_order h V_edgen, V_order V_edgen h]
  generalize (-134217728 * 2 ^ 1074 : Int) = A
  generalize (134217728 * 2 ^ 1074 : Int) = B
  rw [Bool.and_eq_true, Bool.or_eq_true, Bool.or_eq_true, beq_iff_eq, beq_iff_eq, beq_iff_eq, beq_iff_eq, Bool.and_eq_true, Bool.or_eq_true, Bool.or_eq_true, beq_iff_eq, beq_iff_eq, beq_iff_eq, beq_iff_eq]
  simp only [Option.some.injEq, Int.compare_eq_gt, Int.compare_eq_eq, Int.compare_eq_lt]
  omega
theorem edge_not {y : Nat} (h : NotNum y) : inE (double.order 13952151645593796608 y) (double.order y 4728779608739020800) = false ∧ inE' (double.order y 13952151645593796608) (double.order y 4728779608739020800) = false := by
  unfold inE inE' Format.order
  rw [show double.read 13952151645593796608 = .number true 4503599627370496 (-25) by decide, show double.read 4728779608739020800 = .number false 4503599627370496 (-25) by decide]
  cases hr : double.read y with
  | number s m e => exact absurd hr (h s m e)
  | nan s t => exact ⟨rfl, rfl⟩
  | infinity s => cases s <;> exact ⟨rfl, rfl⟩
/-- Rounded down or up. -/
theorem cut_down (neg : Bool) (n d : Nat) : Toward.down.cut neg n d = n / 2 ^ d + (neg && n % 2 ^ d != 0).toNat ∧ Toward.up.cut neg n d = n / 2 ^ d + (!neg && n % 2 ^ d != 0).toNat := by
  unfold Toward.cut
  simp only [Nat.shiftLeft_eq, Nat.one_mul]
  by_cases h : d ≤ n.log2 + 2
  · rw [Nat.min_eq_left h]; exact ⟨rfl, rfl⟩
  · have h1 : n < 2 ^ (n.log2 + 1) := Nat.lt_log2_self
    have h2 : 2 ^ (n.log2 + 1) ≤ 2 ^ (n.log2 + 2) := Nat.pow_le_pow_right (by decide) (by omega)
    have h3 : 2 ^ (n.log2 + 1) ≤ 2 ^ d := Nat.pow_le_pow_right (by decide) (by omega)
    rw [Nat.min_eq_right (by omega), Nat.div_eq_of_lt (Nat.lt_of_lt_of_le h1 h2), Nat.div_eq_of_lt (Nat.lt_of_lt_of_le h1 h3), Nat.mod_eq_of_lt (Nat.lt_of_lt_of_le h1 h2), Nat.mod_eq_of_lt (Nat.lt_of_lt_of_le h1 h3)]
    exact ⟨rfl, rfl⟩
theorem ediv_nat (n D : Nat) (hD : 1 ≤ D) : (-(n : Int)) / (D : Int) = -((n / D + (n % D != 0).toNat : Nat) : Int) := by
  by_cases h : n % D = 0
  · rw [neg_ediv_0 n D (by omega) (by omega), h]; simp
  · rw [neg_ediv_1 n D (by omega) (by omega)]
    have : (n % D != 0) = true := by rw [bne_iff_ne]; exact h
    rw [this]
    show -((n : Int) / D) - 1 = -((n / D + 1 : Nat) : Int)
    have e : ((n / D : Nat) : Int) = (n : Int) / D := by simp
    omega
theorem sg_down (s : Bool) (n d : Nat) : sg s (Toward.down.cut s n d) = sg s n / 2 ^ d ∧ sg s (Toward.up.cut s n d) = -((-sg s n) / 2 ^ d) := by
  rw [(cut_down s n d).1, (cut_down s n d).2]
  have hD := Nat.two_pow_pos d
  have e := ediv_nat n (2 ^ d) hD
  have c : ((2 ^ d : Nat) : Int) = (2 : Int) ^ d := by rw [Int.natCast_pow]; rfl
  have f : ((n / 2 ^ d : Nat) : Int) = (n : Int) / 2 ^ d := by rw [← c]; simp
  rw [c] at e
  cases s
  · unfold sg
    simp only [Bool.false_and, Bool.not_false, Bool.true_and, Bool.false_eq_true, if_false, Bool.toNat_false, Nat.add_zero]
    exact ⟨f, by rw [e]; omega⟩
  · unfold sg
    simp only [Bool.true_and, Bool.not_true, Bool.false_and, if_true, Bool.toNat_false, Nat.add_zero]
    exact ⟨by rw [e], by rw [Int.neg_neg, f]⟩
theorem V_round {y : Nat} {t : Int} (h : V double y t) (hb : t.natAbs ≤ 134217728 * 2 ^ 1074) : V double (double.write ((double.read y).integral .down)) (t / 2 ^ 1074 * 2 ^ 1074) ∧ V double (double.write ((double.read y).integral .up)) (-((-t) / 2 ^ 1074) * 2 ^ 1074) ∧ -134217728 ≤ t / 2 ^ 1074 ∧ -((-t) / 2 ^ 1074) ≤ 134217728 ∧ t / 2 ^ 1074 ≤ -((-t) / 2 ^ 1074) ∧ -((-t) / 2 ^ 1074) ≤ t / 2 ^ 1074 + 1 := by
  obtain ⟨s, m, k, hu, hm, hk, hr⟩ := V_rep h
  obtain ⟨c, hc⟩ : ∃ c : Nat, c = 1074 := ⟨_, rfl⟩
  rw [← hc] at hb ⊢
  have hT : (0 : Int) < 2 ^ c := Int.pow_pos (by decide)
  have cT : ((2 ^ c : Nat) : Int) = (2 : Int) ^ c := by rw [Int.natCast_pow]; rfl
  obtain ⟨N, d, i1, i2, q1, q2⟩ : ∃ N d : Nat, (double.read y).integral .down = .number s (Toward.down.cut s N d) 0 ∧ (double.read y).integral .up = .number s (Toward.up.cut s N d) 0 ∧ sg s N / 2 ^ d = t / 2 ^ c ∧ -sg s N / 2 ^ d = -t / 2 ^ c := by
    rw [hr]
    refine ⟨_, _, rfl, rfl, ?_⟩
    rw [Nat.shiftLeft_eq]
    by_cases hkc : c ≤ k
    · obtain ⟨e, rfl⟩ : ∃ e, k = c + e := ⟨k - c, by omega⟩
      have e1 : (((c + e : Nat) : Int) - 1074).toNat = e := by omega
      have e2 : (-(((c + e : Nat) : Int) - 1074)).toNat = 0 := by omega
      rw [e1, e2, hu, Int.pow_zero, Int.ediv_one, Int.ediv_one, Nat.add_comm c e, sg_add_scale, ← Int.neg_mul]
      exact ⟨(Int.mul_ediv_cancel _ (by omega)).symm, (Int.mul_ediv_cancel _ (by omega)).symm⟩
    · obtain ⟨e, he⟩ : ∃ e, c = k + e := ⟨c - k, by omega⟩
      have e1 : ((k : Int) - 1074).toNat = 0 := by omega
      have e2 : (-((k : Int) - 1074)).toNat = e := by omega
      have hs := sg_add_scale s m 0 k
      rw [Nat.pow_zero, Nat.mul_one, Nat.zero_add] at hs
      rw [e1, e2, Nat.pow_zero, Nat.mul_one, hu, hs, he, Nat.add_comm k e, Int.pow_add, ← Int.neg_mul]
      have hk0 : (0 : Int) < 2 ^ k := Int.pow_pos (by decide)
      exact ⟨(Int.mul_ediv_mul_of_pos_left _ _ hk0).symm, (Int.mul_ediv_mul_of_pos_left _ _ hk0).symm⟩
  have hb1 : t ≤ 134217728 * 2 ^ c := by
    have : ((t.natAbs : Nat) : Int) ≤ ((134217728 * 2 ^ c : Nat) : Int) := by exact_mod_cast hb
    rw [Int.natCast_mul, cT] at this
    have e : ((134217728 : Nat) : Int) = 134217728 := rfl
    rw [e] at this
    omega
  have hb2 : -(134217728 * 2 ^ c) ≤ t := by
    have : ((t.natAbs : Nat) : Int) ≤ ((134217728 * 2 ^ c : Nat) : Int) := by exact_mod_cast hb
    rw [Int.natCast_mul, cT] at this
    have e : ((134217728 : Nat) : Int) = 134217728 := rfl
    rw [e] at this
    omega
  have z1 : -134217728 ≤ t / 2 ^ c := by
    rw [Int.le_ediv_iff_mul_le hT, Int.neg_mul]; exact hb2
  have z2 : -134217728 ≤ -t / 2 ^ c := by
    rw [Int.le_ediv_iff_mul_le hT, Int.neg_mul]; omega
  have a1 := Int.mul_ediv_add_emod t (2 ^ c)
  have a2 := Int.mul_ediv_add_emod (-t) (2 ^ c)
  have b1 := Int.emod_nonneg t (show (2 : Int) ^ c ≠ 0 by omega)
  have b2 := Int.emod_nonneg (-t) (show (2 : Int) ^ c ≠ 0 by omega)
  have c1 := Int.emod_lt_of_pos t hT
  have c2 := Int.emod_lt_of_pos (-t) hT
  have z3 : t / 2 ^ c + -t / 2 ^ c ≤ 0 := by
    have : 2 ^ c * (t / 2 ^ c + -t / 2 ^ c) < 2 ^ c * 1 := by rw [Int.mul_add]; omega
    have := Int.lt_of_mul_lt_mul_left this (Int.le_of_lt hT); omega
  have z4 : -2 < t / 2 ^ c + -t / 2 ^ c := by
    have : 2 ^ c * (-2) < 2 ^ c * (t / 2 ^ c + -t / 2 ^ c) := by rw [Int.mul_add]; omega
    exact Int.lt_of_mul_lt_mul_left this (Int.le_of_lt hT)
  have wr : ∀ K : Nat, K < 9007199254740992 → V double (double.write (.number s K 0)) (sg s K * 2 ^ c) := fun K hK => by
    have hl : double.leastPlace = -1074 := dbl_facts.2.2.2.1
    have := V_nearest std s (mag := K) (v := K * 2 ^ c) (a := c) (b := 0) (place := 0) (by simp) (by rw [hl, hc]; rfl) (by
      have := rep_dbl (a := K) (k := c) (by omega) (by omega)
      rwa [natAbs_mul_pow, Int.natAbs_natCast] at this)
    have hs := sg_add_scale s K 0 c
    rw [Nat.pow_zero, Nat.mul_one, Nat.zero_add] at hs
    rwa [hs] at this
  obtain ⟨g1, g2⟩ := sg_down s N d
  rw [q1] at g1
  rw [q2] at g2
  refine ⟨?_, ?_, z1, by omega, by omega, by omega⟩
  · rw [i1, ← g1]
    refine wr _ ?_
    have := sg_natAbs s (Toward.down.cut s N d)
    rw [g1] at this
    omega
  · rw [i2, ← g2]
    refine wr _ ?_
    have := sg_natAbs s (Toward.up.cut s N d)
    rw [g2] at this
    omega
/-- The whole part of a word. -/
theorem V_trunc {x : Nat} {u : Int} (h : V double x u) : (double.read x).toInt .zero = some (u.tdiv (2 ^ 1074)) := by
  obtain ⟨s, m, k, hu, hm, hk, hr⟩ := V_rep h
  obtain ⟨c, hc⟩ : ∃ c : Nat, c = 1074 := ⟨_, rfl⟩
  rw [← hc, hr]
  unfold Datum.toInt Datum.integral
  simp only []
  rw [cut_toward_zero, signed_eq, Nat.pow_zero, Nat.mul_one, Nat.shiftLeft_eq]
  have cc : ∀ j : Nat, ((2 ^ j : Nat) : Int) = (2 : Int) ^ j := fun j => by rw [Int.natCast_pow]; rfl
  have td : ∀ A B : Nat, (sg s A).tdiv (B : Int) = sg s (A / B) := fun A B => by
    cases s
    · unfold sg; simp only [Bool.false_eq_true, if_false]; rfl
    · unfold sg; simp only [if_true]; rw [Int.neg_tdiv]; rfl
  rw [hu, ← cc, td]
  congr 2
  by_cases hkc : c ≤ k
  · obtain ⟨e, rfl⟩ : ∃ e, k = c + e := ⟨k - c, by omega⟩
    have e1 : (((c + e : Nat) : Int) - 1074).toNat = e := by omega
    have e2 : (-(((c + e : Nat) : Int) - 1074)).toNat = 0 := by omega
    rw [e1, e2, Nat.pow_zero, Nat.div_one, Nat.add_comm c e, Nat.pow_add, ← Nat.mul_assoc, Nat.mul_div_cancel _ (Nat.two_pow_pos c)]
  · obtain ⟨e, he⟩ : ∃ e, c = k + e := ⟨c - k, by omega⟩
    have e1 : ((k : Int) - 1074).toNat = 0 := by omega
    have e2 : (-((k : Int) - 1074)).toNat = e := by omega
    rw [e1, e2, Nat.pow_zero, Nat.mul_one, he, Nat.add_comm k e, Nat.pow_add, Nat.mul_div_mul_right _ _ (Nat.two_pow_pos k)]
end Go.Proofs.YtjpmpjcenajmbaaDoor.Fl
