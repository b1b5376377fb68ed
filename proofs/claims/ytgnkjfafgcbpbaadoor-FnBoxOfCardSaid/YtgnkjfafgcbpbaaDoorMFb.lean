import Derived.Test.YtgnkjfafgcbpbaaDoorMFo
import Derived.Laws.Externs
import Derived.Test.YtgnkjfafgcbpbaaDoorBo2
import Derived.Test.YtgnkjfafgcbpbaaDoorBo6
/- Single words in steps of a box: widened, times a power of 2, rounded down and up. No program in sight. -/
namespace Go.Proofs.YtgnkjfafgcbpbaaDoor.Fl
set_option linter.unusedSimpArgs false
set_option linter.unusedVariables false
open Ieee Eng
theorem sgl_facts : single.signWeight = 2147483648 ∧ single.binade = 8388608 ∧ single.infRung = 2139095040 ∧ single.leastPlace = -149 ∧ single.fractionBits = 23 := by decide
theorem V1_rep {x : Nat} {u : Int} (h : V single x u) : ∃ (s : Bool) (m k : Nat), u = sg s (m * 2 ^ k) ∧ m < 16777216 ∧ k ≤ 253 := by
  obtain ⟨h1, h2, h3, h4, h5⟩ := sgl_facts
  obtain ⟨s, m, e, hr, he, hu⟩ := h
  have hm : m < 16777216 ∧ e ≤ 104 := by
    unfold Format.read at hr
    simp only [h1, h2, h3, h4] at hr
    split at hr
    · cases hr; omega
    · split at hr
      · cases hr; omega
      · split at hr <;> cases hr
  rw [h4] at he hu
  exact ⟨s, m, (e - -149).toNat, hu, hm.1, by omega⟩
theorem V1_or (x : Nat) : (∃ v, V single x v) ∨ (∃ s, single.read x = .infinity s) ∨ ∃ s t, single.read x = .nan s t := by
  obtain ⟨h1, h2, h3, h4, h5⟩ := sgl_facts
  cases h : single.read x with
  | infinity s => exact .inr (.inl ⟨s, rfl⟩)
  | nan s t => exact .inr (.inr ⟨s, t, rfl⟩)
  | number s m e =>
    refine .inl ⟨_, s, m, e, h, ?_, rfl⟩
    unfold Format.read at h
    simp only [h1, h2, h3, h4] at h
    rw [h4]
    split at h
    · cases h; omega
    · split at h
      · cases h; omega
      · split at h <;> cases h
theorem V1_num {x : Nat} {v : Int} (h : V single x v) : (∀ s, single.read x ≠ .infinity s) ∧ ∀ s t, single.read x ≠ .nan s t := by
  obtain ⟨s, m, e, h1, -⟩ := h
  rw [h1]
  exact ⟨fun _ h => (by cases h), fun _ _ h => (by cases h)⟩
/-- 2^24 as a word. -/
theorem V_unit : V double 4715268809856909312 (16777216 * 2 ^ 1074) := by
  have := V_FW (n := 16777216) (by decide)
  rwa [show FW 16777216 = 4715268809856909312 by decide] at this
/-- A single number in steps. -/
theorem steps_num {x : Nat} {u : Int} (h : V single x u) : ∃ r y, cvI .f32 x = some r ∧ V double r (u * 2 ^ 925) ∧ double.mul r 4715268809856909312 = some y ∧ V double y (u * 2 ^ 949) := by
  obtain ⟨s, m, k, hu, hm, hk⟩ := V1_rep h
  have rep : ∀ j, j ≤ 1000 → Rep double (u * 2 ^ j).natAbs := fun j hj => by
    have e : u * 2 ^ j = sg s m * 2 ^ (k + j) := by
      rw [hu, ← sg_add_scale]
      have := sg_add_scale s m 0 (k + j)
      rw [Nat.pow_zero, Nat.mul_one, Nat.zero_add] at this
      exact this
    rw [e]
    exact rep_dbl (by rw [sg_natAbs]; omega) (by omega)
  obtain ⟨c, hc⟩ : ∃ c : Nat, c = 925 := ⟨_, rfl⟩
  obtain ⟨r, r1, r2⟩ := V_widen h (w := u * 2 ^ c) (by
    rw [Int.mul_assoc, ← Int.pow_add]; congr 2; omega) (rep c (by omega))
  rw [hc] at r2
  obtain ⟨y, y1, y2⟩ := V_mul std r2 V_unit (r := u * 2 ^ 949) (by
    rw [lp_dbl, ← hc]
    obtain ⟨l, hl⟩ : ∃ l : Nat, l = 1074 := ⟨_, rfl⟩
    rw [← hl, show (949 : Nat) = c + 24 by omega, Int.pow_add 2 c 24, show ((2 : Int) ^ 24) = 16777216 by decide]
    simp only [Int.mul_assoc]) (rep 949 (by omega))
  exact ⟨r, y, r1, r2, y1, y2⟩
theorem steps_inf {x : Nat} {s : Bool} (h : single.read x = .infinity s) : ∃ r y, cvI .f32 x = some r ∧ double.mul r 4715268809856909312 = some y ∧ NotNum y := by
  refine ⟨double.word s double.infRung, double.word s double.infRung, ?_, ?_, ?_⟩
  · unfold cvI
    rw [show FloatKind.decode .f32 x = .infinity s from h]; rfl
  · cases s <;> decide
  · intro a b c
    rw [read_inf]; exact fun h => by cases h
theorem nan_mul {t : Nat} (c : Nat) : double.mul (nanW t) c = none := by
  unfold Format.mul
  cases h : double.read (nanW t) with
  | number s m e => exact absurd h (nanW_not t s m e)
  | infinity s =>
    exfalso
    obtain ⟨h1, h2, h3, h4, h5⟩ := dbl_facts
    have a : 9218868437227405312 < nanW t % 9223372036854775808 := by
      unfold nanW
      have := Nat.mod_lt (t / 2) (show 4503599627370495 > 0 by decide)
      generalize t / 2 % 4503599627370495 = u at this ⊢
      omega
    unfold Format.read at h
    simp only [h1, h2, h3, h4] at h
    split at h
    · omega
    · split at h
      · omega
      · split at h
        · omega
        · cases h
  | nan s f => cases double.read c <;> rfl
theorem nan_order (t c : Nat) : double.order (nanW t) c = none ∧ double.order c (nanW t) = none := by
  have hn : ∃ s f, double.read (nanW t) = .nan s f := by
    cases h : double.read (nanW t) with
    | number s m e => exact absurd h (nanW_not t s m e)
    | infinity s =>
      exfalso
      obtain ⟨h1, h2, h3, h4, h5⟩ := dbl_facts
      have a : 9218868437227405312 < nanW t % 9223372036854775808 := by
        unfold nanW
        have := Nat.mod_lt (t / 2) (show 4503599627370495 > 0 by decide)
        generalize t / 2 % 4503599627370495 = u at this ⊢
        omega
      unfold Format.read at h
      simp only [h1, h2, h3, h4] at h
      split at h
      · omega
      · split at h
        · omega
        · split at h
          · omega
          · cases h
    | nan s f => exact ⟨s, f, rfl⟩
  obtain ⟨s, f, hn⟩ := hn
  unfold Format.order
  rw [hn]
  refine ⟨?_, ?_⟩ <;> cases double.read c <;> rfl
/-- 2^27 and its opposite. -/
theorem V_edge : V double 4728779608739020800 (134217728 * 2 ^ 1074) := by
  have := V_FW (n := 134217728) (by decide)
  rwa [show FW 134217728 = 4728779608739020800 by decide] at this
theorem V_edgen : V double 13952151645593796608 (-134217728 * 2 ^ 1074) := by
  have := V_FW (n := -134217728) (by decide)
  rwa [show FW (-134217728) = 13952151645593796608 by decide] at this
theorem abs_pow {t : Int} {c : Nat} (hb : t.natAbs ≤ 134217728 * 2 ^ c) : -134217728 * 2 ^ c ≤ t ∧ t ≤ 134217728 * 2 ^ c := by
  have cT : ((2 ^ c : Nat) : Int) = (2 : Int) ^ c := by rw [Int.natCast_pow]; rfl
  rw [← cT, Int.neg_mul]
  generalize 2 ^ c = A at hb ⊢
  omega
/-- What lies between the edges: both ways to ask. -/
def inE (o1 o2 : Option Ordering) : Bool := (o1 == some .lt || o1 == some .eq) && (o2 == some .lt || o2 == some .eq)
def inE' (o1 o2 : Option Ordering) : Bool := (o1 == some .gt || o1 == some .eq) && (o2 == some .lt || o2 == some .eq)
theorem edge_num {y : Nat} {t : Int} (h : V double y t) : (inE (double.order 13952151645593796608 y) (double.order y 4728779608739020800) = true ↔ -134217728 * 2 ^ 1074 ≤ t ∧ t ≤ 134217728 * 2 ^ 1074) ∧ (inE' (double.order y 13952151645593796608) (double.order y 4728779608739020800) = true ↔ -134217728 * 2 ^ 1074 ≤ t ∧ t ≤ 134217728 * 2 ^ 1074) := by
  unfold inE inE'
  rw [V_order h V_edge, V_order h V_edgen, V_order V_edgen h]
  generalize (-134217728 * 2 ^ 1074 : Int) = A
  generalize (134217728 * 2 ^ 1074 : Int) = B
  rw [Bool.and_eq_true, Bool.or_eq_true, Bool.or_eq_true, beq_iff_eq, beq_iff_eq, beq_iff_eq, beq_iff_eq, Bool.and_eq_true, Bool.or_eq_true, Bool.or_eq_true, beq_iff_eq, beq_iff_eq, beq_iff_eq, beq_iff_eq]
  simp only [Option.some.injEq, Int.compare_eq_gt, Int.compare_eq_eq, Int.compare_eq_lt]
  omega
theorem edge_not {y : Nat} (h : NotNum y) : inE (double.order 13952151645593796608 y) (double.order y 4728779608739020800) = false ∧ inE' (double.order y 13952151645593796608) (double.order y 4728779608739020800) = false := by
  unfold inE inE' Format.order
  rw [show double.read 13952151645593796608 = .number true 4503599627370496 (-25) by decide, show double.read 4728779608739020800 = .number false 4503599627370496 (-25) by decide]
  cases hr : double.read y with
  | number s m e => exact absurd hr (h s m e)
  | nan s t => exact ⟨rfl, rfl⟩
  | infinity s => cases s <;> exact ⟨rfl, rfl⟩
/-- Rounded down or up. -/
theorem cut_down (neg : Bool) (n d : Nat) : Toward.down.cut neg n d = n / 2 ^ d + (neg && n % 2 ^ d != 0).toNat ∧ Toward.up.cut neg n d = n / 2 ^ d + (!neg && n % 2 ^ d != 0).toNat := by
  unfold Toward.cut
  simp only [Nat.shiftLeft_eq, Nat.one_mul]
  by_cases h : d ≤ n.log2 + 2
  · rw [Nat.min_eq_left h]; exact ⟨rfl, rfl⟩
  · have h1 : n < 2 ^ (n.log2 + 1) := Nat.lt_log2_self
    have h2 : 2 ^ (n.log2 + 1) ≤ 2 ^ (n.log2 + 2) := Nat.pow_le_pow_right (by decide) (by omega)
    have h3 : 2 ^ (n.log2 + 1) ≤ 2 ^ d := Nat.pow_le_pow_right (by decide) (by omega)
    rw [Nat.min_eq_right (by omega), Nat.div_eq_of_lt (Nat.lt_of_lt_of_le h1 h2), Nat.div_eq_of_lt (Nat.lt_of_lt_of_le h1 h3), Nat.mod_eq_of_lt (Nat.lt_of_lt_of_le h1 h2), Nat.mod_eq_of_lt (Nat.lt_of_lt_of_le h1 h3)]
    exact ⟨rfl, rfl⟩
theorem ediv_nat (n D : Nat) (hD : 1 ≤ D) : (-(n : Int)) / (D : Int) = -((n / D + (n % D != 0).toNat : Nat) : Int) := by
  by_cases h : n % D = 0
  · rw [neg_ediv_0 n D (by omega) (by omega), h]; simp
  · rw [neg_ediv_1 n D (by omega) (by omega)]
    have : (n % D != 0) = true := by rw [bne_iff_ne]; exact h
    rw [this]
    show -((n : Int) / D) - 1 = -((n / D + 1 : Nat) : Int)
    have e : ((n / D : Nat) : Int) = (n : Int) / D := by simp
    omega
theorem sg_down (s : Bool) (n d : Nat) : sg s (Toward.down.cut s n d) = sg s n / 2 ^ d ∧ sg s (Toward.up.cut s n d) = -((-sg s n) / 2 ^ d) := by
  rw [(cut_down s n d).1, (cut_down s n d).2]
  have hD := Nat.two_pow_pos d
  have e := ediv_nat n (2 ^ d) hD
  have c : ((2 ^ d : Nat) : Int) = (2 : Int) ^ d := by rw [Int.natCast_pow]; rfl
  have f : ((n / 2 ^ d : Nat) : Int) = (n : Int) / 2 ^ d := by rw [← c]; simp
  rw [c] at e
  cases s
  · unfold sg
    simp only [Bool.false_and, Bool.not_false, Bool.true_and, Bool.false_eq_true, if_false, Bool.toNat_false, Nat.add_zero]
    exact ⟨f, by rw [e]; omega⟩
  · unfold sg
    simp only [Bool.true_and, Bool.not_true, Bool.false_and, if_true, Bool.toNat_false, Nat.add_zero]
    exact ⟨by rw [e], by rw [Int.neg_neg, f]⟩
theorem V_round {y : Nat} {t : Int} (h : V double y t) (hb : t.natAbs ≤ 134217728 * 2 ^ 1074) : V double (double.write ((double.read y).integral .down)) (t / 2 ^ 1074 * 2 ^ 1074) ∧ V double (double.write ((double.read y).integral .up)) (-((-t) / 2 ^ 1074) * 2 ^ 1074) ∧ -134217728 ≤ t / 2 ^ 1074 ∧ -((-t) / 2 ^ 1074) ≤ 134217728 ∧ t / 2 ^ 1074 ≤ -((-t) / 2 ^ 1074) ∧ -((-t) / 2 ^ 1074) ≤ t / 2 ^ 1074 + 1 := by
  obtain ⟨s, m, k, hu, hm, hk, hr⟩ := V_rep h
  obtain ⟨c, hc⟩ : ∃ c : Nat, c = 1074 := ⟨_, rfl⟩
  rw [← hc] at hb ⊢
  have hT : (0 : Int) < 2 ^ c := Int.pow_pos (by decide)
  have cT : ((2 ^ c : Nat) : Int) = (2 : Int) ^ c := by rw [Int.natCast_pow]; rfl
  obtain ⟨N, d, i1, i2, q1, q2⟩ : ∃ N d : Nat, (double.read y).integral .down = .number s (Toward.down.cut s N d) 0 ∧ (double.read y).integral .up = .number s (Toward.up.cut s N d) 0 ∧ sg s N / 2 ^ d = t / 2 ^ c ∧ -sg s N / 2 ^ d = -t / 2 ^ c := by
    rw [hr]
    refine ⟨_, _, rfl, rfl, ?_⟩
    rw [Nat.shiftLeft_eq]
    by_cases hkc : c ≤ k
    · obtain ⟨e, rfl⟩ : ∃ e, k = c + e := ⟨k - c, by omega⟩
      have e1 : (((c + e : Nat) : Int) - 1074).toNat = e := by omega
      have e2 : (-(((c + e : Nat) : Int) - 1074)).toNat = 0 := by omega
      rw [e1, e2, hu, Int.pow_zero, Int.ediv_one, Int.ediv_one, Nat.add_comm c e, sg_add_scale, ← Int.neg_mul]
      exact ⟨(Int.mul_ediv_cancel _ (by omega)).symm, (Int.mul_ediv_cancel _ (by omega)).symm⟩
    · obtain ⟨e, he⟩ : ∃ e, c = k + e := ⟨c - k, by omega⟩
      have e1 : ((k : Int) - 1074).toNat = 0 := by omega
      have e2 : (-((k : Int) - 1074)).toNat = e := by omega
      have hs := sg_add_scale s m 0 k
      rw [Nat.pow_zero, Nat.mul_one, Nat.zero_add] at hs
      rw [e1, e2, Nat.pow_zero, Nat.mul_one, hu, hs, he, Nat.add_comm k e, Int.pow_add, ← Int.neg_mul]
      have hk0 : (0 : Int) < 2 ^ k := Int.pow_pos (by decide)
      exact ⟨(Int.mul_ediv_mul_of_pos_left _ _ hk0).symm, (Int.mul_ediv_mul_of_pos_left _ _ hk0).symm⟩
  have hb1 : t ≤ 134217728 * 2 ^ c := by
    have : ((t.natAbs : Nat) : Int) ≤ ((134217728 * 2 ^ c : Nat) : Int) := by exact_mod_cast hb
    rw [Int.natCast_mul, cT] at this
    have e : ((134217728 : Nat) : Int) = 134217728 := rfl
    rw [e] at this
    omega
  have hb2 : -(134217728 * 2 ^ c) ≤ t := by
    have : ((t.natAbs : Nat) : Int) ≤ ((134217728 * 2 ^ c : Nat) : Int) := by exact_mod_cast hb
    rw [Int.natCast_mul, cT] at this
    have e : ((134217728 : Nat) : Int) = 134217728 := rfl
    rw [e] at this
    omega
  have z1 : -134217728 ≤ t / 2 ^ c := by
    rw [Int.le_ediv_iff_mul_le hT, Int.neg_mul]; exact hb2
  have z2 : -134217728 ≤ -t / 2 ^ c := by
    rw [Int.le_ediv_iff_mul_le hT, Int.neg_mul]; omega
  have a1 := Int.mul_ediv_add_emod t (2 ^ c)
  have a2 := Int.mul_ediv_add_emod (-t) (2 ^ c)
  have b1 := Int.emod_nonneg t (show (2 : Int) ^ c ≠ 0 by omega)
  have b2 := Int.emod_nonneg (-t) (show (2 : Int) ^ c ≠ 0 by omega)
  have c1 := Int.emod_lt_of_pos t hT
  have c2 := Int.emod_lt_of_pos (-t) hT
  have z3 : t / 2 ^ c + -t / 2 ^ c ≤ 0 := by
    have : 2 ^ c * (t / 2 ^ c + -t / 2 ^ c) < 2 ^ c * 1 := by rw [Int.mul_add]; omega
    have := Int.lt_of_mul_lt_mul_left this (Int.le_of_lt hT); omega
  have z4 : -2 < t / 2 ^ c + -t / 2 ^ c := by
    have : 2 ^ c * (-2) < 2 ^ c * (t / 2 ^ c + -t / 2 ^ c) := by rw [Int.mul_add]; omega
    exact Int.lt_of_mul_lt_mul_left this (Int.le_of_lt hT)
  have wr : ∀ K : Nat, K < 9007199254740992 → V double (double.write (.number s K 0)) (sg s K * 2 ^ c) := fun K hK => by
    have hl : double.leastPlace = -1074 := dbl_facts.2.2.2.1
    have := V_nearest std s (mag := K) (v := K * 2 ^ c) (a := c) (b := 0) (place := 0) (by simp) (by rw [hl, hc]; rfl) (by
      have := rep_dbl (a := K) (k := c) (by omega) (by omega)
      rwa [natAbs_mul_pow, Int.natAbs_natCast] at this)
    have hs := sg_add_scale s K 0 c
    rw [Nat.pow_zero, Nat.mul_one, Nat.zero_add] at hs
    rwa [hs] at this
  obtain ⟨g1, g2⟩ := sg_down s N d
  rw [q1] at g1
  rw [q2] at g2
  refine ⟨?_, ?_, z1, by omega, by omega, by omega⟩
  · rw [i1, ← g1]
    refine wr _ ?_
    have := sg_natAbs s (Toward.down.cut s N d)
    rw [g1] at this
    omega
  · rw [i2, ← g2]
    refine wr _ ?_
    have := sg_natAbs s (Toward.up.cut s N d)
    rw [g2] at this
    omega
/-- The whole part of a word. -/
theorem V_trunc {x : Nat} {u : Int} (h : V double x u) : (double.read x).toInt .zero = some (u.tdiv (2 ^ 1074)) := by
  obtain ⟨s, m, k, hu, hm, hk, hr⟩ := V_rep h
  obtain ⟨c, hc⟩ : ∃ c : Nat, c = 1074 := ⟨_, rfl⟩
  rw [← hc, hr]
  unfold Datum.toInt Datum.integral
  simp only []
  rw [cut_toward_zero, signed_eq, Nat.pow_zero, Nat.mul_one, Nat.shiftLeft_eq]
  have cc : ∀ j : Nat, ((2 ^ j : Nat) : Int) = (2 : Int) ^ j := fun j => by rw [Int.natCast_pow]; rfl
  have td : ∀ A B : Nat, (sg s A).tdiv (B : Int) = sg s (A / B) := fun A B => by
    cases s
    · unfold sg; simp only [Bool.false_eq_true, if_false]; rfl
    · unfold sg; simp only [if_true]; rw [Int.neg_tdiv]; rfl
  rw [hu, ← cc, td]
  congr 2
  by_cases hkc : c ≤ k
  · obtain ⟨e, rfl⟩ : ∃ e, k = c + e := ⟨k - c, by omega⟩
    have e1 : (((c + e : Nat) : Int) - 1074).toNat = e := by omega
    have e2 : (-(((c + e : Nat) : Int) - 1074)).toNat = 0 := by omega
    rw [e1, e2, Nat.pow_zero, Nat.div_one, Nat.add_comm c e, Nat.pow_add, ← Nat.mul_assoc, Nat.mul_div_cancel _ (Nat.two_pow_pos c)]
  · obtain ⟨e, he⟩ : ∃ e, c = k + e := ⟨c - k, by omega⟩
    have e1 : ((k : Int) - 1074).toNat = 0 := by omega
    have e2 : (-((k : Int) - 1074)).toNat = e := by omega
    rw [e1, e2, Nat.pow_zero, Nat.mul_one, he, Nat.add_comm k e, Nat.pow_add, Nat.mul_div_mul_right _ _ (Nat.two_pow_pos k)]
end Go.Proofs.YtgnkjfafgcbpbaaDoor.Fl
/- Rounding down and up: the library's Floor and Ceil; a single number's steps. -/
namespace Go.Proofs.YtgnkjfafgcbpbaaDoor
set_option linter.unusedSimpArgs false
set_option linter.unusedVariables false
open Go.RowKit Eng
theorem toIntegral_num (nm : String) (way : Ieee.Toward) {y : Nat} {s : Bool} {m : Nat} {e : Int} (h : FloatKind.decode .f64 y = .number s m e) : Extern.MathFloor.toIntegral nm way #[.float .f64 y] = pure (.float .f64 (Ieee.double.write ((Ieee.Datum.number s m e).integral way))) := by
  show Extern.MathFloor.toIntegral.match_1 (motive := fun _ => Sem Value) (FloatKind.decode .f64 y) (fun s t => if FloatKind.f64.format.quiet t = t then pure (.float .f64 y) else do
      let kept ← choose (.extern "math.Floor,Ceil,Trunc,RoundToEven.signallingNaN kept" 2)
      pure (.float .f64 (if kept == 1 then y else FloatKind.f64.encode (.nan s (FloatKind.f64.format.quiet t))))) (fun d => pure (.float .f64 (FloatKind.f64.encode (d.integral way)))) = _
  rw [h]; rfl
theorem floor_run (y : Nat) (hy : ∃ v, Fl.V Ieee.double y v) (w : World) : (callFunc 87 #[.float .f64 y]).run Tryd.prog w = .ok (.value (.float .f64 (Ieee.double.write ((Ieee.double.read y).integral .down)))) w ∧ (callFunc 89 #[.float .f64 y]).run Tryd.prog w = .ok (.value (.float .f64 (Ieee.double.write ((Ieee.double.read y).integral .up)))) w := by
  obtain ⟨v, s, m, e, hr, -⟩ := hy
  refine ⟨(run_callFunc_extern Tryd.func87 (by kernel_rfl) (by kernel_rfl) (by kernel_rfl) (show Extern.find Tryd.f87 = some (Extern.MathFloor.toIntegral "math.archFloor" .down) by kernel_rfl) _ w).trans ?_,
    (run_callFunc_extern Tryd.func89 (by kernel_rfl) (by kernel_rfl) (by kernel_rfl) (show Extern.find Tryd.f89 = some (Extern.MathFloor.toIntegral "math.archCeil" .up) by kernel_rfl) _ w).trans ?_⟩
  · rw [toIntegral_num _ _ hr, hr]; rfl
  · rw [toIntegral_num _ _ hr, hr]; rfl
theorem Floor_any (y : Nat) (hy : ∃ v, Fl.V Ieee.double y v) (w : World) :
    Calls Tryd.prog 77 #[.float .f64 y] w fun e w' => e = .returned (.float .f64 (Ieee.double.write ((Ieee.double.read y).integral .down))) ∧ w = w' := by
  have h := fun w => (floor_run y hy w).1
  clear hy
  generalize Ieee.double.write ((Ieee.double.read y).integral .down) = z at h ⊢
  go_enter Tryd.func77, Tryd.ntmps77
  go_wp2
  go_returns
  exact ⟨rfl, rfl⟩
theorem Ceil_any (y : Nat) (hy : ∃ v, Fl.V Ieee.double y v) (w : World) :
    Calls Tryd.prog 78 #[.float .f64 y] w fun e w' => e = .returned (.float .f64 (Ieee.double.write ((Ieee.double.read y).integral .up))) ∧ w = w' := by
  have h := fun w => (floor_run y hy w).2
  clear hy
  generalize Ieee.double.write ((Ieee.double.read y).integral .up) = z at h ⊢
  go_enter Tryd.func78, Tryd.ntmps78
  go_wp2
  go_returns
  exact ⟨rfl, rfl⟩
/-- A single word's steps, rounded down and up. -/
def Stp (x : Nat) (lo hi : Int) : Prop := ∃ u : Int, Fl.V Ieee.single x u ∧ -134217728 * 2 ^ 125 ≤ u ∧ u ≤ 134217728 * 2 ^ 125 ∧ lo = u / 2 ^ 125 ∧ hi = -((-u) / 2 ^ 125)
def NoStp (x : Nat) : Prop := ∀ u : Int, Fl.V Ieee.single x u → ¬ (-134217728 * 2 ^ 125 ≤ u ∧ u ≤ 134217728 * 2 ^ 125)
theorem Stp_or (x : Nat) : (∃ lo hi, Stp x lo hi) ∨ NoStp x := by
  by_cases h : ∃ u : Int, Fl.V Ieee.single x u ∧ -134217728 * 2 ^ 125 ≤ u ∧ u ≤ 134217728 * 2 ^ 125
  · obtain ⟨u, h1, h2, h3⟩ := h
    exact .inl ⟨_, _, u, h1, h2, h3, rfl, rfl⟩
  · exact .inr fun u hu hb => h ⟨u, hu, hb.1, hb.2⟩
theorem Stp_rng {x : Nat} {lo hi : Int} (h : Stp x lo hi) : -134217728 ≤ lo ∧ lo ≤ hi ∧ hi ≤ 134217728 ∧ hi ≤ lo + 1 := by
  obtain ⟨u, -, h1, h2, rfl, rfl⟩ := h
  omega
/-- What the widening and the product give: a word, without asking the tape; or the tape is asked for a NaN. -/
def Told (x y : Nat) : Prop := ∃ r, (∀ w, (convert 77 38 (.float .f32 x)).run Tryd.prog w = .ok (.float .f64 r) w) ∧ ∀ w, (binOp .mul 38 (.float .f64 r) (.float .f64 4715268809856909312)).run Tryd.prog w = .ok (.float .f64 y) w
def Asked (x : Nat) : Prop := (∀ w, (convert 77 38 (.float .f32 x)).run Tryd.prog w = .ok (.float .f64 (Fl.nanW (w.tape w.drawn (.nanConv .f64 x)))) w.drew) ∧ ∀ t w, (binOp .mul 38 (.float .f64 (Fl.nanW t)) (.float .f64 4715268809856909312)).run Tryd.prog w = .ok (.float .f64 (Fl.nanW (w.tape w.drawn (.nanBits .f64 (Fl.nanW t) 4715268809856909312)))) w.drew
theorem widen_run {x r : Nat} (h : cvI .f32 x = some r) (w : World) : (convert 77 38 (.float .f32 x)).run Tryd.prog w = .ok (.float .f64 r) w := by
  have g : 0 ≤ oInt (cvI .f32 x) := by rw [h]; exact Int.natCast_nonneg r
  have := cv_run (P := Tryd.prog) (k := .f32) (k' := .f64) (by decide) g w
  rw [h] at this
  unfold convert
  simp only [Sem.run_bind, run_underlying' Tryd.underlying77, run_underlying' Tryd.underlying38, Result.andThen_ok]
  exact this
theorem mul_run {r c y : Nat} (h : Ieee.double.mul r c = some y) (w : World) : (binOp .mul 38 (.float .f64 r) (.float .f64 c)).run Tryd.prog w = .ok (.float .f64 y) w := by
  simp only [binOp, Op.floatArith, show FloatKind.f64.format = Ieee.double from rfl, h]; rfl
theorem steps_told {x : Nat} {lo hi : Int} (h : Stp x lo hi) : ∃ y t, Told x y ∧ Fl.V Ieee.double y t ∧ t.natAbs ≤ 134217728 * 2 ^ 1074 ∧ t / 2 ^ 1074 = lo ∧ -((-t) / 2 ^ 1074) = hi := by
  obtain ⟨u, hu, h1, h2, rfl, rfl⟩ := h
  obtain ⟨r, y, r1, r2, y1, y2⟩ := Fl.steps_num hu
  refine ⟨y, u * 2 ^ 949, ⟨r, widen_run r1, mul_run y1⟩, y2, ?_, ?_, ?_⟩
  · have hb : u.natAbs ≤ 134217728 * 2 ^ 125 := by omega
    rw [Fl.natAbs_mul_pow]
    obtain ⟨c, hc⟩ : ∃ c : Nat, c = 949 := ⟨_, rfl⟩
    rw [← hc, show (1074 : Nat) = 125 + c by omega, Nat.pow_add, ← Nat.mul_assoc]
    exact Nat.mul_le_mul_right _ hb
  · obtain ⟨c, hc⟩ : ∃ c : Nat, c = 949 := ⟨_, rfl⟩
    rw [← hc, show (1074 : Nat) = 125 + c by omega, Int.pow_add]
    exact Int.mul_ediv_mul_of_pos_left _ _ (Int.pow_pos (by decide))
  · obtain ⟨c, hc⟩ : ∃ c : Nat, c = 949 := ⟨_, rfl⟩
    rw [← hc, show (1074 : Nat) = 125 + c by omega, Int.pow_add, ← Int.neg_mul]
    rw [Int.mul_ediv_mul_of_pos_left _ _ (Int.pow_pos (by decide))]
theorem steps_no {x : Nat} (h : NoStp x) : (∃ y, Told x y ∧ Fl.inE (Ieee.double.order 13952151645593796608 y) (Ieee.double.order y 4728779608739020800) = false ∧ Fl.inE' (Ieee.double.order y 13952151645593796608) (Ieee.double.order y 4728779608739020800) = false) ∨ Asked x := by
  rcases Fl.V1_or x with ⟨u, hu⟩ | ⟨s, hs⟩ | ⟨s, t, hs⟩
  · left
    obtain ⟨r, y, r1, r2, y1, y2⟩ := Fl.steps_num hu
    have hn : ¬ (-134217728 * 2 ^ 1074 ≤ u * 2 ^ 949 ∧ u * 2 ^ 949 ≤ 134217728 * 2 ^ 1074) := by
      intro hb
      refine h u hu ?_
      obtain ⟨c, hc⟩ : ∃ c : Nat, c = 949 := ⟨_, rfl⟩
      rw [← hc, show (1074 : Nat) = 125 + c by omega, Int.pow_add, ← Int.mul_assoc, ← Int.mul_assoc] at hb
      have hp : (0 : Int) < 2 ^ c := Int.pow_pos (by decide)
      exact ⟨Int.le_of_mul_le_mul_right hb.1 hp, Int.le_of_mul_le_mul_right hb.2 hp⟩
    obtain ⟨e1, e2⟩ := Fl.edge_num y2
    refine ⟨y, ⟨r, widen_run r1, mul_run y1⟩, ?_, ?_⟩
    · rw [← Bool.not_eq_true]; exact fun h => hn (e1.1 h)
    · rw [← Bool.not_eq_true]; exact fun h => hn (e2.1 h)
  · left
    obtain ⟨r, y, r1, y1, hn⟩ := Fl.steps_inf hs
    exact ⟨y, ⟨r, widen_run r1, mul_run y1⟩, Fl.edge_not hn⟩
  · right
    refine ⟨fun w => ?_, fun t w => ?_⟩
    · unfold convert
      simp only [Sem.run_bind, run_underlying' Tryd.underlying77, run_underlying' Tryd.underlying38, Result.andThen_ok]
      show (Conv.floatToFloat .f32 x .f64).run Tryd.prog w = _
      unfold Conv.floatToFloat
      rw [if_neg (by decide), show FloatKind.decode .f32 x = .nan s t from hs]
      rfl
    · simp only [binOp, Op.floatArith, show FloatKind.f64.format = Ieee.double from rfl, Fl.nan_mul]; rfl
theorem f2i_run {z : Nat} {n : Int} (h : Fl.V Ieee.double z (n * 2 ^ 1074)) (h1 : -134217728 ≤ n) (h2 : n ≤ 134217728) (w : World) : (convert 38 3 (.float .f64 z)).run Tryd.prog w = .ok (.int .i64 n) w := by
  refine run_convert_float_int _ _ _ _ _ _ _ (by kernel_rfl) Tryd.underlying3 ?_
  obtain ⟨m, m1, -, m3⟩ := Fl.V_toInt h
  have := m3 n rfl
  subst this
  unfold floatToIntVal
  rw [show FloatKind.decode .f64 z = Ieee.double.read z from rfl, m1]
  simp only []
  rw [if_pos (by simp [IntKind.min, IntKind.max, IntKind.signed, IntKind.bits]; omega)]
theorem load_span (w : World) (b : Nat) (x y : Value) (h0 : w.cell? ⟨b, 0, none⟩ = some x) (h1 : w.cell? ⟨b, 1, none⟩ = some y) : (loadVar 74 ⟨b, 0, none⟩).run Tryd.prog w = .ok (.agg #[x, y]) w := by
  simp [go_sem, h0, h1]
theorem spanOfFloat_yes (x : Nat) (lo hi : Int) (h : Stp x lo hi) (w : World) :
    Calls Tryd.prog 60 #[.float .f32 x] w (Gives (.tuple #[.agg #[.int .i64 lo, .int .i64 hi], .bool true]) w) := by
  obtain ⟨y, t, ⟨r, hr, hm⟩, hV, hb, hlo, hhi⟩ := steps_told h
  obtain ⟨r1, r2, z1, z2, z3, z4⟩ := Fl.V_round hV hb
  rw [hlo] at r1 z1 z3 z4
  rw [hhi] at r2 z2 z3 z4
  have hE : Fl.inE (Ieee.double.order 13952151645593796608 y) (Ieee.double.order y 4728779608739020800) = true := (Fl.edge_num hV).1.2 (Fl.abs_pow hb)
  have FL := Lib.hid (Floor_any y ⟨_, hV⟩)
  have CL := Lib.hid (Ceil_any y ⟨_, hV⟩)
  have v1 := f2i_run r1 (by omega) (by omega)
  have v2 := f2i_run r2 (by omega) (by omega)
  generalize Ieee.double.write ((Ieee.double.read y).integral .down) = y1 at FL v1
  generalize Ieee.double.write ((Ieee.double.read y).integral .up) = y2 at CL v2
  clear r1 r2 hV hb h hlo hhi
  obtain ⟨o1, h1⟩ : ∃ o, FloatKind.f64.format.order 13952151645593796608 y = o := ⟨_, rfl⟩
  obtain ⟨o2, h2⟩ : ∃ o, FloatKind.f64.format.order y 4728779608739020800 = o := ⟨_, rfl⟩
  rw [show Ieee.double.order 13952151645593796608 y = o1 from h1, show Ieee.double.order y 4728779608739020800 = o2 from h2] at hE
  rcases o1 with _ | (_ | _ | _) <;> rcases o2 with _ | (_ | _ | _) <;> first | (cases hE; done) | skip
  all_goals clear hE
  all_goals go_enter Tryd.func60, Tryd.ntmps60
  all_goals set_option maxRecDepth 20000 in
    go_wp2_with (first | (go_at_call 77; refine (FL.out _).mono ?_; rintro e w1 ⟨rfl, rfl⟩) | (go_at_call 78; refine (CL.out _).mono ?_; rintro e w1 ⟨rfl, rfl⟩))
  all_goals refine ret_cell_tmp Tryd.results60 rfl rfl (load_span _ _ (.int .i64 lo) (.int .i64 hi) (by go_simp) (by go_simp)) ⟨rfl, by go_grown⟩
theorem spanOfFloat_no (x : Nat) (h : NoStp x) (w : World) :
    Calls Tryd.prog 60 #[.float .f32 x] w (Gives (.tuple #[.agg #[.int .i64 0, .int .i64 0], .bool false]) w) := by
  rcases steps_no h with ⟨y, ⟨r, hr, hm⟩, hE, -⟩ | ⟨hr, hm⟩
  · clear h
    obtain ⟨o1, h1⟩ : ∃ o, FloatKind.f64.format.order 13952151645593796608 y = o := ⟨_, rfl⟩
    obtain ⟨o2, h2⟩ : ∃ o, FloatKind.f64.format.order y 4728779608739020800 = o := ⟨_, rfl⟩
    rw [show Ieee.double.order 13952151645593796608 y = o1 from h1, show Ieee.double.order y 4728779608739020800 = o2 from h2] at hE
    rcases o1 with _ | (_ | _ | _) <;> rcases o2 with _ | (_ | _ | _) <;> first | (cases hE; done) | skip
    all_goals clear hE
    all_goals go_enter Tryd.func60, Tryd.ntmps60
    all_goals set_option maxRecDepth 20000 in
      go_wp2
    all_goals refine ret_cell_tmp Tryd.results60 rfl rfl (load_span _ _ (.int .i64 0) (.int .i64 0) (by go_simp) (by go_simp)) ⟨rfl, by go_grown⟩
  · clear h
    have h1 : ∀ t c, FloatKind.f64.format.order (Fl.nanW t) c = none := fun t c => (Fl.nan_order t c).1
    have h2 : ∀ t c, FloatKind.f64.format.order c (Fl.nanW t) = none := fun t c => (Fl.nan_order t c).2
    go_enter Tryd.func60, Tryd.ntmps60
    set_option maxRecDepth 20000 in
      go_wp2
    refine ret_cell_tmp Tryd.results60 rfl rfl (load_span _ _ (.int .i64 0) (.int .i64 0) (by go_simp) (by go_simp)) ⟨rfl, by go_grown⟩
end Go.Proofs.YtgnkjfafgcbpbaaDoor
/- A single number's steps in the reference. -/
namespace Go.Proofs.YtgnkjfafgcbpbaaDoor
set_option linter.unusedSimpArgs false
set_option linter.unusedVariables false
open Go.RowKit Eng
theorem tdiv_cases (t T : Int) (hT : 0 < T) : (t.tdiv T = t / T + 1 ∧ t < (t / T + 1) * T ∧ t / T * T < t ∧ -((-t) / T) = t / T + 1) ∨ (t.tdiv T = t / T ∧ t / T * T < t ∧ -((-t) / T) = t / T + 1) ∨ (t.tdiv T = t / T ∧ t / T * T = t ∧ -((-t) / T) = t / T) := by
  have a1 := Int.mul_ediv_add_emod t T
  have b1 := Int.emod_nonneg t (show T ≠ 0 by omega)
  have c1 := Int.emod_lt_of_pos t hT
  have e1 : t / T * T = T * (t / T) := Int.mul_comm _ _
  have e2 : (t / T + 1) * T = T * (t / T) + T := by rw [Int.add_mul, e1, Int.one_mul]
  by_cases h0 : t % T = 0
  · right; right
    have hd : t = T * (t / T) := by omega
    refine ⟨?_, by omega, by rw [neg_ediv_0 t T (by omega) h0]; omega⟩
    conv => lhs; rw [hd]
    exact Int.mul_tdiv_cancel_left _ (by omega)
  · have hn := neg_ediv_1 t T (by omega) h0
    by_cases hs : 0 ≤ t
    · right; left
      exact ⟨Int.tdiv_eq_ediv_of_nonneg hs, by omega, by omega⟩
    · left
      refine ⟨?_, by omega, by omega, by omega⟩
      obtain ⟨m, rfl⟩ : ∃ m, t = -m := ⟨-t, by omega⟩
      rw [Int.neg_tdiv, Int.tdiv_eq_ediv_of_nonneg (by omega)]
      rw [Int.neg_neg] at hn
      omega
/-- The whole part, and what is asked of it. -/
theorem parts {y : Nat} {t lo hi : Int} (hV : Fl.V Ieee.double y t) (hlo : t / 2 ^ 1074 = lo) (hhi : -((-t) / 2 ^ 1074) = hi) (h1 : -134217728 ≤ lo) (h2 : hi ≤ 134217728) (h3 : lo ≤ hi) (h4 : hi ≤ lo + 1) :
    ∃ q, (∀ w, (convert 38 3 (.float .f64 y)).run Tryd.prog w = .ok (.int .i64 q) w) ∧ ((q = lo + 1 ∧ hi = lo + 1 ∧ Ieee.double.order (Fl.FW (lo + 1)) y = some .gt ∧ Ieee.double.order (Fl.FW lo) y = some .lt) ∨ (q = lo ∧ hi = lo + 1 ∧ Ieee.double.order (Fl.FW lo) y = some .lt) ∨ (q = lo ∧ hi = lo ∧ Ieee.double.order (Fl.FW lo) y = some .eq)) := by
  have hq := Fl.V_trunc hV
  have F : ∀ n : Int, n.natAbs < 9007199254740992 → Ieee.double.order (Fl.FW n) y = some (compare (n * 2 ^ 1074) t) := fun n hn => Fl.V_order (Fl.V_FW hn) hV
  have hT : (0 : Int) < 2 ^ 1074 := Int.pow_pos (by decide)
  obtain ⟨q, hqq⟩ : ∃ q, t.tdiv (2 ^ 1074) = q := ⟨_, rfl⟩
  rw [hqq] at hq
  have run : -134217729 ≤ q → q ≤ 134217729 → ∀ w, (convert 38 3 (.float .f64 y)).run Tryd.prog w = .ok (.int .i64 q) w := fun a b w => by
    refine run_convert_float_int _ _ _ _ _ _ _ (by kernel_rfl) Tryd.underlying3 ?_
    unfold floatToIntVal
    rw [show FloatKind.decode .f64 y = Ieee.double.read y from rfl, hq]
    simp only []
    rw [if_pos (by simp [IntKind.min, IntKind.max, IntKind.signed, IntKind.bits]; omega)]
  have tc := tdiv_cases t (2 ^ 1074) hT
  rw [hqq, hlo, hhi] at tc
  have F1 := F (lo + 1) (by omega)
  have F0 := F lo (by omega)
  clear F hlo hhi hq hqq hV
  generalize (2 ^ 1074 : Int) = T at *
  refine ⟨q, run (by omega) (by omega), ?_⟩
  rcases tc with ⟨e1, e2, e3, e4⟩ | ⟨e1, e2, e3⟩ | ⟨e1, e2, e3⟩
  · left
    exact ⟨e1, e4, by rw [F1, Int.compare_eq_gt.2 e2], by rw [F0, Int.compare_eq_lt.2 e3]⟩
  · right; left
    exact ⟨e1, e3, by rw [F0, Int.compare_eq_lt.2 e2]⟩
  · right; right
    exact ⟨e1, e3, by rw [F0, Int.compare_eq_eq.2 e2]⟩
theorem l4Steps_yes (x : Nat) (lo hi : Int) (h : Stp x lo hi) (w : World) :
    Calls Tryd.prog 62 #[.float .f32 x] w (Gives (.tuple #[.int .i64 lo, .int .i64 hi, .bool true]) w) := by
  obtain ⟨g1, g2, g3, g4⟩ := Stp_rng h
  obtain ⟨y, t, ⟨r, hr, hm⟩, hV, hb, hlo, hhi⟩ := steps_told h
  have hE : Fl.inE' (Ieee.double.order y 13952151645593796608) (Ieee.double.order y 4728779608739020800) = true := (Fl.edge_num hV).2.2 (Fl.abs_pow hb)
  obtain ⟨q, hq, hp⟩ := parts hV hlo hhi g1 g3 g2 g4
  clear hV hb hlo hhi h
  obtain ⟨o1, h1⟩ : ∃ o, FloatKind.f64.format.order y 13952151645593796608 = o := ⟨_, rfl⟩
  obtain ⟨o2, h2⟩ : ∃ o, FloatKind.f64.format.order y 4728779608739020800 = o := ⟨_, rfl⟩
  rw [show Ieee.double.order y 13952151645593796608 = o1 from h1, show Ieee.double.order y 4728779608739020800 = o2 from h2] at hE
  rcases hp with ⟨rfl, rfl, p1, p2⟩ | ⟨rfl, rfl, p1⟩ | ⟨rfl, rfl, p1⟩
  · have k1 : FloatKind.f64.format.order (floatOfInt .f64 (lo + 1)) y = some .gt := p1
    have k2 : FloatKind.f64.format.order (floatOfInt .f64 lo) y = some .lt := p2
    clear p1 p2
    rcases o1 with _ | (_ | _ | _) <;> rcases o2 with _ | (_ | _ | _) <;> first | (cases hE; done) | skip
    all_goals clear hE
    all_goals go_enter Tryd.func62, Tryd.ntmps62
    all_goals set_option maxRecDepth 20000 in
      go_wp2
    all_goals go_returns
    all_goals exact ⟨rfl, Below.refl _ _⟩
  · have k1 : FloatKind.f64.format.order (floatOfInt .f64 q) y = some .lt := p1
    clear p1
    rcases o1 with _ | (_ | _ | _) <;> rcases o2 with _ | (_ | _ | _) <;> first | (cases hE; done) | skip
    all_goals clear hE
    all_goals go_enter Tryd.func62, Tryd.ntmps62
    all_goals set_option maxRecDepth 20000 in
      go_wp2
    all_goals go_returns
    all_goals exact ⟨rfl, Below.refl _ _⟩
  · have k1 : FloatKind.f64.format.order (floatOfInt .f64 hi) y = some .eq := p1
    clear p1
    rcases o1 with _ | (_ | _ | _) <;> rcases o2 with _ | (_ | _ | _) <;> first | (cases hE; done) | skip
    all_goals clear hE
    all_goals go_enter Tryd.func62, Tryd.ntmps62
    all_goals set_option maxRecDepth 20000 in
      go_wp2
    all_goals go_returns
    all_goals exact ⟨rfl, Below.refl _ _⟩
theorem l4Steps_no (x : Nat) (h : NoStp x) (w : World) :
    Calls Tryd.prog 62 #[.float .f32 x] w (Gives (.tuple #[.int .i64 0, .int .i64 0, .bool false]) w) := by
  rcases steps_no h with ⟨y, ⟨r, hr, hm⟩, -, hE⟩ | ⟨hr, hm⟩
  · clear h
    obtain ⟨o1, h1⟩ : ∃ o, FloatKind.f64.format.order y 13952151645593796608 = o := ⟨_, rfl⟩
    obtain ⟨o2, h2⟩ : ∃ o, FloatKind.f64.format.order y 4728779608739020800 = o := ⟨_, rfl⟩
    rw [show Ieee.double.order y 13952151645593796608 = o1 from h1, show Ieee.double.order y 4728779608739020800 = o2 from h2] at hE
    rcases o1 with _ | (_ | _ | _) <;> rcases o2 with _ | (_ | _ | _) <;> first | (cases hE; done) | skip
    all_goals clear hE
    all_goals go_enter Tryd.func62, Tryd.ntmps62
    all_goals set_option maxRecDepth 20000 in
      go_wp2
    all_goals go_returns
    all_goals exact ⟨rfl, Below.refl _ _⟩
  · clear h
    have h1 : ∀ t c, FloatKind.f64.format.order (Fl.nanW t) c = none := fun t c => (Fl.nan_order t c).1
    have h2 : ∀ t c, FloatKind.f64.format.order c (Fl.nanW t) = none := fun t c => (Fl.nan_order t c).2
    go_enter Tryd.func62, Tryd.ntmps62
    set_option maxRecDepth 20000 in
      go_wp2
    go_returns
    exact ⟨rfl, by go_grown⟩
end Go.Proofs.YtgnkjfafgcbpbaaDoor
/- The least box of a single number, both sides. -/
namespace Go.Proofs.YtgnkjfafgcbpbaaDoor
set_option linter.unusedSimpArgs false
set_option linter.unusedVariables false
variable {pv : Int → Int → Int}
open Go.RowKit Eng
def e_sbox : CEnt := ⟨61, [4], some (.app 2 0 (vs 4)), .tup [og [vv 0, vv 1, vv 2, vv 3], .one (.bool (.lit true))]⟩
def t_sbox : Tree := (.node (.app 1 0 (.cons (.var 0) (.cons (.var 1) .nil))) (.node (.app 1 0 (.cons (.var 2) (.cons (.var 3) .nil))) (.leaf (.tup [(.agg [(.int .i64 (.var 0)), (.int .i64 (.var 1)), (.int .i64 (.var 2)), (.int .i64 (.var 3))]), (.one (.bool (.lit true)))])) (.leaf (.tup [(.agg [(.int .i64 (.lit 0)), (.int .i64 (.lit 0)), (.int .i64 (.lit 0)), (.int .i64 (.lit 0))]), (.one (.bool (.lit false)))]))) (.leaf (.tup [(.agg [(.int .i64 (.lit 0)), (.int .i64 (.lit 0)), (.int .i64 (.lit 0)), (.int .i64 (.lit 0))]), (.one (.bool (.lit false)))])))
theorem t_sbox_eq : explore X2 200 61 (lettersFrom 0 [4]) 40 [] = t_sbox := by kernel_rfl
theorem ok_sbox (w : World) : e_sbox.ok Tryd.prog w (FI pv) FB := by
  refine CEnt.by_tree (e := e_sbox) (fi := FI pv) (fb := FB) (X := X2) (fuel := 200) (d := 40) (enters_of Tryd.func61 rfl (by kernel_rfl)) (fun w zs => X2_ok w _ rfl rfl) mixed (fun zs hz hp => ?_) w
  obtain ⟨a, b, c, d, rfl⟩ := len4 hz
  show (explore X2 200 61 (lettersFrom 0 [4]) 40 []).den _ = _
  rw [t_sbox_eq]
  clear hz
  replace hp : BV a b c d = true := hp _ rfl
  show Tree.den _ t_sbox = some (.tuple #[.agg #[.int .i64 a, .int .i64 b, .int .i64 c, .int .i64 d], .bool true])
  simp only [t_sbox, Tree.den, SVal.den, CV.den, At.den, SE.den, SB.den, SL.den, IOp.den, COp.den, envOf, List.map_cons, List.map_nil, List.getD_cons_zero, List.getD_cons_succ]
  have h1 : FB 1 0 [a, b] = true := (Bool.and_eq_true_iff.1 hp).1
  have h2 : FB 1 0 [c, d] = true := (Bool.and_eq_true_iff.1 hp).2
  rw [h1, h2]; rfl
def e_l4d : CEnt := ⟨63, [4], some (.app 2 0 (vs 4)), .tup [og [vv 0, vv 1, vv 2, vv 3], .one (.bool (.lit true))]⟩
def t_l4d : Tree := (.node (.app 2 0 (.cons (.var 0) (.cons (.var 1) (.cons (.var 2) (.cons (.var 3) .nil))))) (.leaf (.tup [(.agg [(.int .i64 (.var 0)), (.int .i64 (.var 1)), (.int .i64 (.var 2)), (.int .i64 (.var 3))]), (.one (.bool (.lit true)))])) (.leaf (.tup [(.agg [(.int .i64 (.lit 0)), (.int .i64 (.lit 0)), (.int .i64 (.lit 0)), (.int .i64 (.lit 0))]), (.one (.bool (.lit false)))])))
theorem t_l4d_eq : explore X2 200 63 (lettersFrom 0 [4]) 40 [] = t_l4d := by kernel_rfl
theorem ok_l4d (w : World) : e_l4d.ok Tryd.prog w (FI pv) FB := by
  refine CEnt.by_tree (e := e_l4d) (fi := FI pv) (fb := FB) (X := X2) (fuel := 200) (d := 40) (enters_of Tryd.func63 rfl (by kernel_rfl)) (fun w zs => X2_ok w _ rfl rfl) mixed (fun zs hz hp => ?_) w
  obtain ⟨a, b, c, d, rfl⟩ := len4 hz
  show (explore X2 200 63 (lettersFrom 0 [4]) 40 []).den _ = _
  rw [t_l4d_eq]
  clear hz
  replace hp : BV a b c d = true := hp _ rfl
  show Tree.den _ t_l4d = some (.tuple #[.agg #[.int .i64 a, .int .i64 b, .int .i64 c, .int .i64 d], .bool true])
  simp only [t_l4d, Tree.den, SVal.den, CV.den, At.den, SE.den, SB.den, SL.den, IOp.den, COp.den, envOf, List.map_cons, List.map_nil, List.getD_cons_zero, List.getD_cons_succ]
  have h1 : FB 2 0 [a, b, c, d] = true := hp
  rw [h1]; rfl
def bxYes (a b c d : Int) : Value := .tuple #[.agg #[.int .i64 a, .int .i64 b, .int .i64 c, .int .i64 d], .bool true]
def bxNo : Value := .tuple #[.agg #[.int .i64 0, .int .i64 0, .int .i64 0, .int .i64 0], .bool false]
theorem box_yes (a b c d : Int) (h : BV a b c d = true) (w : World) : Calls Tryd.prog 61 #[.agg #[.int .i64 a, .int .i64 b, .int .i64 c, .int .i64 d]] w (Gives (.tuple #[.agg #[.int .i64 a, .int .i64 b, .int .i64 c, .int .i64 d], .bool true]) w) :=
  (ok_sbox (pv := fun _ _ => 0) w).2 [a, b, c, d] rfl (fun x hx => by injection hx with hx; subst hx; exact h) w (Hb.refl _)
theorem l4Done_yes (a b c d : Int) (h : BV a b c d = true) (w : World) : Calls Tryd.prog 63 #[.agg #[.int .i64 a, .int .i64 b, .int .i64 c, .int .i64 d]] w (Gives (.tuple #[.agg #[.int .i64 a, .int .i64 b, .int .i64 c, .int .i64 d], .bool true]) w) :=
  (ok_l4d (pv := fun _ _ => 0) w).2 [a, b, c, d] rfl (fun x hx => by injection hx with hx; subst hx; exact h) w (Hb.refl _)
theorem BoxHas_any (a b c d e f g : Int) (w : World) : Calls Tryd.prog 37 #[.agg #[.int .i64 a, .int .i64 b, .int .i64 c, .int .i64 d], .agg #[.int .i64 e, .int .i64 f, .int .i64 g]] w (Gives (.bool (BH a b c d e f g)) w) :=
  (ok_iBoxHas (pv := fun _ _ => 0) w).2 [a, b, c, d, e, f, g] rfl (fun x hx => by cases hx) w (Hb.refl _)
theorem BoxValid_any (a b c d : Int) (w : World) : Calls Tryd.prog 36 #[.agg #[.int .i64 a, .int .i64 b, .int .i64 c, .int .i64 d]] w (Gives (.bool (BV a b c d)) w) :=
  (ok_iBoxValid (pv := fun _ _ => 0) w).2 [a, b, c, d] rfl (fun x hx => by cases hx) w (Hb.refl _)
theorem Stp_BV {x y : Nat} {a b c d : Int} (h1 : Stp x a b) (h2 : Stp y c d) : BV a b c d = true := by
  obtain ⟨p1, p2, p3, -⟩ := Stp_rng h1
  obtain ⟨q1, q2, q3, -⟩ := Stp_rng h2
  exact (BV_iff a b c d).2 ⟨p1, p2, p3, q1, q2, q3⟩
theorem impl_BoxOf_yes (x y : Nat) (a b c d : Int) (h1 : Stp x a b) (h2 : Stp y c d) (w : World) :
    Calls Tryd.prog 33 #[.complex .f32 x y] w (Gives (.tuple #[.agg #[.int .i64 a, .int .i64 b, .int .i64 c, .int .i64 d], .bool true]) w) := by
  have H1 := Lib.hid h1; have H2 := Lib.hid h2
  have HB := Lib.hid (Stp_BV h1 h2)
  clear h1 h2
  go_enter Tryd.func33, Tryd.ntmps33
  go_wp2_with fail
  refine (spanOfFloat_yes x a b H1.out _).mono ?_
  rintro e u1 ⟨rfl, hb⟩
  have hB1 : Below w.heap.size w u1 := Below.trans (by go_grown) (hb.mono (by go_size))
  have hz1 := hb.size
  try simp at hz1
  have hw1 := hB1.size
  obtain ⟨hc1, hf1⟩ := bcell hb
  clear hb
  try have s0_0_1 : w.heap.size < u1.heap.size := by omega
  try have l0_0_1 : w.heap.size ≤ u1.heap.size := by omega
  go_wp2_with fail
  refine (spanOfFloat_yes y c d H2.out _).mono ?_
  rintro e u2 ⟨rfl, hb⟩
  have hB2 : Below w.heap.size w u2 := Below.trans (by go_grown) (hb.mono (by go_size))
  have hz2 := hb.size
  try simp at hz2
  have hw2 := hB2.size
  obtain ⟨hc2, hf2⟩ := bcell hb
  clear hb
  try have s0_0_2 : w.heap.size < u2.heap.size := by omega
  try have l0_0_2 : w.heap.size ≤ u2.heap.size := by omega
  try have s1_0_2 : u1.heap.size < u2.heap.size := by omega
  try have l1_0_2 : u1.heap.size ≤ u2.heap.size := by omega
  go_wp2_with fail
  refine (box_yes a b c d HB.out _).mono ?_
  rintro e u3 ⟨rfl, hb⟩
  have hB3 : Below w.heap.size w u3 := Below.trans (by go_grown) (hb.mono (by go_size))
  have hz3 := hb.size
  try simp at hz3
  have hw3 := hB3.size
  obtain ⟨hc3, hf3⟩ := bcell hb
  clear hb
  try have s0_0_3 : w.heap.size < u3.heap.size := by omega
  try have l0_0_3 : w.heap.size ≤ u3.heap.size := by omega
  try have s1_0_3 : u1.heap.size < u3.heap.size := by omega
  try have l1_0_3 : u1.heap.size ≤ u3.heap.size := by omega
  try have s2_0_3 : u2.heap.size < u3.heap.size := by omega
  try have l2_0_3 : u2.heap.size ≤ u3.heap.size := by omega
  go_wp2
  have b0 : u3.cell? ⟨w.heap.size, 0, none⟩ = some (.int .i64 0) := by go_simp
  have b1 : u3.cell? ⟨w.heap.size, 1, none⟩ = some (.int .i64 0) := by go_simp
  have b2 : u3.cell? ⟨w.heap.size, 2, none⟩ = some (.int .i64 0) := by go_simp
  have b3 : u3.cell? ⟨w.heap.size, 3, none⟩ = some (.int .i64 0) := by go_simp
  refine ret_cell_tmp Tryd.results33 rfl rfl (load_Box _ _ _ _ _ _ (set4 b0 b1 b2 b3 _ _ _ _).1 (set4 b0 b1 b2 b3 _ _ _ _).2.1 (set4 b0 b1 b2 b3 _ _ _ _).2.2.1 (set4 b0 b1 b2 b3 _ _ _ _).2.2.2) ⟨rfl, by go_grown⟩
/-- What spanOfFloat gives, at all words. -/
theorem span_any (x : Nat) : ∃ (p q : Int) (k : Bool), (k = true → Stp x p q) ∧ (k = false → NoStp x) ∧ (∀ w, Calls Tryd.prog 60 #[.float .f32 x] w (Gives (.tuple #[.agg #[.int .i64 p, .int .i64 q], .bool k]) w)) ∧ ∀ w, Calls Tryd.prog 62 #[.float .f32 x] w (Gives (.tuple #[.int .i64 p, .int .i64 q, .bool k]) w) := by
  rcases Stp_or x with ⟨p, q, h⟩ | h
  · exact ⟨p, q, true, fun _ => h, fun h => (by cases h), spanOfFloat_yes x p q h, l4Steps_yes x p q h⟩
  · exact ⟨0, 0, false, fun h => (by cases h), fun _ => h, spanOfFloat_no x h, l4Steps_no x h⟩
set_option maxHeartbeats 2000000 in
theorem impl_BoxOf_no (x y : Nat) {p q r s : Int} {k l : Bool} (hx : ∀ w, Calls Tryd.prog 60 #[.float .f32 x] w (Gives (.tuple #[.agg #[.int .i64 p, .int .i64 q], .bool k]) w)) (hy : ∀ w, Calls Tryd.prog 60 #[.float .f32 y] w (Gives (.tuple #[.agg #[.int .i64 r, .int .i64 s], .bool l]) w)) (h : (k && l) = false) (w : World) :
    Calls Tryd.prog 33 #[.complex .f32 x y] w (Gives (.tuple #[.agg #[.int .i64 0, .int .i64 0, .int .i64 0, .int .i64 0], .bool false]) w) := by
  have HX := Lib.hid hx; have HY := Lib.hid hy
  clear hx hy
  cases k
  · clear h
    go_enter Tryd.func33, Tryd.ntmps33
    go_wp2_with fail
    refine (HX.out _).mono ?_
    rintro e u1 ⟨rfl, hb⟩
    have hB1 : Below w.heap.size w u1 := Below.trans (by go_grown) (hb.mono (by go_size))
    have hz1 := hb.size
    try simp at hz1
    have hw1 := hB1.size
    obtain ⟨hc1, hf1⟩ := bcell hb
    clear hb
    try have s0_0_1 : w.heap.size < u1.heap.size := by omega
    try have l0_0_1 : w.heap.size ≤ u1.heap.size := by omega
    go_wp2_with fail
    refine (HY.out _).mono ?_
    rintro e u2 ⟨rfl, hb⟩
    have hB2 : Below w.heap.size w u2 := Below.trans (by go_grown) (hb.mono (by go_size))
    have hz2 := hb.size
    try simp at hz2
    have hw2 := hB2.size
    obtain ⟨hc2, hf2⟩ := bcell hb
    clear hb
    try have s0_0_2 : w.heap.size < u2.heap.size := by omega
    try have l0_0_2 : w.heap.size ≤ u2.heap.size := by omega
    try have s1_0_2 : u1.heap.size < u2.heap.size := by omega
    try have l1_0_2 : u1.heap.size ≤ u2.heap.size := by omega
    go_wp2
    have b0 : u2.cell? ⟨w.heap.size, 0, none⟩ = some (.int .i64 0) := by go_simp
    have b1 : u2.cell? ⟨w.heap.size, 1, none⟩ = some (.int .i64 0) := by go_simp
    have b2 : u2.cell? ⟨w.heap.size, 2, none⟩ = some (.int .i64 0) := by go_simp
    have b3 : u2.cell? ⟨w.heap.size, 3, none⟩ = some (.int .i64 0) := by go_simp
    have st := set4 b0 b1 b2 b3 (.int .i64 0) (.int .i64 0) (.int .i64 0) (.int .i64 0)
    have hne : w.heap.size ≠ ((((u2.setCell ⟨w.heap.size, 0, none⟩ (.int .i64 0)).setCell ⟨w.heap.size, 1, none⟩ (.int .i64 0)).setCell ⟨w.heap.size, 2, none⟩ (.int .i64 0)).setCell ⟨w.heap.size, 3, none⟩ (.int .i64 0)).heap.size := by simp; omega
    refine ret_cell_tmp Tryd.results33 rfl rfl (load_Box _ _ _ _ _ _ ((World.cell?_alloc_old _ _ _ hne).trans st.1) ((World.cell?_alloc_old _ _ _ hne).trans st.2.1) ((World.cell?_alloc_old _ _ _ hne).trans st.2.2.1) ((World.cell?_alloc_old _ _ _ hne).trans st.2.2.2)) ⟨rfl, by go_grown⟩
  · cases l
    · clear h
      go_enter Tryd.func33, Tryd.ntmps33
      go_wp2_with fail
      refine (HX.out _).mono ?_
      rintro e u1 ⟨rfl, hb⟩
      have hB1 : Below w.heap.size w u1 := Below.trans (by go_grown) (hb.mono (by go_size))
      have hz1 := hb.size
      try simp at hz1
      have hw1 := hB1.size
      obtain ⟨hc1, hf1⟩ := bcell hb
      clear hb
      try have s0_0_1 : w.heap.size < u1.heap.size := by omega
      try have l0_0_1 : w.heap.size ≤ u1.heap.size := by omega
      go_wp2_with fail
      refine (HY.out _).mono ?_
      rintro e u2 ⟨rfl, hb⟩
      have hB2 : Below w.heap.size w u2 := Below.trans (by go_grown) (hb.mono (by go_size))
      have hz2 := hb.size
      try simp at hz2
      have hw2 := hB2.size
      obtain ⟨hc2, hf2⟩ := bcell hb
      clear hb
      try have s0_0_2 : w.heap.size < u2.heap.size := by omega
      try have l0_0_2 : w.heap.size ≤ u2.heap.size := by omega
      try have s1_0_2 : u1.heap.size < u2.heap.size := by omega
      try have l1_0_2 : u1.heap.size ≤ u2.heap.size := by omega
      go_wp2
      have b0 : u2.cell? ⟨w.heap.size, 0, none⟩ = some (.int .i64 0) := by go_simp
      have b1 : u2.cell? ⟨w.heap.size, 1, none⟩ = some (.int .i64 0) := by go_simp
      have b2 : u2.cell? ⟨w.heap.size, 2, none⟩ = some (.int .i64 0) := by go_simp
      have b3 : u2.cell? ⟨w.heap.size, 3, none⟩ = some (.int .i64 0) := by go_simp
      have st := set4 b0 b1 b2 b3 (.int .i64 0) (.int .i64 0) (.int .i64 0) (.int .i64 0)
      have hne : w.heap.size ≠ ((((u2.setCell ⟨w.heap.size, 0, none⟩ (.int .i64 0)).setCell ⟨w.heap.size, 1, none⟩ (.int .i64 0)).setCell ⟨w.heap.size, 2, none⟩ (.int .i64 0)).setCell ⟨w.heap.size, 3, none⟩ (.int .i64 0)).heap.size := by simp; omega
      refine ret_cell_tmp Tryd.results33 rfl rfl (load_Box _ _ _ _ _ _ ((World.cell?_alloc_old _ _ _ hne).trans st.1) ((World.cell?_alloc_old _ _ _ hne).trans st.2.1) ((World.cell?_alloc_old _ _ _ hne).trans st.2.2.1) ((World.cell?_alloc_old _ _ _ hne).trans st.2.2.2)) ⟨rfl, by go_grown⟩
    · cases h
theorem spec_BoxOf_yes (x y : Nat) (a b c d : Int) (h1 : Stp x a b) (h2 : Stp y c d) (w : World) :
    Calls Tryd.prog 34 #[.complex .f32 x y] w (Gives (.tuple #[.agg #[.int .i64 a, .int .i64 b, .int .i64 c, .int .i64 d], .bool true]) w) := by
  have H1 := Lib.hid h1; have H2 := Lib.hid h2
  have HB := Lib.hid (Stp_BV h1 h2)
  clear h1 h2
  go_enter Tryd.func34, Tryd.ntmps34
  go_wp2_with fail
  refine (l4Steps_yes x a b H1.out _).mono ?_
  rintro e u1 ⟨rfl, hb⟩
  have hB1 : Below w.heap.size w u1 := Below.trans (by go_grown) (hb.mono (by go_size))
  have hz1 := hb.size
  try simp at hz1
  have hw1 := hB1.size
  obtain ⟨hc1, hf1⟩ := bcell hb
  clear hb
  try have s0_0_1 : w.heap.size < u1.heap.size := by omega
  try have l0_0_1 : w.heap.size ≤ u1.heap.size := by omega
  go_wp2_with fail
  refine (l4Steps_yes y c d H2.out _).mono ?_
  rintro e u2 ⟨rfl, hb⟩
  have hB2 : Below w.heap.size w u2 := Below.trans (by go_grown) (hb.mono (by go_size))
  have hz2 := hb.size
  try simp at hz2
  have hw2 := hB2.size
  obtain ⟨hc2, hf2⟩ := bcell hb
  clear hb
  try have s0_0_2 : w.heap.size < u2.heap.size := by omega
  try have l0_0_2 : w.heap.size ≤ u2.heap.size := by omega
  try have s1_0_2 : u1.heap.size < u2.heap.size := by omega
  try have l1_0_2 : u1.heap.size ≤ u2.heap.size := by omega
  go_wp2_with fail
  refine (l4Done_yes a b c d HB.out _).mono ?_
  rintro e u3 ⟨rfl, hb⟩
  have hB3 : Below w.heap.size w u3 := Below.trans (by go_grown) (hb.mono (by go_size))
  have hz3 := hb.size
  try simp at hz3
  have hw3 := hB3.size
  obtain ⟨hc3, hf3⟩ := bcell hb
  clear hb
  try have s0_0_3 : w.heap.size < u3.heap.size := by omega
  try have l0_0_3 : w.heap.size ≤ u3.heap.size := by omega
  try have s1_0_3 : u1.heap.size < u3.heap.size := by omega
  try have l1_0_3 : u1.heap.size ≤ u3.heap.size := by omega
  try have s2_0_3 : u2.heap.size < u3.heap.size := by omega
  try have l2_0_3 : u2.heap.size ≤ u3.heap.size := by omega
  go_wp2
  have b0 : u3.cell? ⟨w.heap.size, 0, none⟩ = some (.int .i64 0) := by go_simp
  have b1 : u3.cell? ⟨w.heap.size, 1, none⟩ = some (.int .i64 0) := by go_simp
  have b2 : u3.cell? ⟨w.heap.size, 2, none⟩ = some (.int .i64 0) := by go_simp
  have b3 : u3.cell? ⟨w.heap.size, 3, none⟩ = some (.int .i64 0) := by go_simp
  refine ret_cell_tmp Tryd.results34 rfl rfl (load_Box _ _ _ _ _ _ (set4 b0 b1 b2 b3 _ _ _ _).1 (set4 b0 b1 b2 b3 _ _ _ _).2.1 (set4 b0 b1 b2 b3 _ _ _ _).2.2.1 (set4 b0 b1 b2 b3 _ _ _ _).2.2.2) ⟨rfl, by go_grown⟩
set_option maxHeartbeats 2000000 in
theorem spec_BoxOf_no (x y : Nat) {p q r s : Int} {k l : Bool} (hx : ∀ w, Calls Tryd.prog 62 #[.float .f32 x] w (Gives (.tuple #[.int .i64 p, .int .i64 q, .bool k]) w)) (hy : ∀ w, Calls Tryd.prog 62 #[.float .f32 y] w (Gives (.tuple #[.int .i64 r, .int .i64 s, .bool l]) w)) (h : (k && l) = false) (w : World) :
    Calls Tryd.prog 34 #[.complex .f32 x y] w (Gives (.tuple #[.agg #[.int .i64 0, .int .i64 0, .int .i64 0, .int .i64 0], .bool false]) w) := by
  have HX := Lib.hid hx; have HY := Lib.hid hy
  clear hx hy
  cases k
  · clear h
    go_enter Tryd.func34, Tryd.ntmps34
    go_wp2_with fail
    refine (HX.out _).mono ?_
    rintro e u1 ⟨rfl, hb⟩
    have hB1 : Below w.heap.size w u1 := Below.trans (by go_grown) (hb.mono (by go_size))
    have hz1 := hb.size
    try simp at hz1
    have hw1 := hB1.size
    obtain ⟨hc1, hf1⟩ := bcell hb
    clear hb
    try have s0_0_1 : w.heap.size < u1.heap.size := by omega
    try have l0_0_1 : w.heap.size ≤ u1.heap.size := by omega
    go_wp2_with fail
    refine (HY.out _).mono ?_
    rintro e u2 ⟨rfl, hb⟩
    have hB2 : Below w.heap.size w u2 := Below.trans (by go_grown) (hb.mono (by go_size))
    have hz2 := hb.size
    try simp at hz2
    have hw2 := hB2.size
    obtain ⟨hc2, hf2⟩ := bcell hb
    clear hb
    try have s0_0_2 : w.heap.size < u2.heap.size := by omega
    try have l0_0_2 : w.heap.size ≤ u2.heap.size := by omega
    try have s1_0_2 : u1.heap.size < u2.heap.size := by omega
    try have l1_0_2 : u1.heap.size ≤ u2.heap.size := by omega
    go_wp2
    have b0 : u2.cell? ⟨w.heap.size, 0, none⟩ = some (.int .i64 0) := by go_simp
    have b1 : u2.cell? ⟨w.heap.size, 1, none⟩ = some (.int .i64 0) := by go_simp
    have b2 : u2.cell? ⟨w.heap.size, 2, none⟩ = some (.int .i64 0) := by go_simp
    have b3 : u2.cell? ⟨w.heap.size, 3, none⟩ = some (.int .i64 0) := by go_simp
    refine ret_cell_tmp Tryd.results34 rfl rfl (load_Box _ _ _ _ _ _ (set4 b0 b1 b2 b3 _ _ _ _).1 (set4 b0 b1 b2 b3 _ _ _ _).2.1 (set4 b0 b1 b2 b3 _ _ _ _).2.2.1 (set4 b0 b1 b2 b3 _ _ _ _).2.2.2) ⟨rfl, by go_grown⟩
  · cases l
    · clear h
      go_enter Tryd.func34, Tryd.ntmps34
      go_wp2_with fail
      refine (HX.out _).mono ?_
      rintro e u1 ⟨rfl, hb⟩
      have hB1 : Below w.heap.size w u1 := Below.trans (by go_grown) (hb.mono (by go_size))
      have hz1 := hb.size
      try simp at hz1
      have hw1 := hB1.size
      obtain ⟨hc1, hf1⟩ := bcell hb
      clear hb
      try have s0_0_1 : w.heap.size < u1.heap.size := by omega
      try have l0_0_1 : w.heap.size ≤ u1.heap.size := by omega
      go_wp2_with fail
      refine (HY.out _).mono ?_
      rintro e u2 ⟨rfl, hb⟩
      have hB2 : Below w.heap.size w u2 := Below.trans (by go_grown) (hb.mono (by go_size))
      have hz2 := hb.size
      try simp at hz2
      have hw2 := hB2.size
      obtain ⟨hc2, hf2⟩ := bcell hb
      clear hb
      try have s0_0_2 : w.heap.size < u2.heap.size := by omega
      try have l0_0_2 : w.heap.size ≤ u2.heap.size := by omega
      try have s1_0_2 : u1.heap.size < u2.heap.size := by omega
      try have l1_0_2 : u1.heap.size ≤ u2.heap.size := by omega
      go_wp2
      have b0 : u2.cell? ⟨w.heap.size, 0, none⟩ = some (.int .i64 0) := by go_simp
      have b1 : u2.cell? ⟨w.heap.size, 1, none⟩ = some (.int .i64 0) := by go_simp
      have b2 : u2.cell? ⟨w.heap.size, 2, none⟩ = some (.int .i64 0) := by go_simp
      have b3 : u2.cell? ⟨w.heap.size, 3, none⟩ = some (.int .i64 0) := by go_simp
      refine ret_cell_tmp Tryd.results34 rfl rfl (load_Box _ _ _ _ _ _ (set4 b0 b1 b2 b3 _ _ _ _).1 (set4 b0 b1 b2 b3 _ _ _ _).2.1 (set4 b0 b1 b2 b3 _ _ _ _).2.2.1 (set4 b0 b1 b2 b3 _ _ _ _).2.2.2) ⟨rfl, by go_grown⟩
    · cases h
/-- Both sides, by cases. -/
theorem BO_cases (x y : Nat) :
    (∃ a b c d : Int, Stp x a b ∧ Stp y c d ∧ (∀ w, Calls Tryd.prog 33 #[.complex .f32 x y] w (Gives (.tuple #[.agg #[.int .i64 a, .int .i64 b, .int .i64 c, .int .i64 d], .bool true]) w)) ∧ ∀ w, Calls Tryd.prog 34 #[.complex .f32 x y] w (Gives (.tuple #[.agg #[.int .i64 a, .int .i64 b, .int .i64 c, .int .i64 d], .bool true]) w)) ∨
    ((∀ w, Calls Tryd.prog 33 #[.complex .f32 x y] w (Gives (.tuple #[.agg #[.int .i64 0, .int .i64 0, .int .i64 0, .int .i64 0], .bool false]) w)) ∧ ∀ w, Calls Tryd.prog 34 #[.complex .f32 x y] w (Gives (.tuple #[.agg #[.int .i64 0, .int .i64 0, .int .i64 0, .int .i64 0], .bool false]) w)) := by
  obtain ⟨p, q, k, k1, -, hx, hx'⟩ := span_any x
  obtain ⟨r, s, l, l1, -, hy, hy'⟩ := span_any y
  cases hkl : (k && l)
  · exact .inr ⟨impl_BoxOf_no x y hx hy hkl, spec_BoxOf_no x y hx' hy' hkl⟩
  · obtain ⟨rfl, rfl⟩ := Bool.and_eq_true_iff.1 hkl
    exact .inl ⟨p, q, r, s, k1 rfl, l1 rfl, impl_BoxOf_yes x y p q r s (k1 rfl) (l1 rfl), spec_BoxOf_yes x y p q r s (k1 rfl) (l1 rfl)⟩
end Go.Proofs.YtgnkjfafgcbpbaaDoor
/- What the drawing of single numbers gives: two words. -/
namespace Go.Proofs.YtgnkjfafgcbpbaaDoor
set_option linter.unusedSimpArgs false
set_option linter.unusedVariables false
open Go.RowKit Eng
/-- The world is the same but for what was asked of the tape. -/
def Drew (w w' : World) : Prop := (∀ B, Below B w w') ∧ (∀ (B : Nat) (a : World), Picked B a w → Picked B a w') ∧ ∀ (pv : Int → Int → Int) (v0 : Value) (B : Nat) (p : Int), Rd pv v0 w B p → Rd pv v0 w' B p
theorem Drew.refl (w : World) : Drew w w := ⟨fun B => Below.refl _ _, fun _ _ h => h, fun _ _ _ _ h => h⟩
theorem Drew.one (w : World) : Drew w w.drew := ⟨fun B => (Below.refl _ _).drew, fun _ _ h => h.drew, fun _ _ _ _ h => h.drew⟩
theorem Drew.trans {a b c : World} (h : Drew a b) (k : Drew b c) : Drew a c := ⟨fun B => (h.1 B).trans (k.1 B), fun B a hh => k.2.1 B a (h.2.1 B a hh), fun pv v0 B p hh => k.2.2 pv v0 B p (h.2.2 pv v0 B p hh)⟩
theorem narrow_part (x : Nat) (w : World) : ∃ y w', (Conv.floatToFloat .f64 x .f32).run Tryd.prog w = .ok (.float .f32 y) w' ∧ Drew w w' := by
  unfold Conv.floatToFloat
  rw [if_neg (by decide)]
  cases FloatKind.decode .f64 x with
  | nan s t => exact ⟨_, w.drew, rfl, Drew.one w⟩
  | infinity s => exact ⟨_, w, rfl, Drew.refl w⟩
  | number s m e =>
    simp only []
    split
    · exact ⟨_, w.drew, rfl, Drew.one w⟩
    · exact ⟨_, w, rfl, Drew.refl w⟩
theorem narrow_run (x y : Nat) (w : World) : ∃ x' y' w', (convert 27 43 (.complex .f64 x y)).run Tryd.prog w = .ok (.complex .f32 x' y') w' ∧ Drew w w' := by
  obtain ⟨a, w1, h1, k1⟩ := narrow_part x w
  obtain ⟨b, w2, h2, k2⟩ := narrow_part y w1
  refine ⟨a, b, w2, ?_, k1.trans k2⟩
  unfold convert
  simp only [Sem.run_bind, run_underlying' Tryd.underlying27, run_underlying' Tryd.underlying43, Result.andThen_ok]
  unfold Conv.complexToComplex
  simp only [Sem.run_bind, h1, h2, Result.andThen_ok]
  rfl
section
variable {pv : Int → Int → Int} {v0 : Value}
theorem l91Single_any (B : Nat) (p : Int) (w : World) (hr : Rd pv v0 w B p) (hp : p ≤ 1000) :
    Calls Tryd.prog 58 #[.pointer (some ⟨B, 0, none⟩)] w fun e w' => ∃ a b : Nat, e = .returned (.complex .f32 a b) ∧ Picked B w w' := by
  have HR := Lib.hid hr; clear hr
  go_enter Tryd.func58, Tryd.ntmps58
  go_wp2_with fail
  refine (l91Wide_any B p _ HR.out (by omega)).mono ?_
  rintro e u1 ⟨a, b, rfl, ha, hb, hp1, -⟩
  obtain ⟨x, y, w', hn, hd⟩ := narrow_run a b u1
  have HP := Lib.hid (hd.2.1 B w hp1)
  clear hd hp1
  go_wp2
  go_returns
  exact ⟨x, y, rfl, HP.out⟩
theorem l91C_any (B : Nat) (p : Int) (w : World) (hr : Rd pv v0 w B p) (hp : p ≤ 900) :
    Calls Tryd.prog 59 #[.pointer (some ⟨B, 0, none⟩)] w fun e w' => ∃ a b : Nat, e = .returned (.complex .f64 a b) ∧ Picked B w w' ∧ ∃ p', p ≤ p' ∧ p' ≤ p + 10 ∧ Rd pv v0 w' B p' := by
  have hB := hr.lt
  have hne : ¬ w.heap.size = B := by omega
  have HR := Lib.hid hr; clear hr
  go_enter Tryd.func59, Tryd.ntmps59
  go_wp2_with fail
  refine (pick_any _ B p _ (HR.out) (by omega)).mono ?_
  rintro e u1 ⟨x1, rfl, x1_0, x1_1, -, hp1, hr1, -⟩
  replace x1_1 := x1_1 (by omega)
  have hB1 := hr1.lt
  have HP1 := Lib.hid hp1
  have HR1 := Lib.hid hr1; clear hr1 hp1
  go_wp2_with fail
  · refine (l91Wide_any B (p + 1) _ HR1.out (by omega)).mono ?_
    rintro e u2 ⟨a, b, rfl, ha, hb, hp2, p2, q1, q2, hr2⟩
    have HP2 := Lib.hid (HP1.out.trans hp2)
    have HR2 := Lib.hid hr2
    clear hp2 hr2
    go_wp2
    go_returns
    exact ⟨a, b, rfl, HP2.out, p2, by omega, by omega, HR2.out⟩
  · refine (pick_any _ B _ _ (HR1.out.alloc _) (by omega)).mono ?_
    rintro e u2 ⟨x2, rfl, x2_0, x2_1, -, hp2, hr2, -⟩
    replace x2_1 := x2_1 (by omega)
    have HP2 := Lib.hid ((HP1.out.alloc _).trans hp2)
    have HR2 := Lib.hid hr2
    have hc2 := hp2.cell
    have hz2 := hp2.size
    simp at hz2
    have s2 : u1.heap.size < u2.heap.size := by omega
    have n2 : ¬ u1.heap.size = B := by omega
    clear hp2 hr2
    obtain rfl | rfl | rfl | rfl | rfl | rfl | rfl | rfl | rfl | rfl : x2 = 0 ∨ x2 = 1 ∨ x2 = 2 ∨ x2 = 3 ∨ x2 = 4 ∨ x2 = 5 ∨ x2 = 6 ∨ x2 = 7 ∨ x2 = 8 ∨ x2 = 9 := by omega
    all_goals go_wp2
    all_goals go_returns
    all_goals exact ⟨_, _, rfl, HP2.out, p + 1 + 1, by omega, by omega, HR2.out⟩
  · refine (pick_any _ B _ _ HR1.out (by omega)).mono ?_
    rintro e u2 ⟨x2, rfl, x2_0, x2_1, -, hp2, hr2, -⟩
    replace x2_1 := x2_1 (by omega)
    have HP2 := Lib.hid (HP1.out.trans hp2)
    have HR2 := Lib.hid hr2
    clear hp2 hr2
    obtain ⟨z1, v1, m1, k1, l1⟩ := arith_run (op := .quo) (by decide) 38 (floatOfInt .f64 (x2 - 128)) 4634204016564240384 u2
    have HP3 := Lib.hid (kept_or HP2.out HR2.out k1)
    clear k1
    go_wp2_with fail
    refine (pick_any _ B _ _ HP3.out.2 (by omega)).mono ?_
    rintro e u4 ⟨x4, rfl, x4_0, x4_1, -, hp4, hr4, -⟩
    replace x4_1 := x4_1 (by omega)
    have HP4 := Lib.hid (HP3.out.1.trans hp4)
    have HR4 := Lib.hid hr4
    clear hp4 hr4
    obtain ⟨z2, v2, m2, k2, l2⟩ := arith_run (op := .quo) (by decide) 38 (floatOfInt .f64 (x4 - 80)) 4634204016564240384 u4
    have HP5 := Lib.hid (kept_or HP4.out HR4.out k2)
    clear k2
    go_wp2
    go_returns
    exact ⟨_, _, rfl, HP5.out.1, p + 1 + 1 + 1, by omega, by omega, HP5.out.2⟩
end
theorem DrawBoxOf_any (v : Value) (w : World) (hv : BytesOk w w.heap.size v) :
    Calls Tryd.prog 32 #[v] w fun e w' => ∃ a b : Nat, e = .returned (.complex .f32 a b) ∧ Below w.heap.size w w' := by
  obtain ⟨q, len, cap, pv, rfl, hb⟩ := hv.cut
  have g1 : len ≤ cap ∨ len = 0 := by
    rcases hv with ⟨a, c, h⟩ | ⟨b, off, l, c, f, h, h1, h2, _⟩
    · cases h; exact .inr rfl
    · cases h; exact .inl h1
  have g2 : len = 0 ∨ cap ≤ 9223372036854775807 := by
    rcases hv with ⟨a, c, h⟩ | ⟨b, off, l, c, f, h, h1, h2, _⟩
    · cases h; exact .inl rfl
    · cases h; exact .inr h2
  have g3 : len = 0 ∨ ∃ b off, q = some ⟨b, off, none⟩ := by
    rcases hv with ⟨a, c, h⟩ | ⟨b, off, l, c, f, h, h1, h2, _⟩
    · cases h; exact .inl rfl
    · cases h; exact .inr ⟨b, off, rfl⟩
  have HB := Lib.hid hb
  have G1 := Lib.hid g1; have G2 := Lib.hid g2; have G3 := Lib.hid g3
  clear hv hb g1 g2 g3
  go_enter Tryd.func32, Tryd.ntmps32
  go_wp2_with fail
  refine (l6Open_any q len cap _ G1.out G2.out G3.out).mono ?_
  rintro e u1 ⟨B, rfl, hl, hb1, hblk⟩
  have hr : Rd pv (.slice q (min len 2000) cap) u1 B 0 := Rd.mk' rfl (HB.out.kept hl (fun k hk => hb1.block k hk)) hblk (by omega)
  have HR := Lib.hid hr
  have HB1 := Lib.hid hb1
  clear hb1 hblk hr
  go_wp2_with fail
  refine (pick_any _ B 0 _ HR.out (by omega)).mono ?_
  rintro e u2 ⟨x2, rfl, x2_0, x2_1, -, hp2, hr2, -⟩
  replace x2_1 := x2_1 (by omega)
  have HP2 := Lib.hid hp2
  have HR2 := Lib.hid hr2
  clear hp2 hr2
  go_wp2_with fail
  · refine (l91Single_any B _ _ HR2.out (by omega)).mono ?_
    rintro e u3 ⟨a, b, rfl, hp3⟩
    have HB3 := Lib.hid (HB1.out.trans ((HP2.out.trans hp3).to_below hl HB1.out.size))
    clear hp3
    go_wp2
    go_returns
    exact ⟨a, b, rfl, HB3.out⟩
  · refine (l91C_any B _ _ HR2.out (by omega)).mono ?_
    rintro e u3 ⟨a, b, rfl, hp3, -⟩
    obtain ⟨x, y, w', hn, hd⟩ := narrow_run a b u3
    have HB3 := Lib.hid (HB1.out.trans ((hd.2.1 B _ (HP2.out.trans hp3)).to_below hl HB1.out.size))
    clear hp3 hd
    go_wp2
    go_returns
    exact ⟨x, y, rfl, HB3.out⟩
end Go.Proofs.YtgnkjfafgcbpbaaDoor
