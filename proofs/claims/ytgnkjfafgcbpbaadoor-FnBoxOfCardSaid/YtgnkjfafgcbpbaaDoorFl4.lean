/- Words in both widths; what is always a word; digits. No program in sight. -/
import Derived.Test.YtgnkjfafgcbpbaaDoorFl3
import Derived.Test.YtgnkjfafgcbpbaaDoorEng
namespace Go.Proofs.YtgnkjfafgcbpbaaDoor.Fl
set_option linter.unusedSimpArgs false
set_option linter.unusedVariables false
open Ieee Eng
theorem sg_of {s : Bool} {w : Int} {M k : Nat} (h : w * 2 ^ k = sg s M) : sg s w.natAbs = w := by
  have hp : (0 : Int) < 2 ^ k := Int.pow_pos (by decide)
  cases s
  · have : 0 ≤ w := by
      by_cases hc : 0 ≤ w
      · exact hc
      · have : w * 2 ^ k < 0 := Int.mul_neg_of_neg_of_pos (by omega) hp
        simp [sg] at h; omega
    simp [sg]; omega
  · have : w ≤ 0 := by
      by_cases hc : w ≤ 0
      · exact hc
      · have : 0 < w * 2 ^ k := Int.mul_pos (by omega) hp
        simp [sg] at h; omega
    simp [sg]; omega
/-- A number written in another width. -/
theorem V_other {f g : Format} (hf : Std f) (hg : Std g) {x : Nat} {v w : Int} (hx : V f x v) (hw : w * 2 ^ lp f = v * 2 ^ lp g) (hr : Rep g w.natAbs) : ∃ s m e, f.read x = .number s m e ∧ V g (g.nearest s m e) w := by
  obtain ⟨s, m, e, h1, h2, rfl⟩ := hx
  refine ⟨s, m, e, h1, ?_⟩
  have hl := lp_eq hf
  have hl2 := lp_eq hg
  rw [← sg_add_scale] at hw
  have hs := sg_of hw
  have hn : m * 2 ^ ((e - f.leastPlace).toNat + lp g) = w.natAbs * 2 ^ lp f := by
    have := congrArg Int.natAbs hw
    rw [sg_natAbs, natAbs_mul_pow] at this
    exact this.symm
  have := V_nearest hg s (mag := m) (v := w.natAbs) (a := (e - f.leastPlace).toNat + lp g) (b := lp f) (place := e) hn (by omega) hr
  rwa [hs] at this
theorem V_not_inf {f : Format} {x : Nat} {v : Int} (h : V f x v) : (f.read x).isInfinity = false := by
  obtain ⟨s, m, e, h1, -⟩ := h
  rw [h1]; rfl
theorem lp_sgl : lp single = 149 := by decide
theorem std1 : Std single := Or.inl rfl
theorem V_narrow {x : Nat} {v w : Int} (hx : V double x v) (hw : w * 2 ^ 1074 = v * 2 ^ 149) (hr : Rep single w.natAbs) : ∃ r, cvI .f64 x = some r ∧ V single r w := by
  obtain ⟨s, m, e, h1, h2⟩ := V_other std std1 hx (by rw [lp_dbl, lp_sgl]; exact hw) hr
  refine ⟨_, ?_, h2⟩
  unfold cvI
  rw [show FloatKind.decode .f64 x = .number s m e from h1]
  show (if (single.read (single.nearest s m e)).isInfinity then none else some (single.nearest s m e)) = _
  rw [V_not_inf h2]; rfl
theorem V_widen {x : Nat} {v w : Int} (hx : V single x v) (hw : w * 2 ^ 149 = v * 2 ^ 1074) (hr : Rep double w.natAbs) : ∃ r, cvI .f32 x = some r ∧ V double r w := by
  obtain ⟨s, m, e, h1, h2⟩ := V_other std1 std hx (by rw [lp_dbl, lp_sgl]; exact hw) hr
  refine ⟨_, ?_, h2⟩
  unfold cvI
  rw [show FloatKind.decode .f32 x = .number s m e from h1]
  show (if (double.read (double.nearest s m e)).isInfinity then none else some (double.nearest s m e)) = _
  rw [V_not_inf h2]; rfl
/-- A word that is a number or infinite. -/
def Sound (f : Format) (x : Nat) (s : Bool) : Prop := (∃ m e, f.read x = .number s m e) ∨ f.read x = .infinity s
theorem sound_nearest {f : Format} (hf : Std f) (neg : Bool) (mag : Nat) (place : Int) : Sound f (f.nearest neg mag place) neg := by
  obtain ⟨hf1, hf2, hinf⟩ := exact_std hf
  have hlt := f.infRung_lt
  have hp : 0 < f.signWeight := Nat.two_pow_pos _
  have key : ∀ rung, rung ≤ f.infRung → Sound f (f.word neg rung) neg := by
    intro rung hr
    by_cases h : rung < f.infRung
    · left
      rw [read_word hf neg h]
      split <;> exact ⟨_, _, rfl⟩
    · obtain rfl : rung = f.infRung := by omega
      right
      have e1 : (f.word neg f.infRung) % f.signWeight = f.infRung := by
        unfold Format.word
        cases neg <;> simp <;> exact Nat.mod_eq_of_lt (by omega)
      have e2 : ((f.word neg f.infRung) / f.signWeight % 2 == 1) = neg := by
        unfold Format.word
        cases neg
        · simp [Nat.div_eq_of_lt (show f.infRung < f.signWeight by omega)]
        · simp [Nat.add_div_left _ hp, Nat.div_eq_of_lt (show f.infRung < f.signWeight by omega)]
      have hb : f.binade ≤ f.infRung := by
        rw [hinf]
        have : 1 * 2 ^ f.fractionBits ≤ (2 ^ f.exponentBits - 1) * 2 ^ f.fractionBits := Nat.mul_le_mul_right _ (by omega)
        unfold Format.binade; omega
      unfold Format.read
      simp only [e1, e2]
      rw [if_neg (by omega), if_neg (by omega)]; simp
  unfold Format.nearest
  split
  · exact key 0 (Nat.zero_le _)
  · exact key _ (Nat.min_le_right _ _)
theorem sound_self {f : Format} {x : Nat} {s : Bool} (h : Sound f x s) : f.order x x = some .eq := by
  unfold Format.order
  rcases h with ⟨m, e, h⟩ | h
  · rw [h]
    show some (compare (signed s m (e - min e e).toNat) (signed s m (e - min e e).toNat)) = _
    rw [Int.compare_eq_eq.2 rfl]
  · rw [h]
    show some (compare s.toNat s.toNat) = _
    rw [Nat.compare_eq_eq.2 rfl]
/-- Squares of numbers, and their sum, are always words. -/
theorem sqsum {f : Format} (hf : Std f) {x y : Nat} {v w : Int} (hx : V f x v) (hy : V f y w) : ∃ a b c, f.mul x x = some a ∧ f.mul y y = some b ∧ f.add a b = some c := by
  obtain ⟨s, m, e, h1, -⟩ := hx
  obtain ⟨t, n, j, h2, -⟩ := hy
  have p1 : f.mul x x = some (f.nearest (s ^^ s) (m * m) (e + e)) := by unfold Format.mul; rw [h1]; rfl
  have p2 : f.mul y y = some (f.nearest (t ^^ t) (n * n) (j + j)) := by unfold Format.mul; rw [h2]; rfl
  have s1 := sound_nearest hf (s ^^ s) (m * m) (e + e)
  have s2 := sound_nearest hf (t ^^ t) (n * n) (j + j)
  rw [Bool.xor_self] at p1 s1
  rw [Bool.xor_self] at p2 s2
  obtain ⟨c, hc⟩ : ∃ c, f.add (f.nearest false (m * m) (e + e)) (f.nearest false (n * n) (j + j)) = some c := by
    unfold Format.add
    rcases s1 with ⟨a, b, s1⟩ | s1 <;> rcases s2 with ⟨c, d, s2⟩ | s2 <;> rw [s1, s2] <;> exact ⟨_, rfl⟩
  exact ⟨_, _, c, p1, p2, hc⟩
/-- One over a number that is not 0. -/
theorem one_over {b : Nat} (h : Nrm b) : ∃ q s, double.div 4607182418800017408 b = some q ∧ Sound double q s := by
  unfold Format.div
  rw [read_nrm h, show double.read 4607182418800017408 = .number false 4503599627370496 (-52) by decide]
  have hm : mant b ≠ 0 := by unfold mant; omega
  unfold Datum.quotient
  simp only []
  rw [if_neg hm]
  exact ⟨_, _, rfl, sound_nearest std _ _ _⟩
/-- Numbers with few digits, over any step. -/
theorem rep_parts {a : Int} {m k j : Nat} (h : a.natAbs = m * 2 ^ k) (hm : m < 9007199254740992) (hb : a.natAbs < 2 ^ 90) (hj : j ≤ 2000) : Rep double (a * 2 ^ j).natAbs := by
  rw [natAbs_mul_pow]
  refine ⟨⟨m, k + j, by rw [h, Nat.pow_add, Nat.mul_assoc], Nat.lt_of_lt_of_le hm (by decide)⟩, mul_pow_lt (a := a.natAbs) (b := 90) (k := j) hb (Nat.le_trans (Nat.add_le_add_left hj 90) (by decide))⟩
/-- Products of words of exact numbers. -/
theorem V_prod {x y : Nat} {a b : Int} {s t m k : Nat} (hx : V double x (a * 2 ^ (1074 - s))) (hy : V double y (b * 2 ^ (1074 - t))) (hs : s + t ≤ 1000) (h : (a * b).natAbs = m * 2 ^ k) (hm : m < 9007199254740992) (hb : (a * b).natAbs < 2 ^ 90) : ∃ z, double.mul x y = some z ∧ V double z (a * b * 2 ^ (1074 - (s + t))) := by
  refine V_mul std hx hy ?_ (rep_parts h hm hb (by omega))
  rw [lp_dbl]
  obtain ⟨j, hj⟩ : ∃ j, 1074 - (s + t) = j := ⟨_, rfl⟩
  obtain ⟨l, hl⟩ : ∃ l : Nat, l = 1074 := ⟨_, rfl⟩
  rw [hj, ← hl, show l - s = j + t by omega, show l - t = j + s by omega, show l = j + (s + t) by omega]
  rw [Int.pow_add 2 j t, Int.pow_add 2 j s, Int.pow_add 2 j (s + t), Int.pow_add 2 s t]
  simp only [Int.mul_assoc, Int.mul_left_comm, Int.mul_comm]
end Go.Proofs.YtgnkjfafgcbpbaaDoor.Fl
