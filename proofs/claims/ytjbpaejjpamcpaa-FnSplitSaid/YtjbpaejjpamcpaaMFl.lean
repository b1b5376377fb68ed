import GoSem.Core.Float
import Derived.Laws.FloatBits
/- Floats as whole numbers of the format's least step: what words stand for; sums, products and conversions of numbers that the format has. No program in sight. -/
namespace Go.Proofs.Ytjbpaejjpamcpaa.Fl
set_option linter.unusedSimpArgs false
set_option linter.unusedVariables false
open Ieee

theorem log2_eq {n L : Nat} (h1 : 2 ^ L ≤ n) (h2 : n < 2 ^ (L + 1)) : n.log2 = L :=
  (Nat.log2_eq_iff (by have := Nat.two_pow_pos L; omega)).2 ⟨h1, h2⟩
theorem log2_scale {n : Nat} (h : n ≠ 0) (k : Nat) : (n * 2 ^ k).log2 = n.log2 + k := by
  refine log2_eq ?_ ?_
  · rw [Nat.pow_add]; exact Nat.mul_le_mul_right _ (Nat.log2_self_le h)
  · rw [show n.log2 + k + 1 = (n.log2 + 1) + k by omega, Nat.pow_add]
    exact Nat.mul_lt_mul_of_pos_right Nat.lt_log2_self (Nat.two_pow_pos k)
theorem cut_zero (neg : Bool) (n : Nat) : Toward.even.cut neg n 0 = n := by
  unfold Toward.cut
  have h : min 0 (n.log2 + 2) = 0 := by omega
  simp [h, Nat.mod_one]
theorem cut_scale (neg : Bool) (n d k : Nat) (h : n ≠ 0) : Toward.even.cut neg (n * 2 ^ k) (d + k) = Toward.even.cut neg n d := by
  unfold Toward.cut
  rw [log2_scale h]
  have e : min (d + k) (n.log2 + k + 2) = min d (n.log2 + 2) + k := by omega
  simp only [e, Nat.shiftLeft_eq, Nat.one_mul, Nat.pow_add]
  have hp := Nat.two_pow_pos k
  rw [Nat.mul_div_mul_right _ _ hp, Nat.mul_mod_mul_right]
  generalize 2 ^ min d (n.log2 + 2) = g
  generalize n % g = r
  have e1 : decide (g * 2 ^ k < 2 * (r * 2 ^ k)) = decide (g < 2 * r) := by
    rw [← Nat.mul_assoc]
    by_cases h : g < 2 * r
    · rw [decide_eq_true h, decide_eq_true (Nat.mul_lt_mul_of_pos_right h hp)]
    · rw [decide_eq_false h, decide_eq_false (fun h' => h (Nat.lt_of_mul_lt_mul_right h'))]
  have e2 : (g * 2 ^ k == 2 * (r * 2 ^ k)) = (g == 2 * r) := by
    rw [← Nat.mul_assoc, Bool.eq_iff_iff, beq_iff_eq, beq_iff_eq]
    exact ⟨fun h => Nat.eq_of_mul_eq_mul_right hp h, fun h => by rw [h]⟩
  rw [e1, e2]
/-- What is nearest hangs on the value alone. -/
theorem nearest_scale (f : Format) (neg : Bool) (mag k : Nat) (place : Int) : f.nearest neg (mag * 2 ^ k) (place - k) = f.nearest neg mag place := by
  unfold Format.nearest
  by_cases h : mag = 0
  · subst h; simp
  have hp := Nat.two_pow_pos k
  rw [if_neg h, if_neg (by intro e; rcases Nat.mul_eq_zero.1 e with e | e <;> omega), log2_scale h]
  have e : max (place - k + ((mag.log2 + k : Nat) : Int) - f.fractionBits) f.leastPlace = max (place + (mag.log2 : Int) - f.fractionBits) f.leastPlace := by omega
  simp only [e]
  generalize max (place + (mag.log2 : Int) - f.fractionBits) f.leastPlace = last
  congr 3
  simp only [Nat.shiftLeft_eq]
  by_cases h1 : (k : Int) ≤ place - last
  · have a1 : (last - (place - k)).toNat = 0 := by omega
    have a2 : (last - place).toNat = 0 := by omega
    have a3 : k + (place - k - last).toNat = (place - last).toNat := by omega
    rw [a1, a2, cut_zero, cut_zero, Nat.mul_assoc, ← Nat.pow_add, a3]
  · have a1 : (place - k - last).toNat = 0 := by omega
    rw [a1, Nat.pow_zero, Nat.mul_one]
    by_cases h2 : 0 ≤ place - last
    · have a2 : (last - place).toNat = 0 := by omega
      obtain ⟨b, hb⟩ : ∃ b : Nat, (last - (place - k)).toNat = b := ⟨_, rfl⟩
      have a3 : k = (place - last).toNat + b := by omega
      rw [a2, cut_zero, hb]
      conv => lhs; rw [a3, Nat.pow_add, ← Nat.mul_assoc]
      have := cut_scale neg (mag * 2 ^ (place - last).toNat) 0 b (by intro e; rcases Nat.mul_eq_zero.1 e with e | e; exact h e; exact absurd e (Nat.pos_iff_ne_zero.1 (Nat.two_pow_pos _)))
      rw [Nat.zero_add] at this
      rw [this, cut_zero]
    · have a2 : (place - last).toNat = 0 := by omega
      have a3 : (last - (place - k)).toNat = (last - place).toNat + k := by omega
      rw [a2, Nat.pow_zero, Nat.mul_one, a3, cut_scale _ _ _ _ h]

/-- The formats in use. -/
def Std (f : Format) : Prop := f = single ∨ f = double
/-- The least step's exponent, turned round. -/
def lp (f : Format) : Nat := (- f.leastPlace).toNat
theorem lp_eq {f : Format} (h : Std f) : f.leastPlace = - (lp f : Int) := by rcases h with rfl | rfl <;> decide
/-- A signed whole number. -/
def sg (neg : Bool) (n : Nat) : Int := if neg then -(n : Int) else n
theorem signed_eq (neg : Bool) (m up : Nat) : signed neg m up = sg neg (m * 2 ^ up) := by unfold signed sg; simp [Nat.shiftLeft_eq]
/-- The word x is a finite number: v least steps. -/
def V (f : Format) (x : Nat) (v : Int) : Prop := ∃ s m e, f.read x = .number s m e ∧ f.leastPlace ≤ e ∧ v = sg s (m * 2 ^ (e - f.leastPlace).toNat)
/-- So many least steps the format has, up to sign. -/
def Rep (f : Format) (v : Nat) : Prop := (∃ m k : Nat, v = m * 2 ^ k ∧ m < 2 ^ (f.fractionBits + 1)) ∧ v < 2 ^ (2 ^ f.exponentBits + f.fractionBits - 2)

theorem read_word {f : Format} (hf : Std f) (neg : Bool) {rung : Nat} (h : rung < f.infRung) : f.read (f.word neg rung) =
    if rung < f.binade then .number neg rung f.leastPlace else .number neg (f.binade + rung % f.binade) (f.leastPlace + (rung / f.binade - 1 : Nat)) := by
  have hlt := f.infRung_lt
  have hp : 0 < f.signWeight := Nat.two_pow_pos _
  have e1 : (f.word neg rung) % f.signWeight = rung := by
    unfold Format.word
    cases neg
    · simp; exact Nat.mod_eq_of_lt (by omega)
    · simp; exact Nat.mod_eq_of_lt (by omega)
  have e2 : ((f.word neg rung) / f.signWeight % 2 == 1) = neg := by
    unfold Format.word
    cases neg
    · simp [Nat.div_eq_of_lt (show rung < f.signWeight by omega)]
    · simp [Nat.add_div_left _ hp, Nat.div_eq_of_lt (show rung < f.signWeight by omega)]
  unfold Format.read
  simp only [e1, e2]
  split
  · rfl
  · rfl
theorem exact_std {f : Format} (hf : Std f) : 1 ≤ f.fractionBits ∧ 4 ≤ 2 ^ f.exponentBits ∧ f.infRung = (2 ^ f.exponentBits - 1) * 2 ^ f.fractionBits := by
  rcases hf with rfl | rfl <;> decide
/-- A number that the format has is written without loss. -/
theorem V_nearest0 {f : Format} (hf : Std f) (neg : Bool) {m k : Nat} (hm : m ≠ 0) (hfit : m < 2 ^ (f.fractionBits + 1)) (hbig : m * 2 ^ k < 2 ^ (2 ^ f.exponentBits + f.fractionBits - 2)) :
    V f (f.nearest neg m (f.leastPlace + k)) (sg neg (m * 2 ^ k)) := by
  obtain ⟨hf1, hf2, hinf⟩ := exact_std hf
  obtain ⟨L, hL⟩ : ∃ L, m.log2 = L := ⟨_, rfl⟩
  have hL1 : 2 ^ L ≤ m := hL ▸ Nat.log2_self_le hm
  have hL2 : m < 2 ^ (L + 1) := hL ▸ Nat.lt_log2_self
  have hLf : L ≤ f.fractionBits := by
    have := (Nat.log2_lt hm).2 hfit; omega
  have hLk : L + k < 2 ^ f.exponentBits + f.fractionBits - 2 := by
    have : 2 ^ (L + k) < 2 ^ (2 ^ f.exponentBits + f.fractionBits - 2) := by
      rw [Nat.pow_add]; exact Nat.lt_of_le_of_lt (Nat.mul_le_mul_right _ hL1) hbig
    exact (Nat.pow_lt_pow_iff_right (by decide)).1 this
  unfold Format.nearest
  rw [if_neg hm, hL]
  have hbin : f.binade = 2 ^ f.fractionBits := rfl
  by_cases hs : L + k < f.fractionBits
  · -- below the first full binade
    have e : max (f.leastPlace + (k : Int) + (L : Int) - f.fractionBits) f.leastPlace = f.leastPlace := by omega
    simp only [e]
    have a1 : (f.leastPlace + (k : Int) - f.leastPlace).toNat = k := by omega
    have a2 : (f.leastPlace - (f.leastPlace + (k : Int))).toNat = 0 := by omega
    rw [a1, a2, cut_zero, Nat.shiftLeft_eq]
    have hlt : m * 2 ^ k < 2 ^ f.fractionBits := by
      have : m * 2 ^ k < 2 ^ (L + 1) * 2 ^ k := Nat.mul_lt_mul_of_pos_right hL2 (Nat.two_pow_pos k)
      rw [← Nat.pow_add] at this
      exact Nat.lt_of_lt_of_le this (Nat.pow_le_pow_right (by decide) (by omega))
    have hlt2 : m * 2 ^ k < f.infRung := by
      rw [hinf]
      have : 1 * 2 ^ f.fractionBits ≤ (2 ^ f.exponentBits - 1) * 2 ^ f.fractionBits := Nat.mul_le_mul_right _ (by omega)
      omega
    have a3 : (f.leastPlace - f.leastPlace).toNat * f.binade + m * 2 ^ k = m * 2 ^ k := by simp
    rw [a3, Nat.min_eq_left (Nat.le_of_lt hlt2)]
    refine ⟨neg, m * 2 ^ k, f.leastPlace, ?_, Int.le_refl _, by simp⟩
    rw [read_word hf neg hlt2, if_pos (by rw [hbin]; exact hlt)]
  · have e : max (f.leastPlace + (k : Int) + (L : Int) - f.fractionBits) f.leastPlace = f.leastPlace + ((L + k - f.fractionBits : Nat) : Int) := by omega
    simp only [e]
    obtain ⟨g, hg⟩ : ∃ g, L + k - f.fractionBits = g := ⟨_, rfl⟩
    rw [hg]
    have a1 : (f.leastPlace + (k : Int) - (f.leastPlace + (g : Int))).toNat = f.fractionBits - L := by omega
    have a2 : (f.leastPlace + (g : Int) - (f.leastPlace + (k : Int))).toNat = 0 := by omega
    have a4 : (f.leastPlace + (g : Int) - f.leastPlace).toNat = g := by omega
    rw [a1, a2, a4, cut_zero, Nat.shiftLeft_eq]
    obtain ⟨K, hK⟩ : ∃ K, m * 2 ^ (f.fractionBits - L) = K := ⟨_, rfl⟩
    rw [hK]
    have k1 : 2 ^ f.fractionBits ≤ K := by
      rw [← hK]
      have : 2 ^ L * 2 ^ (f.fractionBits - L) ≤ m * 2 ^ (f.fractionBits - L) := Nat.mul_le_mul_right _ hL1
      rwa [← Nat.pow_add, show L + (f.fractionBits - L) = f.fractionBits by omega] at this
    have k2 : K < 2 * 2 ^ f.fractionBits := by
      rw [← hK]
      have : m * 2 ^ (f.fractionBits - L) < 2 ^ (L + 1) * 2 ^ (f.fractionBits - L) := Nat.mul_lt_mul_of_pos_right hL2 (Nat.two_pow_pos _)
      rwa [← Nat.pow_add, show L + 1 + (f.fractionBits - L) = f.fractionBits + 1 by omega, Nat.pow_succ, Nat.mul_comm (2 ^ f.fractionBits)] at this
    have hrung : g * 2 ^ f.fractionBits + K < f.infRung := by
      rw [hinf]
      have : (g + 2) * 2 ^ f.fractionBits ≤ (2 ^ f.exponentBits - 1) * 2 ^ f.fractionBits := Nat.mul_le_mul_right _ (by omega)
      rw [Nat.add_mul] at this; omega
    rw [hbin, Nat.min_eq_left (Nat.le_of_lt hrung)]
    have hb : 0 < 2 ^ f.fractionBits := Nat.two_pow_pos _
    have d1 : (g * 2 ^ f.fractionBits + K) / 2 ^ f.fractionBits = g + 1 := by
      rw [Nat.mul_comm, Nat.mul_add_div hb]
      have : K / 2 ^ f.fractionBits = 1 := by
        rw [Nat.div_eq_iff hb]; omega
      omega
    have d2 : 2 ^ f.fractionBits + (g * 2 ^ f.fractionBits + K) % 2 ^ f.fractionBits = K := by
      rw [Nat.mul_comm, Nat.mul_add_mod]
      rw [Nat.mod_eq_sub_mod k1, Nat.mod_eq_of_lt (by omega)]; omega
    refine ⟨neg, K, f.leastPlace + (g : Int), ?_, by omega, ?_⟩
    · rw [read_word hf neg hrung, if_neg (by rw [hbin]; omega), hbin, d1, d2]
      congr 1
    · rw [a4, ← hK, Nat.mul_assoc, ← Nat.pow_add, show f.fractionBits - L + g = k by omega]
theorem V_word0 {f : Format} (hf : Std f) (neg : Bool) : V f (f.word neg 0) 0 := by
  obtain ⟨hf1, hf2, hinf⟩ := exact_std hf
  have h0 : 0 < f.infRung := by rw [hinf]; exact Nat.mul_pos (by omega) (Nat.two_pow_pos _)
  refine ⟨neg, 0, f.leastPlace, ?_, Int.le_refl _, by simp [sg]⟩
  rw [read_word hf neg h0, if_pos (show 0 < f.binade from Nat.two_pow_pos _)]
/-- Of any way to tell the number. -/
theorem V_nearest {f : Format} (hf : Std f) (neg : Bool) {mag v a b : Nat} {place : Int} (he : mag * 2 ^ a = v * 2 ^ b) (hp : place - a = f.leastPlace - b) (hr : Rep f v) : V f (f.nearest neg mag place) (sg neg v) := by
  obtain ⟨⟨m, k, rfl, hm⟩, hbig⟩ := hr
  rw [← nearest_scale f neg mag a place, he, hp, nearest_scale f neg _ b f.leastPlace]
  by_cases h0 : m = 0
  · subst h0
    have : f.nearest neg (0 * 2 ^ k) f.leastPlace = f.word neg 0 := by unfold Format.nearest; simp
    rw [this, Nat.zero_mul, show sg neg 0 = 0 by unfold sg; split <;> rfl]
    exact V_word0 hf neg
  · have := nearest_scale f neg m k (f.leastPlace + k)
    rw [show f.leastPlace + (k : Int) - k = f.leastPlace by omega] at this
    rw [this]
    exact V_nearest0 hf neg h0 hm hbig
theorem sg_natAbs (neg : Bool) (n : Nat) : (sg neg n).natAbs = n := by unfold sg; split <;> simp
theorem sg_add_scale (s : Bool) (m a b : Nat) : sg s (m * 2 ^ (a + b)) = sg s (m * 2 ^ a) * 2 ^ b := by
  unfold sg
  split
  · rw [Nat.pow_add, ← Nat.mul_assoc, Int.natCast_mul, Int.neg_mul, Int.natCast_pow]; rfl
  · rw [Nat.pow_add, ← Nat.mul_assoc, Int.natCast_mul, Int.natCast_pow]; rfl
/-- A sum that the format has. -/
theorem V_add {f : Format} (hf : Std f) {x y : Nat} {v w : Int} (hx : V f x v) (hy : V f y w) (hr : Rep f (v + w).natAbs) : ∃ r, f.add x y = some r ∧ V f r (v + w) := by
  obtain ⟨s, m, i, h1, h2, rfl⟩ := hx
  obtain ⟨t, n, j, h3, h4, rfl⟩ := hy
  refine ⟨_, by unfold Format.add; rw [h1, h3]; rfl, ?_⟩
  show V f (f.write (.number _ _ _)) _
  unfold Format.write
  simp only []
  obtain ⟨b, hb⟩ : ∃ b : Nat, (min i j - f.leastPlace).toNat = b := ⟨_, rfl⟩
  have e1 : (i - f.leastPlace).toNat = (i - min i j).toNat + b := by omega
  have e2 : (j - f.leastPlace).toNat = (j - min i j).toNat + b := by omega
  rw [e1, e2, sg_add_scale, sg_add_scale, ← signed_eq, ← signed_eq, ← Int.add_mul] at hr ⊢
  generalize signed s m (i - min i j).toNat + signed t n (j - min i j).toNat = T at hr ⊢
  have hn : (T * 2 ^ b).natAbs = T.natAbs * 2 ^ b := by rw [Int.natAbs_mul, Int.natAbs_pow]; rfl
  rw [hn] at hr
  have := V_nearest hf (if T = 0 then s && t else decide (T < 0)) (mag := T.natAbs) (v := T.natAbs * 2 ^ b) (a := b) (b := 0) (place := min i j) (by simp) (by omega) hr
  have e : sg (if T = 0 then s && t else decide (T < 0)) (T.natAbs * 2 ^ b) = T * 2 ^ b := by
    by_cases hT : T = 0
    · subst hT; simp [sg]
    · rw [if_neg hT]
      unfold sg
      by_cases hl : T < 0
      · rw [if_pos (by simpa using hl), Int.natCast_mul, Int.natCast_pow, ← Int.neg_mul]; congr 1; omega
      · rw [if_neg (by simpa using hl), Int.natCast_mul, Int.natCast_pow]; congr 1; omega
  rwa [e] at this
theorem V_opp {f : Format} {x : Nat} {v : Int} (hx : V f x v) : ∃ s m e, (f.read x).opposite = .number s m e ∧ f.leastPlace ≤ e ∧ -v = sg s (m * 2 ^ (e - f.leastPlace).toNat) := by
  obtain ⟨s, m, i, h1, h2, rfl⟩ := hx
  refine ⟨!s, m, i, by rw [h1]; rfl, h2, ?_⟩
  cases s <;> simp [sg]
theorem V_sub {f : Format} (hf : Std f) {x y : Nat} {v w : Int} (hx : V f x v) (hy : V f y w) (hr : Rep f (v - w).natAbs) : ∃ r, f.sub x y = some r ∧ V f r (v - w) := by
  obtain ⟨s, m, i, h1, h2, rfl⟩ := hx
  obtain ⟨t, n, j, h3, h4, hw⟩ := V_opp hy
  rw [Int.sub_eq_add_neg, hw] at hr ⊢
  refine ⟨_, by unfold Format.sub; rw [h1, h3]; rfl, ?_⟩
  show V f (f.write (.number _ _ _)) _
  unfold Format.write
  simp only []
  obtain ⟨b, hb⟩ : ∃ b : Nat, (min i j - f.leastPlace).toNat = b := ⟨_, rfl⟩
  have e1 : (i - f.leastPlace).toNat = (i - min i j).toNat + b := by omega
  have e2 : (j - f.leastPlace).toNat = (j - min i j).toNat + b := by omega
  rw [e1, e2, sg_add_scale, sg_add_scale, ← signed_eq, ← signed_eq, ← Int.add_mul] at hr ⊢
  generalize signed s m (i - min i j).toNat + signed t n (j - min i j).toNat = T at hr ⊢
  have hn : (T * 2 ^ b).natAbs = T.natAbs * 2 ^ b := by rw [Int.natAbs_mul, Int.natAbs_pow]; rfl
  rw [hn] at hr
  have := V_nearest hf (if T = 0 then s && t else decide (T < 0)) (mag := T.natAbs) (v := T.natAbs * 2 ^ b) (a := b) (b := 0) (place := min i j) (by simp) (by omega) hr
  have e : sg (if T = 0 then s && t else decide (T < 0)) (T.natAbs * 2 ^ b) = T * 2 ^ b := by
    by_cases hT : T = 0
    · subst hT; simp [sg]
    · rw [if_neg hT]
      unfold sg
      by_cases hl : T < 0
      · rw [if_pos (by simpa using hl), Int.natCast_mul, Int.natCast_pow, ← Int.neg_mul]; congr 1; omega
      · rw [if_neg (by simpa using hl), Int.natCast_mul, Int.natCast_pow]; congr 1; omega
  rwa [e] at this
/-- A product that the format has: r least steps, where r times so many steps as there are in 1 is the product. -/
theorem V_mul {f : Format} (hf : Std f) {x y : Nat} {v w r : Int} (hx : V f x v) (hy : V f y w) (hr : r * 2 ^ lp f = v * w) (hrep : Rep f r.natAbs) : ∃ z, f.mul x y = some z ∧ V f z r := by
  obtain ⟨s, m, i, h1, h2, rfl⟩ := hx
  obtain ⟨t, n, j, h3, h4, rfl⟩ := hy
  refine ⟨_, by unfold Format.mul; rw [h1, h3]; rfl, ?_⟩
  show V f (f.write (.number _ _ _)) _
  unfold Format.write
  simp only []
  have hl := lp_eq hf
  have hn : r.natAbs * 2 ^ lp f = (m * n) * 2 ^ ((i - f.leastPlace).toNat + (j - f.leastPlace).toNat) := by
    have := congrArg Int.natAbs hr
    rw [Int.natAbs_mul, Int.natAbs_mul, sg_natAbs, sg_natAbs, Int.natAbs_pow] at this
    rw [show (2 : Int).natAbs = 2 from rfl] at this
    rw [this, Nat.pow_add]
    simp only [Nat.mul_assoc, Nat.mul_left_comm, Nat.mul_comm]
  have := V_nearest hf (s ^^ t) (mag := m * n) (v := r.natAbs) (a := (i - f.leastPlace).toNat + (j - f.leastPlace).toNat) (b := lp f) (place := i + j) hn.symm (by omega) hrep
  have e : sg (s ^^ t) r.natAbs = r := by
    have hpow : (0 : Int) < 2 ^ lp f := Int.pow_pos (by decide)
    generalize m * 2 ^ (i - f.leastPlace).toNat = M at hr
    generalize n * 2 ^ (j - f.leastPlace).toNat = N at hr
    have hMN : (0 : Int) ≤ (M : Int) * (N : Int) := Int.mul_nonneg (by omega) (by omega)
    have pos : (0 : Int) ≤ r * 2 ^ lp f → 0 ≤ r := fun h => by
      by_cases hc : 0 ≤ r
      · exact hc
      · have : r * 2 ^ lp f < 0 := Int.mul_neg_of_neg_of_pos (by omega) hpow
        omega
    have neg : r * 2 ^ lp f ≤ (0 : Int) → r ≤ 0 := fun h => by
      by_cases hc : r ≤ 0
      · exact hc
      · have : 0 < r * 2 ^ lp f := Int.mul_pos (by omega) hpow
        omega
    cases s <;> cases t <;> simp only [sg, Bool.false_eq_true, if_false, if_true, Bool.xor_false, Bool.xor_true, Bool.false_xor, Bool.true_xor, Bool.not_true, Bool.not_false, Int.neg_mul, Int.mul_neg, Int.neg_neg] at hr ⊢
    · have := pos (by rw [hr]; exact hMN); omega
    · have := neg (by rw [hr]; omega); omega
    · have := neg (by rw [hr]; omega); omega
    · have := pos (by rw [hr]; exact hMN); omega
  rwa [e] at this
/-- The order is that of the values. -/
theorem V_order {f : Format} {x y : Nat} {v w : Int} (hx : V f x v) (hy : V f y w) : f.order x y = some (compare v w) := by
  obtain ⟨s, m, i, h1, h2, rfl⟩ := hx
  obtain ⟨t, n, j, h3, h4, rfl⟩ := hy
  unfold Format.order
  rw [h1, h3]
  show some (compare (signed s m (i - min i j).toNat) (signed t n (j - min i j).toNat)) = _
  congr 1
  obtain ⟨b, hb⟩ : ∃ b : Nat, (min i j - f.leastPlace).toNat = b := ⟨_, rfl⟩
  have e1 : (i - f.leastPlace).toNat = (i - min i j).toNat + b := by omega
  have e2 : (j - f.leastPlace).toNat = (j - min i j).toNat + b := by omega
  rw [e1, e2, sg_add_scale, sg_add_scale, ← signed_eq, ← signed_eq]
  generalize signed s m (i - min i j).toNat = A
  generalize signed t n (j - min i j).toNat = B
  have hp : (0 : Int) < 2 ^ b := Int.pow_pos (by decide)
  simp only [compare, compareOfLessAndEq]
  have l1 : (A * 2 ^ b < B * 2 ^ b) ↔ A < B := ⟨fun h => Int.lt_of_mul_lt_mul_right h (Int.le_of_lt hp), fun h => Int.mul_lt_mul_of_pos_right h hp⟩
  have l2 : (A * 2 ^ b = B * 2 ^ b) ↔ A = B := ⟨fun h => Int.eq_of_mul_eq_mul_right (by omega) h, fun h => by rw [h]⟩
  simp only [l1, l2]
/-- A whole number. -/
theorem V_int {f : Format} (hf : Std f) (n : Int) (h : n.natAbs < 2 ^ (f.fractionBits + 1)) (hbig : n.natAbs * 2 ^ lp f < 2 ^ (2 ^ f.exponentBits + f.fractionBits - 2)) : V f (f.nearest (n < 0) n.natAbs 0) (n * 2 ^ lp f) := by
  have hl := lp_eq hf
  have := V_nearest hf (decide (n < 0)) (mag := n.natAbs) (v := n.natAbs * 2 ^ lp f) (a := lp f) (b := 0) (place := 0) (by simp) (by omega) ⟨⟨n.natAbs, lp f, rfl, h⟩, hbig⟩
  have e : sg (decide (n < 0)) (n.natAbs * 2 ^ lp f) = n * 2 ^ lp f := by
    unfold sg
    by_cases hl : n < 0
    · rw [if_pos (by simpa using hl), Int.natCast_mul, Int.natCast_pow, ← Int.neg_mul]; congr 1; omega
    · rw [if_neg (by simpa using hl), Int.natCast_mul, Int.natCast_pow]; congr 1; omega
  rwa [e] at this
theorem mul_pow_lt {a b k l : Nat} (h : a < 2 ^ b) (h2 : b + k ≤ l) : a * 2 ^ k < 2 ^ l := by
  have h1 : a * 2 ^ k < 2 ^ b * 2 ^ k := Nat.mul_lt_mul_of_pos_right h (Nat.two_pow_pos k)
  rw [← Nat.pow_add] at h1
  exact Nat.lt_of_lt_of_le h1 (Nat.pow_le_pow_right (by decide) h2)
theorem mul_pow_le {a b k l : Nat} (h : a ≤ b) (h2 : k ≤ l) : a * 2 ^ k ≤ b * 2 ^ l := Nat.mul_le_mul h (Nat.pow_le_pow_right (by decide) h2)
theorem cast_mul_pow (a k : Nat) : ((a * 2 ^ k : Nat) : Int) = (a : Int) * 2 ^ k := by rw [Int.natCast_mul, Int.natCast_pow]; rfl
end Go.Proofs.Ytjbpaejjpamcpaa.Fl
/- Words of float64 numbers that are neither great nor small: their fields; halves and doubles move the exponent's field. No program in sight. -/
namespace Go.Proofs.Ytjbpaejjpamcpaa.Fl
set_option linter.unusedSimpArgs false
set_option linter.unusedVariables false
open Ieee
def fld (b : Nat) : Nat := b / 4503599627370496 % 2048
structure Nrm (b : Nat) : Prop where
  lt : b < 18446744073709551616
  lo : 1 ≤ fld b
  hi : fld b ≤ 2046
def neg (b : Nat) : Bool := b / 9223372036854775808 == 1
def mant (b : Nat) : Nat := 4503599627370496 + b % 4503599627370496
theorem std : Std double := Or.inr rfl
theorem dbl_facts : double.signWeight = 9223372036854775808 ∧ double.binade = 4503599627370496 ∧ double.infRung = 9218868437227405312 ∧ double.leastPlace = -1074 ∧ double.fractionBits = 52 := by decide
theorem lp_dbl : lp double = 1074 := by decide
theorem read_nrm {b : Nat} (h : Nrm b) : double.read b = .number (neg b) (mant b) ((fld b : Int) - 1075) := by
  obtain ⟨h1, h2, h3, h4, h5⟩ := dbl_facts
  obtain ⟨a1, a2, a3⟩ := h
  unfold Format.read
  simp only [h1, h2, h3, h4]
  unfold fld at a2 a3
  rw [if_neg (by omega), if_pos (by omega)]
  have e1 : (b / 9223372036854775808 % 2 == 1) = neg b := by
    unfold neg; rw [Nat.mod_eq_of_lt (by omega)]
  rw [e1]
  have e2 : 4503599627370496 + b % 9223372036854775808 % 4503599627370496 = mant b := by unfold mant; omega
  have e3 : (-1074 : Int) + ((b % 9223372036854775808 / 4503599627370496 - 1 : Nat) : Int) = (fld b : Int) - 1075 := by unfold fld; omega
  rw [e2, e3]
theorem mant_log (b : Nat) : (mant b).log2 = 52 := log2_eq (by unfold mant; omega) (by unfold mant; omega)
/-- A word is what is nearest to its number. -/
theorem write_nrm {b : Nat} (h : Nrm b) : double.nearest (neg b) (mant b) ((fld b : Int) - 1075) = b := by
  obtain ⟨h1, h2, h3, h4, h5⟩ := dbl_facts
  obtain ⟨a1, a2, a3⟩ := h
  unfold Format.nearest
  rw [if_neg (by unfold mant; omega), mant_log, h4, h5]
  have e : max ((fld b : Int) - 1075 + (52 : Nat) - (52 : Nat)) (-1074) = (fld b : Int) - 1075 := by omega
  simp only [e]
  have e1 : ((fld b : Int) - 1075 - ((fld b : Int) - 1075)).toNat = 0 := by omega
  rw [e1, cut_zero, Nat.shiftLeft_eq, Nat.pow_zero, Nat.mul_one, h2, h3]
  have e2 : ((fld b : Int) - 1075 - -1074).toNat * 4503599627370496 + mant b = b % 9223372036854775808 := by
    unfold mant; unfold fld at a2 a3 ⊢; omega
  rw [e2, Nat.min_eq_left (by unfold fld at a2 a3; omega)]
  unfold Format.word neg
  rw [h1]
  by_cases hs : b / 9223372036854775808 = 1
  · rw [if_pos (by simpa using hs)]; omega
  · rw [if_neg (by simpa using hs)]; omega
def vN (b : Nat) : Int := sg (neg b) (mant b * 2 ^ (fld b - 1))
theorem V_nrm {b : Nat} (h : Nrm b) : V double b (vN b) := by
  obtain ⟨h1, h2, h3, h4, h5⟩ := dbl_facts
  refine ⟨_, _, _, read_nrm h, by rw [h4]; have := h.lo; omega, ?_⟩
  unfold vN
  congr 3
  rw [h4]
  have := h.lo
  omega
theorem nrm_shift {b b' : Nat} {k : Int} (h : Nrm b) (hb : (b' : Int) = b + k * 4503599627370496) (h1 : 1 ≤ (fld b : Int) + k) (h2 : (fld b : Int) + k ≤ 2046) : Nrm b' ∧ (fld b' : Int) = fld b + k ∧ mant b' = mant b ∧ neg b' = neg b := by
  obtain ⟨a1, a2, a3⟩ := h
  have e1 : (fld b' : Int) = fld b + k := by unfold fld at a2 a3 h1 h2 ⊢; omega
  have e2 : b' / 9223372036854775808 = b / 9223372036854775808 := by unfold fld at a2 a3 h1 h2; omega
  refine ⟨⟨by unfold fld at a2 a3 h1 h2; omega, by omega, by omega⟩, e1, by unfold mant; omega, by unfold neg; rw [e2]⟩
theorem vN_shift {b b' : Nat} {k : Nat} (h : Nrm b) (hb : (b' : Int) = b - k * 4503599627370496) (h1 : 1 ≤ (fld b : Int) - k) : vN b' * 2 ^ k = vN b := by
  have := h.hi
  obtain ⟨n1, n2, n3, n4⟩ := nrm_shift (b' := b') (k := -k) h (by omega) (by omega) (by omega)
  unfold vN
  rw [n3, n4, ← sg_add_scale, show fld b' - 1 + k = fld b - 1 by omega]
theorem mul_one {b : Nat} (h : Nrm b) : double.mul 4607182418800017408 b = some b := by
  unfold Format.mul
  rw [read_nrm h, show double.read 4607182418800017408 = .number false 4503599627370496 (-52) by decide]
  show some (double.nearest (false ^^ neg b) (4503599627370496 * mant b) (-52 + ((fld b : Int) - 1075))) = some b
  have := nearest_scale double (neg b) (mant b) 52 ((fld b : Int) - 1075)
  rw [Bool.false_xor, show 4503599627370496 * mant b = mant b * 2 ^ 52 by rw [Nat.mul_comm], show (-52 : Int) + ((fld b : Int) - 1075) = (fld b : Int) - 1075 - (52 : Nat) by omega, this, write_nrm h]
theorem div_two {b : Nat} (h : Nrm b) (h2 : 2 ≤ fld b) : double.div b 4611686018427387904 = some (b - 4503599627370496) := by
  unfold Format.div
  rw [read_nrm h, show double.read 4611686018427387904 = .number false 4503599627370496 (-51) by decide]
  have hq : Datum.quotient (double.fractionBits + 2) (.number (neg b) (mant b) ((fld b : Int) - 1075)) (.number false 4503599627370496 (-51)) = some (.number (neg b) (mant b * 2 ^ 3) ((fld b : Int) - 1079)) := by
    unfold Datum.quotient
    simp only []
    rw [if_neg (by decide), mant_log]
    have e : double.fractionBits + 2 + Nat.log2 4503599627370496 - 52 = 54 := by decide
    simp only [e, Nat.shiftLeft_eq]
    have d1 : mant b * 2 ^ 54 / 4503599627370496 = mant b * 4 := by
      rw [show mant b * 2 ^ 54 = mant b * 4 * 4503599627370496 by rw [Nat.mul_assoc]]
      exact Nat.mul_div_cancel _ (by decide)
    have d2 : mant b * 2 ^ 54 % 4503599627370496 = 0 := by
      rw [show mant b * 2 ^ 54 = mant b * 4 * 4503599627370496 by rw [Nat.mul_assoc]]
      exact Nat.mul_mod_left _ _
    rw [d1, d2, Bool.xor_false]
    congr 2
    · simp; omega
    · omega
  rw [hq]
  show some (double.nearest (neg b) (mant b * 2 ^ 3) ((fld b : Int) - 1079)) = _
  have := nearest_scale double (neg b) (mant b) 3 ((fld b : Int) - 1076)
  rw [show (fld b : Int) - 1079 = (fld b : Int) - 1076 - (3 : Nat) by omega, this]
  have hi := h.hi
  have hge : 4503599627370496 ≤ b := by unfold fld at h2; omega
  obtain ⟨n1, n2, n3, n4⟩ := nrm_shift (b' := b - 4503599627370496) (k := -1) h (by omega) (by omega) (by omega)
  have w := write_nrm n1
  rw [n2, n3, n4, show (fld b : Int) + -1 - 1075 = (fld b : Int) - 1076 by omega] at w
  rw [w]
theorem read_zero : double.read 0 = .number false 0 (-1074) := by decide
theorem V_zero : V double 0 0 := ⟨false, 0, -1074, read_zero, by decide, by decide⟩
theorem div_two_zero : double.div 0 4611686018427387904 = some 0 := by decide
/-- The word of a whole number. -/
def FW (n : Int) : Nat := double.nearest (n < 0) n.natAbs 0
theorem FW_zero : FW 0 = 0 := by decide
theorem FW_nrm {n : Int} (h0 : n ≠ 0) (h : n.natAbs < 9007199254740992) : Nrm (FW n) ∧ fld (FW n) = 1023 + n.natAbs.log2 := by
  obtain ⟨h1, h2, h3, h4, h5⟩ := dbl_facts
  obtain ⟨L, hL⟩ : ∃ L, n.natAbs.log2 = L := ⟨_, rfl⟩
  have hm : n.natAbs ≠ 0 := by omega
  have hL1 : 2 ^ L ≤ n.natAbs := hL ▸ Nat.log2_self_le hm
  have hL2 : n.natAbs < 2 ^ (L + 1) := hL ▸ Nat.lt_log2_self
  have hL3 : L ≤ 52 := by
    have := (Nat.log2_lt (k := 53) hm).2 h; omega
  have hw : FW n = double.word (decide (n < 0)) ((1022 + L) * 4503599627370496 + n.natAbs * 2 ^ (52 - L)) ∧ 4503599627370496 ≤ n.natAbs * 2 ^ (52 - L) ∧ n.natAbs * 2 ^ (52 - L) < 9007199254740992 := by
    have k1 : 4503599627370496 ≤ n.natAbs * 2 ^ (52 - L) := by
      have : 2 ^ L * 2 ^ (52 - L) ≤ n.natAbs * 2 ^ (52 - L) := Nat.mul_le_mul_right _ hL1
      rwa [← Nat.pow_add, show L + (52 - L) = 52 by omega] at this
    have k2 : n.natAbs * 2 ^ (52 - L) < 9007199254740992 := by
      have : n.natAbs * 2 ^ (52 - L) < 2 ^ (L + 1) * 2 ^ (52 - L) := Nat.mul_lt_mul_of_pos_right hL2 (Nat.two_pow_pos _)
      rwa [← Nat.pow_add, show L + 1 + (52 - L) = 53 by omega] at this
    refine ⟨?_, k1, k2⟩
    unfold FW Format.nearest
    rw [if_neg hm, hL, h4, h5]
    have e : max ((0 : Int) + (L : Int) - (52 : Nat)) (-1074) = (L : Int) - 52 := by omega
    simp only [e]
    have e1 : ((0 : Int) - ((L : Int) - 52)).toNat = 52 - L := by omega
    have e2 : ((L : Int) - 52 - 0).toNat = 0 := by omega
    have e3 : ((L : Int) - 52 - -1074).toNat = 1022 + L := by omega
    rw [e1, e2, e3, cut_zero, Nat.shiftLeft_eq, h2, h3, Nat.min_eq_left (by omega)]
  obtain ⟨hw, k1, k2⟩ := hw
  rw [hw]
  generalize n.natAbs * 2 ^ (52 - L) = K at k1 k2
  unfold Format.word
  rw [h1, hL]
  by_cases hs : n < 0
  · rw [if_pos (by simpa using hs)]
    refine ⟨⟨by omega, by unfold fld; omega, by unfold fld; omega⟩, by unfold fld; omega⟩
  · rw [if_neg (by simpa using hs)]
    refine ⟨⟨by omega, by unfold fld; omega, by unfold fld; omega⟩, by unfold fld; omega⟩
theorem V_FW {n : Int} (h : n.natAbs < 9007199254740992) : V double (FW n) (n * 2 ^ 1074) := by
  have := V_int std n h (mul_pow_lt (b := 53) h (by decide))
  rwa [lp_dbl] at this
theorem V_unique {f : Format} {x : Nat} {v w : Int} (h : V f x v) (k : V f x w) : v = w := by
  obtain ⟨s, m, e, h1, -, rfl⟩ := h
  obtain ⟨t, n, j, h2, -, rfl⟩ := k
  rw [h1] at h2
  cases h2; rfl
/-- The word of a whole number over 2 to the power of s. -/
def DWn (n : Int) (s : Nat) : Nat := if n = 0 then 0 else FW n - s * 4503599627370496
theorem DWn_nrm {n : Int} {s : Nat} (h0 : n ≠ 0) (h : n.natAbs < 9007199254740992) (hs : s ≤ 1000) : Nrm (DWn n s) ∧ fld (DWn n s) = 1023 + n.natAbs.log2 - s ∧ ((DWn n s : Nat) : Int) = FW n - s * 4503599627370496 := by
  obtain ⟨a, b⟩ := FW_nrm h0 h
  unfold DWn
  rw [if_neg h0]
  have hge : s * 4503599627370496 ≤ FW n := by unfold fld at b; omega
  have hlog : n.natAbs.log2 ≤ 52 := by have := (Nat.log2_lt (k := 53) (by omega : n.natAbs ≠ 0)).2 h; omega
  obtain ⟨n1, n2, n3, n4⟩ := nrm_shift (b' := FW n - s * 4503599627370496) (k := -s) a (by omega) (by omega) (by omega)
  exact ⟨n1, by omega, by omega⟩
theorem V_DWn {n : Int} {s : Nat} (h : n.natAbs < 9007199254740992) (hs : s ≤ 1000) : V double (DWn n s) (n * 2 ^ (1074 - s)) := by
  by_cases h0 : n = 0
  · subst h0
    unfold DWn
    rw [if_pos rfl, Int.zero_mul]; exact V_zero
  · obtain ⟨a, b, c⟩ := DWn_nrm h0 h hs
    have v1 := V_nrm (FW_nrm h0 h).1
    have e1 := V_unique v1 (V_FW h)
    have hf := (FW_nrm h0 h).2
    have e2 := vN_shift (b := FW n) (b' := DWn n s) (k := s) (FW_nrm h0 h).1 c (by rw [hf]; omega)
    have v2 := V_nrm a
    have : vN (DWn n s) = n * 2 ^ (1074 - s) := by
      have hp : (2 : Int) ^ s ≠ 0 := by have : (0 : Int) < 2 ^ s := Int.pow_pos (by decide); omega
      apply Int.eq_of_mul_eq_mul_right hp
      rw [e2, e1, Int.mul_assoc, ← Int.pow_add, show 1074 - s + s = 1074 by omega]
    rwa [this] at v2
theorem DWn_lt {n : Int} {s : Nat} (h : n.natAbs < 9007199254740992) (hs : s ≤ 1000) : DWn n s < 18446744073709551616 := by
  by_cases h0 : n = 0
  · subst h0; unfold DWn; rw [if_pos rfl]; decide
  · exact (DWn_nrm h0 h hs).1.lt
end Go.Proofs.Ytjbpaejjpamcpaa.Fl
