import Derived.Test.YtjpmpjcenajmbaaDoorFb0
import Derived.Test.YtjpmpjcenajmbaaDoorMFm
import Derived.Test.YtjpmpjcenajmbaaDoorMOx
/- Rounding keeps the order: what is nearest lies between numbers of the format; when a wide number is too great for a single one. No program in sight. -/
namespace Go.Proofs.YtjpmpjcenajmbaaDoor.Fl
set_option linter.unusedSimpArgs false
set_option linter.unusedVariables false
open Ieee Eng
theorem cut_even (neg : Bool) (n d : Nat) : Toward.even.cut neg n d = n / 2 ^ d ∨ (Toward.even.cut neg n d = n / 2 ^ d + 1 ∧ 2 ^ d ≤ 2 * (n % 2 ^ d)) := by
  unfold Toward.cut
  simp only [Nat.shiftLeft_eq, Nat.one_mul]
  by_cases h : d ≤ n.log2 + 2
  · rw [Nat.min_eq_left h]
    generalize n / 2 ^ d = q
    generalize n % 2 ^ d = r
    generalize 2 ^ d = g
    by_cases h1 : g < 2 * r
    · right
      rw [decide_eq_true h1]
      exact ⟨by simp, by omega⟩
    · rw [decide_eq_false h1]
      by_cases h2 : g = 2 * r
      · by_cases h3 : (q % 2 == 1) = true
        · right; rw [h3]; exact ⟨by simp [h2], by omega⟩
        · left; rw [Bool.not_eq_true] at h3; rw [h3]; simp
      · left
        rw [beq_eq_false_iff_ne.2 h2]; simp
  · left
    have h1 : n < 2 ^ (n.log2 + 1) := Nat.lt_log2_self
    have h2 : 2 * 2 ^ (n.log2 + 1) = 2 ^ (n.log2 + 2) := by rw [Nat.pow_succ 2 (n.log2 + 1), Nat.mul_comm]
    have h3 : 2 ^ (n.log2 + 1) ≤ 2 ^ d := Nat.pow_le_pow_right (by decide) (by omega)
    rw [Nat.min_eq_right (by omega), Nat.div_eq_of_lt (show n < 2 ^ (n.log2 + 2) by omega), Nat.div_eq_of_lt (Nat.lt_of_lt_of_le h1 h3), Nat.mod_eq_of_lt (show n < 2 ^ (n.log2 + 2) by omega)]
    generalize 2 ^ (n.log2 + 1) = p at *
    rw [decide_eq_false (show ¬ 2 ^ (n.log2 + 2) < 2 * n by omega), beq_eq_false_iff_ne.2 (show 2 ^ (n.log2 + 2) ≠ 2 * n by omega)]
    simp
/-- What is nearest to E steps 2 ^ -j of the format's least one: r least steps. -/
structure Near (f : Format) (neg : Bool) (E j r : Nat) (x : Nat) : Prop where
  num : r < 2 ^ (2 ^ f.exponentBits + f.fractionBits - 2) → V f x (sg neg r)
  inf : 2 ^ (2 ^ f.exponentBits + f.fractionBits - 2) ≤ r → x = f.word neg f.infRung
  below : ∀ m k, m < 2 ^ (f.fractionBits + 1) → m * 2 ^ (k + j) ≤ E → m * 2 ^ k ≤ r
  above : ∀ m k, m < 2 ^ (f.fractionBits + 1) → E ≤ m * 2 ^ (k + j) → r ≤ m * 2 ^ k
  half : 2 * (r * 2 ^ j) ≤ 2 * E + 2 ^ (max (E.log2 - f.fractionBits) j)
theorem le_of_mul_pow {a b j : Nat} (h : a * 2 ^ j ≤ b * 2 ^ j) : a ≤ b := Nat.le_of_mul_le_mul_right h (Nat.two_pow_pos j)
theorem mul_pow_le_div {m k d E : Nat} (hk : d ≤ k) (h : m * 2 ^ k ≤ E) : m * 2 ^ (k - d) ≤ E / 2 ^ d := by
  rw [Nat.le_div_iff_mul_le (Nat.two_pow_pos d), Nat.mul_assoc, ← Nat.pow_add, show k - d + d = k by omega]; exact h
theorem near {f : Format} (hf : Std f) (neg : Bool) {E : Nat} (j : Nat) (hE : E ≠ 0) : ∃ r, Near f neg E j r (f.nearest neg E (f.leastPlace - j)) := by
  obtain ⟨hf1, hf2, hinf⟩ := exact_std hf
  have hbin : f.binade = 2 ^ f.fractionBits := rfl
  obtain ⟨L, hL⟩ : ∃ L, E.log2 = L := ⟨_, rfl⟩
  have hL1 : 2 ^ L ≤ E := hL ▸ Nat.log2_self_le hE
  have hL2 : E < 2 ^ (L + 1) := hL ▸ Nat.lt_log2_self
  obtain ⟨d, hd⟩ : ∃ d, max (L - f.fractionBits) j = d := ⟨_, rfl⟩
  have hlast : max (f.leastPlace - (j : Int) + (L : Int) - f.fractionBits) f.leastPlace = f.leastPlace + ((d - j : Nat) : Int) := by omega
  have hw : f.nearest neg E (f.leastPlace - j) = f.word neg (min ((d - j) * 2 ^ f.fractionBits + Toward.even.cut neg E d) f.infRung) := by
    unfold Format.nearest
    rw [if_neg hE, hL]
    simp only [hlast]
    rw [show (f.leastPlace - (j : Int) - (f.leastPlace + ((d - j : Nat) : Int))).toNat = 0 by omega, show (f.leastPlace + ((d - j : Nat) : Int) - (f.leastPlace - (j : Int))).toNat = d by omega, show (f.leastPlace + ((d - j : Nat) : Int) - f.leastPlace).toNat = d - j by omega, Nat.shiftLeft_eq, Nat.pow_zero, Nat.mul_one, hbin]
  obtain ⟨K, hK⟩ : ∃ K, Toward.even.cut neg E d = K := ⟨_, rfl⟩
  rw [hK] at hw
  have hc := cut_even neg E d
  rw [hK] at hc
  have hdm := Nat.div_add_mod E (2 ^ d)
  have hml := Nat.mod_lt E (Nat.two_pow_pos d)
  obtain ⟨q, hq⟩ : ∃ q, E / 2 ^ d = q := ⟨_, rfl⟩
  rw [hq] at hc hdm
  have hpd := Nat.two_pow_pos d
  have hB := Nat.two_pow_pos f.fractionBits
  -- the quotient's size
  have q1 : q < 2 ^ (f.fractionBits + 1) := by
    rw [← hq, Nat.div_lt_iff_lt_mul hpd, ← Nat.pow_add]
    exact Nat.lt_of_lt_of_le hL2 (Nat.pow_le_pow_right (by decide) (by omega))
  have q2 : j < d → 2 ^ f.fractionBits ≤ q := fun h => by
    rw [← hq, Nat.le_div_iff_mul_le hpd, ← Nat.pow_add]
    exact Nat.le_trans (Nat.pow_le_pow_right (by decide) (by omega)) hL1
  have hb1 : 2 ^ (f.fractionBits + 1) = 2 * 2 ^ f.fractionBits := by rw [Nat.pow_succ, Nat.mul_comm]
  have kq : q ≤ K ∧ K ≤ q + 1 := by omega
  have hKE : K * 2 ^ d ≤ E + 2 ^ d / 2 + 2 ^ d % 2 ∧ 2 * (K * 2 ^ d) ≤ 2 * E + 2 ^ d := by
    rcases hc with h | ⟨h, h'⟩
    · rw [h, Nat.mul_comm q]; omega
    · rw [h, Nat.add_mul, Nat.mul_comm q, Nat.one_mul]; omega
  have hjd : j ≤ d := by omega
  have hscale : K * 2 ^ (d - j) * 2 ^ j = K * 2 ^ d := by rw [Nat.mul_assoc, ← Nat.pow_add, show d - j + j = d by omega]
  have eB : 2 ^ (2 ^ f.exponentBits + f.fractionBits - 2) = 2 ^ (2 ^ f.exponentBits - 2) * 2 ^ f.fractionBits := by rw [← Nat.pow_add]; congr 1; omega
  -- the rung
  have hr : K * 2 ^ (d - j) < 2 ^ (2 ^ f.exponentBits + f.fractionBits - 2) ↔ (d - j) * 2 ^ f.fractionBits + K < f.infRung := by
    rw [hinf]
    by_cases h0 : d = j
    · rw [h0, Nat.sub_self, Nat.pow_zero, Nat.mul_one, Nat.zero_mul, Nat.zero_add]
      have a1 : (3 : Nat) * 2 ^ f.fractionBits ≤ (2 ^ f.exponentBits - 1) * 2 ^ f.fractionBits := Nat.mul_le_mul_right _ (by omega)
      have a2 : 2 ^ (f.fractionBits + 2) ≤ 2 ^ (2 ^ f.exponentBits + f.fractionBits - 2) := Nat.pow_le_pow_right (by decide) (by omega)
      have a3 : 2 ^ (f.fractionBits + 2) = 4 * 2 ^ f.fractionBits := by rw [Nat.pow_add, Nat.mul_comm]
      omega
    · obtain ⟨g, hg⟩ : ∃ g, d - j = g := ⟨_, rfl⟩
      rw [hg]
      have q2' := q2 (by omega)
      by_cases hk2 : K = 2 * 2 ^ f.fractionBits
      · rw [hk2, show 2 * 2 ^ f.fractionBits * 2 ^ g = 2 ^ (g + 1) * 2 ^ f.fractionBits by rw [Nat.pow_succ, Nat.mul_comm (2 ^ g) 2, Nat.mul_assoc, Nat.mul_assoc, Nat.mul_comm (2 ^ g)], eB, Nat.mul_lt_mul_right hB, Nat.pow_lt_pow_iff_right (by decide), show g * 2 ^ f.fractionBits + 2 * 2 ^ f.fractionBits = (g + 2) * 2 ^ f.fractionBits by rw [Nat.add_mul], Nat.mul_lt_mul_right hB]
        omega
      · have hk3 : K < 2 * 2 ^ f.fractionBits := by omega
        constructor
        · intro h
          have h1 : 2 ^ f.fractionBits * 2 ^ g ≤ K * 2 ^ g := Nat.mul_le_mul_right _ (by omega)
          rw [eB] at h
          have h2 : 2 ^ f.fractionBits * 2 ^ g < 2 ^ f.fractionBits * 2 ^ (2 ^ f.exponentBits - 2) := by rw [Nat.mul_comm (2 ^ f.fractionBits) (2 ^ (2 ^ f.exponentBits - 2))]; exact Nat.lt_of_le_of_lt h1 h
          have h3 : g < 2 ^ f.exponentBits - 2 := (Nat.pow_lt_pow_iff_right (by decide)).1 (Nat.lt_of_mul_lt_mul_left h2)
          have h4 : (g + 2) * 2 ^ f.fractionBits ≤ (2 ^ f.exponentBits - 1) * 2 ^ f.fractionBits := Nat.mul_le_mul_right _ (by omega)
          rw [Nat.add_mul] at h4; omega
        · intro h
          have h3 : g + 1 < 2 ^ f.exponentBits - 1 := by
            have : (g + 1) * 2 ^ f.fractionBits < (2 ^ f.exponentBits - 1) * 2 ^ f.fractionBits := by rw [Nat.add_mul]; omega
            exact Nat.lt_of_mul_lt_mul_right this
          rw [eB]
          have h4 : K * 2 ^ g < 2 * 2 ^ f.fractionBits * 2 ^ g := Nat.mul_lt_mul_of_pos_right hk3 (Nat.two_pow_pos g)
          have h5 : 2 * 2 ^ f.fractionBits * 2 ^ g = 2 ^ (g + 1) * 2 ^ f.fractionBits := by rw [Nat.pow_succ, Nat.mul_comm (2 ^ g) 2, Nat.mul_assoc, Nat.mul_assoc, Nat.mul_comm (2 ^ g)]
          have h6 : 2 ^ (g + 1) * 2 ^ f.fractionBits ≤ 2 ^ (2 ^ f.exponentBits - 2) * 2 ^ f.fractionBits := Nat.mul_le_mul_right _ (Nat.pow_le_pow_right (by decide) (by omega))
          omega
  refine ⟨K * 2 ^ (d - j), ⟨fun h => ?_, fun h => ?_, fun m k hm h => ?_, fun m k hm h => ?_, ?_⟩⟩
  · -- a number
    have hrung := hr.1 h
    rw [hw, Nat.min_eq_left (Nat.le_of_lt hrung)]
    by_cases h0 : d = j
    · rw [show d - j = 0 by omega, Nat.zero_mul, Nat.zero_add] at hrung ⊢
      rw [Nat.pow_zero, Nat.mul_one]
      by_cases hk : K < 2 ^ f.fractionBits
      · exact ⟨neg, K, f.leastPlace, by rw [read_word hf neg hrung, if_pos (by rw [hbin]; exact hk)], Int.le_refl _, by simp⟩
      · have d1 : K / 2 ^ f.fractionBits = 1 ∨ K = 2 * 2 ^ f.fractionBits := by
          by_cases hk2 : K = 2 * 2 ^ f.fractionBits
          · exact .inr hk2
          · left; rw [Nat.div_eq_iff hB]; omega
        rcases d1 with d1 | d1
        · have d2 : 2 ^ f.fractionBits + K % 2 ^ f.fractionBits = K := by
            have := Nat.div_add_mod K (2 ^ f.fractionBits)
            rw [d1, Nat.mul_one] at this; exact this
          exact ⟨neg, K, f.leastPlace, by rw [read_word hf neg hrung, if_neg (by rw [hbin]; exact hk), hbin, d1, d2]; simp, Int.le_refl _, by simp⟩
        · refine ⟨neg, 2 ^ f.fractionBits, f.leastPlace + 1, ?_, by omega, ?_⟩
          · rw [read_word hf neg hrung, if_neg (by rw [hbin]; exact hk), hbin, d1, Nat.mul_div_cancel _ hB, Nat.mul_mod_left]; simp
          · rw [show (f.leastPlace + 1 - f.leastPlace).toNat = 1 by omega, d1, Nat.pow_one, Nat.mul_comm]
    · obtain ⟨g, hg⟩ : ∃ g, d - j = g := ⟨_, rfl⟩
      rw [hg] at hrung ⊢
      have q2' := q2 (by omega)
      have hnb : ¬ g * 2 ^ f.fractionBits + K < f.binade := by rw [hbin]; omega
      by_cases hk2 : K = 2 * 2 ^ f.fractionBits
      · have e1 : g * 2 ^ f.fractionBits + K = (g + 2) * 2 ^ f.fractionBits := by rw [hk2, Nat.add_mul]
        refine ⟨neg, 2 ^ f.fractionBits, f.leastPlace + ((g + 1 : Nat) : Int), ?_, by omega, ?_⟩
        · rw [read_word hf neg hrung, if_neg hnb, hbin, e1, Nat.mul_div_cancel _ hB, Nat.mul_mod_left]; rfl
        · rw [show (f.leastPlace + ((g + 1 : Nat) : Int) - f.leastPlace).toNat = g + 1 by omega, hk2, Nat.pow_succ, Nat.mul_comm 2, Nat.mul_assoc, Nat.mul_comm 2]
      · have d1 : (g * 2 ^ f.fractionBits + K) / 2 ^ f.fractionBits = g + 1 := by
          rw [Nat.mul_comm, Nat.mul_add_div hB]
          have : K / 2 ^ f.fractionBits = 1 := by
            rw [Nat.div_eq_iff hB]; omega
          omega
        have d2 : 2 ^ f.fractionBits + (g * 2 ^ f.fractionBits + K) % 2 ^ f.fractionBits = K := by
          rw [Nat.mul_comm, Nat.mul_add_mod]
          rw [Nat.mod_eq_sub_mod (by omega), Nat.mod_eq_of_lt (by omega)]; omega
        refine ⟨neg, K, f.leastPlace + (g : Int), ?_, by omega, by rw [show (f.leastPlace + (g : Int) - f.leastPlace).toNat = g by omega]⟩
        rw [read_word hf neg hrung, if_neg hnb, hbin, d1, d2]
        congr 1
  · -- too great
    rw [hw, Nat.min_eq_right]
    have := mt hr.2 (by omega)
    omega
  · -- a number below
    refine le_of_mul_pow (j := j) ?_
    rw [hscale, Nat.mul_assoc, ← Nat.pow_add]
    by_cases hk : d ≤ k + j
    · have h1 := mul_pow_le_div hk h
      rw [hq] at h1
      have h2 : m * 2 ^ (k + j - d) * 2 ^ d ≤ K * 2 ^ d := Nat.mul_le_mul_right _ (by omega)
      rwa [Nat.mul_assoc, ← Nat.pow_add, show k + j - d + d = k + j by omega] at h2
    · have h1 : m * 2 ^ (k + j) ≤ 2 ^ (f.fractionBits + 1) * 2 ^ (k + j) := Nat.mul_le_mul_right _ (by omega)
      rw [← Nat.pow_add] at h1
      have h2 : 2 ^ (f.fractionBits + 1 + (k + j)) ≤ 2 ^ (f.fractionBits + d) := Nat.pow_le_pow_right (by decide) (by omega)
      have h3 : 2 ^ f.fractionBits * 2 ^ d ≤ K * 2 ^ d := Nat.mul_le_mul_right _ (by have := q2 (by omega); omega)
      rw [← Nat.pow_add] at h3
      omega
  · -- a number above
    refine le_of_mul_pow (j := j) ?_
    rw [hscale, Nat.mul_assoc, ← Nat.pow_add]
    by_cases hx : K = q
    · rw [hx, Nat.mul_comm q]; omega
    · obtain ⟨hk1, hk2⟩ : K = q + 1 ∧ 2 ^ d ≤ 2 * (E % 2 ^ d) := by
        rcases hc with h' | h'
        · exact absurd h' hx
        · exact h'
      by_cases hk : d ≤ k + j
      · have e : m * 2 ^ (k + j) = m * 2 ^ (k + j - d) * 2 ^ d := by rw [Nat.mul_assoc, ← Nat.pow_add, show k + j - d + d = k + j by omega]
        rw [e] at h ⊢
        have : q < m * 2 ^ (k + j - d) := by
          rw [← Nat.mul_lt_mul_right hpd, Nat.mul_comm q]; omega
        exact Nat.mul_le_mul_right _ (by omega)
      · have h1 : m * 2 ^ (k + j) < 2 ^ (f.fractionBits + 1) * 2 ^ (k + j) := Nat.mul_lt_mul_of_pos_right hm (Nat.two_pow_pos _)
        rw [← Nat.pow_add] at h1
        have h2 : 2 ^ (f.fractionBits + 1 + (k + j)) ≤ 2 ^ (f.fractionBits + d) := Nat.pow_le_pow_right (by decide) (by omega)
        have h3 : 2 ^ f.fractionBits * 2 ^ d ≤ q * 2 ^ d := Nat.mul_le_mul_right _ (q2 (by omega))
        rw [← Nat.pow_add, Nat.mul_comm q] at h3
        omega
  · rw [hscale, hL, hd]
    exact hKE.2
end Go.Proofs.YtjpmpjcenajmbaaDoor.Fl
/- Sums and differences of wide words between bounds; when narrowing passes the greatest single number. No program in sight. -/
namespace Go.Proofs.YtjpmpjcenajmbaaDoor.Fl
set_option linter.unusedSimpArgs false
set_option linter.unusedVariables false
open Ieee Eng
theorem sum_word {f : Format} (hf : Std f) {x y : Nat} {v w : Int} (hx : V f x v) (hy : V f y w) : ∃ neg, f.add x y = some (f.nearest neg (v + w).natAbs f.leastPlace) := by
  obtain ⟨s, m, i, h1, h2, rfl⟩ := hx
  obtain ⟨t, n, j, h3, h4, rfl⟩ := hy
  obtain ⟨b, hb⟩ : ∃ b : Nat, (min i j - f.leastPlace).toNat = b := ⟨_, rfl⟩
  have e1 : (i - f.leastPlace).toNat = (i - min i j).toNat + b := by omega
  have e2 : (j - f.leastPlace).toNat = (j - min i j).toNat + b := by omega
  rw [e1, e2, sg_add_scale, sg_add_scale, ← signed_eq, ← signed_eq, ← Int.add_mul]
  have e : f.add x y = some (f.write (.number (if signed s m (i - min i j).toNat + signed t n (j - min i j).toNat = 0 then s && t else signed s m (i - min i j).toNat + signed t n (j - min i j).toNat < 0) (signed s m (i - min i j).toNat + signed t n (j - min i j).toNat).natAbs (min i j))) := by
    unfold Format.add; rw [h1, h3]; rfl
  rw [e]
  generalize signed s m (i - min i j).toNat + signed t n (j - min i j).toNat = T
  have hn : (T * 2 ^ b).natAbs = T.natAbs * 2 ^ b := by rw [Int.natAbs_mul, Int.natAbs_pow]; rfl
  refine ⟨if T = 0 then s && t else decide (T < 0), ?_⟩
  rw [hn]
  have := nearest_scale f (if T = 0 then s && t else decide (T < 0)) T.natAbs b (min i j)
  rw [show min i j - (b : Int) = f.leastPlace by omega] at this
  rw [this]; rfl
theorem sub_word {f : Format} (hf : Std f) {x y : Nat} {v w : Int} (hx : V f x v) (hy : V f y w) : ∃ neg, f.sub x y = some (f.nearest neg (v - w).natAbs f.leastPlace) := by
  obtain ⟨s, m, i, h1, h2, rfl⟩ := hx
  obtain ⟨t, n, j, h3, h4, hw⟩ := V_opp hy
  rw [Int.sub_eq_add_neg, hw]
  obtain ⟨b, hb⟩ : ∃ b : Nat, (min i j - f.leastPlace).toNat = b := ⟨_, rfl⟩
  have e1 : (i - f.leastPlace).toNat = (i - min i j).toNat + b := by omega
  have e2 : (j - f.leastPlace).toNat = (j - min i j).toNat + b := by omega
  rw [e1, e2, sg_add_scale, sg_add_scale, ← signed_eq, ← signed_eq, ← Int.add_mul]
  have e : f.sub x y = some (f.write (.number (if signed s m (i - min i j).toNat + signed t n (j - min i j).toNat = 0 then s && t else signed s m (i - min i j).toNat + signed t n (j - min i j).toNat < 0) (signed s m (i - min i j).toNat + signed t n (j - min i j).toNat).natAbs (min i j))) := by
    unfold Format.sub; rw [h1, h3]; rfl
  rw [e]
  generalize signed s m (i - min i j).toNat + signed t n (j - min i j).toNat = T
  have hn : (T * 2 ^ b).natAbs = T.natAbs * 2 ^ b := by rw [Int.natAbs_mul, Int.natAbs_pow]; rfl
  refine ⟨if T = 0 then s && t else decide (T < 0), ?_⟩
  rw [hn]
  have := nearest_scale f (if T = 0 then s && t else decide (T < 0)) T.natAbs b (min i j)
  rw [show min i j - (b : Int) = f.leastPlace by omega] at this
  rw [this]; rfl
/-- What is nearest to a number between two of the format's lies between them. -/
theorem between {f : Format} (hf : Std f) (neg : Bool) {E m k n l : Nat} (h0 : E ≠ 0) (hm : m < 2 ^ (f.fractionBits + 1)) (hn : n < 2 ^ (f.fractionBits + 1)) (h1 : m * 2 ^ k ≤ E) (h2 : E ≤ n * 2 ^ l) (hb : n * 2 ^ l < 2 ^ (2 ^ f.exponentBits + f.fractionBits - 2)) :
    ∃ u : Int, V f (f.nearest neg E f.leastPlace) u ∧ m * 2 ^ k ≤ u.natAbs ∧ u.natAbs ≤ n * 2 ^ l := by
  obtain ⟨r, hr⟩ := near hf neg 0 h0
  rw [show f.leastPlace - ((0 : Nat) : Int) = f.leastPlace by omega] at hr
  have a1 := hr.above n l hn (by simpa using h2)
  have a2 := hr.below m k hm (by simpa using h1)
  exact ⟨sg neg r, hr.num (by omega), by rw [sg_natAbs]; exact a2, by rw [sg_natAbs]; exact a1⟩
theorem add_between {f : Format} (hf : Std f) {x y : Nat} {v w : Int} (hx : V f x v) (hy : V f y w) {m k n l : Nat} (h0 : (v + w).natAbs ≠ 0) (hm : m < 2 ^ (f.fractionBits + 1)) (hn : n < 2 ^ (f.fractionBits + 1)) (h1 : m * 2 ^ k ≤ (v + w).natAbs) (h2 : (v + w).natAbs ≤ n * 2 ^ l) (hb : n * 2 ^ l < 2 ^ (2 ^ f.exponentBits + f.fractionBits - 2)) :
    ∃ z u, f.add x y = some z ∧ V f z u ∧ m * 2 ^ k ≤ u.natAbs ∧ u.natAbs ≤ n * 2 ^ l := by
  obtain ⟨neg, e⟩ := sum_word hf hx hy
  obtain ⟨u, u1, u2, u3⟩ := between hf neg h0 hm hn h1 h2 hb
  exact ⟨_, u, e, u1, u2, u3⟩
theorem sub_between {f : Format} (hf : Std f) {x y : Nat} {v w : Int} (hx : V f x v) (hy : V f y w) {m k n l : Nat} (h0 : (v - w).natAbs ≠ 0) (hm : m < 2 ^ (f.fractionBits + 1)) (hn : n < 2 ^ (f.fractionBits + 1)) (h1 : m * 2 ^ k ≤ (v - w).natAbs) (h2 : (v - w).natAbs ≤ n * 2 ^ l) (hb : n * 2 ^ l < 2 ^ (2 ^ f.exponentBits + f.fractionBits - 2)) :
    ∃ z u, f.sub x y = some z ∧ V f z u ∧ m * 2 ^ k ≤ u.natAbs ∧ u.natAbs ≤ n * 2 ^ l := by
  obtain ⟨neg, e⟩ := sub_word hf hx hy
  obtain ⟨u, u1, u2, u3⟩ := between hf neg h0 hm hn h1 h2 hb
  exact ⟨_, u, e, u1, u2, u3⟩
/-- A wide number that narrowing finds too great. -/
theorem narrow_over {u : Nat} {s : Int} (hu : V double u s) (h : cvI .f64 u = none) : 33554431 * 2 ^ 1177 ≤ s.natAbs := by
  obtain ⟨sn, m, e, h1, h2, rfl⟩ := hu
  obtain ⟨d1, d2, d3, d4, d5⟩ := dbl_facts
  rw [sg_natAbs]
  rw [d4] at h2 ⊢
  obtain ⟨b, hb⟩ : ∃ b : Nat, (e - -1074).toNat = b := ⟨_, rfl⟩
  rw [hb]
  unfold cvI at h
  rw [show FloatKind.decode .f64 u = .number sn m e from h1] at h
  have h' : (if (single.read (single.nearest sn m e)).isInfinity then none else some (single.nearest sn m e) : Option Nat) = none := h
  have h3 : (single.read (single.nearest sn m e)).isInfinity = true := by
    cases hx : (single.read (single.nearest sn m e)).isInfinity
    · rw [hx] at h'; simp at h'
    · rfl
  have e1 := nearest_scale single sn m b e
  rw [show e - (b : Int) = -1074 by omega] at e1
  rw [← e1] at h3
  by_cases h0 : m * 2 ^ b = 0
  · rw [h0] at h3
    rw [show single.nearest sn 0 (-1074) = single.word sn 0 by unfold Format.nearest; simp, V_not_inf (V_word0 std1 sn)] at h3
    cases h3
  obtain ⟨j, hj⟩ : ∃ j : Nat, j = 925 := ⟨_, rfl⟩
  obtain ⟨r, hr⟩ := near std1 sn j h0
  rw [show single.leastPlace - (j : Int) = -1074 by rw [hj]; decide] at hr
  generalize m * 2 ^ b = E at *
  obtain ⟨X, hX⟩ : ∃ X : Nat, 2 ^ single.exponentBits + single.fractionBits - 2 = X := ⟨_, rfl⟩
  have hXe : X = 25 + 252 := by rw [← hX]; decide
  have hbig : 2 ^ X ≤ r := by
    by_cases hc : r < 2 ^ X
    · have := V_not_inf (hr.num (by rw [hX]; exact hc))
      rw [this] at h3; cases h3
    · omega
  have hh := hr.half
  rw [show single.fractionBits = 23 from rfl] at hh
  have p1 : 2 ^ X * 2 ^ j ≤ r * 2 ^ j := Nat.mul_le_mul_right _ hbig
  obtain ⟨c, hc⟩ : ∃ c : Nat, c = 1177 := ⟨_, rfl⟩
  rw [← hc]
  obtain ⟨P, hP⟩ : ∃ P : Nat, 2 ^ c = P := ⟨_, rfl⟩
  have p2 : 2 ^ X * 2 ^ j = 33554432 * P := by rw [← hP, ← Nat.pow_add, show X + j = 25 + c by omega, Nat.pow_add 2 25, show (2 : Nat) ^ 25 = 33554432 by decide]
  rw [hP]
  by_cases hl : E.log2 < c + 25
  · have p3 : 2 ^ max (E.log2 - 23) j ≤ 2 * P := by
      rw [← hP, show 2 * 2 ^ c = 2 ^ (c + 1) by rw [Nat.pow_succ 2 c, Nat.mul_comm]]
      exact Nat.pow_le_pow_right (by decide) (by omega)
    generalize 2 ^ max (E.log2 - 23) j = q at *
    generalize r * 2 ^ j = t at *
    omega
  · have p3 : 2 ^ (25 + c) ≤ E := Nat.le_trans (Nat.pow_le_pow_right (by decide) (by omega)) (Nat.log2_self_le h0)
    rw [Nat.pow_add, show (2 : Nat) ^ 25 = 33554432 by decide, hP] at p3
    omega
end Go.Proofs.YtjpmpjcenajmbaaDoor.Fl
/- Single and wide orbits side by side, NaN and numbers too great allowed: one step. Plain. -/
namespace Go.Proofs.YtjpmpjcenajmbaaDoor
set_option linter.unusedSimpArgs false
set_option linter.unusedVariables false
open Go.RowKit Eng
/-- A NaN's word. -/
def IsN (f : Ieee.Format) (x : Nat) : Prop := ∃ s t, f.read x = .nan s t
/-- What float arithmetic gives. -/
def ArF (f : Ieee.Format) (o : Option Nat) (z : Nat) : Prop := o = some z ∨ (o = none ∧ IsN f z)
theorem nanD_isN (t : Nat) : IsN Ieee.double (nanD t) := by
  obtain ⟨h1, h2, h3, h4, h5⟩ := Fl.dbl_facts
  have h : 9218868437227405312 < nanD t % 9223372036854775808 := by
    unfold nanD
    have := Nat.mod_lt (t / 2) (show 4503599627370495 > 0 by decide)
    generalize t / 2 % 4503599627370495 = u at this ⊢
    omega
  unfold IsN Ieee.Format.read
  simp only [h1, h2, h3, h4]
  rw [if_neg (by omega), if_neg (by omega), if_neg (by omega)]
  exact ⟨_, _, rfl⟩
theorem Ar.to {o : Option Nat} {z : Nat} (h : Ar o z) : ArF Ieee.double o z := by
  rcases h with h | ⟨h, t, rfl⟩
  · exact .inl h
  · exact .inr ⟨h, nanD_isN t⟩
/-- The same word, or both a NaN. -/
def Eqv (f : Ieee.Format) (x y : Nat) : Prop := x = y ∨ (IsN f x ∧ IsN f y)
theorem Eqv.rfl' {f : Ieee.Format} {x : Nat} : Eqv f x x := .inl rfl
/-- An operation that gives no number where a NaN comes in. -/
def NanIn (f : Ieee.Format) (op : Nat → Nat → Option Nat) : Prop := ∀ x y, IsN f x ∨ IsN f y → op x y = none
theorem nanin_add (f : Ieee.Format) : NanIn f f.add := by
  rintro x y (⟨s, t, h⟩ | ⟨s, t, h⟩)
  · unfold Ieee.Format.add; rw [h]; rfl
  · unfold Ieee.Format.add; rw [h]; cases f.read x <;> rfl
theorem nanin_sub (f : Ieee.Format) : NanIn f f.sub := by
  rintro x y (⟨s, t, h⟩ | ⟨s, t, h⟩)
  · unfold Ieee.Format.sub; rw [h]; rfl
  · unfold Ieee.Format.sub; rw [h]; cases f.read x <;> rfl
theorem nanin_mul (f : Ieee.Format) : NanIn f f.mul := by
  rintro x y (⟨s, t, h⟩ | ⟨s, t, h⟩)
  · unfold Ieee.Format.mul; rw [h]; rfl
  · unfold Ieee.Format.mul; rw [h]; cases f.read x <;> rfl
theorem Eqv.op {f : Ieee.Format} {op : Nat → Nat → Option Nat} (hop : NanIn f op) {x y x' y' z z' : Nat} (hx : Eqv f x x') (hy : Eqv f y y') (h : ArF f (op x y) z) (h' : ArF f (op x' y') z') : Eqv f z z' := by
  have nn : ∀ a b w, op a b = none → ArF f (op a b) w → IsN f w := fun a b w e h => by
    rcases h with h | ⟨-, h⟩
    · rw [e] at h; cases h
    · exact h
  rcases hx with rfl | ⟨n1, n2⟩
  · rcases hy with rfl | ⟨n1, n2⟩
    · rcases h with h | ⟨h, k⟩
      · rcases h' with h' | ⟨h', -⟩
        · rw [h] at h'; cases h'; exact .inl rfl
        · rw [h] at h'; cases h'
      · exact .inr ⟨k, nn _ _ _ h h'⟩
    · exact .inr ⟨nn _ _ _ (hop _ _ (.inr n1)) h, nn _ _ _ (hop _ _ (.inr n2)) h'⟩
  · exact .inr ⟨nn _ _ _ (hop _ _ (.inl n1)) h, nn _ _ _ (hop _ _ (.inl n2)) h'⟩
theorem Eqv.sq {x y x' y' p q p' q' : Nat} (hx : Eqv Ieee.double x x') (hy : Eqv Ieee.double y y') (h : SqR x y p q) (h' : SqR x' y' p' q') : Eqv Ieee.double p p' ∧ Eqv Ieee.double q q' := by
  obtain ⟨a, b, e, h1, h2, h3, h4, h5⟩ := h
  obtain ⟨a', b', e', k1, k2, k3, k4, k5⟩ := h'
  have m := nanin_mul Ieee.double
  exact ⟨(hx.op m hx h1.to k1.to).op (nanin_sub _) (hy.op m hy h2.to k2.to) h3.to k3.to, Eqv.op m (.inl rfl) (hx.op m hy h4.to k4.to) h5.to k5.to⟩
theorem Eqv.st {x y c d x' y' c' d' p q p' q' : Nat} (hx : Eqv Ieee.double x x') (hy : Eqv Ieee.double y y') (hc : Eqv Ieee.double c c') (hd : Eqv Ieee.double d d') (h : StR x y c d p q) (h' : StR x' y' c' d' p' q') : Eqv Ieee.double p p' ∧ Eqv Ieee.double q q' := by
  obtain ⟨u, v, h1, h2, h3⟩ := h
  obtain ⟨u', v', k1, k2, k3⟩ := h'
  obtain ⟨e1, e2⟩ := hx.sq hy h1 k1
  exact ⟨e1.op (nanin_add _) hc h2.to k2.to, e2.op (nanin_add _) hd h3.to k3.to⟩
/-- What narrowing gives: of a number too great anything. -/
def Nrr (u p : Nat) : Prop := cvI .f64 u = some p ∨ (cvI .f64 u = none ∧ (IsN Ieee.double u → IsN Ieee.single p))
/-- A single square's parts; a single step's. -/
def SqS (x y p q : Nat) : Prop := ∃ X Y u v, ArF Ieee.double (cvI .f32 x) X ∧ ArF Ieee.double (cvI .f32 y) Y ∧ SqR X Y u v ∧ Nrr u p ∧ Nrr v q
def StS (x y c d p q : Nat) : Prop := ∃ a b, SqS x y a b ∧ ArF Ieee.single (Ieee.single.add a c) p ∧ ArF Ieee.single (Ieee.single.add b d) q
/-- A single word, widened, is equal to a wide one. -/
def AgP (z y : Nat) : Bool := match cvI .f32 z with
  | some X => Ieee.double.order X y == some .eq
  | none => false
/-- Both are the same number, or the same infinity. -/
def Same (z y : Nat) : Prop := (∃ a : Int, Fl.V Ieee.single z a ∧ Fl.V Ieee.double y (a * 2 ^ 925)) ∨ ∃ s, Ieee.single.read z = .infinity s ∧ Ieee.double.read y = .infinity s
theorem read_cases (f : Ieee.Format) (hf : Fl.Std f) (x : Nat) : (∃ v, Fl.V f x v) ∨ (∃ s, f.read x = .infinity s) ∨ IsN f x := by
  cases h : f.read x with
  | infinity s => exact .inr (.inl ⟨s, rfl⟩)
  | nan s t => exact .inr (.inr ⟨s, t, h⟩)
  | number s m e =>
    refine .inl ⟨_, s, m, e, h, ?_, rfl⟩
    unfold Ieee.Format.read at h
    simp only [] at h
    split at h
    · cases h; omega
    · split at h
      · cases h; omega
      · split at h <;> cases h
theorem V_not {f : Ieee.Format} {x : Nat} {v : Int} (h : Fl.V f x v) : (∀ s, f.read x ≠ .infinity s) ∧ ¬ IsN f x := by
  obtain ⟨s, m, e, h1, -⟩ := h
  refine ⟨fun t ht => ?_, ?_⟩
  · rw [h1] at ht; cases ht
  · rintro ⟨a, b, hn⟩; rw [h1] at hn; cases hn
theorem cv_nan {x : Nat} (h : IsN Ieee.single x) : cvI .f32 x = none := by
  obtain ⟨s, t, h⟩ := h
  unfold cvI
  rw [show FloatKind.decode .f32 x = .nan s t from h]
theorem cv_nanD {x : Nat} (h : IsN Ieee.double x) : cvI .f64 x = none := by
  obtain ⟨s, t, h⟩ := h
  unfold cvI
  rw [show FloatKind.decode .f64 x = .nan s t from h]
theorem cv_inf {x : Nat} {s : Bool} (h : Ieee.single.read x = .infinity s) : cvI .f32 x = some (Ieee.double.word s Ieee.double.infRung) := by
  unfold cvI
  rw [show FloatKind.decode .f32 x = .infinity s from h]; rfl
theorem cv_infD {x : Nat} {s : Bool} (h : Ieee.double.read x = .infinity s) : cvI .f64 x = some (Ieee.single.word s Ieee.single.infRung) := by
  unfold cvI
  rw [show FloatKind.decode .f64 x = .infinity s from h]; rfl
theorem inf_single (s : Bool) : Ieee.single.read (Ieee.single.word s Ieee.single.infRung) = .infinity s := by cases s <;> decide
theorem rep_wide {a : Int} {x : Nat} (h : Fl.V Ieee.single x a) {k : Nat} (hk : k ≤ 1700) : Fl.Rep Ieee.double (a * 2 ^ k).natAbs := by
  obtain ⟨s, m, j, hu, hm, hj⟩ := Fl.V1_rep h
  have e : a * 2 ^ k = Fl.sg s m * 2 ^ (j + k) := by
    have h0 := Fl.sg_add_scale s m 0 (j + k)
    rw [Nat.pow_zero, Nat.mul_one, Nat.zero_add] at h0
    rw [hu, ← Fl.sg_add_scale, h0]
  rw [e]
  exact Fl.rep_dbl (by rw [Fl.sg_natAbs]; omega) (by omega)
theorem widen_V {x : Nat} {a : Int} (h : Fl.V Ieee.single x a) : ∃ X, cvI .f32 x = some X ∧ Fl.V Ieee.double X (a * 2 ^ 925) := by
  obtain ⟨c, hc⟩ : ∃ c : Nat, c = 925 := ⟨_, rfl⟩
  rw [← hc]
  exact Fl.V_widen h (by rw [Int.mul_assoc, ← Int.pow_add, hc]) (rep_wide h (by omega))
theorem AgP_iff (z y : Nat) : AgP z y = true ↔ Same z y := by
  have hsub : ∀ (a b : Option Ordering), (a == b) = true ↔ a = b := fun a b => by simp
  rcases read_cases _ Fl.std1 z with ⟨a, ha⟩ | ⟨s, hs⟩ | hn
  · obtain ⟨X, h1, h2⟩ := widen_V ha
    have e : AgP z y = (Ieee.double.order X y == some .eq) := by unfold AgP; rw [h1]
    rw [e]
    rcases read_cases _ Fl.std y with ⟨b, hb⟩ | ⟨t, ht⟩ | hn'
    · rw [Fl.V_order h2 hb, hsub]
      constructor
      · intro h
        injection h with h
        have := Int.compare_eq_eq.1 h
        rw [← this] at hb
        exact .inl ⟨a, ha, hb⟩
      · rintro (⟨a', h3, h4⟩ | ⟨s, h3, -⟩)
        · have := Fl.V_unique ha h3; subst this
          have := Fl.V_unique hb h4; subst this
          rw [Int.compare_eq_eq.2 rfl]
        · exact absurd h3 ((V_not ha).1 s)
    · have e2 : Ieee.double.order X y = some (if t then .gt else .lt) := by
        obtain ⟨s', m, e', hr, -⟩ := h2
        unfold Ieee.Format.order; rw [hr, ht]; rfl
      rw [e2]
      constructor
      · intro h; cases t <;> cases h
      · rintro (⟨a', -, h4⟩ | ⟨s, h3, -⟩)
        · exact absurd ht ((V_not h4).1 t)
        · exact absurd h3 ((V_not ha).1 s)
    · have e2 : Ieee.double.order X y = none := by
        obtain ⟨s', t', hn'⟩ := hn'
        unfold Ieee.Format.order; rw [hn']; cases Ieee.double.read X <;> rfl
      rw [e2]
      constructor
      · intro h; cases h
      · rintro (⟨a', -, h4⟩ | ⟨s, h3, -⟩)
        · exact absurd hn' (V_not h4).2
        · exact absurd h3 ((V_not ha).1 s)
  · have e : AgP z y = (Ieee.double.order (Ieee.double.word s Ieee.double.infRung) y == some .eq) := by unfold AgP; rw [cv_inf hs]
    rw [e]
    have hw := Fl.read_inf s
    generalize Ieee.double.word s Ieee.double.infRung = X at hw ⊢
    have no : ¬ ∃ a : Int, Fl.V Ieee.single z a ∧ Fl.V Ieee.double y (a * 2 ^ 925) := by
      rintro ⟨a, h1, -⟩; exact (V_not h1).1 s hs
    unfold Ieee.Format.order
    rw [hw]
    cases hy : Ieee.double.read y with
    | infinity t =>
      constructor
      · intro h
        refine .inr ⟨s, hs, ?_⟩
        cases s <;> cases t <;> first | exact hy | exact absurd h (by decide)
      · rintro (h | ⟨s', h3, h4⟩)
        · exact absurd h no
        · rw [hs] at h3; injection h3 with h3; subst h3
          rw [hy] at h4; injection h4 with h4; subst h4
          cases t <;> decide
    | nan a b =>
      constructor
      · intro h; cases h
      · rintro (h | ⟨s', h3, h4⟩)
        · exact absurd h no
        · rw [hy] at h4; cases h4
    | number a b c =>
      constructor
      · intro h; cases s <;> cases h
      · rintro (h | ⟨s', h3, h4⟩)
        · exact absurd h no
        · rw [hy] at h4; cases h4
  · have e : AgP z y = false := by unfold AgP; rw [cv_nan hn]
    rw [e]
    constructor
    · intro h; cases h
    · rintro (⟨a, h1, -⟩ | ⟨s, h1, -⟩)
      · exact absurd hn (V_not h1).2
      · obtain ⟨s', t', hn⟩ := hn; rw [hn] at h1; cases h1
theorem Same.num {z y : Nat} (h : Same z y) : ¬ IsN Ieee.single z ∧ ¬ IsN Ieee.double y := by
  rcases h with ⟨a, h1, h2⟩ | ⟨s, h1, h2⟩
  · exact ⟨(V_not h1).2, (V_not h2).2⟩
  · refine ⟨?_, ?_⟩
    · rintro ⟨a, b, h⟩; rw [h1] at h; cases h
    · rintro ⟨a, b, h⟩; rw [h2] at h; cases h
theorem AgP_eqv {z z' y y' : Nat} (hz : Eqv Ieee.single z z') (hy : Eqv Ieee.double y y') : AgP z y = AgP z' y' := by
  have no : ∀ {a b}, ¬ Same a b → AgP a b = false := fun {a b} h => by
    cases hx : AgP a b
    · rfl
    · exact absurd ((AgP_iff _ _).1 hx) h
  rcases hz with rfl | ⟨n1, n2⟩
  · rcases hy with rfl | ⟨n1, n2⟩
    · rfl
    · rw [no fun h => h.num.2 n1, no fun h => h.num.2 n2]
  · rw [no fun h => h.num.1 n1, no fun h => h.num.1 n2]
theorem V_small1 {x : Nat} {a : Int} (h : Fl.V Ieee.single x a) : a.natAbs ≤ 16777215 * 2 ^ 253 := by
  obtain ⟨s, m, j, hu, hm, hj⟩ := Fl.V1_rep h
  rw [hu, Fl.sg_natAbs]
  exact Nat.mul_le_mul (by omega) (Nat.pow_le_pow_right (by decide) hj)
/-- A wide number that is greater than all single ones. -/
theorem big_not {y : Nat} {w : Int} (h : Fl.V Ieee.double y w) (hw : 134217723 * 2 ^ 1175 ≤ w.natAbs) (z : Nat) : ¬ Same z y := by
  rintro (⟨a, h1, h2⟩ | ⟨s, -, h2⟩)
  · have := Fl.V_unique h h2
    subst this
    have h3 := V_small1 h1
    obtain ⟨c, hc⟩ : ∃ c : Nat, c = 1175 := ⟨_, rfl⟩
    obtain ⟨d, hd⟩ : ∃ d : Nat, d = 925 := ⟨_, rfl⟩
    rw [← hc, ← hd, Fl.natAbs_mul_pow] at hw
    have h4 : a.natAbs * 2 ^ d ≤ 16777215 * 2 ^ 253 * 2 ^ d := Nat.mul_le_mul_right _ h3
    rw [Nat.mul_assoc, ← Nat.pow_add, show 253 + d = 3 + c by omega, Nat.pow_add 2 3 c, show (2 : Nat) ^ 3 = 8 by decide] at h4
    have hp := Nat.two_pow_pos c
    generalize 2 ^ c = P at *
    omega
  · exact (V_not h).1 s h2
end Go.Proofs.YtjpmpjcenajmbaaDoor
/- Single and wide orbits side by side: where narrowing finds a number too great the next numbers are not equal; so all runs agree on how many are. Plain. -/
namespace Go.Proofs.YtjpmpjcenajmbaaDoor
set_option linter.unusedSimpArgs false
set_option linter.unusedVariables false
open Go.RowKit Eng
/-- A word that is no number. -/
def NotV (f : Ieee.Format) (x : Nat) : Prop := ∀ v, ¬ Fl.V f x v
theorem notV_inf {f : Ieee.Format} {x : Nat} {s : Bool} (h : f.read x = .infinity s) : NotV f x := fun v hv => (V_not hv).1 s h
theorem notV_nan {f : Ieee.Format} {x : Nat} (h : IsN f x) : NotV f x := fun v hv => (V_not hv).2 h
theorem inf_read {f : Ieee.Format} (hf : Fl.Std f) (s : Bool) : f.read (f.word s f.infRung) = .infinity s := by
  rcases hf with rfl | rfl
  · exact inf_single s
  · exact Fl.read_inf s
theorem notV_datum {f : Ieee.Format} (hf : Fl.Std f) {o : Option Ieee.Datum} {z : Nat} (ho : o = none ∨ ∃ s, o = some (.infinity s)) (h : ArF f (o.map f.write) z) : NotV f z := by
  rcases ho with rfl | ⟨s, rfl⟩
  · rcases h with h | ⟨-, h⟩
    · cases h
    · exact notV_nan h
  · rcases h with h | ⟨h, -⟩
    · injection h with h; subst h
      exact notV_inf (inf_read hf s)
    · cases h
theorem notV_read {f : Ieee.Format} (hf : Fl.Std f) {x : Nat} (h : NotV f x) : (∃ s, f.read x = .infinity s) ∨ ∃ s t, f.read x = .nan s t := by
  rcases read_cases f hf x with ⟨v, hv⟩ | ⟨s, hs⟩ | hn
  · exact absurd hv (h v)
  · exact .inl ⟨s, hs⟩
  · exact .inr hn
theorem notV_add {f : Ieee.Format} (hf : Fl.Std f) {x y z : Nat} (hn : NotV f x ∨ NotV f y) (h : ArF f (f.add x y) z) : NotV f z := by
  refine notV_datum hf ?_ h
  rcases hn with hn | hn
  · rcases notV_read hf hn with ⟨s, e⟩ | ⟨s, t, e⟩
    · rw [e]
      cases f.read y with
      | nan a b => exact .inl rfl
      | infinity t => cases s <;> cases t <;> first | exact .inl rfl | exact .inr ⟨_, rfl⟩
      | number a b c => exact .inr ⟨_, rfl⟩
    · rw [e]; cases f.read y <;> exact .inl rfl
  · rcases notV_read hf hn with ⟨s, e⟩ | ⟨s, t, e⟩
    · rw [e]
      cases f.read x with
      | nan a b => exact .inl rfl
      | infinity t => cases s <;> cases t <;> first | exact .inl rfl | exact .inr ⟨_, rfl⟩
      | number a b c => exact .inr ⟨_, rfl⟩
    · rw [e]; cases f.read x <;> exact .inl rfl
theorem notV_sub {f : Ieee.Format} (hf : Fl.Std f) {x y z : Nat} (hn : NotV f x ∨ NotV f y) (h : ArF f (f.sub x y) z) : NotV f z := by
  refine notV_datum hf ?_ h
  rcases hn with hn | hn
  · rcases notV_read hf hn with ⟨s, e⟩ | ⟨s, t, e⟩
    · rw [e]
      cases f.read y with
      | nan a b => exact .inl rfl
      | infinity t => cases s <;> cases t <;> first | exact .inl rfl | exact .inr ⟨_, rfl⟩
      | number a b c => exact .inr ⟨_, rfl⟩
    · rw [e]; cases f.read y <;> exact .inl rfl
  · rcases notV_read hf hn with ⟨s, e⟩ | ⟨s, t, e⟩
    · rw [e]
      cases f.read x with
      | nan a b => exact .inl rfl
      | infinity t => cases s <;> cases t <;> first | exact .inl rfl | exact .inr ⟨_, rfl⟩
      | number a b c => exact .inr ⟨_, rfl⟩
    · rw [e]; cases f.read x <;> exact .inl rfl
theorem prod_inf (d : Ieee.Datum) (s : Bool) : ((Ieee.Datum.infinity s).product d = none ∨ ∃ t, (Ieee.Datum.infinity s).product d = some (.infinity t)) ∧ (d.product (.infinity s) = none ∨ ∃ t, d.product (.infinity s) = some (.infinity t)) := by
  cases d with
  | nan a b => exact ⟨.inl rfl, .inl rfl⟩
  | infinity t => exact ⟨.inr ⟨_, rfl⟩, .inr ⟨_, rfl⟩⟩
  | number a b c =>
    unfold Ieee.Datum.product
    simp only []
    by_cases h : b = 0
    · rw [if_pos h]; exact ⟨.inl rfl, .inl rfl⟩
    · rw [if_neg h]; exact ⟨.inr ⟨_, rfl⟩, .inr ⟨_, rfl⟩⟩
theorem notV_mul {f : Ieee.Format} (hf : Fl.Std f) {x y z : Nat} (hn : NotV f x ∨ NotV f y) (h : ArF f (f.mul x y) z) : NotV f z := by
  refine notV_datum hf ?_ h
  rcases hn with hn | hn
  · rcases notV_read hf hn with ⟨s, e⟩ | ⟨s, t, e⟩
    · rw [e]; exact (prod_inf _ s).1
    · rw [e]; cases f.read y <;> exact .inl rfl
  · rcases notV_read hf hn with ⟨s, e⟩ | ⟨s, t, e⟩
    · rw [e]; exact (prod_inf _ s).2
    · rw [e]; cases f.read x <;> exact .inl rfl
theorem V_or_not (f : Ieee.Format) (x : Nat) : (∃ v, Fl.V f x v) ∨ NotV f x := by
  by_cases h : ∃ v, Fl.V f x v
  · exact .inl h
  · exact .inr fun v hv => h ⟨v, hv⟩
/-- Where a square's part is a number both parts were. -/
theorem sq_num {X Y u v : Nat} (h : SqR X Y u v) (hn : (∃ s, Fl.V Ieee.double u s) ∨ ∃ s, Fl.V Ieee.double v s) : (∃ a, Fl.V Ieee.double X a) ∧ ∃ b, Fl.V Ieee.double Y b := by
  obtain ⟨a, b, e, h1, h2, h3, h4, h5⟩ := h
  refine ⟨?_, ?_⟩
  · rcases V_or_not Ieee.double X with h | h
    · exact h
    · rcases hn with ⟨s, hs⟩ | ⟨s, hs⟩
      · exact absurd hs (notV_sub Fl.std (.inl (notV_mul Fl.std (.inl h) h1.to)) h3.to s)
      · exact absurd hs (notV_mul Fl.std (.inr (notV_mul Fl.std (.inl h) h4.to)) h5.to s)
  · rcases V_or_not Ieee.double Y with h | h
    · exact h
    · rcases hn with ⟨s, hs⟩ | ⟨s, hs⟩
      · exact absurd hs (notV_sub Fl.std (.inr (notV_mul Fl.std (.inl h) h2.to)) h3.to s)
      · exact absurd hs (notV_mul Fl.std (.inr (notV_mul Fl.std (.inr h) h4.to)) h5.to s)
/-- Where the wide word is a number the single one is, and of the same value. -/
theorem widen_num {z X : Nat} (h : ArF Ieee.double (cvI .f32 z) X) (hn : ∃ v, Fl.V Ieee.double X v) : ∃ a, Fl.V Ieee.single z a ∧ Fl.V Ieee.double X (a * 2 ^ 925) := by
  obtain ⟨v, hv⟩ := hn
  rcases read_cases _ Fl.std1 z with ⟨a, ha⟩ | ⟨s, hs⟩ | hz
  · obtain ⟨X', h1, h2⟩ := widen_V ha
    rcases h with h | ⟨h, -⟩
    · rw [h1] at h; injection h with h; subst h; exact ⟨a, ha, h2⟩
    · rw [h1] at h; cases h
  · rw [cv_inf hs] at h
    rcases h with h | ⟨h, -⟩
    · injection h with h; subst h
      exact absurd hv (notV_inf (Fl.read_inf s) v)
    · cases h
  · rw [cv_nan hz] at h
    rcases h with h | ⟨-, h⟩
    · cases h
    · exact absurd hv (notV_nan h v)
theorem over_num {u : Nat} (h : cvI .f64 u = none) (hn : ¬ IsN Ieee.double u) : ∃ s, Fl.V Ieee.double u s := by
  rcases read_cases _ Fl.std u with h' | ⟨s, hs⟩ | h'
  · exact h'
  · rw [cv_infD hs] at h; cases h
  · exact absurd h' hn
theorem rep_prod {x y : Nat} {a b : Int} (hx : Fl.V Ieee.single x a) (hy : Fl.V Ieee.single y b) {k : Nat} (hk : k ≤ 1400) : Fl.Rep Ieee.double (a * b * 2 ^ k).natAbs := by
  obtain ⟨s, m, j, hu, hm, hj⟩ := Fl.V1_rep hx
  obtain ⟨t, n, l, hv, hn, hl⟩ := Fl.V1_rep hy
  have e1 : a = Fl.sg s m * 2 ^ j := by
    have h0 := Fl.sg_add_scale s m 0 j
    rw [Nat.pow_zero, Nat.mul_one, Nat.zero_add] at h0
    rw [hu, h0]
  have e2 : b = Fl.sg t n * 2 ^ l := by
    have h0 := Fl.sg_add_scale t n 0 l
    rw [Nat.pow_zero, Nat.mul_one, Nat.zero_add] at h0
    rw [hv, h0]
  have e : a * b * 2 ^ k = Fl.sg s m * Fl.sg t n * 2 ^ (j + l + k) := by
    rw [e1, e2, Int.pow_add, Int.pow_add]
    simp only [Int.mul_assoc, Int.mul_left_comm, Int.mul_comm]
  rw [e]
  refine Fl.rep_dbl ?_ (by omega)
  rw [Int.natAbs_mul, Fl.sg_natAbs, Fl.sg_natAbs]
  have := Nat.mul_le_mul (show m ≤ 16777215 by omega) (show n ≤ 16777215 by omega)
  omega
/-- The wide square of two numbers. -/
theorem sqS_parts {x y X Y u v : Nat} {a b : Int} (hx : Fl.V Ieee.single x a) (hy : Fl.V Ieee.single y b) (hX : Fl.V Ieee.double X (a * 2 ^ 925)) (hY : Fl.V Ieee.double Y (b * 2 ^ 925)) (h : SqR X Y u v) :
    (∃ A B, Fl.V Ieee.double A (a * a * 2 ^ 776) ∧ Fl.V Ieee.double B (b * b * 2 ^ 776) ∧ Ar (Ieee.double.sub A B) u) ∧ Fl.V Ieee.double v (2 * (a * b) * 2 ^ 776) := by
  obtain ⟨A, B, e, h1, h2, h3, h4, h5⟩ := h
  obtain ⟨c, hc⟩ : ∃ c : Nat, c = 925 := ⟨_, rfl⟩
  obtain ⟨d, hd⟩ : ∃ d : Nat, d = 776 := ⟨_, rfl⟩
  obtain ⟨l, hl⟩ : ∃ l : Nat, l = 1074 := ⟨_, rfl⟩
  rw [← hc] at hX hY
  rw [← hd]
  have key : ∀ p q : Int, p * q * 2 ^ d * 2 ^ l = p * 2 ^ c * (q * 2 ^ c) := fun p q => by
    rw [Int.mul_assoc (p * q), ← Int.pow_add, show d + l = c + c by omega, Int.pow_add]
    simp only [Int.mul_assoc, Int.mul_left_comm, Int.mul_comm]
  have lpd : Fl.lp Ieee.double = l := by rw [hl]; exact Fl.lp_dbl
  obtain ⟨A', a1, a2⟩ := Fl.V_mul Fl.std hX hX (r := a * a * 2 ^ d) (by rw [lpd, key]) (rep_prod hx hx (by omega))
  obtain ⟨B', b1, b2⟩ := Fl.V_mul Fl.std hY hY (r := b * b * 2 ^ d) (by rw [lpd, key]) (rep_prod hy hy (by omega))
  obtain ⟨e', e1, e2⟩ := Fl.V_mul Fl.std hX hY (r := a * b * 2 ^ d) (by rw [lpd, key]) (rep_prod hx hy (by omega))
  have := ar_some h1 a1; subst this
  have := ar_some h2 b1; subst this
  have := ar_some h4 e1; subst this
  refine ⟨⟨_, _, a2, b2, h3⟩, ?_⟩
  have hv2 := V_twoX
  rw [← hl] at hv2
  obtain ⟨v', v1, v2⟩ := Fl.V_mul Fl.std hv2 e2 (r := 2 * (a * b) * 2 ^ d) (by rw [lpd]; simp only [Int.mul_assoc, Int.mul_left_comm, Int.mul_comm]) (by
    have := rep_prod hx hy (k := d + 1) (by omega)
    rwa [show a * b * 2 ^ (d + 1) = 2 * (a * b) * 2 ^ d by rw [Int.pow_succ]; simp only [Int.mul_assoc, Int.mul_left_comm, Int.mul_comm]] at this)
  have := ar_some h5 v1; subst this
  exact v2
/-- A sum that no single number is equal to. -/
theorem add_not {u C y : Nat} {s t : Int} (hu : Fl.V Ieee.double u s) (hC : Fl.V Ieee.double C t) (h1 : 134217723 * 2 ^ 1175 + t.natAbs ≤ s.natAbs) (h2 : s.natAbs + t.natAbs ≤ 2 ^ 1600) (h : Ar (Ieee.double.add u C) y) (z : Nat) : ¬ Same z y := by
  obtain ⟨c, hc⟩ : ∃ c : Nat, c = 1175 := ⟨_, rfl⟩
  obtain ⟨d, hd⟩ : ∃ d : Nat, d = 1600 := ⟨_, rfl⟩
  rw [← hc] at h1
  rw [← hd] at h2
  have hp := Nat.two_pow_pos c
  obtain ⟨w, r, e1, e2, e3, e4⟩ := Fl.add_between Fl.std hu hC (m := 134217723) (k := c) (n := 1) (l := d) (by generalize 2 ^ c = P at *; omega) (by decide) (by decide) (by generalize 2 ^ c = P at *; omega) (by omega) (by
    rw [Nat.one_mul]
    exact Nat.pow_lt_pow_right (by decide) (by rw [hd]; decide))
  have := ar_some h e1; subst this
  rw [hc] at e3
  exact big_not e2 e3 z
end Go.Proofs.YtjpmpjcenajmbaaDoor
/- Single and wide orbits side by side: all runs agree on how many numbers are equal. Plain. -/
namespace Go.Proofs.YtjpmpjcenajmbaaDoor
set_option linter.unusedSimpArgs false
set_option linter.unusedVariables false
open Go.RowKit Eng
theorem pow_split {e : Nat} (c d : Nat) (he : e = c + d) : 2 ^ e = 2 ^ c * 2 ^ d := by rw [he, Nat.pow_add]
theorem apart {m j n l : Nat} (hm : m < 16777216) (hn : n < 16777216) (h : n * 2 ^ l < m * 2 ^ j) (hb : 2 ^ 249 ≤ m * 2 ^ j) : 2 ^ 225 ≤ m * 2 ^ j - n * 2 ^ l := by
  have hj : 226 ≤ j := by
    have h1 : m * 2 ^ j < 2 ^ (24 + j) := by rw [Nat.pow_add]; exact Nat.mul_lt_mul_of_pos_right (by simpa using hm) (Nat.two_pow_pos j)
    have := (Nat.pow_lt_pow_iff_right (a := 2) (by decide)).1 (Nat.lt_of_le_of_lt hb h1)
    omega
  by_cases hl : 225 ≤ l
  · have e1 : m * 2 ^ j = m * 2 ^ (j - 225) * 2 ^ 225 := by rw [Nat.mul_assoc, ← Nat.pow_add, show j - 225 + 225 = j by omega]
    have e2 : n * 2 ^ l = n * 2 ^ (l - 225) * 2 ^ 225 := by rw [Nat.mul_assoc, ← Nat.pow_add, show l - 225 + 225 = l by omega]
    rw [e1, e2] at h ⊢
    rw [← Nat.sub_mul]
    have := Nat.lt_of_mul_lt_mul_right h
    exact Nat.le_mul_of_pos_left _ (by omega)
  · have h1 : n * 2 ^ l < 2 ^ 248 := by
      have h2 : n * 2 ^ l < 2 ^ 24 * 2 ^ l := Nat.mul_lt_mul_of_pos_right (by simpa using hn) (Nat.two_pow_pos l)
      rw [← Nat.pow_add] at h2
      exact Nat.lt_of_lt_of_le h2 (Nat.pow_le_pow_right (by decide) (by omega))
    have e1 : (2 : Nat) ^ 249 = 2 * 2 ^ 248 := by rw [Nat.pow_succ, Nat.mul_comm]
    have e2 : (2 : Nat) ^ 225 ≤ 2 ^ 248 := Nat.pow_le_pow_right (by decide) (by decide)
    generalize (2 : Nat) ^ 248 = P at *
    generalize (2 : Nat) ^ 225 = Q at *
    omega
theorem sq_diff {a b : Int} : (a * a - b * b).natAbs = max a.natAbs b.natAbs * max a.natAbs b.natAbs - min a.natAbs b.natAbs * min a.natAbs b.natAbs := by
  have q1 : ((a.natAbs * a.natAbs : Nat) : Int) = a * a := Int.natAbs_mul_self
  have q2 : ((b.natAbs * b.natAbs : Nat) : Int) = b * b := Int.natAbs_mul_self
  rw [← q1, ← q2]
  generalize a.natAbs = x
  generalize b.natAbs = y
  rcases Nat.le_total x y with h | h
  · rw [Nat.max_eq_right h, Nat.min_eq_left h]
    have := Nat.mul_le_mul h h
    omega
  · rw [Nat.max_eq_left h, Nat.min_eq_right h]
    have := Nat.mul_le_mul h h
    omega
/-- Two single numbers of different sizes, one of them great: their squares are far apart. -/
theorem sq_apart {x y : Nat} {a b : Int} (hx : Fl.V Ieee.single x a) (hy : Fl.V Ieee.single y b) (hne : a.natAbs ≠ b.natAbs) (hb : 2 ^ 249 ≤ max a.natAbs b.natAbs) : 2 ^ 474 ≤ (a * a - b * b).natAbs := by
  obtain ⟨s, m, j, hu, hm, hj⟩ := Fl.V1_rep hx
  obtain ⟨t, n, l, hv, hn, hl⟩ := Fl.V1_rep hy
  have ea : a.natAbs = m * 2 ^ j := by rw [hu, Fl.sg_natAbs]
  have eb : b.natAbs = n * 2 ^ l := by rw [hv, Fl.sg_natAbs]
  rw [sq_diff]
  have hd : 2 ^ 225 ≤ max a.natAbs b.natAbs - min a.natAbs b.natAbs := by
    rcases Nat.lt_or_gt_of_ne hne with h | h
    · rw [Nat.max_eq_right (by omega), Nat.min_eq_left (by omega), ea, eb]
      rw [Nat.max_eq_right (by omega), eb] at hb
      rw [ea, eb] at h
      exact apart hn hm h hb
    · rw [Nat.max_eq_left (by omega), Nat.min_eq_right (by omega), ea, eb]
      rw [Nat.max_eq_left (by omega), ea] at hb
      rw [ea, eb] at h
      exact apart hm hn h hb
  generalize max a.natAbs b.natAbs = M at *
  generalize min a.natAbs b.natAbs = N at *
  obtain ⟨d, rfl⟩ : ∃ d, M = N + d := ⟨M - N, by
    have := Nat.two_pow_pos 225
    generalize (2 : Nat) ^ 225 = Q at *
    omega⟩
  rw [Nat.add_sub_cancel_left] at hd
  have e : (N + d) * (N + d) - N * N = d * (N + d) + N * d := by
    rw [Nat.add_mul, Nat.mul_add, Nat.mul_comm d]; omega
  rw [e]
  rw [pow_split (e := 474) 225 249 (by decide)]
  exact Nat.le_trans (Nat.mul_le_mul hd hb) (Nat.le_add_right _ _)
theorem nat_of_V {x : Nat} {a : Int} (h : Fl.V Ieee.single x a) : a.natAbs < 2 ^ 277 := by
  have h1 := V_small1 h
  have h2 : 16777215 * 2 ^ 253 < 2 ^ 24 * 2 ^ 253 := Nat.mul_lt_mul_of_pos_right (by decide) (Nat.two_pow_pos _)
  rw [pow_split (e := 277) 24 253 (by decide)]
  exact Nat.lt_of_le_of_lt h1 h2
theorem sq_lt {a b : Int} {P : Nat} (ha : a.natAbs ≤ P) (hb : b.natAbs ≤ P) : (a * a - b * b).natAbs ≤ P * P ∧ (2 * (a * b)).natAbs ≤ 2 * (P * P) := by
  constructor
  · rw [sq_diff]
    have h1 : max a.natAbs b.natAbs ≤ P := by omega
    exact Nat.le_trans (Nat.sub_le _ _) (Nat.mul_le_mul h1 h1)
  · rw [Int.natAbs_mul, Int.natAbs_mul]
    exact Nat.mul_le_mul_left 2 (Nat.mul_le_mul ha hb)
theorem twice_le {a b : Nat} (h : a + 1 ≤ b) : 2 * 2 ^ a ≤ 2 ^ b := by
  rw [Nat.mul_comm, ← Nat.pow_succ]; exact Nat.pow_le_pow_right (by decide) h
theorem pow_mono {a b : Nat} (h : a ≤ b) : 2 ^ a ≤ 2 ^ b := Nat.pow_le_pow_right (by decide) h
/-- Numbers too great for a single word, of a small c: the next numbers are not equal. -/
theorem small_part {E s : Int} {u C y : Nat} {t : Int} (hE : 4503599493152767 * 2 ^ 1150 ≤ E.natAbs) (hs : E.natAbs ≤ 2 ^ 1331) (hu : Fl.V Ieee.double u s)
    (h1 : 4503599493152767 * 2 ^ 1150 ≤ s.natAbs) (h2 : s.natAbs ≤ 2 ^ 1331) (hC : Fl.V Ieee.double C t) (ht : t.natAbs ≤ 2 ^ 1174) (h : Ar (Ieee.double.add u C) y) (z : Nat) : ¬ Same z y := by
  obtain ⟨c, hc⟩ : ∃ c : Nat, c = 1150 := ⟨_, rfl⟩
  have e1 : (2 : Nat) ^ 1175 = 2 ^ 25 * 2 ^ c := by rw [pow_split (e := 1175) 25 c (by rw [hc])]
  have e2 : (2 : Nat) ^ 1174 = 2 ^ 24 * 2 ^ c := by rw [pow_split (e := 1174) 24 c (by rw [hc])]
  rw [← hc] at h1
  rw [e2] at ht
  refine add_not hu hC ?_ ?_ h z
  · rw [e1, show (2 : Nat) ^ 25 = 33554432 by decide]
    rw [show (2 : Nat) ^ 24 = 16777216 by decide] at ht
    have hp := Nat.two_pow_pos c
    generalize 2 ^ c = P at *
    omega
  · have p3 : 2 ^ 1174 ≤ 2 ^ 1331 := pow_mono (a := 1174) (b := 1331) (by decide)
    have p4 : 2 * 2 ^ 1331 ≤ 2 ^ 1600 := twice_le (a := 1331) (b := 1600) (by decide)
    rw [← e2] at ht
    generalize 2 ^ 1174 = P at *
    generalize 2 ^ 1331 = Q at *
    omega
end Go.Proofs.YtjpmpjcenajmbaaDoor
/- Single and wide orbits side by side: all runs agree on how many numbers are equal. Plain. -/
namespace Go.Proofs.YtjpmpjcenajmbaaDoor
set_option linter.unusedSimpArgs false
set_option linter.unusedVariables false
open Go.RowKit Eng
theorem top_eq {c : Nat} (hc : c = 1150) : 33554431 * 2 ^ 1177 = 4503599493152768 * 2 ^ c := by
  rw [pow_split (e := 1177) 27 c (by rw [hc]), ← Nat.mul_assoc, show 33554431 * 2 ^ 27 = 4503599493152768 by decide]
theorem exp_dbl {l : Nat} (h : l ≤ 2000) : 1 * 2 ^ l < 2 ^ (2 ^ Ieee.double.exponentBits + Ieee.double.fractionBits - 2) := by
  rw [Nat.one_mul]
  exact Nat.pow_lt_pow_right (by decide) (by
    have : 2 ^ Ieee.double.exponentBits + Ieee.double.fractionBits - 2 = 2098 := by decide
    omega)
theorem re_over {A B A' B' u u' : Nat} {p q s : Int} (hA : Fl.V Ieee.double A p) (hB : Fl.V Ieee.double B q) (hA' : Fl.V Ieee.double A' p) (hB' : Fl.V Ieee.double B' q) (h : Ar (Ieee.double.sub A B) u) (h' : Ar (Ieee.double.sub A' B') u')
    (hu : Fl.V Ieee.double u s) (hs : 33554431 * 2 ^ 1177 ≤ s.natAbs) (hup : (p - q).natAbs ≤ 2 ^ 1331) : ∃ s', Fl.V Ieee.double u' s' ∧ 4503599493152767 * 2 ^ 1150 ≤ s'.natAbs ∧ s'.natAbs ≤ 2 ^ 1331 := by
  obtain ⟨c, hc⟩ : ∃ c : Nat, c = 1150 := ⟨_, rfl⟩
  obtain ⟨l, hl⟩ : ∃ l : Nat, l = 1331 := ⟨_, rfl⟩
  rw [top_eq hc] at hs
  rw [← hc]
  rw [← hl] at hup ⊢
  have hp := Nat.two_pow_pos c
  have hcl : 4503599493152767 * 2 ^ c ≤ 1 * 2 ^ l := by
    rw [Nat.one_mul, pow_split (e := l) 181 c (by omega)]
    exact Nat.mul_le_mul_right _ (by decide)
  by_cases h0 : (p - q).natAbs = 0
  · exfalso
    obtain ⟨z, z1, z2⟩ := Fl.V_sub Fl.std hA hB (by rw [h0]; exact ⟨⟨0, 0, by simp, by decide⟩, Nat.two_pow_pos _⟩)
    have := ar_some h z1; subst this
    have := Fl.V_unique hu z2; subst this
    rw [h0] at hs
    generalize 2 ^ c = P at *
    omega
  · have hE : 4503599493152767 * 2 ^ c ≤ (p - q).natAbs := by
      by_cases hlt : (p - q).natAbs ≤ 4503599493152767 * 2 ^ c
      · exfalso
        obtain ⟨z, r, z1, z2, -, z4⟩ := Fl.sub_between Fl.std hA hB (m := 0) (k := 0) (n := 4503599493152767) (l := c) h0 (by decide) (by decide) (by omega) hlt (Nat.lt_of_le_of_lt hcl (exp_dbl (by omega)))
        have := ar_some h z1; subst this
        have := Fl.V_unique hu z2; subst this
        generalize 2 ^ c = P at *
        omega
      · omega
    obtain ⟨z, r, z1, z2, z3, z4⟩ := Fl.sub_between Fl.std hA' hB' (m := 4503599493152767) (k := c) (n := 1) (l := l) h0 (by decide) (by decide) hE (by omega) (exp_dbl (by omega))
    have := ar_some h' z1; subst this
    exact ⟨r, z2, z3, by omega⟩
theorem up_bound {x y : Nat} {a b : Int} (hx : Fl.V Ieee.single x a) (hy : Fl.V Ieee.single y b) : (a * a * 2 ^ 776 - b * b * 2 ^ 776).natAbs ≤ 2 ^ 1330 ∧ (2 * (a * b) * 2 ^ 776).natAbs ≤ 2 ^ 1331 := by
  obtain ⟨c, hc⟩ : ∃ c : Nat, c = 776 := ⟨_, rfl⟩
  obtain ⟨d, hd⟩ : ∃ d : Nat, d = 277 := ⟨_, rfl⟩
  have h1 := Nat.le_of_lt (nat_of_V hx)
  have h2 := Nat.le_of_lt (nat_of_V hy)
  rw [← hd] at h1 h2
  rw [← hc, ← Int.sub_mul, Fl.natAbs_mul_pow, Fl.natAbs_mul_pow]
  obtain ⟨k1, k2⟩ := sq_lt h1 h2
  rw [← Nat.pow_add] at k1 k2
  constructor
  · rw [pow_split (e := 1330) (d + d) c (by omega)]
    exact Nat.mul_le_mul_right _ k1
  · rw [pow_split (e := 1331) (1 + (d + d)) c (by omega), Nat.pow_add 2 1 (d + d)]
    exact Nat.mul_le_mul_right _ k2
/-- A number too great for a single word comes up: where c is small the next numbers are not equal. -/
theorem small_next {zx zy X Y yx yy u v u' v' C D : Nat} {a b p q : Int} (hx : Fl.V Ieee.single zx a) (hy : Fl.V Ieee.single zy b) (hX : Fl.V Ieee.double X (a * 2 ^ 925)) (hY : Fl.V Ieee.double Y (b * 2 ^ 925)) (hyx : Fl.V Ieee.double yx (a * 2 ^ 925)) (hyy : Fl.V Ieee.double yy (b * 2 ^ 925))
    (hs : SqR X Y u v) (hs' : SqR yx yy u' v') (ho : (cvI .f64 u = none ∧ ¬ IsN Ieee.double u) ∨ (cvI .f64 v = none ∧ ¬ IsN Ieee.double v)) (hC : Fl.V Ieee.double C p) (hD : Fl.V Ieee.double D q) (hp : p.natAbs ≤ 2 ^ 1174) (hq : q.natAbs ≤ 2 ^ 1174)
    {x' y' : Nat} (h1 : Ar (Ieee.double.add u' C) x') (h2 : Ar (Ieee.double.add v' D) y') (z z' : Nat) : ¬ (Same z x' ∧ Same z' y') := by
  obtain ⟨⟨A, B, a1, a2, a3⟩, a4⟩ := sqS_parts hx hy hX hY hs
  obtain ⟨⟨A', B', b1, b2, b3⟩, b4⟩ := sqS_parts hx hy hyx hyy hs'
  obtain ⟨up1, up2⟩ := up_bound hx hy
  rintro ⟨g1, g2⟩
  rcases ho with ⟨o1, o2⟩ | ⟨o1, o2⟩
  · obtain ⟨s, hv⟩ := over_num o1 o2
    obtain ⟨s', k1, k2, k3⟩ := re_over a1 a2 b1 b2 a3 b3 hv (Fl.narrow_over hv o1) (Nat.le_trans up1 (pow_mono (a := 1330) (b := 1331) (by decide)))
    exact small_part k2 k3 k1 k2 k3 hC hp h1 z g1
  · have hn := Fl.narrow_over a4 o1
    obtain ⟨c, hc⟩ : ∃ c : Nat, c = 1150 := ⟨_, rfl⟩
    rw [top_eq hc] at hn
    have hn' : 4503599493152767 * 2 ^ 1150 ≤ (2 * (a * b) * 2 ^ 776).natAbs := by
      rw [← hc]
      have hp := Nat.two_pow_pos c
      generalize 2 ^ c = P at *
      omega
    exact small_part hn' up2 b4 hn' up2 hD hq h2 z' g2
/-- A great c: the second numbers are not equal. -/
theorem big_next {cx cy yx yy C D : Nat} {p q : Int} (hx : Fl.V Ieee.single cx p) (hy : Fl.V Ieee.single cy q) (hyx : Fl.V Ieee.double yx (p * 2 ^ 925)) (hyy : Fl.V Ieee.double yy (q * 2 ^ 925)) (hC : Fl.V Ieee.double C (p * 2 ^ 925)) (hD : Fl.V Ieee.double D (q * 2 ^ 925))
    (hb : 2 ^ 249 ≤ max p.natAbs q.natAbs) {x' y' : Nat} (h : StR yx yy C D x' y') (z z' : Nat) : ¬ (Same z x' ∧ Same z' y') := by
  obtain ⟨u, v, hs, h1, h2⟩ := h
  obtain ⟨⟨A, B, a1, a2, a3⟩, a4⟩ := sqS_parts hx hy hyx hyy hs
  obtain ⟨up1, up2⟩ := up_bound hx hy
  rintro ⟨g1, g2⟩
  obtain ⟨c, hc⟩ : ∃ c : Nat, c = 1200 := ⟨_, rfl⟩
  have cb : ∀ {w : Nat} {t : Int}, Fl.V Ieee.single w t → (t * 2 ^ 925).natAbs ≤ 4 * 2 ^ c := fun {w t} ht => by
    obtain ⟨d, hd⟩ : ∃ d : Nat, d = 925 := ⟨_, rfl⟩
    obtain ⟨e, he⟩ : ∃ e : Nat, e = 277 := ⟨_, rfl⟩
    have := Nat.le_of_lt (nat_of_V ht)
    rw [← he] at this
    rw [← hd, Fl.natAbs_mul_pow]
    have h2 := Nat.mul_le_mul_right (2 ^ d) this
    rw [← Nat.pow_add, show e + d = 2 + c by omega, Nat.pow_add 2 2 c] at h2
    exact h2
  have low : 134217723 * 2 ^ 1175 ≤ 4 * 2 ^ c := by
    obtain ⟨k, hk⟩ : ∃ k : Nat, k = 1175 := ⟨_, rfl⟩
    rw [← hk, pow_split (e := c) 25 k (by omega), ← Nat.mul_assoc]
    exact Nat.mul_le_mul_right _ (by decide)
  have big : ∀ {s : Int}, 8 * 2 ^ c ≤ s.natAbs → s.natAbs ≤ 2 ^ 1331 → ∀ {t : Int}, t.natAbs ≤ 4 * 2 ^ c → 134217723 * 2 ^ 1175 + t.natAbs ≤ s.natAbs ∧ s.natAbs + t.natAbs ≤ 2 ^ 1600 := fun {s} k1 k2 {t} k3 => by
    have p4 : 2 * 2 ^ 1331 ≤ 2 ^ 1600 := twice_le (a := 1331) (b := 1600) (by decide)
    generalize 2 ^ 1175 = P at *
    generalize 2 ^ c = Q at *
    generalize 2 ^ 1331 = R at *
    omega
  obtain ⟨d, hd⟩ : ∃ d : Nat, d = 776 := ⟨_, rfl⟩
  by_cases hne : p.natAbs = q.natAbs
  · -- the imaginary part
    have hm : 2 ^ 249 ≤ p.natAbs := by rw [hne] at hb ⊢; omega
    have hs : 8 * 2 ^ c ≤ (2 * (p * q) * 2 ^ 776).natAbs := by
      rw [← hd, Fl.natAbs_mul_pow, Int.natAbs_mul, Int.natAbs_mul, ← hne]
      obtain ⟨e, he⟩ : ∃ e : Nat, e = 249 := ⟨_, rfl⟩
      rw [← he] at hm
      have k1 := Nat.mul_le_mul hm hm
      have k2 : 8 * 2 ^ c ≤ 2 ^ e * 2 ^ e * 2 ^ d := by
        rw [← Nat.pow_add, ← Nat.pow_add, show (8 : Nat) = 2 ^ 3 by decide, ← Nat.pow_add]
        exact pow_mono (by omega)
      have k3 : 2 ^ e * 2 ^ e ≤ Int.natAbs 2 * (p.natAbs * p.natAbs) := Nat.le_trans k1 (Nat.le_mul_of_pos_left _ (by decide))
      exact Nat.le_trans k2 (Nat.mul_le_mul_right _ k3)
    obtain ⟨b1, b2⟩ := big hs up2 (cb hy)
    exact add_not a4 hD b1 b2 h2 z' g2
  · have hE := sq_apart hx hy hne hb
    have hE2 : 16 * 2 ^ c ≤ (p * p * 2 ^ 776 - q * q * 2 ^ 776).natAbs := by
      rw [← hd, ← Int.sub_mul, Fl.natAbs_mul_pow]
      obtain ⟨e, he⟩ : ∃ e : Nat, e = 474 := ⟨_, rfl⟩
      rw [← he] at hE
      have k2 : 16 * 2 ^ c ≤ 2 ^ e * 2 ^ d := by
        rw [← Nat.pow_add, show (16 : Nat) = 2 ^ 4 by decide, ← Nat.pow_add]
        exact pow_mono (by omega)
      exact Nat.le_trans k2 (Nat.mul_le_mul_right _ hE)
    obtain ⟨f, hf⟩ : ∃ f : Nat, f = 1331 := ⟨_, rfl⟩
    have hup : (p * p * 2 ^ 776 - q * q * 2 ^ 776).natAbs ≤ 1 * 2 ^ f := by
      rw [Nat.one_mul, hf]; exact Nat.le_trans up1 (pow_mono (a := 1330) (b := 1331) (by decide))
    have hpc := Nat.two_pow_pos c
    obtain ⟨w, r, z1, z2, z3, z4⟩ := Fl.sub_between Fl.std a1 a2 (m := 16) (k := c) (n := 1) (l := f) (by generalize 2 ^ c = Q at *; omega) (by decide) (by decide) hE2 hup (exp_dbl (by omega))
    have := ar_some a3 z1; subst this
    rw [Nat.one_mul, hf] at z4
    obtain ⟨b1, b2⟩ := big (by generalize 2 ^ c = Q at *; omega) z4 (cb hx)
    exact add_not z2 hC b1 b2 h1 z g1
end Go.Proofs.YtjpmpjcenajmbaaDoor
/- Single and wide orbits side by side: all runs agree on how many numbers are equal. Plain. -/
namespace Go.Proofs.YtjpmpjcenajmbaaDoor
set_option linter.unusedSimpArgs false
set_option linter.unusedVariables false
open Go.RowKit Eng
/-- The numbers of both orbits, so many steps of them. -/
structure AgRun (cx cy C D : Nat) (Zx Zy Yx Yy : Nat → Nat) (n : Nat) : Prop where
  c1 : ArF Ieee.double (cvI .f32 cx) C
  c2 : ArF Ieee.double (cvI .f32 cy) D
  z1 : Zx 0 = 0
  z2 : Zy 0 = 0
  y1 : Yx 0 = 0
  y2 : Yy 0 = 0
  zs : ∀ i, i < n → StS (Zx i) (Zy i) cx cy (Zx (i + 1)) (Zy (i + 1))
  ys : ∀ i, i < n → StR (Yx i) (Yy i) C D (Yx (i + 1)) (Yy (i + 1))
theorem V1_zero : Fl.V Ieee.single 0 0 := ⟨false, 0, -149, by decide, by decide, by decide⟩
theorem wide_of {z y X : Nat} {a : Int} (hz : Fl.V Ieee.single z a) (h : ArF Ieee.double (cvI .f32 z) X) : Fl.V Ieee.double X (a * 2 ^ 925) := by
  obtain ⟨X', h1, h2⟩ := widen_V hz
  rcases h with h | ⟨h, -⟩
  · rw [h1] at h; injection h with h; subst h; exact h2
  · rw [h1] at h; cases h
theorem same_num {z y : Nat} {a : Int} (h : Same z y) (hz : Fl.V Ieee.single z a) : Fl.V Ieee.double y (a * 2 ^ 925) := by
  rcases h with ⟨b, h1, h2⟩ | ⟨s, h1, -⟩
  · have := Fl.V_unique hz h1; subst this; exact h2
  · exact absurd h1 ((V_not hz).1 s)
/-- Of zero narrowing is never too great. -/
theorem zero_sq {X Y u v : Nat} (hX : ArF Ieee.double (cvI .f32 0) X) (hY : ArF Ieee.double (cvI .f32 0) Y) (h : SqR X Y u v) : (∃ p, cvI .f64 u = some p ∧ Fl.V Ieee.single p 0) ∧ ∃ q, cvI .f64 v = some q ∧ Fl.V Ieee.single q 0 := by
  have h1 := wide_of (y := 0) V1_zero hX
  have h2 := wide_of (y := 0) V1_zero hY
  obtain ⟨⟨A, B, a1, a2, a3⟩, a4⟩ := sqS_parts V1_zero V1_zero h1 h2 h
  have nar : ∀ {w : Nat}, Fl.V Ieee.double w 0 → ∃ p, cvI .f64 w = some p ∧ Fl.V Ieee.single p 0 := fun {w} hw => by
    exact Fl.V_narrow hw (by rw [Int.zero_mul, Int.zero_mul]) ⟨⟨0, 0, by simp, by decide⟩, Nat.two_pow_pos _⟩
  rw [show (2 : Int) * (0 * 0) = 0 from rfl, Int.zero_mul] at a4
  refine ⟨?_, nar a4⟩
  obtain ⟨z, z1, z2⟩ := Fl.V_sub Fl.std a1 a2 (by
    rw [Int.sub_self]
    exact ⟨⟨0, 0, by simp, by decide⟩, Nat.two_pow_pos _⟩)
  have := ar_some a3 z1; subst this
  rw [Int.sub_self] at z2
  exact nar z2
/-- The first number is c. -/
theorem first_c {cx cy p q : Nat} (h : StS 0 0 cx cy p q) : (∀ a, Fl.V Ieee.single cx a → Fl.V Ieee.single p a) ∧ ∀ a, Fl.V Ieee.single cy a → Fl.V Ieee.single q a := by
  obtain ⟨a, b, ⟨X, Y, u, v, h1, h2, h3, h4, h5⟩, h6, h7⟩ := h
  obtain ⟨⟨p', e1, e2⟩, q', e3, e4⟩ := zero_sq h1 h2 h3
  have ea : a = p' := by
    rcases h4 with h | ⟨h, -⟩
    · rw [e1] at h; injection h with h; exact h.symm
    · rw [e1] at h; cases h
  have eb : b = q' := by
    rcases h5 with h | ⟨h, -⟩
    · rw [e3] at h; injection h with h; exact h.symm
    · rw [e3] at h; cases h
  subst ea; subst eb
  have key : ∀ {x c r : Nat} {t : Int}, Fl.V Ieee.single x 0 → Fl.V Ieee.single c t → ArF Ieee.single (Ieee.single.add x c) r → Fl.V Ieee.single r t := fun {x c r t} hx hc hr => by
    obtain ⟨s, m, j, hu, hm, hj⟩ := Fl.V1_rep hc
    have hrep : Fl.Rep Ieee.single ((0 : Int) + t).natAbs := by
      rw [Int.zero_add, hu, Fl.sg_natAbs]
      refine ⟨⟨m, j, rfl, by rw [show 2 ^ (Ieee.single.fractionBits + 1) = 16777216 by decide]; exact hm⟩, ?_⟩
      have : m * 2 ^ j < 2 ^ 24 * 2 ^ j := Nat.mul_lt_mul_of_pos_right (by simpa using hm) (Nat.two_pow_pos j)
      rw [← Nat.pow_add] at this
      refine Nat.lt_of_lt_of_le this (Nat.pow_le_pow_right (by decide) ?_)
      have : 2 ^ Ieee.single.exponentBits + Ieee.single.fractionBits - 2 = 277 := by decide
      omega
    obtain ⟨z, z1, z2⟩ := Fl.V_add Fl.std1 hx hc hrep
    rw [Int.zero_add] at z2
    rcases hr with h | ⟨h, -⟩
    · rw [z1] at h; injection h with h; subst h; exact z2
    · rw [z1] at h; cases h
  exact ⟨fun t ht => key e2 ht h6, fun t ht => key e4 ht h7⟩
/-- Where narrowing finds a number too great the next numbers are not equal. -/
theorem over_next {cx cy C D : Nat} {Zx Zy Yx Yy : Nat → Nat} {k : Nat} (R : AgRun cx cy C D Zx Zy Yx Yy (k + 1)) (hS : ∀ i, i ≤ k → Same (Zx i) (Yx i) ∧ Same (Zy i) (Yy i)) {X Y u v : Nat} (hX : ArF Ieee.double (cvI .f32 (Zx k)) X) (hY : ArF Ieee.double (cvI .f32 (Zy k)) Y) (hs : SqR X Y u v)
    (ho : (cvI .f64 u = none ∧ ¬ IsN Ieee.double u) ∨ (cvI .f64 v = none ∧ ¬ IsN Ieee.double v)) : ¬ (Same (Zx (k + 1)) (Yx (k + 1)) ∧ Same (Zy (k + 1)) (Yy (k + 1))) := by
  by_cases hk : k = 0
  · exfalso
    subst hk
    rw [R.z1] at hX; rw [R.z2] at hY
    obtain ⟨⟨p', e1, -⟩, q', e3, -⟩ := zero_sq hX hY hs
    rcases ho with ⟨o, -⟩ | ⟨o, -⟩
    · rw [e1] at o; cases o
    · rw [e3] at o; cases o
  · obtain ⟨⟨a0, ha0⟩, b0, hb0⟩ := sq_num hs (by
      rcases ho with ⟨o1, o2⟩ | ⟨o1, o2⟩
      · exact .inl (over_num o1 o2)
      · exact .inr (over_num o1 o2))
    obtain ⟨a, ha, hXa⟩ := widen_num hX ⟨a0, ha0⟩
    obtain ⟨b, hb, hYb⟩ := widen_num hY ⟨b0, hb0⟩
    have hyx := same_num (hS k (Nat.le_refl _)).1 ha
    have hyy := same_num (hS k (Nat.le_refl _)).2 hb
    -- c is finite
    obtain ⟨j, rfl⟩ : ∃ j, k = j + 1 := ⟨k - 1, by omega⟩
    obtain ⟨a1, b1, -, h6, h7⟩ := R.zs j (by omega)
    obtain ⟨p, hp⟩ : ∃ p, Fl.V Ieee.single cx p := by
      rcases V_or_not Ieee.single cx with h | h
      · exact h
      · exact absurd ha (notV_add Fl.std1 (.inr h) h6 a)
    obtain ⟨q, hq⟩ : ∃ q, Fl.V Ieee.single cy q := by
      rcases V_or_not Ieee.single cy with h | h
      · exact h
      · exact absurd hb (notV_add Fl.std1 (.inr h) h7 b)
    have hC := wide_of (y := 0) hp R.c1
    have hD := wide_of (y := 0) hq R.c2
    by_cases hbig : 2 ^ 249 ≤ max p.natAbs q.natAbs
    · -- great: only at the first number
      have hst := R.zs 0 (by omega)
      rw [R.z1, R.z2] at hst
      obtain ⟨f1, f2⟩ := first_c hst
      have g1 := same_num (hS 1 (by omega)).1 (f1 p hp)
      have g2 := same_num (hS 1 (by omega)).2 (f2 q hq)
      have hn := big_next hp hq g1 g2 hC hD hbig (R.ys 1 (by omega))
      by_cases hj : j = 0
      · subst hj; exact hn _ _
      · exact absurd (hS 2 (by omega)) (hn _ _)
    · obtain ⟨u', v', k1, k2, k3⟩ := R.ys (j + 1) (by omega)
      have sm : ∀ t : Int, t.natAbs < 2 ^ 249 → (t * 2 ^ 925).natAbs ≤ 2 ^ 1174 := fun t ht => by
        obtain ⟨d, hd⟩ : ∃ d : Nat, d = 925 := ⟨_, rfl⟩
        rw [← hd, Fl.natAbs_mul_pow, pow_split (e := 1174) 249 d (by rw [hd])]
        exact Nat.mul_le_mul_right _ (Nat.le_of_lt ht)
      exact small_next ha hb hXa hYb hyx hyy hs k1 ho hC hD (sm p (by omega)) (sm q (by omega)) k2 k3 _ _
/-- How many numbers are equal, L at most. -/
def AgK (cx cy L k : Nat) : Prop := ∃ C D Zx Zy Yx Yy, AgRun cx cy C D Zx Zy Yx Yy k ∧ (∀ i, i < k → Same (Zx i) (Yx i) ∧ Same (Zy i) (Yy i)) ∧ k ≤ L ∧ (k = L ∨ ¬ (Same (Zx k) (Yx k) ∧ Same (Zy k) (Yy k)))
theorem AgRun.less {cx cy C D : Nat} {Zx Zy Yx Yy : Nat → Nat} {n m : Nat} (R : AgRun cx cy C D Zx Zy Yx Yy n) (h : m ≤ n) : AgRun cx cy C D Zx Zy Yx Yy m :=
  ⟨R.c1, R.c2, R.z1, R.z2, R.y1, R.y2, fun i hi => R.zs i (by omega), fun i hi => R.ys i (by omega)⟩
theorem cv_eqv {z X X' : Nat} (h : ArF Ieee.double (cvI .f32 z) X) (h' : ArF Ieee.double (cvI .f32 z) X') : Eqv Ieee.double X X' := by
  rcases h with h | ⟨h, k⟩
  · rcases h' with h' | ⟨h', -⟩
    · rw [h] at h'; injection h' with h'; exact .inl h'
    · rw [h] at h'; cases h'
  · rcases h' with h' | ⟨-, k'⟩
    · rw [h] at h'; cases h'
    · exact .inr ⟨k, k'⟩
theorem Eqv.same {f : Ieee.Format} {x y : Nat} (h : Eqv f x y) (hn : ¬ IsN f x) : x = y := by
  rcases h with h | ⟨h, -⟩
  · exact h
  · exact absurd h hn
theorem same_eqv {z z' y y' : Nat} (hz : Eqv Ieee.single z z') (hy : Eqv Ieee.double y y') : Same z y ↔ Same z' y' := by
  rw [← AgP_iff, ← AgP_iff, AgP_eqv hz hy]
theorem runs_agree {cx cy C D C' D' : Nat} {Zx Zy Yx Yy Zx' Zy' Yx' Yy' : Nat → Nat} : ∀ k : Nat, AgRun cx cy C D Zx Zy Yx Yy k → AgRun cx cy C' D' Zx' Zy' Yx' Yy' k →
    (∀ i, i < k → Same (Zx i) (Yx i) ∧ Same (Zy i) (Yy i)) → (∀ i, i < k → Same (Zx' i) (Yx' i) ∧ Same (Zy' i) (Yy' i)) →
    (Eqv Ieee.double (Yx k) (Yx' k) ∧ Eqv Ieee.double (Yy k) (Yy' k)) ∧ ((Eqv Ieee.single (Zx k) (Zx' k) ∧ Eqv Ieee.single (Zy k) (Zy' k)) ∨ (¬ (Same (Zx k) (Yx k) ∧ Same (Zy k) (Yy k)) ∧ ¬ (Same (Zx' k) (Yx' k) ∧ Same (Zy' k) (Yy' k))))
  | 0, R, R', _, _ => by
    rw [R.z1, R.z2, R.y1, R.y2, R'.z1, R'.z2, R'.y1, R'.y2]
    exact ⟨⟨.inl rfl, .inl rfl⟩, .inl ⟨.inl rfl, .inl rfl⟩⟩
  | k + 1, R, R', h, h' => by
    obtain ⟨⟨i1, i2⟩, i3⟩ := runs_agree k (R.less (by omega)) (R'.less (by omega)) (fun i hi => h i (by omega)) (fun i hi => h' i (by omega))
    have hk := h k (by omega)
    have hk' := h' k (by omega)
    have e1 := i1.same hk.1.num.2
    have e2 := i2.same hk.2.num.2
    obtain ⟨j1, j2⟩ := i3.resolve_right (fun hx => hx.1 hk)
    have e3 := j1.same hk.1.num.1
    have e4 := j2.same hk.2.num.1
    have cc := cv_eqv R.c1 R'.c1
    have dd := cv_eqv R.c2 R'.c2
    refine ⟨Eqv.st (.inl e1) (.inl e2) cc dd (R.ys k (by omega)) (R'.ys k (by omega)), ?_⟩
    obtain ⟨a, b, ⟨X, Y, u, v, h1, h2, h3, h4, h5⟩, h6, h7⟩ := R.zs k (by omega)
    obtain ⟨a', b', ⟨X', Y', u', v', k1, k2, k3, k4, k5⟩, k6, k7⟩ := R'.zs k (by omega)
    by_cases ho : (cvI .f64 u = none ∧ ¬ IsN Ieee.double u) ∨ (cvI .f64 v = none ∧ ¬ IsN Ieee.double v)
    · right
      rw [← e3] at k1; rw [← e4] at k2
      obtain ⟨q1, q2⟩ := (cv_eqv h1 k1).sq (cv_eqv h2 k2) h3 k3
      have ho' : (cvI .f64 u' = none ∧ ¬ IsN Ieee.double u') ∨ (cvI .f64 v' = none ∧ ¬ IsN Ieee.double v') := by
        rcases ho with ⟨o1, o2⟩ | ⟨o1, o2⟩
        · have := q1.same o2; subst this; exact .inl ⟨o1, o2⟩
        · have := q2.same o2; subst this; exact .inr ⟨o1, o2⟩
      rw [e3] at k1; rw [e4] at k2
      exact ⟨over_next R (fun i hi => h i (by omega)) h1 h2 h3 ho, over_next R' (fun i hi => h' i (by omega)) k1 k2 k3 ho'⟩
    · left
      rw [← e3] at k1; rw [← e4] at k2
      obtain ⟨q1, q2⟩ := (cv_eqv h1 k1).sq (cv_eqv h2 k2) h3 k3
      have nar : ∀ {w w' x x' : Nat}, Eqv Ieee.double w w' → Nrr w x → Nrr w' x' → ¬ (cvI .f64 w = none ∧ ¬ IsN Ieee.double w) → Eqv Ieee.single x x' := fun {w w' x x'} he n1 n2 hno => by
        rcases he with rfl | ⟨m1, m2⟩
        · rcases n1 with n1 | ⟨n1, n1'⟩
          · rcases n2 with n2 | ⟨n2, -⟩
            · rw [n1] at n2; injection n2 with n2; exact .inl n2
            · rw [n1] at n2; cases n2
          · rcases n2 with n2 | ⟨n2, n2'⟩
            · rw [n1] at n2; cases n2
            · have hw : IsN Ieee.double w := Classical.byContradiction fun hw => hno ⟨n1, hw⟩
              exact .inr ⟨n1' hw, n2' hw⟩
        · have c1 := cv_nanD m1; have c2 := cv_nanD m2
          rcases n1 with n1 | ⟨n1, n1'⟩
          · rw [c1] at n1; cases n1
          · rcases n2 with n2 | ⟨n2, n2'⟩
            · rw [c2] at n2; cases n2
            · exact .inr ⟨n1' m1, n2' m2⟩
      have r1 := nar q1 h4 k4 (fun hx => ho (.inl hx))
      have r2 := nar q2 h5 k5 (fun hx => ho (.inr hx))
      exact ⟨r1.op (nanin_add _) (.inl rfl) h6 k6, r2.op (nanin_add _) (.inl rfl) h7 k7⟩
/-- All runs tell the same number. -/
theorem AgK_one {cx cy L k k' : Nat} (h : AgK cx cy L k) (h' : AgK cx cy L k') : k = k' := by
  have key : ∀ {k k' : Nat}, AgK cx cy L k → AgK cx cy L k' → ¬ k < k' := fun {k k'} h h' hlt => by
    obtain ⟨C, D, Zx, Zy, Yx, Yy, R, hS, hk, hx⟩ := h
    obtain ⟨C', D', Zx', Zy', Yx', Yy', R', hS', hk', hx'⟩ := h'
    have hno := hx.resolve_left (by omega)
    obtain ⟨⟨y1, y2⟩, hz⟩ := runs_agree k R (R'.less (by omega)) hS (fun i hi => hS' i (by omega))
    have hyes := hS' k hlt
    rcases hz with ⟨z1, z2⟩ | ⟨-, hz⟩
    · exact hno ⟨(same_eqv z1 y1).2 hyes.1, (same_eqv z2 y2).2 hyes.2⟩
    · exact hz hyes
  rcases Nat.lt_trichotomy k k' with h1 | h1 | h1
  · exact absurd h1 (key h h')
  · exact h1
  · exact absurd h1 (key h' h)
end Go.Proofs.YtjpmpjcenajmbaaDoor
