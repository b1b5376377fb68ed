/- A word of an exact number is read back. -/
import Derived.Test.YtgnkjfafgcbpbaaDoorFe2
namespace Go.Proofs.YtgnkjfafgcbpbaaDoor
set_option linter.unusedSimpArgs false
set_option linter.unusedVariables false
open Go.RowKit Eng
theorem pow_cancel {a b : Int} {j k : Nat} (h : a * 2 ^ j = b * 2 ^ k) (hb : b % 2 = 1) : ∃ u : Nat, k = j + u ∧ a = b * 2 ^ u := by
  by_cases hk : j ≤ k
  · obtain ⟨u, rfl⟩ : ∃ u, k = j + u := ⟨k - j, by omega⟩
    refine ⟨u, rfl, ?_⟩
    rw [Int.pow_add, ← Int.mul_assoc, Int.mul_right_comm] at h
    exact Int.eq_of_mul_eq_mul_right (by have := pos2 j; omega) h
  · exfalso
    obtain ⟨u, rfl⟩ : ∃ u, j = k + (u + 1) := ⟨j - k - 1, by omega⟩
    rw [Int.pow_add, ← Int.mul_assoc, Int.mul_right_comm] at h
    have h2 := Int.eq_of_mul_eq_mul_right (by have := pos2 k; omega) h
    rw [Int.pow_succ, ← Int.mul_assoc] at h2
    omega
theorem sp_dw {n s : Int} (h0 : n ≠ 0) (hn : n.natAbs ≤ 1073741824) (hs : 0 ≤ s ∧ s ≤ 60) : ∃ u : Nat, SPp (DWi n s) + s = u ∧ n = SPo (DWi n s) * 2 ^ u ∧ SPo (DWi n s) % 2 = 1 := by
  obtain ⟨hN, hf, hw⟩ := Fl.DWn_nrm (n := n) (s := s.toNat) h0 (by omega) (by omega)
  have hv := Fl.V_unique (Fl.V_nrm hN) (Fl.V_DWn (n := n) (s := s.toNat) (by omega) (by omega))
  have hf0 : ¬ Fl.fld (Fl.DWn n s.toNat) = 0 := by have := hN.lo; omega
  have hd : dig (DWi n s) = (Fl.mant (Fl.DWn n s.toNat) : Nat) := by
    unfold dig DWi; rw [Int.toNat_natCast, if_neg hf0]; unfold Fl.mant; omega
  have hp : dpw (DWi n s) = (Fl.fld (Fl.DWn n s.toNat) : Nat) - 1075 := by
    unfold dpw DWi; rw [Int.toNat_natCast, if_neg hf0]
  have hng : (DWi n s / 9223372036854775808 = 1) ↔ Fl.neg (Fl.DWn n s.toNat) = true := by
    unfold DWi Fl.neg; rw [beq_iff_eq]; omega
  have hm1 : (1 : Int) ≤ (Fl.mant (Fl.DWn n s.toNat) : Nat) := by unfold Fl.mant; omega
  have hm2 : ((Fl.mant (Fl.DWn n s.toNat) : Nat) : Int) ≤ 18446744073709551615 := by unfold Fl.mant; omega
  have hlo := hN.lo
  generalize DWi n s = W at *
  generalize Fl.DWn n s.toNat = b at *
  obtain ⟨m, hm, hq⟩ := tz_split (Fl.mant b) (Fl.mant b : Nat) (by omega) hm1 hm2
  have t0 := tz_nonneg ((Fl.mant b : Nat) : Int)
  obtain ⟨t, ht⟩ : ∃ t : Nat, tz ((Fl.mant b : Nat) : Int) = t := ⟨(tz ((Fl.mant b : Nat) : Int)).toNat, by omega⟩
  rw [ht, Int.toNat_natCast] at hq
  have hodd : ((Fl.mant b : Nat) : Int) / 2 ^ t = 2 * m + 1 := by
    rw [hq]; exact Int.mul_ediv_cancel_left _ (by have := pos2 t; omega)
  have hSo : SPo W = if Fl.neg b = true then -(2 * m + 1) else 2 * m + 1 := by
    unfold SPo
    rw [hd, if_neg (by omega), ht, Int.toNat_natCast, hodd]
    by_cases hg : Fl.neg b = true
    · rw [if_pos (hng.2 hg), if_pos hg]
    · rw [if_neg (fun h => hg (hng.1 h)), if_neg hg]
  have hSp : SPp W = (Fl.fld b : Nat) - 1075 + t := by
    unfold SPp; rw [hd, if_neg (by omega), hp, ht]
  have e : n * 2 ^ (1074 - s.toNat) = SPo W * 2 ^ (t + (Fl.fld b - 1)) := by
    rw [← hv]
    unfold Fl.vN Fl.sg
    rw [hSo]
    have c : ((Fl.mant b * 2 ^ (Fl.fld b - 1) : Nat) : Int) = (2 * m + 1) * 2 ^ (t + (Fl.fld b - 1)) := by
      rw [Fl.cast_mul_pow, hq, Int.pow_add, ← Int.mul_assoc, Int.mul_comm (2 ^ t)]
    cases hg : Fl.neg b
    · simp only [Bool.false_eq_true, if_false]; exact c
    · simp only [if_true]; rw [c, Int.neg_mul]
  have hodd2 : SPo W % 2 = 1 := by rw [hSo]; split <;> omega
  obtain ⟨u, hu1, hu2⟩ := pow_cancel e hodd2
  exact ⟨u, by omega, hu2, hodd2⟩
theorem sp_zero (s : Int) : SPo (DWi 0 s) = 0 ∧ SPp (DWi 0 s) = 0 := by
  have : DWi 0 s = 0 := rfl
  rw [this]; exact ⟨rfl, rfl⟩
theorem dwi_fin {n s : Int} (hn : n.natAbs ≤ 1073741824) (hs : 0 ≤ s ∧ s ≤ 60) : finw (DWi n s) = true := by
  by_cases h0 : n = 0
  · subst h0
    rw [show DWi 0 s = 0 from rfl]; decide
  · obtain ⟨hN, -, -⟩ := Fl.DWn_nrm (n := n) (s := s.toNat) h0 (by omega) (by omega)
    have := hN.lt; have := hN.hi
    unfold finw DWi
    simp only [Bool.and_eq_true, decide_eq_true_eq, Int.toNat_natCast]; omega
theorem rp_ok {n o : Int} {u : Nat} (hn : n.natAbs ≤ 1073741824) (ho : o % 2 = 1) (h : n = o * 2 ^ u) : RPok o u = true ∧ u ≤ 30 := by
  have hp := pos2 u
  have ha : n.natAbs = o.natAbs * 2 ^ u := by rw [h, Int.natAbs_mul, Int.natAbs_pow]; rfl
  have hu : u ≤ 30 := by
    by_cases hc : u ≤ 30
    · exact hc
    · exfalso
      have h1 : 2 ^ 31 ≤ 2 ^ u := Nat.pow_le_pow_right (by decide) (by omega)
      have h2 : 1 * 2 ^ u ≤ o.natAbs * 2 ^ u := Nat.mul_le_mul_right _ (by omega)
      omega
  refine ⟨?_, hu⟩
  have hq : (o.natAbs : Int) ≤ 1073741824 / 2 ^ u := by
    rw [Int.le_ediv_iff_mul_le hp]
    have : ((o.natAbs * 2 ^ u : Nat) : Int) = (o.natAbs : Int) * 2 ^ u := Fl.cast_mul_pow _ _
    omega
  unfold RPok
  rw [Int.toNat_natCast, decide_eq_true (show (u : Int) ≤ 30 by omega), decide_eq_true (show -(1073741824 / 2 ^ u) ≤ o by omega), decide_eq_true (show o ≤ 1073741824 / 2 ^ u by omega)]
  simp
/-- A valid number is read back from its words. -/
theorem read_back {r i s : Int} (h : DV r i s = true) : DOk (DWi r s) (DWi i s) = true ∧ DOr (DWi r s) (DWi i s) = r ∧ DOi (DWi r s) (DWi i s) = i ∧ DOs (DWi r s) (DWi i s) = s := by
  obtain ⟨h1, h2, h3⟩ := dv_rngF h
  obtain ⟨_, _, _, _, _, _, hlow⟩ := (DV_iff r i s).1 h
  have part : ∀ n : Int, n.natAbs ≤ 1073741824 → -SPp (DWi n s) ≤ s ∧ (n % 2 = 1 → -SPp (DWi n s) = s) ∧ RPok (SPo (DWi n s)) (SPp (DWi n s) + s) = true ∧ SPo (DWi n s) * 2 ^ (SPp (DWi n s) + s).toNat = n := by
    intro n hn
    by_cases h0 : n = 0
    · subst h0
      obtain ⟨e1, e2⟩ := sp_zero s
      rw [e1, e2]
      exact ⟨by omega, by omega, rfl, by simp⟩
    · obtain ⟨u, u1, u2, u3⟩ := sp_dw h0 hn h3
      obtain ⟨r1, r2⟩ := rp_ok hn u3 u2
      rw [u1, Int.toNat_natCast]
      refine ⟨by omega, fun ho => ?_, r1, u2.symm⟩
      cases u with
      | zero => omega
      | succ v =>
        exfalso
        rw [Int.pow_succ, ← Int.mul_assoc] at u2
        omega
  obtain ⟨a1, a2, a3, a4⟩ := part r (by omega)
  obtain ⟨b1, b2, b3, b4⟩ := part i (by omega)
  have hS : DOs (DWi r s) (DWi i s) = s := by
    unfold DOs
    rcases hlow with e | e | e
    · omega
    · have := a2 (by omega); omega
    · have := b2 (by omega); omega
  have hR : DOr (DWi r s) (DWi i s) = r := by unfold DOr; rw [hS]; exact a4
  have hI : DOi (DWi r s) (DWi i s) = i := by unfold DOi; rw [hS]; exact b4
  refine ⟨?_, hR, hI, hS⟩
  obtain ⟨l1, l2, l3⟩ := l_norm r i s h
  unfold DOk
  rw [hS, hR, hI, a3, b3, decide_eq_true h3.2]
  unfold MK
  rw [l1, l2, l3, h, (MKr_iff r i s).2 ⟨by omega, by omega, by omega, by omega, by omega, by omega⟩]; rfl
end Go.Proofs.YtgnkjfafgcbpbaaDoor
