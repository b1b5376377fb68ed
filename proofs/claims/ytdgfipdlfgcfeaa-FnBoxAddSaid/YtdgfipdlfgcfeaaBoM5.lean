/- Sums of numbers in steps. No program in sight. -/
import Derived.Test.YtdgfipdlfgcfeaaBoM3
import Derived.Test.YtdgfipdlfgcfeaaBo6
namespace Go.Proofs.Ytdgfipdlfgcfeaa
set_option linter.unusedSimpArgs false
set_option linter.unusedVariables false
variable {pv : Int → Int → Int}

theorem pow_split {a b : Int} {m : Nat} (h : a = b + m) (hb : 0 ≤ b) (ha : a ≤ 24) : (2 : Int) ^ (24 - b).toNat = 2 ^ m * 2 ^ (24 - a).toNat := by
  rw [← Int.pow_add]; congr 1; omega
theorem add_made' {x y u v r i s p q t : Int} {m1 m2 : Nat} (e1 : 24 = s + m1) (e2 : x = r * 2 ^ m1) (e3 : y = i * 2 ^ m1) (h0 : 0 ≤ s) (k1 : 24 = t + m2) (k2 : u = p * 2 ^ m2) (k3 : v = q * 2 ^ m2) (t0 : 0 ≤ t)
    (hd1 : DV r i s = true) (hd2 : DV p q t = true) (hx : (x + u).natAbs ≤ 1073741824) (hy : (y + v).natAbs ≤ 1073741824) :
    ADD r i s p q t = true ∧ ∃ m : Nat, max s t = lS (AP r s p t) (AP i s q t) (max s t) + m ∧ 0 ≤ lS (AP r s p t) (AP i s q t) (max s t) ∧ max s t ≤ 24 ∧ DV (lR (AP r s p t) (AP i s q t) (max s t)) (lI (AP r s p t) (AP i s q t) (max s t)) (lS (AP r s p t) (AP i s q t) (max s t)) = true ∧
      lR (AP r s p t) (AP i s q t) (max s t) * 2 ^ m * 2 ^ (24 - max s t).toNat = x + u ∧ lI (AP r s p t) (AP i s q t) (max s t) * 2 ^ m * 2 ^ (24 - max s t).toNat = y + v := by
  have hM0 : 0 ≤ max s t := by omega
  have hM1 : max s t ≤ 24 := by omega
  have p1 : (2 : Int) ^ m1 = 2 ^ (max s t - s).toNat * 2 ^ (24 - max s t).toNat := by rw [← Int.pow_add]; congr 1; omega
  have p2 : (2 : Int) ^ m2 = 2 ^ (max s t - t).toNat * 2 ^ (24 - max s t).toNat := by rw [← Int.pow_add]; congr 1; omega
  have a1 : AP r s p t * 2 ^ (24 - max s t).toNat = x + u := by
    unfold AP; rw [Int.add_mul, Int.mul_assoc, Int.mul_assoc, ← p1, ← p2, ← e2, ← k2]
  have a2 : AP i s q t * 2 ^ (24 - max s t).toNat = y + v := by
    unfold AP; rw [Int.add_mul, Int.mul_assoc, Int.mul_assoc, ← p1, ← p2, ← e3, ← k3]
  have b1 : (AP r s p t).natAbs ≤ (x + u).natAbs := by rw [← a1, abs_mul_pow]; exact le_mul_pow _ _
  have b2 : (AP i s q t).natAbs ≤ (y + v).natAbs := by rw [← a2, abs_mul_pow]; exact le_mul_pow _ _
  obtain ⟨m, o1, o2, o3, o4⟩ := l_spec (AP r s p t) (AP i s q t) (max s t) hM0
  obtain ⟨w1, w2, w3⟩ := l_le (AP r s p t) (AP i s q t) (max s t) hM0
  have w4 := lS_nonneg (AP r s p t) (AP i s q t) (max s t)
  have w5 : (lR (AP r s p t) (AP i s q t) (max s t)).natAbs ≤ 1073741824 := Nat.le_trans w1 (Nat.le_trans b1 hx)
  have w6 : (lI (AP r s p t) (AP i s q t) (max s t)).natAbs ≤ 1073741824 := Nat.le_trans w2 (Nat.le_trans b2 hy)
  have w7 : lS (AP r s p t) (AP i s q t) (max s t) ≤ 60 := Int.le_trans w3 (by omega)
  have hd3 : DV (lR (AP r s p t) (AP i s q t) (max s t)) (lI (AP r s p t) (AP i s q t) (max s t)) (lS (AP r s p t) (AP i s q t) (max s t)) = true := by
    clear a1 a2 b1 b2 o1 o2 o3 e2 e3 k2 k3 p1 p2
    exact (DV_iff _ _ _).2 ⟨by omega, by omega, by omega, by omega, w4, w7, o4⟩
  refine ⟨by unfold ADD; rw [hd1, hd2, hd3]; rfl, m, o1, w4, hM1, hd3, ?_, ?_⟩
  · rw [← o2, a1]
  · rw [← o3, a2]
theorem made_dv {x y : Int} (hx : -134217728 ≤ x ∧ x ≤ 134217728) (hy : -134217728 ≤ y ∧ y ≤ 134217728) : DV (lR x y 24) (lI x y 24) (lS x y 24) = true := by
  obtain ⟨m1, e1, e2, e3, e4⟩ := l_spec x y 24 (by decide)
  obtain ⟨g1, g2, g3⟩ := l_le x y 24 (by decide)
  have g4 := lS_nonneg x y 24
  clear e1 e2 e3
  exact (DV_iff _ _ _).2 ⟨by omega, by omega, by omega, by omega, by omega, by omega, e4⟩
/-- Two numbers made of steps have a sum, and a box has it if its steps lie in the box. -/
theorem add_made {x y u v : Int} (hx : -134217728 ≤ x ∧ x ≤ 134217728) (hy : -134217728 ≤ y ∧ y ≤ 134217728) (hu : -134217728 ≤ u ∧ u ≤ 134217728) (hv : -134217728 ≤ v ∧ v ≤ 134217728) :
    ADD (lR x y 24) (lI x y 24) (lS x y 24) (lR u v 24) (lI u v 24) (lS u v 24) = true ∧ ∀ a b c d, BV a b c d = true →
      BH a b c d (FI pv 5 0 [lR x y 24, lI x y 24, lS x y 24, lR u v 24, lI u v 24, lS u v 24]) (FI pv 5 1 [lR x y 24, lI x y 24, lS x y 24, lR u v 24, lI u v 24, lS u v 24]) (FI pv 5 2 [lR x y 24, lI x y 24, lS x y 24, lR u v 24, lI u v 24, lS u v 24]) = (SW (x + u) (x + u) a b && SW (y + v) (y + v) c d) := by
  obtain ⟨m1, e1, e2, e3, -⟩ := l_spec x y 24 (by decide)
  obtain ⟨m2, k1, k2, k3, -⟩ := l_spec u v 24 (by decide)
  obtain ⟨hA, m, o1, w4, hM1, hd3, c1, c2⟩ := add_made' e1 e2 e3 (lS_nonneg x y 24) k1 k2 k3 (lS_nonneg u v 24) (made_dv hx hy) (made_dv hu hv) (by clear e2 e3 k2 k3; omega) (by clear e2 e3 k2 k3; omega)
  refine ⟨hA, fun a b c d hq => ?_⟩
  have f0 : FI pv 5 0 [lR x y 24, lI x y 24, lS x y 24, lR u v 24, lI u v 24, lS u v 24] = lR (AP (lR x y 24) (lS x y 24) (lR u v 24) (lS u v 24)) (AP (lI x y 24) (lS x y 24) (lI u v 24) (lS u v 24)) (max (lS x y 24) (lS u v 24)) := if_pos hA
  have f1 : FI pv 5 1 [lR x y 24, lI x y 24, lS x y 24, lR u v 24, lI u v 24, lS u v 24] = lI (AP (lR x y 24) (lS x y 24) (lR u v 24) (lS u v 24)) (AP (lI x y 24) (lS x y 24) (lI u v 24) (lS u v 24)) (max (lS x y 24) (lS u v 24)) := if_pos hA
  have f2 : FI pv 5 2 [lR x y 24, lI x y 24, lS x y 24, lR u v 24, lI u v 24, lS u v 24] = lS (AP (lR x y 24) (lS x y 24) (lR u v 24) (lS u v 24)) (AP (lI x y 24) (lS x y 24) (lI u v 24) (lS u v 24)) (max (lS x y 24) (lS u v 24)) := if_pos hA
  rw [f0, f1, f2]
  clear f0 f1 f2 hA e1 e2 e3 k1 k2 k3
  have hp := pow_split o1 w4 hM1
  rw [Int.mul_assoc, ← hp] at c1 c2
  unfold BH
  rw [hq, hd3, FL_le _ w4 (by omega), CE_le _ w4 (by omega), FL_le _ w4 (by omega), CE_le _ w4 (by omega), c1, c2]
  rfl
end Go.Proofs.Ytdgfipdlfgcfeaa
