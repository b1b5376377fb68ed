/- Exact orbits stay in the boxes' orbits. No program in sight. -/
import Derived.Test.YthggppjdapmgdaaBoM6
namespace Go.Proofs.Ythggppjdapmgdaa
set_option linter.unusedSimpArgs false
set_option linter.unusedVariables false
open Go.RowKit

theorem pow_add' {M s : Int} (hs : 0 ≤ s) (h : s ≤ M) : (2 : Int) ^ M.toNat = 2 ^ s.toNat * 2 ^ (M - s).toNat := by
  rw [← Int.pow_add]; congr 1; omega
theorem le_scale {a Q r k : Int} (hk : 0 < k) (h : a * Q ≤ r * 16777216) : a * (Q * k) ≤ r * k * 16777216 := by
  have := Int.mul_le_mul_of_nonneg_right h (Int.le_of_lt hk)
  have e1 : a * Q * k = a * (Q * k) := Int.mul_assoc _ _ _
  have e2 : r * 16777216 * k = r * k * 16777216 := by rw [Int.mul_assoc, Int.mul_comm 16777216 k, ← Int.mul_assoc]
  omega
theorem le_scale' {b Q r k : Int} (hk : 0 < k) (h : r * 16777216 ≤ b * Q) : r * k * 16777216 ≤ b * (Q * k) := by
  have := Int.mul_le_mul_of_nonneg_right h (Int.le_of_lt hk)
  have e1 : b * Q * k = b * (Q * k) := Int.mul_assoc _ _ _
  have e2 : r * 16777216 * k = r * k * 16777216 := by rw [Int.mul_assoc, Int.mul_comm 16777216 k, ← Int.mul_assoc]
  omega
/-- The sum lies in the sum of the boxes. -/
theorem add_in {a b c d x y z u r i s p q t : Int} (h : BH a b c d r i s = true) (h' : BH x y z u p q t = true) (hb : ADB a b c d x y z u = true) (hd : ADD r i s p q t = true) :
    BH (a + x) (b + y) (c + z) (d + u) (lR (AP r s p t) (AP i s q t) (max s t)) (lI (AP r s p t) (AP i s q t) (max s t)) (lS (AP r s p t) (AP i s q t) (max s t)) = true := by
  obtain ⟨v1, v2, h1, h2, h3, h4⟩ := (BH_iff _ _ _ _ _ _ _).1 h
  obtain ⟨w1, w2, k1, k2, k3, k4⟩ := (BH_iff _ _ _ _ _ _ _).1 h'
  obtain ⟨a1, a2, a3, a4, a5, a6, -⟩ := (DV_iff _ _ _).1 v2
  obtain ⟨b1, b2, b3, b4, b5, b6, -⟩ := (DV_iff _ _ _).1 w2
  unfold ADB at hb
  simp only [Bool.and_eq_true] at hb
  unfold ADD at hd
  simp only [Bool.and_eq_true] at hd
  have hM : 0 ≤ max s t := by omega
  obtain ⟨m, e1, e2, e3, -⟩ := l_spec (AP r s p t) (AP i s q t) (max s t) hM
  have hl := lS_nonneg (AP r s p t) (AP i s q t) (max s t)
  have hP : (2 : Int) ^ (max s t).toNat = 2 ^ (lS (AP r s p t) (AP i s q t) (max s t)).toNat * 2 ^ m := by rw [← Int.pow_add]; congr 1; omega
  have ps := pow_add' a5 (show s ≤ max s t by omega)
  have pt := pow_add' b5 (show t ≤ max s t by omega)
  have q1 := pos2 (max s t - s).toNat; have q2 := pos2 (max s t - t).toNat
  refine (BH_iff _ _ _ _ _ _ _).2 ⟨hb.2, hd.2, ?_, ?_, ?_, ?_⟩
  · refine lowterm (pos2 m) e2.symm ?_
    rw [← hP, Int.add_mul]
    have l1 := le_scale q1 h1; have l2 := le_scale q2 k1
    rw [← ps] at l1; rw [← pt] at l2
    unfold AP; omega
  · refine lowterm' (pos2 m) e2.symm ?_
    rw [← hP, Int.add_mul]
    have l1 := le_scale' q1 h2; have l2 := le_scale' q2 k2
    rw [← ps] at l1; rw [← pt] at l2
    unfold AP; omega
  · refine lowterm (pos2 m) e3.symm ?_
    rw [← hP, Int.add_mul]
    have l1 := le_scale q1 h3; have l2 := le_scale q2 k3
    rw [← ps] at l1; rw [← pt] at l2
    unfold AP; omega
  · refine lowterm' (pos2 m) e3.symm ?_
    rw [← hP, Int.add_mul]
    have l1 := le_scale' q1 h4; have l2 := le_scale' q2 k4
    rw [← ps] at l1; rw [← pt] at l2
    unfold AP; omega
theorem olen_ook (a b c : Int) : ∀ (n j k : Nat), k + 1 < olen a b c n j → j ≤ k → ook a b c k = true
  | 0, j, k, h, hj => by simp only [olen] at h; omega
  | n + 1, j, k, h, hj => by
    unfold olen at h
    split at h
    · rename_i ho
      by_cases e : k = j
      · rw [e]; exact ho
      · exact olen_ook a b c n (j + 1) k h (by omega)
    · omega
theorem blen_bok (a b c d : Int) : ∀ (n j k : Nat), k + 1 < blen a b c d n j → j ≤ k → bok a b c d k = true
  | 0, j, k, h, hj => by simp only [blen] at h; omega
  | n + 1, j, k, h, hj => by
    unfold blen at h
    split at h
    · rename_i ho
      by_cases e : k = j
      · rw [e]; exact ho
      · exact blen_bok a b c d n (j + 1) k h (by omega)
    · omega
/-- Exact orbits stay in the boxes' orbits. -/
theorem oz_in {a b c d r i s : Int} (h : BH a b c d r i s = true) : ∀ k : Nat, (∀ j, j < k → ook r i s j = true) → (∀ j, j < k → bok a b c d j = true) → BH (bz a b c d k).1 (bz a b c d k).2.1 (bz a b c d k).2.2.1 (bz a b c d k).2.2.2 (oz r i s k).1 (oz r i s k).2.1 (oz r i s k).2.2 = true
  | 0, _, _ => show BH 0 0 0 0 0 0 0 = true by decide
  | k + 1, h1, h2 => by
    have ih := oz_in h k (fun j hj => h1 j (by omega)) (fun j hj => h2 j (by omega))
    have g1 := h1 k (by omega)
    have g2 := h2 k (by omega)
    unfold ook at g1
    unfold bok at g2
    simp only [Bool.and_eq_true] at g1 g2
    have q := sq_in ih g2.1 g1.1
    have eq0 : qq0 (bz a b c d k).1 (bz a b c d k).2.1 (bz a b c d k).2.2.1 (bz a b c d k).2.2.2 = sq0 (bz a b c d k).1 (bz a b c d k).2.1 (bz a b c d k).2.2.1 (bz a b c d k).2.2.2 := if_pos g2.1
    have eq1 : qq1 (bz a b c d k).1 (bz a b c d k).2.1 (bz a b c d k).2.2.1 (bz a b c d k).2.2.2 = sq1 (bz a b c d k).1 (bz a b c d k).2.1 (bz a b c d k).2.2.1 (bz a b c d k).2.2.2 := if_pos g2.1
    have eq2 : qq2 (bz a b c d k).1 (bz a b c d k).2.1 (bz a b c d k).2.2.1 (bz a b c d k).2.2.2 = sq2 (bz a b c d k).1 (bz a b c d k).2.1 (bz a b c d k).2.2.1 (bz a b c d k).2.2.2 := if_pos g2.1
    have eq3 : qq3 (bz a b c d k).1 (bz a b c d k).2.1 (bz a b c d k).2.2.1 (bz a b c d k).2.2.2 = sq3 (bz a b c d k).1 (bz a b c d k).2.1 (bz a b c d k).2.2.1 (bz a b c d k).2.2.2 := if_pos g2.1
    have ed0 : dq0 (oz r i s k).1 (oz r i s k).2.1 (oz r i s k).2.2 = lR (SR (oz r i s k).1 (oz r i s k).2.1) (SI (oz r i s k).1 (oz r i s k).2.1) (2 * (oz r i s k).2.2) := if_pos g1.1
    have ed1 : dq1 (oz r i s k).1 (oz r i s k).2.1 (oz r i s k).2.2 = lI (SR (oz r i s k).1 (oz r i s k).2.1) (SI (oz r i s k).1 (oz r i s k).2.1) (2 * (oz r i s k).2.2) := if_pos g1.1
    have ed2 : dq2 (oz r i s k).1 (oz r i s k).2.1 (oz r i s k).2.2 = lS (SR (oz r i s k).1 (oz r i s k).2.1) (SI (oz r i s k).1 (oz r i s k).2.1) (2 * (oz r i s k).2.2) := if_pos g1.1
    rw [← eq0, ← eq1, ← eq2, ← eq3, ← ed0, ← ed1, ← ed2] at q
    have w := add_in q h g2.2 g1.2
    show BH (aa0 (qq0 (bz a b c d k).1 (bz a b c d k).2.1 (bz a b c d k).2.2.1 (bz a b c d k).2.2.2) (qq1 (bz a b c d k).1 (bz a b c d k).2.1 (bz a b c d k).2.2.1 (bz a b c d k).2.2.2) (qq2 (bz a b c d k).1 (bz a b c d k).2.1 (bz a b c d k).2.2.1 (bz a b c d k).2.2.2) (qq3 (bz a b c d k).1 (bz a b c d k).2.1 (bz a b c d k).2.2.1 (bz a b c d k).2.2.2) a b c d) (aa1 (qq0 (bz a b c d k).1 (bz a b c d k).2.1 (bz a b c d k).2.2.1 (bz a b c d k).2.2.2) (qq1 (bz a b c d k).1 (bz a b c d k).2.1 (bz a b c d k).2.2.1 (bz a b c d k).2.2.2) (qq2 (bz a b c d k).1 (bz a b c d k).2.1 (bz a b c d k).2.2.1 (bz a b c d k).2.2.2) (qq3 (bz a b c d k).1 (bz a b c d k).2.1 (bz a b c d k).2.2.1 (bz a b c d k).2.2.2) a b c d) (aa2 (qq0 (bz a b c d k).1 (bz a b c d k).2.1 (bz a b c d k).2.2.1 (bz a b c d k).2.2.2) (qq1 (bz a b c d k).1 (bz a b c d k).2.1 (bz a b c d k).2.2.1 (bz a b c d k).2.2.2) (qq2 (bz a b c d k).1 (bz a b c d k).2.1 (bz a b c d k).2.2.1 (bz a b c d k).2.2.2) (qq3 (bz a b c d k).1 (bz a b c d k).2.1 (bz a b c d k).2.2.1 (bz a b c d k).2.2.2) a b c d) (aa3 (qq0 (bz a b c d k).1 (bz a b c d k).2.1 (bz a b c d k).2.2.1 (bz a b c d k).2.2.2) (qq1 (bz a b c d k).1 (bz a b c d k).2.1 (bz a b c d k).2.2.1 (bz a b c d k).2.2.2) (qq2 (bz a b c d k).1 (bz a b c d k).2.1 (bz a b c d k).2.2.1 (bz a b c d k).2.2.2) (qq3 (bz a b c d k).1 (bz a b c d k).2.1 (bz a b c d k).2.2.1 (bz a b c d k).2.2.2) a b c d)
      (da0 (dq0 (oz r i s k).1 (oz r i s k).2.1 (oz r i s k).2.2) (dq1 (oz r i s k).1 (oz r i s k).2.1 (oz r i s k).2.2) (dq2 (oz r i s k).1 (oz r i s k).2.1 (oz r i s k).2.2) r i s) (da1 (dq0 (oz r i s k).1 (oz r i s k).2.1 (oz r i s k).2.2) (dq1 (oz r i s k).1 (oz r i s k).2.1 (oz r i s k).2.2) (dq2 (oz r i s k).1 (oz r i s k).2.1 (oz r i s k).2.2) r i s) (da2 (dq0 (oz r i s k).1 (oz r i s k).2.1 (oz r i s k).2.2) (dq1 (oz r i s k).1 (oz r i s k).2.1 (oz r i s k).2.2) (dq2 (oz r i s k).1 (oz r i s k).2.1 (oz r i s k).2.2) r i s) = true
    unfold aa0 aa1 aa2 aa3 da0 da1 da2
    rw [if_pos g2.2, if_pos g2.2, if_pos g2.2, if_pos g2.2, if_pos g1.2, if_pos g1.2, if_pos g1.2]
    exact w
end Go.Proofs.Ythggppjdapmgdaa
