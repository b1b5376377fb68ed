import Derived.Test.YtjbpaejjpamcpaaMSq
import Derived.Test.YtjbpaejjpamcpaaMSr
/- All points of the cardioid and the disc that are asked for have been looked at. Plain Lean. -/
namespace Go.Proofs.Ytjbpaejjpamcpaa
set_option linter.unusedSimpArgs false
set_option linter.unusedVariables false
namespace Sp
theorem cols_get {i j m n i2 j2 : Nat} (h : cols i j m n = true) (l k : Nat) (hl : l < m) (hk : k < n) (e1 : i + 8 * l = i2) (e2 : j + 8 * k = j2) : ok i2 j2 = true := by
  subst e1; subst e2; exact cols_ok i j n m h l hl k hk
theorem allA (I J : Nat) (h1 : 176 ≤ I) (h2 : I ≤ 280) (h3 : 256 ≤ J) (h4 : J ≤ 320) : ok (8 * I + 0) (8 * J + 0) = true := by
  rcases Nat.lt_or_ge I 193 with k | k
  · exact cols_get rA_176 (I - 176) (J - 256) (by omega) (by omega) (by omega) (by omega)
  rcases Nat.lt_or_ge I 211 with k | k
  · exact cols_get rA_193 (I - 193) (J - 256) (by omega) (by omega) (by omega) (by omega)
  rcases Nat.lt_or_ge I 249 with k | k
  · exact cols_get rA_211 (I - 211) (J - 256) (by omega) (by omega) (by omega) (by omega)
  exact cols_get rA_249 (I - 249) (J - 256) (by omega) (by omega) (by omega) (by omega)
theorem allB (I J : Nat) (h1 : 176 ≤ I) (h2 : I ≤ 280) (h3 : 192 ≤ J) (h4 : J ≤ 320) : ok (8 * I + 1) (8 * J + 1) = true := by
  rcases Nat.lt_or_ge I 186 with k | k
  · exact cols_get rB_176 (I - 176) (J - 192) (by omega) (by omega) (by omega) (by omega)
  rcases Nat.lt_or_ge I 193 with k | k
  · exact cols_get rB_186 (I - 186) (J - 192) (by omega) (by omega) (by omega) (by omega)
  rcases Nat.lt_or_ge I 200 with k | k
  · exact cols_get rB_193 (I - 193) (J - 192) (by omega) (by omega) (by omega) (by omega)
  rcases Nat.lt_or_ge I 211 with k | k
  · exact cols_get rB_200 (I - 200) (J - 192) (by omega) (by omega) (by omega) (by omega)
  rcases Nat.lt_or_ge I 225 with k | k
  · exact cols_get rB_211 (I - 211) (J - 192) (by omega) (by omega) (by omega) (by omega)
  rcases Nat.lt_or_ge I 249 with k | k
  · exact cols_get rB_225 (I - 225) (J - 192) (by omega) (by omega) (by omega) (by omega)
  rcases Nat.lt_or_ge I 275 with k | k
  · exact cols_get rB_249 (I - 249) (J - 192) (by omega) (by omega) (by omega) (by omega)
  exact cols_get rB_275 (I - 275) (J - 192) (by omega) (by omega) (by omega) (by omega)
theorem allC (I J : Nat) (h1 : 176 ≤ I) (h2 : I ≤ 280) (h3 : 192 ≤ J) (h4 : J ≤ 320) : ok (8 * I + 0) (8 * J + 1) = true := by
  rcases Nat.lt_or_ge I 186 with k | k
  · exact cols_get rC_176 (I - 176) (J - 192) (by omega) (by omega) (by omega) (by omega)
  rcases Nat.lt_or_ge I 193 with k | k
  · exact cols_get rC_186 (I - 186) (J - 192) (by omega) (by omega) (by omega) (by omega)
  rcases Nat.lt_or_ge I 200 with k | k
  · exact cols_get rC_193 (I - 193) (J - 192) (by omega) (by omega) (by omega) (by omega)
  rcases Nat.lt_or_ge I 211 with k | k
  · exact cols_get rC_200 (I - 200) (J - 192) (by omega) (by omega) (by omega) (by omega)
  rcases Nat.lt_or_ge I 225 with k | k
  · exact cols_get rC_211 (I - 211) (J - 192) (by omega) (by omega) (by omega) (by omega)
  rcases Nat.lt_or_ge I 249 with k | k
  · exact cols_get rC_225 (I - 225) (J - 192) (by omega) (by omega) (by omega) (by omega)
  rcases Nat.lt_or_ge I 275 with k | k
  · exact cols_get rC_249 (I - 249) (J - 192) (by omega) (by omega) (by omega) (by omega)
  exact cols_get rC_275 (I - 275) (J - 192) (by omega) (by omega) (by omega) (by omega)
end Sp
end Go.Proofs.Ytjbpaejjpamcpaa
/- Cutting never turns an answer: the boxes that are drawn. Plain Lean. -/
namespace Go.Proofs.Ytjbpaejjpamcpaa
set_option linter.unusedSimpArgs false
set_option linter.unusedVariables false
namespace Sp
/-! ### Mirrored boxes -/
theorem mulLo_cj (a b c d : Int) : mulLo a b (-d) (-c) = -mulHi a b c d := by
  unfold mulLo mulHi
  simp only [Int.mul_neg]; omega
theorem mulHi_cj (a b c d : Int) : mulHi a b (-d) (-c) = -mulLo a b c d := by
  unfold mulLo mulHi
  simp only [Int.mul_neg]; omega
theorem sq0_cj (a b c d : Int) : sq0 a b (-d) (-c) = sq0 a b c d := by unfold sq0; rw [sqHi_neg]
theorem sq1_cj (a b c d : Int) : sq1 a b (-d) (-c) = sq1 a b c d := by unfold sq1; rw [sqLo_neg]
theorem sq2_cj (a b c d : Int) : sq2 a b (-d) (-c) = -sq3 a b c d := by unfold sq2 sq3 fl ce; rw [mulLo_cj, Int.mul_neg, Int.neg_neg]
theorem sq3_cj (a b c d : Int) : sq3 a b (-d) (-c) = -sq2 a b c d := by unfold sq2 sq3 fl ce; rw [mulHi_cj, Int.mul_neg, Int.neg_neg]
theorem SQB_cj (a b c d : Int) : SQB a b (-d) (-c) = SQB a b c d := by unfold SQB; rw [BV_mirror, sq0_cj, sq1_cj, sq2_cj, sq3_cj, BV_mirror]
theorem ADB_cj (a b c d x y z u : Int) : ADB a b (-d) (-c) x y (-u) (-z) = ADB a b c d x y z u := by
  unfold ADB
  rw [BV_mirror, BV_mirror, ← Int.neg_add, ← Int.neg_add, BV_mirror]
theorem qq0_cj (a b c d : Int) : qq0 a b (-d) (-c) = qq0 a b c d := by unfold qq0; rw [SQB_cj, sq0_cj]
theorem qq1_cj (a b c d : Int) : qq1 a b (-d) (-c) = qq1 a b c d := by unfold qq1; rw [SQB_cj, sq1_cj]
theorem qq2_cj (a b c d : Int) : qq2 a b (-d) (-c) = -qq3 a b c d := by unfold qq2 qq3; rw [SQB_cj, sq2_cj]; split <;> rfl
theorem qq3_cj (a b c d : Int) : qq3 a b (-d) (-c) = -qq2 a b c d := by unfold qq2 qq3; rw [SQB_cj, sq3_cj]; split <;> rfl
theorem aa0_cj (a b c d x y z u : Int) : aa0 a b (-d) (-c) x y (-u) (-z) = aa0 a b c d x y z u := by unfold aa0; rw [ADB_cj]
theorem aa1_cj (a b c d x y z u : Int) : aa1 a b (-d) (-c) x y (-u) (-z) = aa1 a b c d x y z u := by unfold aa1; rw [ADB_cj]
theorem aa2_cj (a b c d x y z u : Int) : aa2 a b (-d) (-c) x y (-u) (-z) = -aa3 a b c d x y z u := by unfold aa2 aa3; rw [ADB_cj]; split <;> omega
theorem aa3_cj (a b c d x y z u : Int) : aa3 a b (-d) (-c) x y (-u) (-z) = -aa2 a b c d x y z u := by unfold aa2 aa3; rw [ADB_cj]; split <;> omega
theorem nlo_cj (a b c d : Int) : nlo a b (-d) (-c) = nlo a b c d := by unfold nlo NLo; rw [BV_mirror, sqLo_neg c d]
theorem nhi_cj (a b c d : Int) : nhi a b (-d) (-c) = nhi a b c d := by unfold nhi NHi; rw [BV_mirror, sqHi_neg c d]
theorem esc_cj (m a b c d : Int) : ∀ (n : Nat) (f k z0 z1 z2 z3 : Int), esc m a b (-d) (-c) n f k z0 z1 (-z3) (-z2) = esc m a b c d n f k z0 z1 z2 z3
  | 0, _, _, _, _, _, _ => rfl
  | n + 1, f, k, z0, z1, z2, z3 => by
    unfold esc
    rw [nlo_cj, nhi_cj, SQB_cj, qq0_cj, qq1_cj, qq2_cj, qq3_cj, ADB_cj, aa0_cj, aa1_cj, aa2_cj, aa3_cj, esc_cj m a b c d n]
theorem escW_cj (a b c d m : Int) : escW a b (-d) (-c) m = escW a b c d m := by
  unfold escW
  have := esc_cj m a b c d 402 (-1) 0 0 0 0 0
  rw [show (-0 : Int) = 0 from rfl] at this
  rw [this]
/-! ### A part of a box escapes where the box does -/
theorem esc_sub {m a b c d a' b' c' d' : Int} (h1 : a ≤ a') (h3 : b' ≤ b) (k1 : c ≤ c') (k3 : d' ≤ d) (hv : BV a' b' c' d' = true) : ∀ (n : Nat) (f f' k z0 z1 z2 z3 y0 y1 y2 y3 : Int), 0 ≤ k → BW y0 y1 y2 y3 z0 z1 z2 z3 = true → 0 ≤ (esc m a b c d n f k z0 z1 z2 z3).2.2 → 0 ≤ (esc m a' b' c' d' n f' k y0 y1 y2 y3).2.2
  | 0, _, _, _, _, _, _, _, _, _, _, _, _, _, h => absurd (show (0 : Int) ≤ -1 from h) (by decide)
  | n + 1, f, f', k, z0, z1, z2, z3, y0, y1, y2, y3, h0, hw, h => by
    obtain ⟨v1, v2, w1, w2, w3, w4⟩ := (BW_iff _ _ _ _ _ _ _ _).1 hw
    obtain ⟨p1, p2, p3, p4, p5, p6⟩ := (BV_iff _ _ _ _).1 v1
    obtain ⟨b1, b2, b3, b4, b5, b6⟩ := (BV_iff _ _ _ _).1 hv
    unfold esc at h ⊢
    by_cases hk : k ≤ lst m
    · rw [if_pos hk] at h ⊢
      by_cases hy : 1125899906842624 < nlo y0 y1 y2 y3
      · rw [if_pos hy]; exact h0
      · rw [if_neg hy]
        have hz : ¬ 1125899906842624 < nlo z0 z1 z2 z3 := by
          have n1 : nlo y0 y1 y2 y3 = NLo y0 y1 y2 y3 := if_pos v1
          have n2 : nlo z0 z1 z2 z3 = NLo z0 z1 z2 z3 := if_pos v2
          have := (N_mono w1 p2 w2 w3 p5 w4).1
          omega
        rw [if_neg hz] at h
        by_cases hq : (SQB z0 z1 z2 z3 && ADB (qq0 z0 z1 z2 z3) (qq1 z0 z1 z2 z3) (qq2 z0 z1 z2 z3) (qq3 z0 z1 z2 z3) a b c d) = true
        · rw [if_pos hq] at h
          obtain ⟨hq1, hq2⟩ := Bool.and_eq_true_iff.1 hq
          obtain ⟨gq1, gw⟩ := sq_within hw hq1
          have e0 : qq0 z0 z1 z2 z3 = sq0 z0 z1 z2 z3 := if_pos hq1
          have e1 : qq1 z0 z1 z2 z3 = sq1 z0 z1 z2 z3 := if_pos hq1
          have e2 : qq2 z0 z1 z2 z3 = sq2 z0 z1 z2 z3 := if_pos hq1
          have e3 : qq3 z0 z1 z2 z3 = sq3 z0 z1 z2 z3 := if_pos hq1
          have g0 : qq0 y0 y1 y2 y3 = sq0 y0 y1 y2 y3 := if_pos gq1
          have g1 : qq1 y0 y1 y2 y3 = sq1 y0 y1 y2 y3 := if_pos gq1
          have g2 : qq2 y0 y1 y2 y3 = sq2 y0 y1 y2 y3 := if_pos gq1
          have g3 : qq3 y0 y1 y2 y3 = sq3 y0 y1 y2 y3 := if_pos gq1
          rw [e0, e1, e2, e3] at h hq2
          rw [g0, g1, g2, g3]
          obtain ⟨vs, vz, m0, m1, m2, m3⟩ := (BW_iff _ _ _ _ _ _ _ _).1 gw
          obtain ⟨s1, s2, s3, s4, s5, s6⟩ := (BV_iff _ _ _ _).1 vs
          have hsum := (Bool.and_eq_true_iff.1 hq2).2
          obtain ⟨t1, t2, t3, t4, t5, t6⟩ := (BV_iff _ _ _ _).1 hsum
          have vsum : BV (sq0 y0 y1 y2 y3 + a') (sq1 y0 y1 y2 y3 + b') (sq2 y0 y1 y2 y3 + c') (sq3 y0 y1 y2 y3 + d') = true := (BV_iff _ _ _ _).2 ⟨by omega, by omega, by omega, by omega, by omega, by omega⟩
          have gq2 : ADB (sq0 y0 y1 y2 y3) (sq1 y0 y1 y2 y3) (sq2 y0 y1 y2 y3) (sq3 y0 y1 y2 y3) a' b' c' d' = true := by
            unfold ADB; rw [vs, hv, vsum]; rfl
          rw [if_pos (Bool.and_eq_true_iff.2 ⟨gq1, gq2⟩)]
          have f0 : aa0 (sq0 z0 z1 z2 z3) (sq1 z0 z1 z2 z3) (sq2 z0 z1 z2 z3) (sq3 z0 z1 z2 z3) a b c d = sq0 z0 z1 z2 z3 + a := if_pos hq2
          have f1 : aa1 (sq0 z0 z1 z2 z3) (sq1 z0 z1 z2 z3) (sq2 z0 z1 z2 z3) (sq3 z0 z1 z2 z3) a b c d = sq1 z0 z1 z2 z3 + b := if_pos hq2
          have f2 : aa2 (sq0 z0 z1 z2 z3) (sq1 z0 z1 z2 z3) (sq2 z0 z1 z2 z3) (sq3 z0 z1 z2 z3) a b c d = sq2 z0 z1 z2 z3 + c := if_pos hq2
          have f3 : aa3 (sq0 z0 z1 z2 z3) (sq1 z0 z1 z2 z3) (sq2 z0 z1 z2 z3) (sq3 z0 z1 z2 z3) a b c d = sq3 z0 z1 z2 z3 + d := if_pos hq2
          have i0 : aa0 (sq0 y0 y1 y2 y3) (sq1 y0 y1 y2 y3) (sq2 y0 y1 y2 y3) (sq3 y0 y1 y2 y3) a' b' c' d' = sq0 y0 y1 y2 y3 + a' := if_pos gq2
          have i1 : aa1 (sq0 y0 y1 y2 y3) (sq1 y0 y1 y2 y3) (sq2 y0 y1 y2 y3) (sq3 y0 y1 y2 y3) a' b' c' d' = sq1 y0 y1 y2 y3 + b' := if_pos gq2
          have i2 : aa2 (sq0 y0 y1 y2 y3) (sq1 y0 y1 y2 y3) (sq2 y0 y1 y2 y3) (sq3 y0 y1 y2 y3) a' b' c' d' = sq2 y0 y1 y2 y3 + c' := if_pos gq2
          have i3 : aa3 (sq0 y0 y1 y2 y3) (sq1 y0 y1 y2 y3) (sq2 y0 y1 y2 y3) (sq3 y0 y1 y2 y3) a' b' c' d' = sq3 y0 y1 y2 y3 + d' := if_pos gq2
          rw [f0, f1, f2, f3] at h
          rw [i0, i1, i2, i3]
          exact esc_sub h1 h3 k1 k3 hv n _ _ (k + 1) _ _ _ _ _ _ _ _ (by omega) ((BW_iff _ _ _ _ _ _ _ _).2 ⟨vsum, hsum, by omega, by omega, by omega, by omega⟩) h
        · rw [if_neg hq] at h
          exact absurd (show (0 : Int) ≤ -1 from h) (by decide)
    · rw [if_neg hk] at h
      exact absurd (show (0 : Int) ≤ -1 from h) (by decide)
theorem escW_sub {m a b c d a' b' c' d' : Int} (h1 : a ≤ a') (h3 : b' ≤ b) (k1 : c ≤ c') (k3 : d' ≤ d) (hv : BV a' b' c' d' = true) (h : 0 ≤ escW a b c d m) : 0 ≤ escW a' b' c' d' m :=
  esc_sub h1 h3 k1 k3 hv 402 (-1) (-1) 0 0 0 0 0 0 0 0 0 (by decide) (by decide) h
/-! ### Points of the three kinds -/
theorem clsA : Cls 256 0 0 := allA
theorem clsB : Cls 192 1 1 := allB
theorem clsC : Cls 192 0 1 := allC
/-- A point of one of the kinds that have been looked at. -/
def Kd (X Y : Int) : Prop := (X % 262144 = 0 ∧ Y % 262144 = 0) ∨ (X % 262144 = 32768 ∧ Y % 262144 = 32768) ∨ (X % 262144 = 0 ∧ Y % 262144 = 32768)
theorem Kd.no {X Y a b c d m : Int} (hK : Kd X Y) (x0 : a ≤ X) (x1 : X ≤ b) (y0 : c ≤ Y) (y1 : Y ≤ d) (h : CBD X X Y Y ≤ 0 ∨ DBD X X Y Y ≤ 0) : escW a b c d m = -1 := by
  rcases hK with ⟨e1, e2⟩ | ⟨e1, e2⟩ | ⟨e1, e2⟩
  · rcases Int.lt_or_le Y 0 with k | k
    · rw [← escW_cj]
      have g1 : X = 262144 * (X / 262144) + 32768 * ((0 : Nat) : Int) := by omega
      have g2 : -Y = 262144 * (-Y / 262144) + 32768 * ((0 : Nat) : Int) := by omega
      have h' : CBD X X (-Y) (-Y) ≤ 0 ∨ DBD X X (-Y) (-Y) ≤ 0 := by rwa [CBD_mirror, DBD_mirror]
      refine clsA.no (I := X / 262144) (J := -Y / 262144) (by decide) (by decide) (Or.inr (by omega)) ?_ ?_ ?_ ?_ ?_
      · omega
      · omega
      · omega
      · omega
      · rwa [← g1, ← g2]
    · have g1 : X = 262144 * (X / 262144) + 32768 * ((0 : Nat) : Int) := by omega
      have g2 : Y = 262144 * (Y / 262144) + 32768 * ((0 : Nat) : Int) := by omega
      refine clsA.no (I := X / 262144) (J := Y / 262144) (by decide) (by decide) (Or.inr (by omega)) ?_ ?_ ?_ ?_ ?_
      · omega
      · omega
      · omega
      · omega
      · rwa [← g1, ← g2]
  · have g1 : X = 262144 * (X / 262144) + 32768 * ((1 : Nat) : Int) := by omega
    have g2 : Y = 262144 * (Y / 262144) + 32768 * ((1 : Nat) : Int) := by omega
    refine clsB.no (I := X / 262144) (J := Y / 262144) (by decide) (by decide) (Or.inl (by decide)) ?_ ?_ ?_ ?_ ?_
    · omega
    · omega
    · omega
    · omega
    · rwa [← g1, ← g2]
  · have g1 : X = 262144 * (X / 262144) + 32768 * ((0 : Nat) : Int) := by omega
    have g2 : Y = 262144 * (Y / 262144) + 32768 * ((1 : Nat) : Int) := by omega
    refine clsC.no (I := X / 262144) (J := Y / 262144) (by decide) (by decide) (Or.inl (by decide)) ?_ ?_ ?_ ?_ ?_
    · omega
    · omega
    · omega
    · omega
    · rwa [← g1, ← g2]
/-! ### Parts of a box -/
/-- A valid part of a box, with a point of a kind: the state of the box, if this is not open, is its state. -/
theorem part {a b c d a' b' c' d' m X Y : Int} (h1 : a ≤ a') (h3 : b' ≤ b) (k1 : c ≤ c') (k3 : d' ≤ d) (hv : BV a' b' c' d' = true) (hK : Kd X Y) (x0 : a' ≤ X) (x1 : X ≤ b') (y0 : c' ≤ Y) (y1 : Y ≤ d') (hs : CST a b c d m ≠ 0) : CST a' b' c' d' m = CST a b c d m := by
  obtain ⟨b1, b2, b3, b4, b5, b6⟩ := (BV_iff _ _ _ _).1 hv
  unfold CST at hs ⊢
  have m1 := CBD_mono h1 b2 h3 k1 b5 k3
  have m2 := DBD_mono h1 b2 h3 k1 b5 k3
  by_cases hB : CBD a b c d ≤ 0 ∨ DBD a b c d ≤ 0
  · rw [if_pos hB, if_pos (show CBD a' b' c' d' ≤ 0 ∨ DBD a' b' c' d' ≤ 0 by omega)]
  · rw [if_neg hB] at hs ⊢
    by_cases hw : 0 ≤ escW a b c d m
    · have hS : ¬ (CBD a' b' c' d' ≤ 0 ∨ DBD a' b' c' d' ≤ 0) := fun hS => by
        have n1 := CBD_mono x0 (Int.le_refl X) x1 y0 (Int.le_refl Y) y1
        have n2 := DBD_mono x0 (Int.le_refl X) x1 y0 (Int.le_refl Y) y1
        have := Kd.no (m := m) hK (show a ≤ X by omega) (show X ≤ b by omega) (show c ≤ Y by omega) (show Y ≤ d by omega) (by omega)
        omega
      rw [if_pos hw, if_neg hS, if_pos (escW_sub h1 h3 k1 k3 hv hw)]
    · rw [if_neg hw] at hs
      exact absurd rfl hs
/-! ### The boxes that are drawn -/
theorem bxC_mod (pv : Int → Int → Int) (p : Int) : bxC pv p % 262144 = 0 := by unfold bxC; omega
theorem wTab_cases (k : Int) : wTab k % 262144 = 0 ∨ wTab k = 1 ∨ wTab k = 65536 := by
  unfold wTab; repeat' split
  all_goals omega
/-- The four quarters of a drawn box have its state, if this is not open. -/
theorem split_law {pv : Int → Int → Int} (hpv : PvOk pv) {m : Int} (hv : BV (bxA pv 0) (bxB pv 0) (bxC pv 0) (bxD pv 0) = true) (hs : CST (bxA pv 0) (bxB pv 0) (bxC pv 0) (bxD pv 0) m ≠ 0) (k : Int) (hk : 0 ≤ k ∧ k < 4) :
    CST (qv 0 (bxA pv 0) (bxB pv 0) (bxC pv 0) (bxD pv 0) k) (qv 1 (bxA pv 0) (bxB pv 0) (bxC pv 0) (bxD pv 0) k) (qv 2 (bxA pv 0) (bxB pv 0) (bxC pv 0) (bxD pv 0) k) (qv 3 (bxA pv 0) (bxB pv 0) (bxC pv 0) (bxD pv 0) k) m = CST (bxA pv 0) (bxB pv 0) (bxC pv 0) (bxD pv 0) m := by
  obtain ⟨b1, b2, b3, b4, b5, b6⟩ := (BV_iff _ _ _ _).1 hv
  have p0 := hpv 0 200 (by decide) (by decide) (by decide)
  have p4 := hpv 4 200 (by decide) (by decide) (by decide)
  have hw := wTab_bd (pv 2 7)
  have hw' := wTab_cases (pv 2 7)
  -- the place of the parts
  have hA : bxA pv 0 = if pv 3 24 = 2 then -134217728 else (pv 0 200 - 128) * 262144 := rfl
  have hB : bxB pv 0 = if pv 3 24 = 0 then (pv 0 200 - 128) * 262144 - 1 else if pv 3 24 = 3 then (pv 0 200 - 128) * 262144 + pv 4 200 * 262144 else (pv 0 200 - 128) * 262144 + wTab (pv 2 7) := rfl
  have hD : bxD pv 0 = if pv 3 24 = 1 then 134217729 else bxC pv 0 + wTab (pv 2 7) := rfl
  have hC := bxC_mod pv 0
  generalize bxC pv 0 = c at *
  generalize bxA pv 0 = a at *
  generalize bxB pv 0 = b at *
  generalize bxD pv 0 = d at *
  generalize pv 0 200 = x at *
  generalize pv 4 200 = y at *
  generalize wTab (pv 2 7) = w at *
  generalize pv 3 24 = r at *
  have hd : d = c + w := by split at hD <;> omega
  have ha : a % 262144 = 0 := by split at hA <;> omega
  -- a point of the lower and of the upper half, in each direction
  have hre : (∃ X Z, X % 262144 = 0 ∧ Z % 262144 = 0 ∧ a ≤ X ∧ X ≤ fl (a + b) 2 ∧ fl (a + b) 2 ≤ Z ∧ Z ≤ b) ∨ (w = 65536 ∧ ∃ X, X % 262144 = 32768 ∧ a ≤ X ∧ X ≤ fl (a + b) 2 ∧ fl (a + b) 2 ≤ X ∧ X ≤ b) := by
    unfold fl
    by_cases r3 : r = 3
    · rw [if_neg (by omega), if_pos r3] at hB
      exact Or.inl ⟨a, b, ha, by split at hA <;> omega, by omega, by omega, by omega, by omega⟩
    · rw [if_neg r3] at hB
      by_cases r0 : r = 0
      · rw [if_pos r0] at hB; rw [if_neg (by omega)] at hA; omega
      · rw [if_neg r0] at hB
        by_cases r2 : r = 2
        · rw [if_pos r2] at hA
          exact Or.inl ⟨a, (x - 128) * 262144, ha, by omega, by omega, by omega, by omega, by omega⟩
        · rw [if_neg r2] at hA
          rcases hw' with k | k | k
          · exact Or.inl ⟨a, b, ha, by omega, by omega, by omega, by omega, by omega⟩
          · exact Or.inl ⟨a, a, ha, ha, by omega, by omega, by omega, by omega⟩
          · exact Or.inr ⟨k, a + 32768, by omega, by omega, by omega, by omega, by omega⟩
  have him : (w ≠ 65536 ∧ ∃ X Z, X % 262144 = 0 ∧ Z % 262144 = 0 ∧ c ≤ X ∧ X ≤ fl (c + d) 2 ∧ fl (c + d) 2 ≤ Z ∧ Z ≤ d) ∨ (w = 65536 ∧ ∃ X, X % 262144 = 32768 ∧ c ≤ X ∧ X ≤ fl (c + d) 2 ∧ fl (c + d) 2 ≤ X ∧ X ≤ d) := by
    unfold fl
    rcases hw' with k | k | k
    · exact Or.inl ⟨by omega, c, d, hC, by omega, by omega, by omega, by omega, by omega⟩
    · exact Or.inl ⟨by omega, c, c, hC, hC, by omega, by omega, by omega, by omega⟩
    · exact Or.inr ⟨k, c + 32768, by omega, by omega, by omega, by omega, by omega⟩
  have m1 : a ≤ fl (a + b) 2 ∧ fl (a + b) 2 ≤ b := by unfold fl; omega
  have m2 : c ≤ fl (c + d) 2 ∧ fl (c + d) 2 ≤ d := by unfold fl; omega
  -- one point for each half
  have key : ∃ X0 X1 Y0 Y1 : Int, a ≤ X0 ∧ X0 ≤ fl (a + b) 2 ∧ fl (a + b) 2 ≤ X1 ∧ X1 ≤ b ∧ c ≤ Y0 ∧ Y0 ≤ fl (c + d) 2 ∧ fl (c + d) 2 ≤ Y1 ∧ Y1 ≤ d ∧ Kd X0 Y0 ∧ Kd X0 Y1 ∧ Kd X1 Y0 ∧ Kd X1 Y1 := by
    rcases hre with ⟨X, Z, e1, e2, e3, e4, e5, e6⟩ | ⟨e0, X, e1, e3, e4, e5, e6⟩
    · rcases him with ⟨f0, Y, V, f1, f2, f3, f4, f5, f6⟩ | ⟨f0, Y, f1, f3, f4, f5, f6⟩
      · exact ⟨X, Z, Y, V, e3, e4, e5, e6, f3, f4, f5, f6, Or.inl ⟨e1, f1⟩, Or.inl ⟨e1, f2⟩, Or.inl ⟨e2, f1⟩, Or.inl ⟨e2, f2⟩⟩
      · exact ⟨X, Z, Y, Y, e3, e4, e5, e6, f3, f4, f5, f6, Or.inr (Or.inr ⟨e1, f1⟩), Or.inr (Or.inr ⟨e1, f1⟩), Or.inr (Or.inr ⟨e2, f1⟩), Or.inr (Or.inr ⟨e2, f1⟩)⟩
    · rcases him with ⟨f0, _⟩ | ⟨f0, Y, f1, f3, f4, f5, f6⟩
      · exact absurd e0 f0
      · exact ⟨X, X, Y, Y, e3, e4, e5, e6, f3, f4, f5, f6, Or.inr (Or.inl ⟨e1, f1⟩), Or.inr (Or.inl ⟨e1, f1⟩), Or.inr (Or.inl ⟨e1, f1⟩), Or.inr (Or.inl ⟨e1, f1⟩)⟩
  obtain ⟨X0, X1, Y0, Y1, g1, g2, g3, g4, g5, g6, g7, g8, K00, K01, K10, K11⟩ := key
  clear hA hB hD hre him hw hw'
  obtain rfl | rfl | rfl | rfl : k = 0 ∨ k = 1 ∨ k = 2 ∨ k = 3 := by omega
  · rw [show qv 0 a b c d 0 = a from rfl, show qv 1 a b c d 0 = fl (a + b) 2 from rfl, show qv 2 a b c d 0 = c from rfl, show qv 3 a b c d 0 = fl (c + d) 2 from rfl]
    exact part (by omega) (by omega) (by omega) (by omega) ((BV_iff _ _ _ _).2 ⟨by omega, by omega, by omega, by omega, by omega, by omega⟩) K00 (by omega) (by omega) (by omega) (by omega) hs
  · rw [show qv 0 a b c d 1 = fl (a + b) 2 from rfl, show qv 1 a b c d 1 = b from rfl, show qv 2 a b c d 1 = c from rfl, show qv 3 a b c d 1 = fl (c + d) 2 from rfl]
    exact part (by omega) (by omega) (by omega) (by omega) ((BV_iff _ _ _ _).2 ⟨by omega, by omega, by omega, by omega, by omega, by omega⟩) K10 (by omega) (by omega) (by omega) (by omega) hs
  · rw [show qv 0 a b c d 2 = a from rfl, show qv 1 a b c d 2 = fl (a + b) 2 from rfl, show qv 2 a b c d 2 = fl (c + d) 2 from rfl, show qv 3 a b c d 2 = d from rfl]
    exact part (by omega) (by omega) (by omega) (by omega) ((BV_iff _ _ _ _).2 ⟨by omega, by omega, by omega, by omega, by omega, by omega⟩) K01 (by omega) (by omega) (by omega) (by omega) hs
  · rw [show qv 0 a b c d 3 = fl (a + b) 2 from rfl, show qv 1 a b c d 3 = b from rfl, show qv 2 a b c d 3 = fl (c + d) 2 from rfl, show qv 3 a b c d 3 = d from rfl]
    exact part (by omega) (by omega) (by omega) (by omega) ((BV_iff _ _ _ _).2 ⟨by omega, by omega, by omega, by omega, by omega, by omega⟩) K11 (by omega) (by omega) (by omega) (by omega) hs
end Sp
end Go.Proofs.Ytjbpaejjpamcpaa
