/- Bounds of the numbers that the functions on boxes meet. No program in sight. -/
import Derived.Test.YtjbpaejjpamcpaaBo2
namespace Go.Proofs.Ytjbpaejjpamcpaa
set_option linter.unusedSimpArgs false
set_option linter.unusedVariables false
variable {pv : Int → Int → Int}

theorem mul_bd {x y A B : Int} (h1 : -A ≤ x) (h2 : x ≤ A) (h3 : -B ≤ y) (h4 : y ≤ B) : -(A * B) ≤ x * y ∧ x * y ≤ A * B := by
  have h : (x * y).natAbs ≤ A.natAbs * B.natAbs := by rw [Int.natAbs_mul]; exact Nat.mul_le_mul (by omega) (by omega)
  have e : ((A.natAbs * B.natAbs : Nat) : Int) = A * B := by
    rw [Int.natCast_mul, Int.natAbs_of_nonneg (by omega), Int.natAbs_of_nonneg (by omega)]
  omega
theorem sq_nn (x : Int) : 0 ≤ x * x := by
  rw [← Int.natAbs_mul_self' x]; exact Int.mul_nonneg (by omega) (by omega)
theorem sq_bd (K : Int) {l h : Int} (h1 : -K ≤ l) (h2 : l ≤ K) (h3 : -K ≤ h) (h4 : h ≤ K) : 0 ≤ sqLo l h ∧ sqLo l h ≤ sqHi l h ∧ sqHi l h ≤ K * K := by
  have a1 := (mul_bd h1 h2 h1 h2).2; have a2 := (mul_bd h3 h4 h3 h4).2
  have b1 := sq_nn l; have b2 := sq_nn h
  unfold sqLo sqHi
  split <;> omega
theorem mulLH_bd (K : Int) {a b c d : Int} (h1 : -K ≤ a) (h2 : a ≤ K) (h3 : -K ≤ b) (h4 : b ≤ K) (h5 : -K ≤ c) (h6 : c ≤ K) (h7 : -K ≤ d) (h8 : d ≤ K) :
    -(K * K) ≤ mulLo a b c d ∧ mulLo a b c d ≤ mulHi a b c d ∧ mulHi a b c d ≤ K * K := by
  have p1 := mul_bd h1 h2 h5 h6; have p2 := mul_bd h1 h2 h7 h8; have p3 := mul_bd h3 h4 h5 h6; have p4 := mul_bd h3 h4 h7 h8
  unfold mulLo mulHi; omega

theorem f31_0 (l h : Int) : (FI pv) 31 0 [l, h] = sqLo l h := rfl
theorem f31_1 (l h : Int) : (FI pv) 31 1 [l, h] = sqHi l h := rfl
theorem f30_0 (a b c d : Int) : (FI pv) 30 0 [a, b, c, d] = mulLo a b c d := rfl
theorem f30_1 (a b c d : Int) : (FI pv) 30 1 [a, b, c, d] = mulHi a b c d := rfl
theorem f33_0 (n d : Int) : (FI pv) 33 0 [n, d] = fl n d := rfl
theorem f33_1 (n d : Int) : (FI pv) 33 1 [n, d] = ce n d := rfl
theorem f32_0_12 (n : Int) : (FI pv) 32 0 [n, 12] = fl n 4096 := rfl
theorem f32_1_12 (n : Int) : (FI pv) 32 1 [n, 12] = ce n 4096 := rfl
theorem f32_0_24 (n : Int) : (FI pv) 32 0 [n, 24] = fl n 16777216 := rfl
theorem f32_1_24 (n : Int) : (FI pv) 32 1 [n, 24] = ce n 16777216 := rfl
theorem g1 (a b : Int) : FB 1 0 [a, b] = SV a b := rfl
theorem g2 (a b c d : Int) : FB 2 0 [a, b, c, d] = BV a b c d := rfl
theorem g10 (a b c d : Int) : FB 10 0 [a, b, c, d] = SW a b c d := rfl
theorem t30_2 {a b : Int} (h1 : -1073741824 ≤ a) (h2 : a ≤ 1073741824) (h3 : -1073741824 ≤ b) (h4 : b ≤ 1073741824) : FB 100 0 [a, b] = true := by
  show [a, b].all le30 = true
  simp [le30_iff]; omega
theorem t30_4 {a b c d : Int} (h1 : -1073741824 ≤ a ∧ a ≤ 1073741824) (h2 : -1073741824 ≤ b ∧ b ≤ 1073741824) (h3 : -1073741824 ≤ c ∧ c ≤ 1073741824) (h4 : -1073741824 ≤ d ∧ d ≤ 1073741824) : FB 100 0 [a, b, c, d] = true := by
  show [a, b, c, d].all le30 = true
  simp [le30_iff]; omega
theorem t60_4 {a b c d : Int} (h1 : -1152921504606846976 ≤ a ∧ a ≤ 1152921504606846976) (h2 : -1152921504606846976 ≤ b ∧ b ≤ 1152921504606846976) (h3 : -1152921504606846976 ≤ c ∧ c ≤ 1152921504606846976) (h4 : -1152921504606846976 ≤ d ∧ d ≤ 1152921504606846976) : FB 101 0 [a, b, c, d] = true := by
  show [a, b, c, d].all le60 = true
  simp [le60_iff]; omega
theorem t102 {n d : Int} (h1 : -1152921504606846976 ≤ n ∧ n ≤ 1152921504606846976) (h2 : 1 ≤ d ∧ d ≤ 1152921504606846976) : FB 102 0 [n, d] = true := by
  show (le60 n && decide (1 ≤ d) && le60 d) = true
  simp [le60_iff]; omega
theorem t103 {a b k : Int} (h1 : -1152921504606846976 ≤ a ∧ a ≤ 1152921504606846976) (h2 : -1152921504606846976 ≤ b ∧ b ≤ 1152921504606846976) (h3 : 0 ≤ k ∧ k ≤ 62) : FB 103 0 [a, b, k] = true := by
  show (le60 a && le60 b && decide (0 ≤ k) && decide (k ≤ 62)) = true
  simp [le60_iff]; omega
/-- The coarse bounds of a valid box. -/
theorem coarse_bd {a b : Int} (h1 : -134217728 ≤ a) (h2 : a ≤ b) (h3 : b ≤ 134217728) : -32768 ≤ fl a 4096 ∧ fl a 4096 ≤ ce b 4096 ∧ ce b 4096 ≤ 32768 := by
  unfold fl ce; omega
theorem SQB_no {a b c d : Int} (h : BV a b c d = false) : SQB a b c d = false := by unfold SQB; rw [h]; rfl
theorem SQB_yes {a b c d : Int} (h : BV a b c d = true) : SQB a b c d = (SV (sq0 a b c d) (sq1 a b c d) && SV (sq2 a b c d) (sq3 a b c d)) := by unfold SQB; rw [h, Bool.true_and]; rfl

end Go.Proofs.Ytjbpaejjpamcpaa
