import Derived.Test.YtjbpaejjpamcpaaSym
/- Plain laws on the norms, squares and bounds of boxes. No program in sight. -/
namespace Go.Proofs.Ytjbpaejjpamcpaa
set_option linter.unusedSimpArgs false
set_option linter.unusedVariables false
variable {pv : Int → Int → Int}

theorem le2 {x : Int} (h : -400000000 ≤ x ∧ x ≤ 400000000) : FB 102 0 [IntKind.i64.wrap x, 2] = true := by
  rw [wrap_in (by omega) (by omega)]
  show (le60 x && decide (1 ≤ (2 : Int)) && le60 2) = true
  have : le60 x = true := (le60_iff x).2 (by omega)
  rw [this]; decide
theorem sq_nn (x : Int) : 0 ≤ x * x := by
  rcases Int.le_total 0 x with h | h
  · exact Int.mul_nonneg h h
  · exact Int.mul_nonneg_of_nonpos_of_nonpos h h
theorem BV_swap (a b c d : Int) : BV c d a b = BV a b c d := by unfold BV; exact Bool.and_comm _ _
theorem NLo_swap (a b c d : Int) : NLo c d a b = NLo a b c d := Int.add_comm _ _
theorem NHi_swap (a b c d : Int) : NHi c d a b = NHi a b c d := Int.add_comm _ _
theorem sqLo_nn (l h : Int) : 0 ≤ sqLo l h := by
  unfold sqLo
  have := sq_nn l; have := sq_nn h
  split <;> omega
theorem sqLo_le (l h : Int) : sqLo l h ≤ sqHi l h := by
  unfold sqLo sqHi
  have := sq_nn l; have := sq_nn h
  split <;> omega
theorem sqHi_nn (l h : Int) : 0 ≤ sqHi l h := Int.le_trans (sqLo_nn l h) (sqLo_le l h)
theorem NLo_nn (a b c d : Int) : 0 ≤ NLo a b c d := Int.add_nonneg (sqLo_nn _ _) (sqLo_nn _ _)
theorem NLo_le (a b c d : Int) : NLo a b c d ≤ NHi a b c d := Int.add_le_add (sqLo_le _ _) (sqLo_le _ _)
theorem f34a {a b c d : Int} (h : BV a b c d = true) : (FI pv) 34 0 [a, b, c, d] = NLo a b c d := if_pos h
theorem f34b {a b c d : Int} (h : BV a b c d = true) : (FI pv) 34 1 [a, b, c, d] = NHi a b c d := if_pos h
theorem f35 {a b c d : Int} (h : BV a b c d = true) : (FI pv) 35 0 [a, b, c, d] = CBD a b c d := if_pos h
theorem f36 {a b c d : Int} (h : BV a b c d = true) : (FI pv) 36 0 [a, b, c, d] = DBD a b c d := if_pos h
theorem f6 {a b c d : Int} (h : SQB a b c d = true) : (FI pv) 6 0 [a, b, c, d] = sq0 a b c d ∧ (FI pv) 6 1 [a, b, c, d] = sq1 a b c d ∧ (FI pv) 6 2 [a, b, c, d] = sq2 a b c d ∧ (FI pv) 6 3 [a, b, c, d] = sq3 a b c d := ⟨if_pos h, if_pos h, if_pos h, if_pos h⟩
/-! ### Opposite boxes -/
theorem sqLo_neg (l h : Int) : sqLo (-h) (-l) = sqLo l h := by
  unfold sqLo
  rw [Int.neg_mul_neg, Int.neg_mul_neg, Int.min_comm (h * h)]
  have : (-h ≤ 0 ∧ 0 ≤ -l) ↔ (l ≤ 0 ∧ 0 ≤ h) := by omega
  simp only [this]
theorem sqHi_neg (l h : Int) : sqHi (-h) (-l) = sqHi l h := by
  unfold sqHi
  rw [Int.neg_mul_neg, Int.neg_mul_neg, Int.max_comm (h * h)]
theorem mulLo_neg (a b c d : Int) : mulLo (-b) (-a) (-d) (-c) = mulLo a b c d := by
  unfold mulLo
  simp only [Int.neg_mul_neg]
  omega
theorem mulHi_neg (a b c d : Int) : mulHi (-b) (-a) (-d) (-c) = mulHi a b c d := by
  unfold mulHi
  simp only [Int.neg_mul_neg]
  omega
theorem BV_neg (a b c d : Int) : BV (-b) (-a) (-d) (-c) = BV a b c d := by
  rw [Bool.eq_iff_iff, BV_iff, BV_iff]; omega
theorem BV_mirror (a b c d : Int) : BV a b (-d) (-c) = BV a b c d := by
  rw [Bool.eq_iff_iff, BV_iff, BV_iff]; omega
theorem SQB_neg (a b c d : Int) : SQB (-b) (-a) (-d) (-c) = SQB a b c d := by
  unfold SQB sq0 sq1 sq2 sq3
  rw [BV_neg, sqLo_neg, sqLo_neg, sqHi_neg, sqHi_neg, mulLo_neg, mulHi_neg]
theorem sq0_neg (a b c d : Int) : sq0 (-b) (-a) (-d) (-c) = sq0 a b c d := by unfold sq0; rw [sqLo_neg, sqHi_neg]
theorem sq1_neg (a b c d : Int) : sq1 (-b) (-a) (-d) (-c) = sq1 a b c d := by unfold sq1; rw [sqLo_neg, sqHi_neg]
theorem sq2_neg (a b c d : Int) : sq2 (-b) (-a) (-d) (-c) = sq2 a b c d := by unfold sq2; rw [mulLo_neg]
theorem sq3_neg (a b c d : Int) : sq3 (-b) (-a) (-d) (-c) = sq3 a b c d := by unfold sq3; rw [mulHi_neg]
/-! ### Mirrored boxes: the bounds -/
theorem fl_neg (x d : Int) : fl (-x) d = -ce x d := by unfold fl ce; rw [Int.neg_neg]
theorem ce_neg (x d : Int) : ce (-x) d = -fl x d := by unfold fl ce; rw [Int.neg_neg]
theorem cyL_mirror (c d : Int) : cyL (-d) (-c) = cyL c d := by unfold cyL; rw [fl_neg, ce_neg, sqLo_neg]
theorem cyH_mirror (c d : Int) : cyH (-d) (-c) = cyH c d := by unfold cyH; rw [fl_neg, ce_neg, sqHi_neg]
theorem DBD_mirror (a b c d : Int) : DBD a b (-d) (-c) = DBD a b c d := by unfold DBD; rw [cyH_mirror]
theorem CBD_mirror (a b c d : Int) : CBD a b (-d) (-c) = CBD a b c d := by unfold CBD cS cqL cqH; rw [cyH_mirror, cyL_mirror]
/-! ### Boxes within boxes -/
theorem sq_le {x y : Int} (h0 : 0 ≤ x) (h : x ≤ y) : x * x ≤ y * y := Int.mul_le_mul h h h0 (by omega)
theorem sq_le' {x y : Int} (h0 : x ≤ 0) (h : y ≤ x) : x * x ≤ y * y := by
  have := sq_le (x := -x) (y := -y) (by omega) (by omega)
  rwa [Int.neg_mul_neg, Int.neg_mul_neg] at this
theorem sqHi_mono {l h l' h' : Int} (hl : l ≤ l') (hm : l' ≤ h') (hh : h' ≤ h) : sqHi l' h' ≤ sqHi l h := by
  unfold sqHi
  have a : l' * l' ≤ max (l * l) (h * h) := by
    rcases Int.le_total 0 l' with k | k
    · have := sq_le k (show l' ≤ h by omega); omega
    · have := sq_le' k hl; omega
  have b : h' * h' ≤ max (l * l) (h * h) := by
    rcases Int.le_total 0 h' with k | k
    · have := sq_le k hh; omega
    · have := sq_le' k (show l ≤ h' by omega); omega
  omega
theorem sqLo_mono {l h l' h' : Int} (hl : l ≤ l') (hm : l' ≤ h') (hh : h' ≤ h) : sqLo l h ≤ sqLo l' h' := by
  unfold sqLo
  by_cases k : l ≤ 0 ∧ 0 ≤ h
  · rw [if_pos k]
    have := sq_nn l'; have := sq_nn h'
    split <;> omega
  · rw [if_neg k, if_neg (show ¬ (l' ≤ 0 ∧ 0 ≤ h') by omega)]
    rcases Int.le_total 0 l with k' | k'
    · have := sq_le k' hl
      have := sq_le (show 0 ≤ l by omega) (show l ≤ h' by omega)
      omega
    · have := sq_le' (show h ≤ 0 by omega) hh
      have := sq_le' (show h ≤ 0 by omega) (show l' ≤ h by omega)
      omega
theorem fl_mono {x y d : Int} (hd : 0 < d) (h : x ≤ y) : fl x d ≤ fl y d := Int.ediv_le_ediv hd h
theorem ce_mono {x y d : Int} (hd : 0 < d) (h : x ≤ y) : ce x d ≤ ce y d := by
  unfold ce
  have := Int.ediv_le_ediv hd (show -y ≤ -x by omega)
  omega
theorem fl_le_ce (x d : Int) (hd : 0 < d) : fl x d ≤ ce x d := by
  unfold fl ce
  have h1 := Int.ediv_mul_le x (Int.ne_of_gt hd)
  have h2 := Int.ediv_mul_le (-x) (Int.ne_of_gt hd)
  have h3 : (x / d + -x / d) * d ≤ 0 := by rw [Int.add_mul]; omega
  have h4 : x / d + -x / d ≤ 0 := by
    rcases Int.lt_or_le 0 (x / d + -x / d) with h | h
    · have := Int.mul_pos h hd; omega
    · exact h
  omega
theorem fl_ce {x y d : Int} (hd : 0 < d) (h : x ≤ y) : fl x d ≤ ce y d := Int.le_trans (fl_mono hd h) (fl_le_ce y d hd)
theorem cyL_mono {c d c' d' : Int} (h1 : c ≤ c') (h2 : c' ≤ d') (h3 : d' ≤ d) : cyL c d ≤ cyL c' d' :=
  sqLo_mono (fl_mono (by decide) h1) (fl_ce (by decide) h2) (ce_mono (by decide) h3)
theorem cyH_mono {c d c' d' : Int} (h1 : c ≤ c') (h2 : c' ≤ d') (h3 : d' ≤ d) : cyH c' d' ≤ cyH c d :=
  sqHi_mono (fl_mono (by decide) h1) (fl_ce (by decide) h2) (ce_mono (by decide) h3)
theorem DBD_mono {a b c d a' b' c' d' : Int} (h1 : a ≤ a') (h2 : a' ≤ b') (h3 : b' ≤ b) (k1 : c ≤ c') (k2 : c' ≤ d') (k3 : d' ≤ d) : DBD a' b' c' d' ≤ DBD a b c d := by
  unfold DBD
  have := cyH_mono k1 k2 k3
  have e1 := fl_mono (d := 4096) (by decide) h1
  have e2 := fl_ce (d := 4096) (by decide) h2
  have e3 := ce_mono (d := 4096) (by decide) h3
  have := sqHi_mono (l := fl a 4096 + 4096) (h := ce b 4096 + 4096) (l' := fl a' 4096 + 4096) (h' := ce b' 4096 + 4096) (by omega) (by omega) (by omega)
  omega
theorem CBD_mono {a b c d a' b' c' d' : Int} (h1 : a ≤ a') (h2 : a' ≤ b') (h3 : b' ≤ b) (k1 : c ≤ c') (k2 : c' ≤ d') (k3 : d' ≤ d) : CBD a' b' c' d' ≤ CBD a b c d := by
  have y1 := cyL_mono k1 k2 k3
  have y2 := cyH_mono k1 k2 k3
  have e1 := fl_mono (d := 4096) (by decide) h1
  have e2 := fl_ce (d := 4096) (by decide) h2
  have e3 := ce_mono (d := 4096) (by decide) h3
  have u1 : sqLo (cuL a) (cuH b) ≤ sqLo (cuL a') (cuH b') := sqLo_mono (by unfold cuL; omega) (by unfold cuL cuH; omega) (by unfold cuH; omega)
  have u2 : sqHi (cuL a') (cuH b') ≤ sqHi (cuL a) (cuH b) := sqHi_mono (by unfold cuL; omega) (by unfold cuL cuH; omega) (by unfold cuH; omega)
  have q1 : cqL a b c d ≤ cqL a' b' c' d' := by unfold cqL; omega
  have q2 : cqH a' b' c' d' ≤ cqH a b c d := by unfold cqH; omega
  have q0 : 0 ≤ cqL a b c d := Int.add_nonneg (sqLo_nn _ _) (sqLo_nn _ _)
  have q3 : 0 ≤ cqH a' b' c' d' := Int.add_nonneg (sqHi_nn _ _) (sqHi_nn _ _)
  have s : cS a' b' c' d' ≤ cS a b c d := by unfold cS cuH; omega
  unfold CBD
  generalize cqL a b c d = ql at *
  generalize cqL a' b' c' d' = ql' at *
  generalize cqH a b c d = qh at *
  generalize cqH a' b' c' d' = qh' at *
  generalize cS a b c d = S at *
  generalize cS a' b' c' d' = S' at *
  have : (if S' < 0 then ql' else qh') * S' ≤ (if S < 0 then ql else qh) * S := by
    by_cases n' : S' < 0
    · rw [if_pos n']
      have a1 : ql' * S' ≤ ql * S' := Int.mul_le_mul_of_nonpos_right q1 (by omega)
      by_cases n : S < 0
      · rw [if_pos n]
        exact Int.le_trans a1 (Int.mul_le_mul_of_nonneg_left s q0)
      · rw [if_neg n]
        have := Int.mul_nonneg (show 0 ≤ qh by omega) (show 0 ≤ S by omega)
        have := Int.mul_nonpos_of_nonneg_of_nonpos q0 (show S' ≤ 0 by omega)
        omega
    · rw [if_neg n', if_neg (show ¬ S < 0 by omega)]
      exact Int.mul_le_mul q2 s (by omega) (by omega)
  omega
end Go.Proofs.Ytjbpaejjpamcpaa
/- Plain laws on the squares of boxes within boxes. No program in sight. -/
namespace Go.Proofs.Ytjbpaejjpamcpaa
set_option linter.unusedSimpArgs false
set_option linter.unusedVariables false

theorem lin_l {a b x : Int} (y : Int) (h1 : a ≤ x) (h2 : x ≤ b) : min (a * y) (b * y) ≤ x * y ∧ x * y ≤ max (a * y) (b * y) := by
  rcases Int.le_total 0 y with h | h
  · have := Int.mul_le_mul_of_nonneg_right h1 h
    have := Int.mul_le_mul_of_nonneg_right h2 h
    omega
  · have := Int.mul_le_mul_of_nonpos_right h1 h
    have := Int.mul_le_mul_of_nonpos_right h2 h
    omega
theorem lin_r {c d y : Int} (x : Int) (h1 : c ≤ y) (h2 : y ≤ d) : min (x * c) (x * d) ≤ x * y ∧ x * y ≤ max (x * c) (x * d) := by
  have := lin_l x h1 h2
  rwa [Int.mul_comm c x, Int.mul_comm d x, Int.mul_comm y x] at this
/-- A product of parts of two intervals lies in the interval of the products. -/
theorem mul_mem {a b c d x y : Int} (h1 : a ≤ x) (h2 : x ≤ b) (k1 : c ≤ y) (k2 : y ≤ d) : mulLo a b c d ≤ x * y ∧ x * y ≤ mulHi a b c d := by
  have e1 := lin_l y h1 h2
  have e2 := lin_r a k1 k2
  have e3 := lin_r b k1 k2
  unfold mulLo mulHi
  omega
theorem mulLo_mono {a b c d e f g h : Int} (h1 : e ≤ a) (h2 : a ≤ b) (h3 : b ≤ f) (k1 : g ≤ c) (k2 : c ≤ d) (k3 : d ≤ h) : mulLo e f g h ≤ mulLo a b c d := by
  have e1 := (mul_mem (a := e) (b := f) (c := g) (d := h) (x := a) (y := c) (by omega) (by omega) (by omega) (by omega)).1
  have e2 := (mul_mem (a := e) (b := f) (c := g) (d := h) (x := a) (y := d) (by omega) (by omega) (by omega) (by omega)).1
  have e3 := (mul_mem (a := e) (b := f) (c := g) (d := h) (x := b) (y := c) (by omega) (by omega) (by omega) (by omega)).1
  have e4 := (mul_mem (a := e) (b := f) (c := g) (d := h) (x := b) (y := d) (by omega) (by omega) (by omega) (by omega)).1
  generalize mulLo e f g h = M at *
  unfold mulLo
  omega
theorem mulHi_mono {a b c d e f g h : Int} (h1 : e ≤ a) (h2 : a ≤ b) (h3 : b ≤ f) (k1 : g ≤ c) (k2 : c ≤ d) (k3 : d ≤ h) : mulHi a b c d ≤ mulHi e f g h := by
  have e1 := (mul_mem (a := e) (b := f) (c := g) (d := h) (x := a) (y := c) (by omega) (by omega) (by omega) (by omega)).2
  have e2 := (mul_mem (a := e) (b := f) (c := g) (d := h) (x := a) (y := d) (by omega) (by omega) (by omega) (by omega)).2
  have e3 := (mul_mem (a := e) (b := f) (c := g) (d := h) (x := b) (y := c) (by omega) (by omega) (by omega) (by omega)).2
  have e4 := (mul_mem (a := e) (b := f) (c := g) (d := h) (x := b) (y := d) (by omega) (by omega) (by omega) (by omega)).2
  generalize mulHi e f g h = M at *
  unfold mulHi
  omega
theorem mulLo_le_Hi (a b c d : Int) : mulLo a b c d ≤ mulHi a b c d := by unfold mulLo mulHi; omega
theorem sq01 (a b c d : Int) : sq0 a b c d ≤ sq1 a b c d := by
  have := sqLo_le a b; have := sqLo_le c d
  exact fl_ce (by decide) (by omega)
theorem sq23 (a b c d : Int) : sq2 a b c d ≤ sq3 a b c d := by
  have := mulLo_le_Hi a b c d
  exact fl_ce (by decide) (by omega)
theorem sq_mono {a b c d e f g h : Int} (h1 : e ≤ a) (h2 : a ≤ b) (h3 : b ≤ f) (k1 : g ≤ c) (k2 : c ≤ d) (k3 : d ≤ h) : sq0 e f g h ≤ sq0 a b c d ∧ sq1 a b c d ≤ sq1 e f g h ∧ sq2 e f g h ≤ sq2 a b c d ∧ sq3 a b c d ≤ sq3 e f g h := by
  have a1 := sqLo_mono h1 h2 h3; have a2 := sqHi_mono h1 h2 h3
  have b1 := sqLo_mono k1 k2 k3; have b2 := sqHi_mono k1 k2 k3
  have c1 := mulLo_mono h1 h2 h3 k1 k2 k3; have c2 := mulHi_mono h1 h2 h3 k1 k2 k3
  exact ⟨fl_mono (by decide) (by omega), ce_mono (by decide) (by omega), fl_mono (by decide) (by omega), ce_mono (by decide) (by omega)⟩
theorem BW_iff (a b c d e f g h : Int) : BW a b c d e f g h = true ↔ BV a b c d = true ∧ BV e f g h = true ∧ e ≤ a ∧ b ≤ f ∧ g ≤ c ∧ d ≤ h := by
  unfold BW
  simp only [Bool.and_eq_true, SW_iff]
  constructor
  · rintro ⟨⟨⟨x, y⟩, z, t⟩, u, v⟩; exact ⟨x, y, z, t, u, v⟩
  · rintro ⟨x, y, z, t, u, v⟩; exact ⟨⟨⟨x, y⟩, z, t⟩, u, v⟩
/-- The square of a box within a box lies within its square. -/
theorem sq_within {a b c d e f g h : Int} (hw : BW a b c d e f g h = true) (hq : SQB e f g h = true) : SQB a b c d = true ∧ BW (sq0 a b c d) (sq1 a b c d) (sq2 a b c d) (sq3 a b c d) (sq0 e f g h) (sq1 e f g h) (sq2 e f g h) (sq3 e f g h) = true := by
  obtain ⟨v1, v2, w1, w2, w3, w4⟩ := (BW_iff _ _ _ _ _ _ _ _).1 hw
  obtain ⟨p1, p2, p3, p4, p5, p6⟩ := (BV_iff _ _ _ _).1 v1
  have hs : BV (sq0 e f g h) (sq1 e f g h) (sq2 e f g h) (sq3 e f g h) = true := (Bool.and_eq_true_iff.1 hq).2
  obtain ⟨q1, q2, q3, q4, q5, q6⟩ := (BV_iff _ _ _ _).1 hs
  obtain ⟨m0, m1, m2, m3⟩ := sq_mono w1 p2 w2 w3 p5 w4
  have := sq01 a b c d
  have := sq23 a b c d
  have hi : BV (sq0 a b c d) (sq1 a b c d) (sq2 a b c d) (sq3 a b c d) = true := (BV_iff _ _ _ _).2 ⟨by omega, by omega, by omega, by omega, by omega, by omega⟩
  exact ⟨Bool.and_eq_true_iff.2 ⟨v1, hi⟩, (BW_iff _ _ _ _ _ _ _ _).2 ⟨hi, hs, m0, m1, m2, m3⟩⟩
theorem N_mono {a b c d e f g h : Int} (h1 : e ≤ a) (h2 : a ≤ b) (h3 : b ≤ f) (k1 : g ≤ c) (k2 : c ≤ d) (k3 : d ≤ h) : NLo e f g h ≤ NLo a b c d ∧ NHi a b c d ≤ NHi e f g h :=
  ⟨Int.add_le_add (sqLo_mono h1 h2 h3) (sqLo_mono k1 k2 k3), Int.add_le_add (sqHi_mono h1 h2 h3) (sqHi_mono k1 k2 k3)⟩
end Go.Proofs.Ytjbpaejjpamcpaa
