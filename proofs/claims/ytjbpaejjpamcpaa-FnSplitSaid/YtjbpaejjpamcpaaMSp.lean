import Derived.Test.YtjbpaejjpamcpaaKit
import Derived.Test.YtjbpaejjpamcpaaMBm
/- Orbits of points, kept to 832 binary places: what a quick walk over natural numbers shows of them. Plain Lean. -/
namespace Go.Proofs.Ytjbpaejjpamcpaa
set_option linter.unusedSimpArgs false
set_option linter.unusedVariables false
namespace Sp
/-! ### The quick walk -/
def LS : Nat := 208 * 4
def PP : Nat := (2 ^ 208) ^ 4
def L2 : Nat := 2
def P8 : Nat := 8 * PP
def P64 : Nat := 64 * PP
def PH : Nat := PP / 2
def PQ : Nat := PP / 4 + 1
def Q64 : Nat := 64 * (PP * PP)
def Q96 : Nat := 96 * (PP * PP)
def Q32 : Nat := 32 * (PP * PP)
def Q2 : Nat := 19 * (PP * PP) / 10
def P4 : Nat := 4 * PP
def nx (X A B : Nat) : Nat := Nat.sub (Nat.add (Nat.shiftRight (Nat.sub (Nat.add (Nat.add (Nat.mul A A) (Nat.mul P8 B)) Q64) (Nat.add (Nat.mul B B) (Nat.mul P8 A))) LS) X) P64
def ny (Y A B : Nat) : Nat := Nat.sub (Nat.add (Nat.shiftRight (Nat.sub (Nat.add (Nat.mul L2 (Nat.mul A B)) Q96) (Nat.mul P8 (Nat.add A B))) LS) Y) P64
def nn (A B : Nat) : Nat := Nat.sub (Nat.add (Nat.add (Nat.mul A A) (Nat.mul B B)) Q32) (Nat.mul P8 (Nat.add A B))
/-- So many steps, none of them far out; then what K says. -/
noncomputable def seg (X Y len : Nat) (K : Nat → Nat → Bool) : Nat → Nat → Bool :=
  Nat.rec (motive := fun _ => Nat → Nat → Bool) K (fun _ ih A B =>
    cond (Nat.ble (Nat.add (Nat.add (Nat.mul A A) (Nat.mul B B)) Q32) (Nat.add Q2 (Nat.mul P8 (Nat.add A B))))
      (ih (Nat.sub (Nat.add (Nat.shiftRight (Nat.sub (Nat.add (Nat.add (Nat.mul A A) (Nat.mul P8 B)) Q64) (Nat.add (Nat.mul B B) (Nat.mul P8 A))) LS) X) P64)
          (Nat.sub (Nat.add (Nat.shiftRight (Nat.sub (Nat.add (Nat.mul L2 (Nat.mul A B)) Q96) (Nat.mul P8 (Nat.add A B))) LS) Y) P64))
      false) len
/-- A disc that is taken into itself; or what K says. -/
def trap (X Y : Nat) (K : Nat → Nat → Bool) (A B : Nat) : Bool :=
  cond (Nat.ble (Nat.mul PP (Nat.add (Nat.add (Nat.add (Nat.sub A (nx X A B)) (Nat.sub (nx X A B) A)) (Nat.add (Nat.sub B (ny Y A B)) (Nat.sub (ny Y A B) B))) L2))
    (Nat.mul (Nat.sub PH (Nat.add (Nat.shiftRight (nn A B) LS) PQ)) (Nat.sub PH (Nat.add (Nat.shiftRight (nn A B) LS) PQ)))) true (K A B)
/-- The walk by segments. -/
noncomputable def walk (X Y : Nat) : List Nat → Nat → Nat → Bool
  | [] => fun _ _ => true
  | n :: r => seg X Y n (trap X Y (walk X Y r))

/-! ### Orbits over whole numbers -/
abbrev p : Int := (PP : Int)
def sx (X a b : Int) : Int := (a * a - b * b) / p + X
def sy (Y a b : Int) : Int := 2 * (a * b) / p + Y
def zf (X Y : Int) : Nat → Int → Int → Int × Int
  | 0, a, b => (a, b)
  | k + 1, a, b => zf X Y k (sx X a b) (sy Y a b)
theorem PP_pos : 0 < PP := Nat.pow_pos (Nat.pow_pos (by decide))
theorem p_pos : 0 < p := Int.natCast_pos.2 PP_pos
theorem pw2 (a b : Nat) : 2 ^ (a * b) = (2 ^ a) ^ b := Nat.pow_mul 2 a b
theorem LS_eq : 2 ^ LS = PP := by unfold LS PP; exact pw2 208 4
theorem shr_eq (n : Nat) : Nat.shiftRight n LS = n / PP := by
  show n >>> LS = _
  rw [Nat.shiftRight_eq_div_pow, LS_eq]
theorem sq_nn (x : Int) : 0 ≤ x * x := by
  rcases Int.le_total 0 x with h | h
  · exact Int.mul_nonneg h h
  · exact Int.mul_nonneg_of_nonpos_of_nonpos h h
theorem le_of_sq {t T : Int} (h0 : 0 ≤ T) (h : t * t ≤ T * T) : t ≤ T := by
  rcases Int.lt_or_le T t with h1 | h1
  · have h2 : (T + 1) * (T + 1) ≤ t * t := Int.mul_le_mul (by omega) (by omega) (by omega) (by omega)
    have h3 : (T + 1) * (T + 1) = T * T + 2 * T + 1 := by grind
    omega
  · exact h1
/-- Not far out. -/
def Nr (a b : Int) : Prop := 10 * (a * a + b * b) ≤ 19 * (p * p)
theorem pp_nn : 0 < p * p := Int.mul_pos p_pos p_pos
theorem Nr.one {a b : Int} (h : Nr a b) : -(2 * p) ≤ a ∧ a ≤ 2 * p ∧ -(2 * p) ≤ b ∧ b ≤ 2 * p := by
  unfold Nr at h
  have h0 := p_pos
  have ha := sq_nn a; have hb := sq_nn b; have hp := pp_nn
  have e : 2 * p * (2 * p) = 4 * (p * p) := by grind
  have e1 : -a * -a = a * a := Int.neg_mul_neg a a
  have e2 : -b * -b = b * b := Int.neg_mul_neg b b
  have r1 : a ≤ 2 * p := le_of_sq (by omega) (by omega)
  have r2 : -a ≤ 2 * p := le_of_sq (by omega) (by omega)
  have r3 : b ≤ 2 * p := le_of_sq (by omega) (by omega)
  have r4 : -b ≤ 2 * p := le_of_sq (by omega) (by omega)
  omega

/-- A number of the quick walk and what it stands for. -/
def At' (A : Nat) (a : Int) : Prop := (A : Int) = a + 4 * p
theorem nn_eq {A B : Nat} {a b : Int} (hA : At' A a) (hB : At' B b) : ((Nat.add (Nat.add (Nat.mul A A) (Nat.mul B B)) Q32 : Nat) : Int) = a * a + b * b + ((Nat.mul P8 (Nat.add A B) : Nat) : Int) := by
  unfold At' at hA hB
  simp only [Nat.add_eq, Nat.mul_eq, Q32, P8, Int.natCast_add, Int.natCast_mul, hA, hB, Int.cast_ofNat_Int]
  show (a + 4 * p) * (a + 4 * p) + (b + 4 * p) * (b + 4 * p) + 32 * (p * p) = a * a + b * b + 8 * p * (a + 4 * p + (b + 4 * p))
  grind
theorem ble_iff (a b : Nat) : Nat.ble a b = true ↔ (a : Int) ≤ (b : Int) := by
  rw [Nat.ble_eq]; omega
theorem Q2_eq (x : Int) : x ≤ (Q2 : Int) ↔ 10 * x ≤ 19 * (p * p) := by
  have e : (Q2 : Int) = 19 * (p * p) / 10 := by
    unfold Q2; rw [Int.natCast_ediv, Int.natCast_mul, Int.natCast_mul]; rfl
  rw [e]; omega
theorem near_iff {A B : Nat} {a b : Int} (hA : At' A a) (hB : At' B b) : Nat.ble (Nat.add (Nat.add (Nat.mul A A) (Nat.mul B B)) Q32) (Nat.add Q2 (Nat.mul P8 (Nat.add A B))) = true ↔ Nr a b := by
  rw [ble_iff, nn_eq hA hB]
  simp only [Nat.add_eq, Int.natCast_add]
  have := Q2_eq (a * a + b * b)
  unfold Nr
  omega
theorem div_shift (x : Int) (k : Int) : (x + k * (p * p)) / p = x / p + k * p := by
  rw [← Int.mul_assoc]
  exact Int.add_mul_ediv_right x (k * p) (by have := p_pos; omega)
theorem nx_eq {X A B : Nat} {x a b : Int} (hX : At' X x) (hA : At' A a) (hB : At' B b) (hn : Nr a b) (hx : -(2 * p) ≤ x) : At' (nx X A B) (sx x a b) := by
  have h0 := p_pos
  have hpp := pp_nn
  have ha := sq_nn a; have hb := sq_nn b
  unfold Nr at hn
  have e1 : ((Nat.add (Nat.add (Nat.mul A A) (Nat.mul P8 B)) Q64 : Nat) : Int) = ((Nat.add (Nat.mul B B) (Nat.mul P8 A) : Nat) : Int) + (a * a - b * b + 64 * (p * p)) := by
    unfold At' at hA hB
    simp only [Nat.add_eq, Nat.mul_eq, Q64, P8, Int.natCast_add, Int.natCast_mul, hA, hB, Int.cast_ofNat_Int]
    show (a + 4 * p) * (a + 4 * p) + 8 * p * (b + 4 * p) + 64 * (p * p) = (b + 4 * p) * (b + 4 * p) + 8 * p * (a + 4 * p) + (a * a - b * b + 64 * (p * p))
    grind
  have e2 : ((Nat.sub (Nat.add (Nat.add (Nat.mul A A) (Nat.mul P8 B)) Q64) (Nat.add (Nat.mul B B) (Nat.mul P8 A)) : Nat) : Int) = a * a - b * b + 64 * (p * p) := by
    rw [Nat.sub_eq]; omega
  have e3 : ((Nat.shiftRight (Nat.sub (Nat.add (Nat.add (Nat.mul A A) (Nat.mul P8 B)) Q64) (Nat.add (Nat.mul B B) (Nat.mul P8 A))) LS : Nat) : Int) = (a * a - b * b) / p + 64 * p := by
    rw [shr_eq, Int.natCast_ediv, e2]; exact div_shift _ 64
  have e4 : -(2 * p) ≤ (a * a - b * b) / p := by
    apply Int.le_ediv_of_mul_le h0
    have : -(2 * p) * p = -(2 * (p * p)) := by grind
    omega
  unfold At' at hX ⊢
  unfold nx sx
  have e5 : (P64 : Int) = 64 * p := by unfold P64; rw [Int.natCast_mul]; rfl
  rw [Nat.sub_eq, Nat.add_eq]
  omega
theorem ny_eq {Y A B : Nat} {y a b : Int} (hY : At' Y y) (hA : At' A a) (hB : At' B b) (hn : Nr a b) (hy : -(2 * p) ≤ y) : At' (ny Y A B) (sy y a b) := by
  have h0 := p_pos
  have hpp := pp_nn
  have hab : -(2 * (p * p)) ≤ 2 * (a * b) := by
    have h := sq_nn (a + b)
    have e : (a + b) * (a + b) = a * a + b * b + 2 * (a * b) := by grind
    unfold Nr at hn
    omega
  unfold Nr at hn
  have e1 : ((Nat.add (Nat.mul L2 (Nat.mul A B)) Q96 : Nat) : Int) = ((Nat.mul P8 (Nat.add A B) : Nat) : Int) + (2 * (a * b) + 64 * (p * p)) := by
    unfold At' at hA hB
    simp only [Nat.add_eq, Nat.mul_eq, Q96, P8, L2, Int.natCast_add, Int.natCast_mul, hA, hB, Int.cast_ofNat_Int]
    show 2 * ((a + 4 * p) * (b + 4 * p)) + 96 * (p * p) = 8 * p * (a + 4 * p + (b + 4 * p)) + (2 * (a * b) + 64 * (p * p))
    grind
  have e2 : ((Nat.sub (Nat.add (Nat.mul L2 (Nat.mul A B)) Q96) (Nat.mul P8 (Nat.add A B)) : Nat) : Int) = 2 * (a * b) + 64 * (p * p) := by
    rw [Nat.sub_eq]; omega
  have e3 : ((Nat.shiftRight (Nat.sub (Nat.add (Nat.mul L2 (Nat.mul A B)) Q96) (Nat.mul P8 (Nat.add A B))) LS : Nat) : Int) = 2 * (a * b) / p + 64 * p := by
    rw [shr_eq, Int.natCast_ediv, e2]; exact div_shift _ 64
  have e4 : -(2 * p) ≤ 2 * (a * b) / p := by
    apply Int.le_ediv_of_mul_le h0
    have : -(2 * p) * p = -(2 * (p * p)) := by grind
    omega
  unfold At' at hY ⊢
  unfold ny sy
  have e5 : (P64 : Int) = 64 * p := by unfold P64; rw [Int.natCast_mul]; rfl
  rw [Nat.sub_eq, Nat.add_eq]
  omega
/-- What a segment shows. -/
theorem seg_ok {X Y : Nat} {x y : Int} (hX : At' X x) (hY : At' Y y) (hx : -(2 * p) ≤ x) (hy : -(2 * p) ≤ y) (K : Nat → Nat → Bool) : ∀ (n : Nat) (A B : Nat) (a b : Int), At' A a → At' B b → seg X Y n K A B = true → (∀ j, j < n → Nr (zf x y j a b).1 (zf x y j a b).2) ∧ ∃ A' B', At' A' (zf x y n a b).1 ∧ At' B' (zf x y n a b).2 ∧ K A' B' = true
  | 0, A, B, a, b, hA, hB, h => ⟨fun j hj => absurd hj (by omega), A, B, hA, hB, h⟩
  | n + 1, A, B, a, b, hA, hB, h => by
    have h' : cond (Nat.ble (Nat.add (Nat.add (Nat.mul A A) (Nat.mul B B)) Q32) (Nat.add Q2 (Nat.mul P8 (Nat.add A B)))) (seg X Y n K (nx X A B) (ny Y A B)) false = true := h
    cases hc : Nat.ble (Nat.add (Nat.add (Nat.mul A A) (Nat.mul B B)) Q32) (Nat.add Q2 (Nat.mul P8 (Nat.add A B))) with
    | false => rw [hc] at h'; cases h'
    | true =>
      rw [hc] at h'
      have hn := (near_iff hA hB).1 hc
      obtain ⟨r1, A', B', r2, r3, r4⟩ := seg_ok hX hY hx hy K n _ _ _ _ (nx_eq hX hA hB hn hx) (ny_eq hY hA hB hn hy) h'
      refine ⟨fun j hj => ?_, A', B', r2, r3, r4⟩
      cases j with
      | zero => exact hn
      | succ j => exact r1 j (by omega)
/-! ### Discs that are taken into themselves -/
def Bl (x y X : Int) : Prop := 0 ≤ X ∧ x * x + y * y ≤ X * X
theorem Bl.mul {x y X x' y' X' : Int} (h : Bl x y X) (h' : Bl x' y' X') : Bl (x * x' - y * y') (x * y' + y * x') (X * X') := by
  refine ⟨Int.mul_nonneg h.1 h'.1, ?_⟩
  have e1 : (x * x' - y * y') * (x * x' - y * y') + (x * y' + y * x') * (x * y' + y * x') = (x * x + y * y) * (x' * x' + y' * y') := by grind
  have e2 : X * X' * (X * X') = X * X * (X' * X') := by grind
  rw [e1, e2]
  have := sq_nn x'; have := sq_nn y'; have := sq_nn X
  exact Int.mul_le_mul h.2 h'.2 (by omega) (by omega)
theorem Bl.add {x y X x' y' X' : Int} (h : Bl x y X) (h' : Bl x' y' X') : Bl (x + x') (y + y') (X + X') := by
  have h0 := h.1; have h0' := h'.1
  refine ⟨by omega, ?_⟩
  have e : x * x' + y * y' ≤ X * X' := by
    apply le_of_sq (Int.mul_nonneg h0 h0')
    have m := (Bl.mul h (show Bl x' (-y') X' from ⟨h0', by rw [Int.neg_mul_neg]; exact h'.2⟩)).2
    have e1 : x * x' - y * -y' = x * x' + y * y' := by grind
    rw [e1] at m
    have := sq_nn (x * -y' + y * x')
    omega
  have e1 : (x + x') * (x + x') + (y + y') * (y + y') = (x * x + y * y) + (x' * x' + y' * y') + 2 * (x * x' + y * y') := by grind
  have e2 : (X + X') * (X + X') = X * X + X' * X' + 2 * (X * X') := by grind
  have := h.2; have := h'.2
  omega
theorem Bl.mono {x y X X' : Int} (h : Bl x y X) (hX : X ≤ X') : Bl x y X' := by
  have h0 := h.1
  have : X * X ≤ X' * X' := Int.mul_le_mul hX hX h0 (by omega)
  exact ⟨by omega, by have := h.2; omega⟩
theorem Bl.of_abs {x y u v X : Int} (h1 : x ≤ u) (h2 : -x ≤ u) (h3 : y ≤ v) (h4 : -y ≤ v) (h : u + v ≤ X) : Bl x y X := by
  have a : Bl x 0 u := ⟨by omega, by
    rcases Int.le_total 0 x with k | k
    · have := Int.mul_le_mul h1 h1 k (by omega); omega
    · have := Int.mul_le_mul h2 h2 (by omega) (by omega); rw [Int.neg_mul_neg] at this; omega⟩
  have b : Bl 0 y v := ⟨by omega, by
    rcases Int.le_total 0 y with k | k
    · have := Int.mul_le_mul h3 h3 k (by omega); omega
    · have := Int.mul_le_mul h4 h4 (by omega) (by omega); rw [Int.neg_mul_neg] at this; omega⟩
  have c := Bl.add a b
  rw [Int.add_zero, Int.zero_add] at c
  exact c.mono h
theorem Bl.scale {x y X k : Int} (h : Bl x y X) (hk : 0 ≤ k) : Bl (k * x) (k * y) (k * X) := by
  have m := Bl.mul (show Bl k 0 k from ⟨hk, by omega⟩) h
  have e1 : k * x - 0 * y = k * x := by grind
  have e2 : k * y + 0 * x = k * y := by grind
  rwa [e1, e2] at m
theorem Bl.unscale {x y X k : Int} (hk : 0 < k) (h : Bl (k * x) (k * y) (k * X)) : Bl x y X := by
  have h1 := h.1; have h2 := h.2
  refine ⟨Int.nonneg_of_mul_nonneg_right h1 hk, ?_⟩
  have e1 : k * x * (k * x) + k * y * (k * y) = k * k * (x * x + y * y) := by grind
  have e2 : k * X * (k * X) = k * k * (X * X) := by grind
  rw [e1, e2] at h2
  exact Int.le_of_mul_le_mul_left h2 (Int.mul_pos hk hk)
theorem div_err (n : Int) : ∃ r, p * (n / p) = n - r ∧ 0 ≤ r ∧ r < p :=
  ⟨n % p, by have := Int.mul_ediv_add_emod n p; omega, Int.emod_nonneg _ (by have := p_pos; omega), Int.emod_lt_of_pos _ p_pos⟩
theorem trap_step {x y a b M R D u v : Int} (hM : Bl a b M) (hh : 2 * (M + R) ≤ p) (d1 : Bl (sx x a b - a) (sy y a b - b) D) (ht : p * (D + 2) ≤ R * R) (h : Bl (u - a) (v - b) R) : Bl (sx x u v - a) (sy y u v - b) R := by
  have h0 := p_pos
  obtain ⟨r1, k1, k2, k3⟩ := div_err (u * u - v * v)
  obtain ⟨r2, k4, k5, k6⟩ := div_err (2 * (u * v))
  obtain ⟨r3, k7, k8, k9⟩ := div_err (a * a - b * b)
  obtain ⟨r4, k10, k11, k12⟩ := div_err (2 * (a * b))
  have g1 := Bl.mul h (((hM.scale (show (0 : Int) ≤ 2 by decide)).add h))
  have g2 : Bl (-(r1 - r3)) (-(r2 - r4)) (2 * p) := Bl.of_abs (u := p) (v := p) (by omega) (by omega) (by omega) (by omega) (by omega)
  have g3 := (g1.add g2).add (d1.scale (Int.le_of_lt h0))
  have e1 : (u - a) * (2 * a + (u - a)) - (v - b) * (2 * b + (v - b)) + -(r1 - r3) + p * (sx x a b - a) = p * (sx x u v - a) := by
    unfold sx
    have q1 : p * ((a * a - b * b) / p + x - a) = p * ((a * a - b * b) / p) + p * x - p * a := by grind
    have q2 : p * ((u * u - v * v) / p + x - a) = p * ((u * u - v * v) / p) + p * x - p * a := by grind
    rw [q1, q2, k1, k7]; grind
  have e2 : (u - a) * (2 * b + (v - b)) + (v - b) * (2 * a + (u - a)) + -(r2 - r4) + p * (sy y a b - b) = p * (sy y u v - b) := by
    unfold sy
    have q1 : p * (2 * (a * b) / p + y - b) = p * (2 * (a * b) / p) + p * y - p * b := by grind
    have q2 : p * (2 * (u * v) / p + y - b) = p * (2 * (u * v) / p) + p * y - p * b := by grind
    rw [q1, q2, k4, k10]; grind
  rw [e1, e2] at g3
  refine Bl.unscale h0 (g3.mono ?_)
  have hR := h.1
  have m1 : R * (2 * M + R) + R * R ≤ R * p := by
    rw [← Int.mul_add]
    exact Int.mul_le_mul_of_nonneg_left (by omega) hR
  have m2 : p * (D + 2) = p * D + 2 * p := by grind
  have m3 : R * p = p * R := Int.mul_comm _ _
  omega
theorem trap_orbit {x y a b M R D : Int} (hM : Bl a b M) (hh : 2 * (M + R) ≤ p) (d1 : Bl (sx x a b - a) (sy y a b - b) D) (ht : p * (D + 2) ≤ R * R) : ∀ (j : Nat) (u v : Int), Bl (u - a) (v - b) R → Bl ((zf x y j u v).1 - a) ((zf x y j u v).2 - b) R
  | 0, _, _, h => h
  | j + 1, _, _, h => trap_orbit hM hh d1 ht j _ _ (trap_step hM hh d1 ht h)
theorem Nr_of_Bl {a b M R u v : Int} (hM : Bl a b M) (hh : 2 * (M + R) ≤ p) (h : Bl (u - a) (v - b) R) : Nr u v := by
  have g := hM.add h
  have e1 : a + (u - a) = u := by omega
  have e2 : b + (v - b) = v := by omega
  rw [e1, e2] at g
  have h1 := g.1; have h2 := g.2
  have : (M + R) * (M + R) ≤ p * p := Int.mul_le_mul (by omega) (by omega) h1 (by have := p_pos; omega)
  have := pp_nn
  unfold Nr; omega
theorem two_PH : 2 * (PH : Int) ≤ p := by
  have : 2 * PH ≤ PP := by unfold PH; omega
  show 2 * (PH : Int) ≤ (PP : Int)
  omega
theorem four_PQ : (PQ : Int) = p / 4 + 1 := by unfold PQ; rw [Int.natCast_add, Int.natCast_ediv]; rfl
theorem p_four : 4 * (p / 4) = p := by
  have : PP = 4 * (2 ^ 206 * (2 ^ 208) ^ 3) := by decide +kernel
  show 4 * ((PP : Int) / 4) = (PP : Int)
  omega
/-- What a trap shows. -/
theorem trap_ok {X Y : Nat} {x y : Int} (hX : At' X x) (hY : At' Y y) (hx : -(2 * p) ≤ x) (hy : -(2 * p) ≤ y) (K : Nat → Nat → Bool) {A B : Nat} {a b : Int} (hA : At' A a) (hB : At' B b) (h : trap X Y K A B = true) : K A B = true ∨ ∀ j, Nr (zf x y j a b).1 (zf x y j a b).2 := by
  unfold trap at h
  cases hc : Nat.ble (Nat.mul PP (Nat.add (Nat.add (Nat.add (Nat.sub A (nx X A B)) (Nat.sub (nx X A B) A)) (Nat.add (Nat.sub B (ny Y A B)) (Nat.sub (ny Y A B) B))) L2)) (Nat.mul (Nat.sub PH (Nat.add (Nat.shiftRight (nn A B) LS) PQ)) (Nat.sub PH (Nat.add (Nat.shiftRight (nn A B) LS) PQ))) with
  | false => rw [hc] at h; exact Or.inl h
  | true =>
    refine Or.inr ?_
    have h0 := p_pos
    have hpp := pp_nn
    have ha := sq_nn a; have hb := sq_nn b
    have hn : (nn A B : Int) = a * a + b * b := by
      have := nn_eq hA hB
      unfold nn; rw [Nat.sub_eq]; omega
    have hM : ((Nat.add (Nat.shiftRight (nn A B) LS) PQ : Nat) : Int) = (a * a + b * b) / p + (p / 4 + 1) := by
      rw [Nat.add_eq, Int.natCast_add, shr_eq, Int.natCast_ediv, hn, four_PQ]
    generalize hMn : Nat.add (Nat.shiftRight (nn A B) LS) PQ = M at hc hM
    have hc1 := (ble_iff _ _).1 hc
    have hpos : 0 < PH - M := by
      rcases Nat.eq_zero_or_pos (PH - M) with k | k
      · simp only [Nat.sub_eq, k, Nat.mul_eq, Nat.mul_zero, Nat.add_eq, Int.natCast_mul] at hc1
        have : (0 : Int) < (PP : Int) * ((A - nx X A B + (nx X A B - A) + (B - ny Y A B + (ny Y A B - B)) + L2 : Nat) : Int) := Int.mul_pos h0 (by unfold L2; omega)
        omega
      · exact k
    have hB1 : Bl a b (M : Int) := by
      refine ⟨by omega, ?_⟩
      obtain ⟨r, q1, q2, q3⟩ := div_err (a * a + b * b)
      have hq0 : 0 ≤ (a * a + b * b) / p := Int.ediv_nonneg (by omega) (by omega)
      rw [hM]
      generalize (a * a + b * b) / p = q at *
      have q4 := p_four
      generalize p / 4 = f at *
      have e1 : (q + (f + 1)) * (q + (f + 1)) = (q + 1 - f) * (q + 1 - f) + 4 * f * (q + 1) := by grind
      have e2 : p * (q + 1) = p * q + p := by grind
      have := sq_nn (q + 1 - f)
      rw [e1, q4, e2]
      omega
    have hMR : (M : Int) + ((PH - M : Nat) : Int) = (PH : Int) := by omega
    have hnr : Nr a b := by
      have := (Nr_of_Bl (u := a) (v := b) (R := 0) hB1 (by have := two_PH; omega) ⟨by omega, by rw [Int.sub_self, Int.sub_self]; decide⟩)
      exact this
    have e1 := nx_eq hX hA hB hnr hx
    have e2 := ny_eq hY hA hB hnr hy
    unfold At' at e1 e2 hA hB
    have hD : Bl (sx x a b - a) (sy y a b - b) ((Nat.add (Nat.add (Nat.sub A (nx X A B)) (Nat.sub (nx X A B) A)) (Nat.add (Nat.sub B (ny Y A B)) (Nat.sub (ny Y A B) B)) : Nat) : Int) := by
      refine Bl.of_abs (u := ((A - nx X A B + (nx X A B - A) : Nat) : Int)) (v := ((B - ny Y A B + (ny Y A B - B) : Nat) : Int)) (by omega) (by omega) (by omega) (by omega) ?_
      simp only [Nat.add_eq, Nat.sub_eq]
      omega
    have ht : p * (((Nat.add (Nat.add (Nat.sub A (nx X A B)) (Nat.sub (nx X A B) A)) (Nat.add (Nat.sub B (ny Y A B)) (Nat.sub (ny Y A B) B)) : Nat) : Int) + 2) ≤ ((PH - M : Nat) : Int) * ((PH - M : Nat) : Int) := by
      have := hc1
      rw [Nat.mul_eq, Nat.mul_eq, Int.natCast_mul, Int.natCast_mul] at this
      exact this
    intro j
    have hh : 2 * ((M : Int) + ((PH - M : Nat) : Int)) ≤ p := by have := two_PH; omega
    exact Nr_of_Bl hB1 hh (trap_orbit hB1 hh hD ht j a b ⟨by omega, by rw [Int.sub_self, Int.sub_self]; exact sq_nn _⟩)
/-- What a walk shows. -/
theorem zf_add (x y : Int) : ∀ (m n : Nat) (a b : Int), zf x y (m + n) a b = zf x y n (zf x y m a b).1 (zf x y m a b).2
  | 0, n, a, b => by rw [Nat.zero_add]; rfl
  | m + 1, n, a, b => by rw [Nat.succ_add]; exact zf_add x y m n _ _
theorem walk_ok {X Y : Nat} {x y : Int} (hX : At' X x) (hY : At' Y y) (hx : -(2 * p) ≤ x) (hy : -(2 * p) ≤ y) : ∀ (l : List Nat) (A B : Nat) (a b : Int), At' A a → At' B b → walk X Y l A B = true → ∀ j, j < l.sum → Nr (zf x y j a b).1 (zf x y j a b).2
  | [], _, _, _, _, _, _, _, j, hj => absurd hj (by simp)
  | n :: r, A, B, a, b, hA, hB, h, j, hj => by
    rw [List.sum_cons] at hj
    obtain ⟨h1, A', B', h2, h3, h4⟩ := seg_ok hX hY hx hy _ n A B a b hA hB h
    by_cases k : j < n
    · exact h1 j k
    · obtain ⟨i, rfl⟩ : ∃ i, j = n + i := ⟨j - n, by omega⟩
      rw [zf_add]
      rcases trap_ok hX hY hx hy _ h2 h3 h4 with h5 | h5
      · exact walk_ok hX hY hx hy r _ _ _ _ h2 h3 h5 i (by omega)
      · exact h5 i
end Sp
end Go.Proofs.Ytjbpaejjpamcpaa
/- A box with a point whose orbit stays does not wholly escape. Plain Lean. -/
namespace Go.Proofs.Ytjbpaejjpamcpaa
set_option linter.unusedSimpArgs false
set_option linter.unusedVariables false
namespace Sp
/-! ### Boxes at the walk's places -/
def q : Int := p / 16777216
theorem q_eq : 16777216 * q = p := by
  have : PP = 16777216 * (2 ^ 184 * (2 ^ 208) ^ 3) := by decide +kernel
  show 16777216 * ((PP : Int) / 16777216) = (PP : Int)
  omega
theorem q_pos : 0 < q := by have := q_eq; have := p_pos; omega
theorem qq_pos : 0 < q * q := Int.mul_pos q_pos q_pos
theorem min_mul {k : Int} (hk : 0 ≤ k) (x y : Int) : min (x * k) (y * k) = min x y * k := by
  rcases Int.le_total x y with h | h
  · have := Int.mul_le_mul_of_nonneg_right h hk
    rw [Int.min_eq_left h, Int.min_eq_left this]
  · have := Int.mul_le_mul_of_nonneg_right h hk
    rw [Int.min_eq_right h, Int.min_eq_right this]
theorem max_mul {k : Int} (hk : 0 ≤ k) (x y : Int) : max (x * k) (y * k) = max x y * k := by
  rcases Int.le_total x y with h | h
  · have := Int.mul_le_mul_of_nonneg_right h hk
    rw [Int.max_eq_right h, Int.max_eq_right this]
  · have := Int.mul_le_mul_of_nonneg_right h hk
    rw [Int.max_eq_left h, Int.max_eq_left this]
theorem mm (a b : Int) : a * q * (b * q) = a * b * (q * q) := by grind
theorem sqHi_q (l h : Int) : sqHi (l * q) (h * q) = sqHi l h * (q * q) := by
  unfold sqHi; rw [mm, mm, max_mul (Int.le_of_lt qq_pos)]
theorem sqLo_q (l h : Int) : sqLo (l * q) (h * q) = sqLo l h * (q * q) := by
  unfold sqLo; rw [mm, mm, min_mul (Int.le_of_lt qq_pos)]
  have e : (l * q ≤ 0 ∧ 0 ≤ h * q) ↔ (l ≤ 0 ∧ 0 ≤ h) := by
    constructor
    · rintro ⟨h1, h2⟩
      refine ⟨?_, ?_⟩
      · rcases Int.lt_or_le 0 l with k | k
        · have := Int.mul_pos k q_pos; omega
        · exact k
      · rcases Int.lt_or_le h 0 with k | k
        · have := Int.mul_neg_of_neg_of_pos k q_pos; omega
        · exact k
    · rintro ⟨h1, h2⟩
      exact ⟨Int.mul_nonpos_of_nonpos_of_nonneg h1 (Int.le_of_lt q_pos), Int.mul_nonneg h2 (Int.le_of_lt q_pos)⟩
  simp only [e]
  split
  · exact (Int.zero_mul _).symm
  · rfl
theorem mulLo_q (a b c d : Int) : mulLo (a * q) (b * q) (c * q) (d * q) = mulLo a b c d * (q * q) := by
  unfold mulLo; rw [mm, mm, mm, mm, min_mul (Int.le_of_lt qq_pos), min_mul (Int.le_of_lt qq_pos), min_mul (Int.le_of_lt qq_pos)]
theorem mulHi_q (a b c d : Int) : mulHi (a * q) (b * q) (c * q) (d * q) = mulHi a b c d * (q * q) := by
  unfold mulHi; rw [mm, mm, mm, mm, max_mul (Int.le_of_lt qq_pos), max_mul (Int.le_of_lt qq_pos), max_mul (Int.le_of_lt qq_pos)]
theorem sq_self (u : Int) : sqLo u u = u * u ∧ sqHi u u = u * u := by
  unfold sqLo sqHi
  refine ⟨?_, by omega⟩
  split
  · obtain rfl : u = 0 := by omega
    rfl
  · omega
theorem sq_mem {l h u : Int} (h1 : l * q ≤ u) (h2 : u ≤ h * q) : sqLo l h * (q * q) ≤ u * u ∧ u * u ≤ sqHi l h * (q * q) := by
  have a := sqLo_mono h1 (Int.le_refl u) h2
  have b := sqHi_mono h1 (Int.le_refl u) h2
  rw [sqLo_q, (sq_self u).1] at a
  rw [sqHi_q, (sq_self u).2] at b
  exact ⟨a, b⟩
theorem mul_memq {a b c d u v : Int} (h1 : a * q ≤ u) (h2 : u ≤ b * q) (k1 : c * q ≤ v) (k2 : v ≤ d * q) : mulLo a b c d * (q * q) ≤ u * v ∧ u * v ≤ mulHi a b c d * (q * q) := by
  have := mul_mem h1 h2 k1 k2
  rwa [mulLo_q, mulHi_q] at this
/-- A number of the walk is near a point of a box. -/
def Inb (z0 z1 z2 z3 a b e : Int) : Prop := ∃ u v : Int, z0 * q ≤ u ∧ u ≤ z1 * q ∧ z2 * q ≤ v ∧ v ≤ z3 * q ∧ -e ≤ a - u ∧ a - u ≤ e ∧ -e ≤ b - v ∧ b - v ≤ e
theorem Inb.of {z0 z1 z2 z3 a b e : Int} (h0 : z0 ≤ z1) (h0' : z2 ≤ z3) (he : 0 ≤ e) (h1 : z0 * q - e ≤ a) (h2 : a ≤ z1 * q + e) (k1 : z2 * q - e ≤ b) (k2 : b ≤ z3 * q + e) : Inb z0 z1 z2 z3 a b e := by
  have m1 := Int.mul_le_mul_of_nonneg_right h0 (Int.le_of_lt q_pos)
  have m2 := Int.mul_le_mul_of_nonneg_right h0' (Int.le_of_lt q_pos)
  exact ⟨max (z0 * q) (min a (z1 * q)), max (z2 * q) (min b (z3 * q)), by omega, by omega, by omega, by omega, by omega, by omega, by omega, by omega⟩
theorem Nr.sum {a b : Int} (h : Nr a b) : ∃ A B : Int, -A ≤ a ∧ a ≤ A ∧ -B ≤ b ∧ b ≤ B ∧ 100 * (A + B) ≤ 195 * p := by
  unfold Nr at h
  have h0 := p_pos
  have e1 : (a + b) * (a + b) + (a - b) * (a - b) = 2 * (a * a + b * b) := by grind
  have n1 := sq_nn (a + b); have n2 := sq_nn (a - b)
  have e2 : 195 * p * (195 * p) = 38025 * (p * p) := by grind
  have hpp := pp_nn
  have g : ∀ s : Int, s * s ≤ 2 * (a * a + b * b) → 100 * s ≤ 195 * p := fun s hs => by
    refine le_of_sq (by omega) ?_
    have : 100 * s * (100 * s) = 10000 * (s * s) := by grind
    omega
  have g1 := g (a + b) (by omega)
  have g2 := g (a - b) (by omega)
  have g3 := g (-(a + b)) (by rw [Int.neg_mul_neg]; omega)
  have g4 := g (-(a - b)) (by rw [Int.neg_mul_neg]; omega)
  exact ⟨max a (-a), max b (-b), by omega, by omega, by omega, by omega, by omega⟩
theorem mul_abs {x e s S : Int} (h1 : -e ≤ x) (h2 : x ≤ e) (k1 : -S ≤ s) (k2 : s ≤ S) : -(e * S) ≤ x * s ∧ x * s ≤ e * S := by
  have e1 : (e - x) * (S - s) = e * S - e * s - x * S + x * s := by grind
  have e2 : (e + x) * (S + s) = e * S + e * s + x * S + x * s := by grind
  have e3 : (e - x) * (S + s) = e * S + e * s - x * S - x * s := by grind
  have e4 : (e + x) * (S - s) = e * S - e * s + x * S - x * s := by grind
  have := Int.mul_nonneg (show 0 ≤ e - x by omega) (show 0 ≤ S - s by omega)
  have := Int.mul_nonneg (show 0 ≤ e + x by omega) (show 0 ≤ S + s by omega)
  have := Int.mul_nonneg (show 0 ≤ e - x by omega) (show 0 ≤ S + s by omega)
  have := Int.mul_nonneg (show 0 ≤ e + x by omega) (show 0 ≤ S - s by omega)
  omega
/-- How far squares and products may be off. -/
theorem off {a b e u v : Int} (hn : Nr a b) (he : 100 * e ≤ p) (h1 : -e ≤ a - u) (h2 : a - u ≤ e) (h3 : -e ≤ b - v) (h4 : b - v ≤ e) :
    (-(4 * (p * e)) ≤ a * a - b * b - (u * u - v * v) ∧ a * a - b * b - (u * u - v * v) ≤ 4 * (p * e)) ∧ (-(4 * (p * e)) ≤ 2 * (a * b) - 2 * (u * v) ∧ 2 * (a * b) - 2 * (u * v) ≤ 4 * (p * e)) ∧ u * u + v * v ≤ a * a + b * b + 4 * (p * e) := by
  obtain ⟨A, B, a1, a2, b1, b2, hs⟩ := hn.sum
  have he0 : 0 ≤ e := by omega
  have m1 := mul_abs (s := 2 * a - (a - u)) (S := 2 * A + e) h1 h2 (by omega) (by omega)
  have m2 := mul_abs (s := 2 * b - (b - v)) (S := 2 * B + e) h3 h4 (by omega) (by omega)
  have m3 := mul_abs (s := v) (S := B + e) h1 h2 (by omega) (by omega)
  have m4 := mul_abs (s := a) (S := A) h3 h4 (by omega) (by omega)
  have k : e * (2 * A + e + (2 * B + e)) ≤ e * (4 * p) := Int.mul_le_mul_of_nonneg_left (by omega) he0
  have k1 : e * (2 * A + e) + e * (2 * B + e) = e * (2 * A + e + (2 * B + e)) := by grind
  have k2 : e * (4 * p) = 4 * (p * e) := by grind
  have k3 : 2 * (e * (B + e)) + 2 * (e * A) = e * (2 * A + e + (2 * B + e)) := by grind
  have q1 : (a - u) * (2 * a - (a - u)) = a * a - u * u := by grind
  have q2 : (b - v) * (2 * b - (b - v)) = b * b - v * v := by grind
  have q3 : (a - u) * v + (b - v) * a = a * b - u * v := by grind
  omega
theorem le_of_p {x y : Int} (h : p * x ≤ p * y) : x ≤ y := Int.le_of_mul_le_mul_left h p_pos
theorem upq (x : Int) : x * 16777216 * (q * q) = p * (x * q) := by rw [← q_eq]; grind
theorem fl_q {n s : Int} (h : n * (q * q) ≤ s) : p * (fl n 16777216 * q) ≤ s := by
  have h1 : fl n 16777216 * 16777216 ≤ n := by unfold fl; omega
  have := Int.mul_le_mul_of_nonneg_right h1 (Int.le_of_lt qq_pos)
  rw [upq] at this; omega
theorem ce_q {n s : Int} (h : s ≤ n * (q * q)) : s ≤ p * (ce n 16777216 * q) := by
  have h1 : n ≤ ce n 16777216 * 16777216 := by unfold ce; omega
  have := Int.mul_le_mul_of_nonneg_right h1 (Int.le_of_lt qq_pos)
  rw [upq] at this; omega
theorem step_in {z0 z1 z2 z3 a b e c0 c1 c2 c3 X Y : Int} (hI : Inb z0 z1 z2 z3 a b e) (hn : Nr a b) (he : 100 * e ≤ p) (he0 : 0 ≤ e) (x0 : c0 ≤ X) (x1 : X ≤ c1) (y0 : c2 ≤ Y) (y1 : Y ≤ c3) (v1 : sq0 z0 z1 z2 z3 + c0 ≤ sq1 z0 z1 z2 z3 + c1) (v2 : sq2 z0 z1 z2 z3 + c2 ≤ sq3 z0 z1 z2 z3 + c3) :
    Inb (sq0 z0 z1 z2 z3 + c0) (sq1 z0 z1 z2 z3 + c1) (sq2 z0 z1 z2 z3 + c2) (sq3 z0 z1 z2 z3 + c3) (sx (X * q) a b) (sy (Y * q) a b) (4 * e + 1) := by
  obtain ⟨u, v, u1, u2, w1, w2, d1, d2, d3, d4⟩ := hI
  have hp := p_pos
  have hq := Int.le_of_lt q_pos
  obtain ⟨⟨o1, o2⟩, ⟨o3, o4⟩, -⟩ := off hn he d1 d2 d3 d4
  have s1 := sq_mem u1 u2
  have s2 := sq_mem w1 w2
  have s3 := mul_memq u1 u2 w1 w2
  obtain ⟨r1, k1, k2, k3⟩ := div_err (a * a - b * b)
  obtain ⟨r2, k4, k5, k6⟩ := div_err (2 * (a * b))
  have mx0 := Int.mul_le_mul_of_nonneg_right x0 hq
  have mx1 := Int.mul_le_mul_of_nonneg_right x1 hq
  have my0 := Int.mul_le_mul_of_nonneg_right y0 hq
  have my1 := Int.mul_le_mul_of_nonneg_right y1 hq
  have f0 : p * (sq0 z0 z1 z2 z3 * q) ≤ u * u - v * v := fl_q (by rw [Int.sub_mul]; omega)
  have f1 : u * u - v * v ≤ p * (sq1 z0 z1 z2 z3 * q) := ce_q (by rw [Int.sub_mul]; omega)
  have f2 : p * (sq2 z0 z1 z2 z3 * q) ≤ 2 * (u * v) := fl_q (by rw [Int.mul_assoc]; omega)
  have f3 : 2 * (u * v) ≤ p * (sq3 z0 z1 z2 z3 * q) := ce_q (by rw [Int.mul_assoc]; omega)
  have g0 : sq0 z0 z1 z2 z3 * q - (4 * e + 1) ≤ (a * a - b * b) / p := le_of_p (by
    have : p * (sq0 z0 z1 z2 z3 * q - (4 * e + 1)) = p * (sq0 z0 z1 z2 z3 * q) - 4 * (p * e) - p := by grind
    rw [this, k1]; omega)
  have g1 : (a * a - b * b) / p ≤ sq1 z0 z1 z2 z3 * q + (4 * e + 1) := le_of_p (by
    have : p * (sq1 z0 z1 z2 z3 * q + (4 * e + 1)) = p * (sq1 z0 z1 z2 z3 * q) + 4 * (p * e) + p := by grind
    rw [this, k1]; omega)
  have g2 : sq2 z0 z1 z2 z3 * q - (4 * e + 1) ≤ 2 * (a * b) / p := le_of_p (by
    have : p * (sq2 z0 z1 z2 z3 * q - (4 * e + 1)) = p * (sq2 z0 z1 z2 z3 * q) - 4 * (p * e) - p := by grind
    rw [this, k4]; omega)
  have g3 : 2 * (a * b) / p ≤ sq3 z0 z1 z2 z3 * q + (4 * e + 1) := le_of_p (by
    have : p * (sq3 z0 z1 z2 z3 * q + (4 * e + 1)) = p * (sq3 z0 z1 z2 z3 * q) + 4 * (p * e) + p := by grind
    rw [this, k4]; omega)
  unfold sx sy
  refine Inb.of v1 v2 (by omega) ?_ ?_ ?_ ?_ <;> rw [Int.add_mul] <;> omega
theorem norm_in {z0 z1 z2 z3 a b e : Int} (hI : Inb z0 z1 z2 z3 a b e) (hn : Nr a b) (he : 100 * e ≤ p) : NLo z0 z1 z2 z3 ≤ 1125899906842624 := by
  obtain ⟨u, v, u1, u2, w1, w2, d1, d2, d3, d4⟩ := hI
  obtain ⟨-, -, o⟩ := off hn he d1 d2 d3 d4
  have s1 := (sq_mem u1 u2).1
  have s2 := (sq_mem w1 w2).1
  have hpp := pp_nn
  have hp := p_pos
  have k : p * (100 * e) ≤ p * p := Int.mul_le_mul_of_nonneg_left he (by omega)
  have k1 : p * (100 * e) = 100 * (p * e) := by grind
  have k2 : 1125899906842624 * (q * q) = 4 * (p * p) := by rw [← q_eq]; grind
  unfold Nr at hn
  unfold NLo
  refine Int.le_of_mul_le_mul_right ?_ qq_pos
  rw [Int.add_mul, k2]; omega
/-! ### How far the walk may be off -/
def er : Nat → Nat
  | 0 => 0
  | k + 1 => 4 * er k + 1
theorem er_400 : 100 * er 400 ≤ PP := by decide +kernel
theorem er_mono : ∀ (k n : Nat), er k ≤ er (k + n)
  | _, 0 => Nat.le_refl _
  | k, n + 1 => by
    have := er_mono k n
    show er k ≤ 4 * er (k + n) + 1
    omega
theorem er_le {k : Nat} (h : k ≤ 400) : 100 * (er k : Int) ≤ p := by
  obtain ⟨n, hn⟩ : ∃ n, 400 = k + n := ⟨400 - k, by omega⟩
  have h1 := er_mono k n
  rw [← hn] at h1
  have := er_400
  show 100 * (er k : Int) ≤ (PP : Int)
  omega
theorem zf_succ (x y a b : Int) (k : Nat) : zf x y (k + 1) a b = (sx x (zf x y k a b).1 (zf x y k a b).2, sy y (zf x y k a b).1 (zf x y k a b).2) := by
  rw [zf_add]; rfl
/-- A box with a point whose orbit stays does not wholly escape. -/
theorem esc_no {c0 c1 c2 c3 X Y m : Int} (x0 : c0 ≤ X) (x1 : X ≤ c1) (y0 : c2 ≤ Y) (y1 : Y ≤ c3) (hN : ∀ j : Nat, j ≤ 400 → Nr (zf (X * q) (Y * q) j 0 0).1 (zf (X * q) (Y * q) j 0 0).2) : ∀ (n k : Nat) (f z0 z1 z2 z3 : Int), Inb z0 z1 z2 z3 (zf (X * q) (Y * q) k 0 0).1 (zf (X * q) (Y * q) k 0 0).2 (er k) → (esc m c0 c1 c2 c3 n f k z0 z1 z2 z3).2.2 = -1
  | 0, _, _, _, _, _, _, _ => rfl
  | n + 1, k, f, z0, z1, z2, z3, hI => by
    unfold esc
    split
    · rename_i hk
      have hk' : k ≤ 400 := by unfold lst at hk; omega
      have hn := hN k hk'
      have hl := norm_in hI hn (er_le hk')
      split
      · rename_i hg
        exfalso
        unfold nlo at hg
        split at hg <;> omega
      · split
        · rename_i hq
          obtain ⟨hq1, hq2⟩ := Bool.and_eq_true_iff.1 hq
          have e0 : qq0 z0 z1 z2 z3 = sq0 z0 z1 z2 z3 := if_pos hq1
          have e1 : qq1 z0 z1 z2 z3 = sq1 z0 z1 z2 z3 := if_pos hq1
          have e2 : qq2 z0 z1 z2 z3 = sq2 z0 z1 z2 z3 := if_pos hq1
          have e3 : qq3 z0 z1 z2 z3 = sq3 z0 z1 z2 z3 := if_pos hq1
          have f0 : aa0 (qq0 z0 z1 z2 z3) (qq1 z0 z1 z2 z3) (qq2 z0 z1 z2 z3) (qq3 z0 z1 z2 z3) c0 c1 c2 c3 = sq0 z0 z1 z2 z3 + c0 := (if_pos hq2).trans (by rw [e0])
          have f1 : aa1 (qq0 z0 z1 z2 z3) (qq1 z0 z1 z2 z3) (qq2 z0 z1 z2 z3) (qq3 z0 z1 z2 z3) c0 c1 c2 c3 = sq1 z0 z1 z2 z3 + c1 := (if_pos hq2).trans (by rw [e1])
          have f2 : aa2 (qq0 z0 z1 z2 z3) (qq1 z0 z1 z2 z3) (qq2 z0 z1 z2 z3) (qq3 z0 z1 z2 z3) c0 c1 c2 c3 = sq2 z0 z1 z2 z3 + c2 := (if_pos hq2).trans (by rw [e2])
          have f3 : aa3 (qq0 z0 z1 z2 z3) (qq1 z0 z1 z2 z3) (qq2 z0 z1 z2 z3) (qq3 z0 z1 z2 z3) c0 c1 c2 c3 = sq3 z0 z1 z2 z3 + c3 := (if_pos hq2).trans (by rw [e3])
          have hv := (Bool.and_eq_true_iff.1 hq2).2
          rw [e0, e1, e2, e3] at hv
          obtain ⟨-, b1, -, -, b2, -⟩ := (BV_iff _ _ _ _).1 hv
          rw [f0, f1, f2, f3]
          have hS := step_in hI hn (er_le hk') (by omega) x0 x1 y0 y1 b1 b2
          refine esc_no x0 x1 y0 y1 hN n (k + 1) _ _ _ _ _ ?_
          rw [zf_succ]
          exact hS
        · rfl
    · rfl
theorem escW_no {c0 c1 c2 c3 X Y m : Int} (x0 : c0 ≤ X) (x1 : X ≤ c1) (y0 : c2 ≤ Y) (y1 : Y ≤ c3) (hN : ∀ j : Nat, j ≤ 400 → Nr (zf (X * q) (Y * q) j 0 0).1 (zf (X * q) (Y * q) j 0 0).2) : escW c0 c1 c2 c3 m = -1 :=
  esc_no x0 x1 y0 y1 hN 402 0 (-1) 0 0 0 0 ⟨0, 0, by omega, by omega, by omega, by omega, by show -((0 : Nat) : Int) ≤ 0 - 0; decide, by show (0 : Int) - 0 ≤ ((0 : Nat) : Int); decide, by show -((0 : Nat) : Int) ≤ 0 - 0; decide, by show (0 : Int) - 0 ≤ ((0 : Nat) : Int); decide⟩
end Sp
end Go.Proofs.Ytjbpaejjpamcpaa
/- Which points are to be looked at, and what the look shows. Plain Lean. -/
namespace Go.Proofs.Ytjbpaejjpamcpaa
set_option linter.unusedSimpArgs false
set_option linter.unusedVariables false
namespace Sp
/-! ### The look at a point: i and j are its parts in 1/512, and 2048 -/
def W : Nat := PP / 512
def sched : List Nat := [4, 4, 4, 4, 8, 8, 16, 16, 32, 32, 64, 64, 64, 81]
def sqd (a b : Nat) : Nat := Nat.add (Nat.mul (Nat.sub a b) (Nat.sub a b)) (Nat.mul (Nat.sub b a) (Nat.sub b a))
def N2176 : Nat := 2176
def N2048 : Nat := 2048
def N1536 : Nat := 1536
def N256 : Nat := 256
def N65536 : Nat := 65536
def N16384 : Nat := 16384
def QN (i j : Nat) : Nat := Nat.add (sqd i N2176) (sqd j N2048)
/-- In the cardioid or in the disc. -/
def ins (i j : Nat) : Bool :=
  cond (Nat.ble (sqd (Nat.add (QN i j) (Nat.mul N256 (Nat.sub i N2176))) (Nat.mul N256 (Nat.sub N2176 i))) (Nat.mul N65536 (QN i j))) true
    (Nat.ble (Nat.add (sqd i N1536) (sqd j N2048)) N16384)
noncomputable def ok (i j : Nat) : Bool := cond (ins i j) (walk (Nat.mul i W) (Nat.mul j W) sched P4 P4) true
noncomputable def col (i j n : Nat) : Bool := Nat.rec (motive := fun _ => Bool) true (fun k r => cond (ok i (Nat.add j (Nat.mul 8 k))) r false) n
noncomputable def cols (i j m n : Nat) : Bool := Nat.rec (motive := fun _ => Bool) true (fun k r => cond (col (Nat.add i (Nat.mul 8 k)) j n) r false) m
theorem col_succ (i j n : Nat) : col i j (n + 1) = cond (ok i (Nat.add j (Nat.mul 8 n))) (col i j n) false := rfl
theorem cols_succ (i j m n : Nat) : cols i j (m + 1) n = cond (col (Nat.add i (Nat.mul 8 m)) j n) (cols i j m n) false := rfl
theorem col_ok (i j n : Nat) (h : col i j n = true) (k : Nat) (hk : k < n) : ok i (j + 8 * k) = true := by
  induction n with
  | zero => omega
  | succ n ih =>
    rw [col_succ, Nat.add_eq, Nat.mul_eq] at h
    cases hc : ok i (j + 8 * n) with
    | false => rw [hc] at h; exact nomatch h
    | true =>
      rw [hc, cond_true] at h
      by_cases e : k = n
      · rw [e]; exact hc
      · exact ih h (by omega)
theorem cols_ok (i j n m : Nat) (h : cols i j m n = true) (l : Nat) (hl : l < m) (k : Nat) (hk : k < n) : ok (i + 8 * l) (j + 8 * k) = true := by
  induction m with
  | zero => omega
  | succ m ih =>
    rw [cols_succ, Nat.add_eq, Nat.mul_eq] at h
    cases hc : col (i + 8 * m) j n with
    | false => rw [hc] at h; exact nomatch h
    | true =>
      rw [hc, cond_true] at h
      by_cases e : l = m
      · rw [e]; exact col_ok _ _ n hc k hk
      · exact ih h (by omega)
/-! ### What it shows -/
theorem sqd_eq (a b : Nat) : ((sqd a b : Nat) : Int) = ((a : Int) - b) * ((a : Int) - b) := by
  unfold sqd
  simp only [Nat.add_eq, Nat.mul_eq, Nat.sub_eq, Int.natCast_add, Int.natCast_mul]
  rcases Nat.le_total a b with h | h
  · have e1 : a - b = 0 := by omega
    have e2 : ((b - a : Nat) : Int) = -((a : Int) - b) := by omega
    rw [e1, e2, Int.neg_mul_neg]; simp
  · have e1 : b - a = 0 := by omega
    have e2 : ((a - b : Nat) : Int) = (a : Int) - b := by omega
    rw [e1, e2]; simp
/-- The square of s and t's sum of squares, and the two conditions. -/
def C1 (s t : Int) : Prop := (s * s + t * t + 256 * s) * (s * s + t * t + 256 * s) ≤ 65536 * (s * s + t * t)
def C2 (s t : Int) : Prop := (s + 640) * (s + 640) + t * t ≤ 16384
theorem ins_of {i j : Nat} (h : C1 ((i : Int) - 2176) ((j : Int) - 2048) ∨ C2 ((i : Int) - 2176) ((j : Int) - 2048)) : ins i j = true := by
  have hQ : ((QN i j : Nat) : Int) = ((i : Int) - 2176) * ((i : Int) - 2176) + ((j : Int) - 2048) * ((j : Int) - 2048) := by
    unfold QN; rw [Nat.add_eq, Int.natCast_add, sqd_eq, sqd_eq]; rfl
  unfold ins
  rcases h with h | h
  · have e : Nat.ble (sqd (Nat.add (QN i j) (Nat.mul N256 (Nat.sub i N2176))) (Nat.mul N256 (Nat.sub N2176 i))) (Nat.mul N65536 (QN i j)) = true := by
      rw [ble_iff, sqd_eq]
      simp only [Nat.add_eq, Nat.mul_eq, Nat.sub_eq, Int.natCast_add, Int.natCast_mul]
      have e1 : ((N256 : Nat) : Int) * ((i - N2176 : Nat) : Int) - ((N256 : Nat) : Int) * ((N2176 - i : Nat) : Int) = 256 * ((i : Int) - 2176) := by
        unfold N256 N2176; omega
      have e2 : (QN i j : Int) + ((N256 : Nat) : Int) * ((i - N2176 : Nat) : Int) - ((N256 : Nat) : Int) * ((N2176 - i : Nat) : Int) = (QN i j : Int) + 256 * ((i : Int) - 2176) := by omega
      rw [e2, hQ]
      exact h
    rw [e]; rfl
  · have e : Nat.ble (Nat.add (sqd i N1536) (sqd j N2048)) N16384 = true := by
      rw [ble_iff, Nat.add_eq, Int.natCast_add, sqd_eq, sqd_eq]
      have : ((i : Int) - 2176 + 640) = (i : Int) - 1536 := by omega
      unfold C2 at h; rw [this] at h
      exact h
    rw [e]
    cases Nat.ble (sqd (Nat.add (QN i j) (Nat.mul N256 (Nat.sub i N2176))) (Nat.mul N256 (Nat.sub N2176 i))) (Nat.mul N65536 (QN i j)) <;> rfl
theorem W_eq : (W : Int) = 32768 * q := by
  have : PP = 16777216 * (2 ^ 184 * (2 ^ 208) ^ 3) := by decide +kernel
  unfold W q p; omega
theorem ok_stay {i j : Nat} (h : ok i j = true) (hi : 1024 ≤ i) (hj : 1024 ≤ j) (hc : C1 ((i : Int) - 2176) ((j : Int) - 2048) ∨ C2 ((i : Int) - 2176) ((j : Int) - 2048)) : ∀ k : Nat, k ≤ 400 → Nr (zf (32768 * ((i : Int) - 2048) * q) (32768 * ((j : Int) - 2048) * q) k 0 0).1 (zf (32768 * ((i : Int) - 2048) * q) (32768 * ((j : Int) - 2048) * q) k 0 0).2 := by
  intro k hk
  unfold ok at h
  rw [ins_of hc, cond_true] at h
  have hq := q_eq
  have hq0 := q_pos
  have f : ∀ n : Nat, At' (Nat.mul n W) (32768 * ((n : Int) - 2048) * q) := fun n => by
    unfold At'
    rw [Nat.mul_eq, Int.natCast_mul, W_eq]
    have : 32768 * ((n : Int) - 2048) * q + 4 * (16777216 * q) = (n : Int) * (32768 * q) := by grind
    rw [← hq, this]
  have g : ∀ n : Nat, 1024 ≤ n → -(2 * p) ≤ 32768 * ((n : Int) - 2048) * q := fun n hn => by
    have e : -(2 * p) = (-33554432) * q := by omega
    rw [e]
    exact Int.mul_le_mul_of_nonneg_right (by omega) (Int.le_of_lt hq0)
  have a0 : At' P4 0 := by unfold At' P4; rw [Int.natCast_mul]; simp
  exact walk_ok (f i) (f j) (g i hi) (g j hj) sched P4 P4 0 0 a0 a0 h k (by
    have : sched.sum = 401 := by decide
    omega)
/-! ### The bounds of a point -/
theorem C1_bd {s t : Int} (h : C1 s t) : -512 ≤ s ∧ s ≤ 64 ∧ -512 ≤ t ∧ t ≤ 512 := by
  unfold C1 at h
  have hs := sq_nn s; have ht := sq_nn t
  generalize hQ : s * s + t * t = Q at *
  have hQ1 : Q ≤ 262144 := by
    rcases Int.lt_or_le 262144 Q with k | k
    · exfalso
      have h1 : -(2 * (256 * s)) ≤ Q := by
        apply le_of_sq (by omega)
        have e : -(2 * (256 * s)) * -(2 * (256 * s)) = 262144 * (s * s) := by grind
        rw [e]
        have := Int.mul_le_mul_of_nonneg_right (Int.le_of_lt k) (show 0 ≤ Q by omega)
        omega
      have h2 : Q * Q ≤ (2 * (Q + 256 * s)) * (2 * (Q + 256 * s)) := Int.mul_le_mul (by omega) (by omega) (by omega) (by omega)
      have e : (2 * (Q + 256 * s)) * (2 * (Q + 256 * s)) = 4 * ((Q + 256 * s) * (Q + 256 * s)) := by grind
      have h3 := Int.mul_lt_mul_of_pos_right k (show 0 < Q by omega)
      omega
    · exact k
  have g : ∀ x : Int, x * x ≤ 262144 → x ≤ 512 := fun x hx => le_of_sq (by omega) (by omega)
  have s1 := g (-s) (by rw [Int.neg_mul_neg]; omega)
  have t1 := g t (by omega)
  have t2 := g (-t) (by rw [Int.neg_mul_neg]; omega)
  refine ⟨by omega, ?_, by omega, by omega⟩
  rcases Int.lt_or_le 64 s with k | k
  · exfalso
    have hQ0 : 0 < Q := by
      have := Int.mul_pos (show 0 < s by omega) (show 0 < s by omega)
      omega
    have e : (Q + 256 * s) * (Q + 256 * s) = (Q - 256 * s) * (Q - 256 * s) + 1024 * (s * Q) := by grind
    have := sq_nn (Q - 256 * s)
    have := Int.mul_le_mul_of_nonneg_right (show 65 ≤ s by omega) (Int.le_of_lt hQ0)
    omega
  · exact k
theorem C2_bd {s t : Int} (h : C2 s t) : -768 ≤ s ∧ s ≤ 64 ∧ -512 ≤ t ∧ t ≤ 512 := by
  unfold C2 at h
  have hs := sq_nn (s + 640); have ht := sq_nn t
  have g : ∀ x : Int, x * x ≤ 16384 → x ≤ 128 := fun x hx => le_of_sq (by omega) (by omega)
  have s1 := g (s + 640) (by omega)
  have s2 := g (-(s + 640)) (by rw [Int.neg_mul_neg]; omega)
  have t1 := g t (by omega)
  have t2 := g (-t) (by rw [Int.neg_mul_neg]; omega)
  omega
/-! ### The bounds of the program at a point -/
theorem fl4 (x : Int) : fl (4096 * x) 4096 = x := by unfold fl; omega
theorem ce4 (x : Int) : ce (4096 * x) 4096 = x := by unfold ce; omega
theorem C1_of {s t : Int} (h : CBD (32768 * (s + 128)) (32768 * (s + 128)) (32768 * t) (32768 * t) ≤ 0) : C1 s t := by
  have e1 : 32768 * (s + 128) = 4096 * (8 * (s + 128)) := by omega
  have e2 : 32768 * t = 4096 * (8 * t) := by omega
  rw [e1, e2] at h
  unfold CBD cS cqL cqH cyL cyH cuL cuH at h
  rw [fl4, fl4, ce4, ce4, (sq_self _).1, (sq_self _).2, (sq_self _).1, (sq_self _).2] at h
  unfold C1
  have e3 : 8 * (s + 128) - 1024 = 8 * s := by omega
  rw [e3] at h
  have e4 : (8 * s * (8 * s) + 8 * t * (8 * t)) * (8 * s * (8 * s) + 8 * t * (8 * t) + 8 * s * 4096) - 8 * t * (8 * t) * 4194304 = 4096 * ((s * s + t * t + 256 * s) * (s * s + t * t + 256 * s) - 65536 * (s * s + t * t)) := by grind
  have h' : (8 * s * (8 * s) + 8 * t * (8 * t)) * (8 * s * (8 * s) + 8 * t * (8 * t) + 8 * s * 4096) - 8 * t * (8 * t) * 4194304 ≤ 0 := by
    split at h <;> exact h
  rw [e4] at h'
  omega
theorem C2_of {s t : Int} (h : DBD (32768 * (s + 128)) (32768 * (s + 128)) (32768 * t) (32768 * t) ≤ 0) : C2 s t := by
  have e1 : 32768 * (s + 128) = 4096 * (8 * (s + 128)) := by omega
  have e2 : 32768 * t = 4096 * (8 * t) := by omega
  rw [e1, e2] at h
  unfold DBD cyH at h
  rw [fl4, fl4, ce4, ce4, (sq_self _).2, (sq_self _).2] at h
  unfold C2
  have e4 : (8 * (s + 128) + 4096) * (8 * (s + 128) + 4096) + 8 * t * (8 * t) - 1048576 = 64 * ((s + 640) * (s + 640) + t * t - 16384) := by grind
  rw [e4] at h
  omega
/-- All points of a kind that are in the cardioid or the disc have been looked at. -/
def Cls (J0 ox oy : Nat) : Prop := ∀ I J : Nat, 176 ≤ I → I ≤ 280 → J0 ≤ J → J ≤ 320 → ok (8 * I + ox) (8 * J + oy) = true
/-- A box with a point of a kind that is in the cardioid or the disc does not wholly escape. -/
theorem Cls.no {J0 ox oy : Nat} (hC : Cls J0 ox oy) (h8 : ox < 8) (h8' : oy < 8) {a b c d m I J : Int} (hJ : J0 ≤ 192 ∨ (J0 : Int) ≤ J + 256) (x0 : a ≤ 262144 * I + 32768 * ox) (x1 : 262144 * I + 32768 * ox ≤ b) (y0 : c ≤ 262144 * J + 32768 * oy) (y1 : 262144 * J + 32768 * oy ≤ d)
    (h : CBD (262144 * I + 32768 * ox) (262144 * I + 32768 * ox) (262144 * J + 32768 * oy) (262144 * J + 32768 * oy) ≤ 0 ∨ DBD (262144 * I + 32768 * ox) (262144 * I + 32768 * ox) (262144 * J + 32768 * oy) (262144 * J + 32768 * oy) ≤ 0) : escW a b c d m = -1 := by
  have e1 : 262144 * I + 32768 * (ox : Int) = 32768 * (8 * I + ox - 128 + 128) := by omega
  have e2 : 262144 * J + 32768 * (oy : Int) = 32768 * (8 * J + oy) := by omega
  have hc : C1 (8 * I + ox - 128) (8 * J + oy) ∨ C2 (8 * I + ox - 128) (8 * J + oy) := by
    rw [e1, e2] at h
    exact h.imp C1_of C2_of
  have hb : -768 ≤ 8 * I + ox - 128 ∧ 8 * I + ox - 128 ≤ 64 ∧ -512 ≤ 8 * J + (oy : Int) ∧ 8 * J + (oy : Int) ≤ 512 := by
    rcases hc with k | k
    · have := C1_bd k; omega
    · exact C2_bd k
  obtain ⟨i, hi⟩ : ∃ i : Nat, (i : Int) = I + 256 := ⟨(I + 256).toNat, by omega⟩
  obtain ⟨j, hj⟩ : ∃ j : Nat, (j : Int) = J + 256 := ⟨(J + 256).toNat, by omega⟩
  have ho := hC i j (by omega) (by omega) (by omega) (by omega)
  have ei : ((8 * i + ox : Nat) : Int) - 2176 = 8 * I + ox - 128 := by omega
  have ej : ((8 * j + oy : Nat) : Int) - 2048 = 8 * J + oy := by omega
  have ei' : 32768 * (((8 * i + ox : Nat) : Int) - 2048) = 262144 * I + 32768 * ox := by omega
  have ej' : 32768 * (((8 * j + oy : Nat) : Int) - 2048) = 262144 * J + 32768 * oy := by omega
  have st := ok_stay ho (by omega) (by omega) (by rw [ei, ej]; exact hc)
  rw [ei', ej'] at st
  exact escW_no x0 x1 y0 y1 st
end Sp
end Go.Proofs.Ytjbpaejjpamcpaa
