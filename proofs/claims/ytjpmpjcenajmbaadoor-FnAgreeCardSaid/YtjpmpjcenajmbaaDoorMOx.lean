import Derived.Test.YtjpmpjcenajmbaaDoorMOi
import Derived.Test.YtjpmpjcenajmbaaDoorOr2
import Derived.Test.YtjpmpjcenajmbaaDoorMFm
import Derived.Test.YtjpmpjcenajmbaaDoorMFw
import Derived.Test.YtjpmpjcenajmbaaDoorDrC
import Derived.Test.YtjpmpjcenajmbaaDoorFw4
/- Exact orbits are wide orbits: one step. Plain. -/
namespace Go.Proofs.YtjpmpjcenajmbaaDoor
set_option linter.unusedSimpArgs false
set_option linter.unusedVariables false
open Go.RowKit Eng
theorem par2 (r i : Int) (h : ¬ r % 2 = 0 ∨ ¬ i % 2 = 0) : ¬ ((r * r - i * i) % 4 = 0 ∧ (2 * r * i) % 4 = 0) := by
  rintro ⟨h1, h2⟩
  have e1 : (r * r - i * i) % 2 = ((r % 2) * (r % 2) - (i % 2) * (i % 2)) % 2 := by simp [Int.sub_emod, Int.mul_emod]
  have e2 : (r * i) % 2 = ((r % 2) * (i % 2)) % 2 := by simp [Int.mul_emod]
  have e3 : (r * i) % 2 = 0 := by rw [Int.mul_assoc] at h2; omega
  have e4 : (r * r - i * i) % 2 = 0 := by omega
  rcases Int.emod_two_eq r with hr | hr <;> rcases Int.emod_two_eq i with hi | hi <;> rw [hr, hi] at e1 e2 <;> omega
theorem small_of (a b : Nat) (h1 : a * b ≤ 1073741824) (h2 : a * a ≤ b * b + 2147483648) : a < 131072 := by
  by_cases hc : a < 131072
  · exact hc
  · exfalso
    have k1 : 131072 * b ≤ a * b := Nat.mul_le_mul_right _ (by omega)
    have k2 : b ≤ 8192 := by omega
    have k3 : b * b ≤ 8192 * 8192 := Nat.mul_le_mul k2 k2
    have k4 : 131072 * 131072 ≤ a * a := Nat.mul_le_mul (by omega) (by omega)
    omega
/-- A number whose square is exact is small. -/
theorem sq_small {r i s : Int} (h : SQ r i s = true) : r.natAbs < 131072 ∧ i.natAbs < 131072 ∧ 0 ≤ s ∧ s ≤ 30 ∧ ∃ m : Nat, 2 * s = lS (SR r i) (SI r i) (2 * s) + m ∧ SR r i = lR (SR r i) (SI r i) (2 * s) * 2 ^ m ∧ SI r i = lI (SR r i) (SI r i) (2 * s) * 2 ^ m ∧ DV (lR (SR r i) (SI r i) (2 * s)) (lI (SR r i) (SI r i) (2 * s)) (lS (SR r i) (SI r i) (2 * s)) = true := by
  unfold SQ at h
  obtain ⟨hd, hm⟩ := Bool.and_eq_true_iff.1 h
  obtain ⟨-, hv⟩ := Bool.and_eq_true_iff.1 hm
  obtain ⟨-, -, -, -, a5, a6, hlow⟩ := (DV_iff r i s).1 hd
  obtain ⟨b1, b2, b3, b4⟩ := dv_rngF hv
  obtain ⟨m, e1, e2, e3, -⟩ := l_spec (SR r i) (SI r i) (2 * s) (by omega)
  have hv' := hv
  generalize lR (SR r i) (SI r i) (2 * s) = R at *
  generalize lI (SR r i) (SI r i) (2 * s) = I at *
  generalize lS (SR r i) (SI r i) (2 * s) = S at *
  have hm1 : m ≤ 1 := by
    by_cases hc : m ≤ 1
    · exact hc
    · exfalso
      have hs : ¬ s = 0 := by omega
      refine par2 r i (hlow.resolve_left hs) ⟨?_, ?_⟩
      · show SR r i % 4 = 0
        rw [e2]
        obtain ⟨n, rfl⟩ : ∃ n, m = n + 2 := ⟨m - 2, by omega⟩
        rw [Int.pow_add, ← Int.mul_assoc]; exact Int.mul_emod_left _ _
      · show SI r i % 4 = 0
        rw [e3]
        obtain ⟨n, rfl⟩ : ∃ n, m = n + 2 := ⟨m - 2, by omega⟩
        rw [Int.pow_add, ← Int.mul_assoc]; exact Int.mul_emod_left _ _
  have p2 : (2 : Int) ^ m = 1 ∨ (2 : Int) ^ m = 2 := by
    obtain rfl | rfl : m = 0 ∨ m = 1 := by omega
    · left; rfl
    · right; rfl
  have hSR : -2147483648 ≤ SR r i ∧ SR r i ≤ 2147483648 := by rw [e2]; rcases p2 with e | e <;> rw [e] <;> omega
  have hSI : -2147483648 ≤ SI r i ∧ SI r i ≤ 2147483648 := by rw [e3]; rcases p2 with e | e <;> rw [e] <;> omega
  have n1 : r.natAbs * i.natAbs ≤ 1073741824 := by
    rw [← Int.natAbs_mul]
    unfold SI at hSI
    rw [Int.mul_assoc] at hSI
    generalize r * i = x at hSI ⊢
    omega
  have q1 : ((r.natAbs * r.natAbs : Nat) : Int) = r * r := Int.natAbs_mul_self
  have q2 : ((i.natAbs * i.natAbs : Nat) : Int) = i * i := Int.natAbs_mul_self
  unfold SR at hSR
  have n2 : r.natAbs * r.natAbs ≤ i.natAbs * i.natAbs + 2147483648 := by omega
  have n3 : i.natAbs * i.natAbs ≤ r.natAbs * r.natAbs + 2147483648 := by omega
  exact ⟨small_of _ _ n1 n2, small_of _ _ (by rw [Nat.mul_comm]; exact n1) n3, a5, by omega, m, e1, e2, e3, hv'⟩
theorem ar_some {o : Option Nat} {z w : Nat} (h : Ar o z) (k : o = some w) : z = w := by
  rcases h with h | ⟨h, -⟩
  · rw [k] at h; cases h; rfl
  · rw [k] at h; cases h
theorem V_twoX : Fl.V Ieee.double 4611686018427387904 (2 * 2 ^ 1074) := by
  have := Fl.V_FW (n := 2) (by decide)
  rwa [show Fl.FW 2 = 4611686018427387904 by decide] at this
theorem nat_pow0 (a : Nat) : a = a * 2 ^ 0 := by simp
/-- A number told in other terms. -/
theorem V_terms {x : Nat} {A R : Int} {k S m : Nat} (h : Fl.V Ieee.double x (A * 2 ^ (1074 - k))) (hk : k ≤ 1000) (e1 : k = S + m) (e2 : A = R * 2 ^ m) : Fl.V Ieee.double x (R * 2 ^ (1074 - S)) := by
  have : A * 2 ^ (1074 - k) = R * 2 ^ (1074 - S) := by
    obtain ⟨j, hj⟩ : ∃ j, 1074 - k = j := ⟨_, rfl⟩
    rw [e2, hj, show 1074 - S = m + j by omega, Int.pow_add, ← Int.mul_assoc]
  rwa [this] at h
theorem V_sum {x y : Nat} {r t R : Int} {s u S m : Nat} (hx : Fl.V Ieee.double x (r * 2 ^ (1074 - s))) (hy : Fl.V Ieee.double y (t * 2 ^ (1074 - u))) (hR : R.natAbs < 9007199254740992) (hs : s ≤ 500) (hu : u ≤ 500) (hS : S + m = max s u)
    (h : r * 2 ^ (max s u - s) + t * 2 ^ (max s u - u) = R * 2 ^ m) : ∃ q, Ieee.double.add x y = some q ∧ Fl.V Ieee.double q (R * 2 ^ (1074 - S)) := by
  have e : r * 2 ^ (1074 - s) + t * 2 ^ (1074 - u) = R * 2 ^ (1074 - S) := by
    obtain ⟨k, hk⟩ : ∃ k, 1074 - max s u = k := ⟨_, rfl⟩
    rw [show 1074 - s = (max s u - s) + k by omega, show 1074 - u = (max s u - u) + k by omega, show 1074 - S = m + k by omega, Int.pow_add, Int.pow_add, Int.pow_add, ← Int.mul_assoc, ← Int.mul_assoc, ← Int.mul_assoc, ← Int.add_mul, h]
  obtain ⟨q, h1, h2⟩ := Fl.V_add Fl.std hx hy (by rw [e]; exact Fl.rep_dbl hR (by omega))
  rw [e] at h2
  exact ⟨q, h1, h2⟩
theorem nat_prod {r i : Int} (h1 : r.natAbs < 131072) (h2 : i.natAbs < 131072) : (r * i).natAbs < 17179869184 := by
  rw [Int.natAbs_mul]
  have := Nat.mul_le_mul (show r.natAbs ≤ 131071 by omega) (show i.natAbs ≤ 131071 by omega)
  omega
/-- The square of a number whose square is exact. -/
theorem sq_exact {X Y p q : Nat} {r i : Int} {s : Nat} (hX : Fl.V Ieee.double X (r * 2 ^ (1074 - s))) (hY : Fl.V Ieee.double Y (i * 2 ^ (1074 - s))) (h1 : r.natAbs < 131072) (h2 : i.natAbs < 131072) (hs : s ≤ 30) (h : SqR X Y p q) :
    Fl.V Ieee.double p (SR r i * 2 ^ (1074 - 2 * s)) ∧ Fl.V Ieee.double q (SI r i * 2 ^ (1074 - 2 * s)) := by
  obtain ⟨a, b, e, ha, hb, hp, he, hq⟩ := h
  have big : (2 : Nat) ^ 90 = 1237940039285380274899124224 := by decide
  have n1 := nat_prod h1 h1
  have n2 := nat_prod h2 h2
  have n3 := nat_prod h1 h2
  obtain ⟨a', a1, a2⟩ := Fl.V_prod hX hX (by omega) (nat_pow0 _) (by omega) (by omega)
  obtain ⟨b', b1, b2⟩ := Fl.V_prod hY hY (by omega) (nat_pow0 _) (by omega) (by omega)
  obtain ⟨e', e1, e2⟩ := Fl.V_prod hX hY (by omega) (nat_pow0 _) (by omega) (by omega)
  have := ar_some ha a1; subst this
  have := ar_some hb b1; subst this
  have := ar_some he e1; subst this
  rw [show s + s = 2 * s by omega] at a2 b2 e2
  have d1 : r * r * 2 ^ (1074 - 2 * s) - i * i * 2 ^ (1074 - 2 * s) = SR r i * 2 ^ (1074 - 2 * s) := by unfold SR; rw [Int.sub_mul]
  obtain ⟨p', p1, p2⟩ := Fl.V_sub Fl.std a2 b2 (by rw [d1]; exact Fl.rep_dbl (by unfold SR; omega) (by omega))
  have := ar_some hp p1; subst this
  rw [d1] at p2
  have hSI : SI r i = 2 * (r * i) := by unfold SI; rw [Int.mul_assoc]
  obtain ⟨q', q1, q2⟩ := Fl.V_mul Fl.std V_twoX e2 (r := SI r i * 2 ^ (1074 - 2 * s)) (by
    rw [Fl.lp_dbl, hSI]
    obtain ⟨l, hl⟩ : ∃ l : Nat, l = 1074 := ⟨_, rfl⟩
    rw [← hl]
    simp only [Int.mul_assoc, Int.mul_left_comm, Int.mul_comm]) (Fl.rep_dbl (by rw [hSI]; omega) (by omega))
  have := ar_some hq q1; subst this
  exact ⟨p2, q2⟩
/-- One step. -/
theorem st_exact {X Y C D p q : Nat} {r i s a b c : Int} (hX : Fl.V Ieee.double X (r * 2 ^ (1074 - s.toNat))) (hY : Fl.V Ieee.double Y (i * 2 ^ (1074 - s.toNat))) (hC : Fl.V Ieee.double C (a * 2 ^ (1074 - c.toNat))) (hD : Fl.V Ieee.double D (b * 2 ^ (1074 - c.toNat)))
    (hq : SQ r i s = true) (ha : ADD (dq0 r i s) (dq1 r i s) (dq2 r i s) a b c = true) (h : StR X Y C D p q) :
    Fl.V Ieee.double p (da0 (dq0 r i s) (dq1 r i s) (dq2 r i s) a b c * 2 ^ (1074 - (da2 (dq0 r i s) (dq1 r i s) (dq2 r i s) a b c).toNat)) ∧ Fl.V Ieee.double q (da1 (dq0 r i s) (dq1 r i s) (dq2 r i s) a b c * 2 ^ (1074 - (da2 (dq0 r i s) (dq1 r i s) (dq2 r i s) a b c).toNat)) := by
  obtain ⟨u, v, hsq, hu, hv⟩ := h
  obtain ⟨s1, s2, s3, s4, m, e1, e2, e3, hdv⟩ := sq_small hq
  obtain ⟨k1, k2⟩ := sq_exact hX hY s1 s2 (by omega) hsq
  have f0 : dq0 r i s = lR (SR r i) (SI r i) (2 * s) := if_pos hq
  have f1 : dq1 r i s = lI (SR r i) (SI r i) (2 * s) := if_pos hq
  have f2 : dq2 r i s = lS (SR r i) (SI r i) (2 * s) := if_pos hq
  rw [← f0, ← f1, ← f2] at hdv
  rw [← f2] at e1
  rw [← f0] at e2
  rw [← f1] at e3
  obtain ⟨d1, d2, d3, d4⟩ := dv_rngF hdv
  have g1 := V_terms (S := (dq2 r i s).toNat) (m := m) k1 (by omega) (by omega) e2
  have g2 := V_terms (S := (dq2 r i s).toNat) (m := m) k2 (by omega) (by omega) e3
  clear k1 k2 e1 e2 e3 f0 f1 f2 hdv hsq hX hY
  have ha' := ha
  unfold ADD at ha'
  simp only [Bool.and_eq_true] at ha'
  obtain ⟨⟨-, hdc⟩, hdr⟩ := ha'
  obtain ⟨c1, c2, c3, c4⟩ := dv_rngF hdc
  obtain ⟨r1, r2, r3, r4⟩ := dv_rngF hdr
  have z0 : da0 (dq0 r i s) (dq1 r i s) (dq2 r i s) a b c = lR (AP (dq0 r i s) (dq2 r i s) a c) (AP (dq1 r i s) (dq2 r i s) b c) (max (dq2 r i s) c) := if_pos ha
  have z1 : da1 (dq0 r i s) (dq1 r i s) (dq2 r i s) a b c = lI (AP (dq0 r i s) (dq2 r i s) a c) (AP (dq1 r i s) (dq2 r i s) b c) (max (dq2 r i s) c) := if_pos ha
  have z2 : da2 (dq0 r i s) (dq1 r i s) (dq2 r i s) a b c = lS (AP (dq0 r i s) (dq2 r i s) a c) (AP (dq1 r i s) (dq2 r i s) b c) (max (dq2 r i s) c) := if_pos ha
  obtain ⟨n, e1, e2, e3, -⟩ := l_spec (AP (dq0 r i s) (dq2 r i s) a c) (AP (dq1 r i s) (dq2 r i s) b c) (max (dq2 r i s) c) (by omega)
  rw [z0, z1, z2]
  generalize lR (AP (dq0 r i s) (dq2 r i s) a c) (AP (dq1 r i s) (dq2 r i s) b c) (max (dq2 r i s) c) = R at *
  generalize lI (AP (dq0 r i s) (dq2 r i s) a c) (AP (dq1 r i s) (dq2 r i s) b c) (max (dq2 r i s) c) = I at *
  generalize lS (AP (dq0 r i s) (dq2 r i s) a c) (AP (dq1 r i s) (dq2 r i s) b c) (max (dq2 r i s) c) = S at *
  generalize dq0 r i s = A at *
  generalize dq1 r i s = B at *
  generalize dq2 r i s = T at *
  have mx : max T.toNat c.toNat = (max T c).toNat := by omega
  have t1 : (max T c - T).toNat = max T.toNat c.toNat - T.toNat := by omega
  have t2 : (max T c - c).toNat = max T.toNat c.toNat - c.toNat := by omega
  unfold AP at e2 e3
  rw [t1, t2] at e2 e3
  obtain ⟨p', p1, p2⟩ := V_sum (S := S.toNat) (m := n) g1 hC (R := R) (by omega) (by omega) (by omega) (by omega) e2
  obtain ⟨q', q1, q2⟩ := V_sum (S := S.toNat) (m := n) g2 hD (R := I) (by omega) (by omega) (by omega) (by omega) e3
  have := ar_some hu p1; subst this
  have := ar_some hv q1; subst this
  exact ⟨p2, q2⟩
/-- The numbers of a wide orbit are those of the exact one, as far as that goes. -/
theorem orbit_exact {C D : Nat} {a b c : Int} (hC : Fl.V Ieee.double C (a * 2 ^ (1074 - c.toNat))) (hD : Fl.V Ieee.double D (b * 2 ^ (1074 - c.toNat))) {X Y : Nat → Nat} (x0 : X 0 = 0) (y0 : Y 0 = 0) :
    ∀ k : Nat, (∀ i, i < k → ook a b c i = true) → (∀ i, i < k → StR (X i) (Y i) C D (X (i + 1)) (Y (i + 1))) →
      Fl.V Ieee.double (X k) ((oz a b c k).1 * 2 ^ (1074 - (oz a b c k).2.2.toNat)) ∧ Fl.V Ieee.double (Y k) ((oz a b c k).2.1 * 2 ^ (1074 - (oz a b c k).2.2.toNat))
  | 0, _, _ => by
    rw [x0, y0]
    show Fl.V Ieee.double 0 (0 * 2 ^ (1074 - (0 : Int).toNat)) ∧ Fl.V Ieee.double 0 (0 * 2 ^ (1074 - (0 : Int).toNat))
    rw [Int.zero_mul]
    exact ⟨Fl.V_zero, Fl.V_zero⟩
  | k + 1, h1, h2 => by
    obtain ⟨i1, i2⟩ := orbit_exact hC hD x0 y0 k (fun i hi => h1 i (by omega)) (fun i hi => h2 i (by omega))
    have ho := h1 k (by omega)
    unfold ook at ho
    obtain ⟨o1, o2⟩ := Bool.and_eq_true_iff.1 ho
    exact st_exact i1 i2 hC hD o1 o2 (h2 k (by omega))
/-- Behind each number but the last there is one. -/
theorem olen_ok (a b c : Int) : ∀ n k : Nat, k ≤ olen a b c n k ∧ olen a b c n k ≤ k + n ∧ ∀ i, k ≤ i → i + 1 < olen a b c n k → ook a b c i = true
  | 0, k => ⟨Nat.le_refl _, Nat.le_refl _, fun i h1 h2 => by simp only [olen] at h2; omega⟩
  | n + 1, k => by
    obtain ⟨i1, i2, i3⟩ := olen_ok a b c n (k + 1)
    unfold olen
    cases ho : ook a b c k
    · simp only [Bool.false_eq_true, if_false]
      exact ⟨by omega, by omega, fun i h1 h2 => by omega⟩
    · simp only [if_true]
      refine ⟨by omega, by omega, fun i h1 h2 => ?_⟩
      by_cases hi : i = k
      · subst hi; exact ho
      · exact i3 i (by omega) h2
end Go.Proofs.YtjpmpjcenajmbaaDoor
/- Orbits, exact and wide: what the functions that give them lay in memory; two lists of exact numbers compared. -/
namespace Go.Proofs.YtjpmpjcenajmbaaDoor
set_option linter.unusedSimpArgs false
set_option linter.unusedVariables false
open Go.RowKit Eng
theorem OrbitWide_any (cr ci n : Nat) (hn : n ≤ 400) (w : World) : Calls Tryd.prog 9 #[.complex .f64 cr ci, .int .i64 n] w fun e w' => e = .returned (.tuple #[.slice (some ⟨w.heap.size + 1, 0, none⟩) n n, .bool true]) ∧ Below w.heap.size w w' ∧ ∃ x y arr, w'.heap[w.heap.size + 1]? = some (.cells arr 27 (0, 0)) ∧ Nums cr ci n n x y arr := by
  go_enter Tryd.func9, Tryd.ntmps9
  go_wp2_with fail
  refine (firstOf_any cr ci n hn _).mono ?_
  rintro e w1 ⟨rfl, hb, hx⟩
  have HB := Lib.hid hb; have HX := Lib.hid hx
  clear hb hx
  go_wp2
  go_returns
  exact ⟨rfl, HB.out, HX.out⟩
/-- How many numbers the exact orbit has. -/
def OL (a b c n : Int) : Nat := if OV a b c n then olen a b c n.toNat 0 else 0
/-- Part j of number k. -/
def Oz (a b c : Int) (k j : Nat) : Int := if j = 0 then (oz a b c k).1 else if j = 1 then (oz a b c k).2.1 else (oz a b c k).2.2
/-- A list of the exact orbit's numbers lies in block B. -/
def ListAt (a b c : Int) (L B : Nat) (w : World) : Prop := ∃ arr, w.heap[B]? = some (.cells arr 34 (0, 0)) ∧ ∀ k j, k < L → j < 3 → arr[k * 3 + j]? = some (.int .i64 (Oz a b c k j))
theorem ListAt.below {a b c : Int} {L B : Nat} {w w' : World} (h : ListAt a b c L B w) (hb : Below w.heap.size w w') : ListAt a b c L B w' := by
  obtain ⟨arr, h1, h2⟩ := h
  exact ⟨arr, (hb.block B (Array.getElem?_eq_some_iff.1 h1).1).trans h1, h2⟩
theorem ListAt.cell {a b c : Int} {L B : Nat} {w : World} (h : ListAt a b c L B w) {k j : Nat} (hk : k < L) (hj : j < 3) : w.cell? ⟨B, k * 3 + j, none⟩ = some (.int .i64 (Oz a b c k j)) := by
  obtain ⟨arr, h1, h2⟩ := h
  unfold World.cell?
  simp only [h1]
  exact h2 k j hk hj
def OrbR (a b c n : Int) (w : World) (e : Ending) (w' : World) : Prop := Below w.heap.size w w' ∧ ∃ B cap : Nat, e = .returned (.tuple #[.slice (some ⟨B, 0, none⟩) (OL a b c n) cap, .bool (OV a b c n)]) ∧ w.heap.size ≤ B ∧ OL a b c n ≤ cap ∧ ListAt a b c (OL a b c n) B w'
theorem orb_row {a b c n : Int} {w : World} {e : Ending} {w' : World} (h : Below w.heap.size w w' ∧ ∃ B cap : Nat, e = .returned (retVals (Value.slice (some ⟨B, 0, none⟩) ((SE.app 54 0 (vs 4)).den (envOf [a, b, c, n] (FI fun _ _ => 0) FB)).toNat cap :: [CV.one (.bool (.app 54 0 (vs 4)))].map (CV.den (envOf [a, b, c, n] (FI fun _ _ => 0) FB) Pl.no))) ∧ w.heap.size ≤ B ∧
      RowAt (envOf [a, b, c, n] (FI fun _ _ => 0) FB) (fun _ => (B, cap)) w' 0 34 ⟨55, 3, [.var 0, .var 1, .var 2], .app 54 0 (vs 4), .app 54 0 (vs 4), none, []⟩) : OrbR a b c n w e w' := by
  obtain ⟨hb, B, cap, he, hB, arr, a1, a2, a3, a4, a5, a6, a7⟩ := h
  have hl : ((SE.app 54 0 (vs 4)).den (envOf [a, b, c, n] (FI fun _ _ => 0) FB)).toNat = OL a b c n := by
    show (if OV a b c n then ((olen a b c n.toNat 0 : Nat) : Int) else 0).toNat = OL a b c n
    unfold OL
    split <;> simp
  refine ⟨hb, B, cap, ?_, hB, by rw [← hl]; exact a3, arr, a1, fun k j hk hj => ?_⟩
  · rw [he, hl]; rfl
  · have := a6 k j (by rw [hl]; exact hk) hj
    rw [this]
    congr 2
    show FI (fun _ _ => 0) 55 j [a, b, c, (k : Int)] = Oz a b c k j
    unfold Oz
    obtain rfl | rfl | rfl : j = 0 ∨ j = 1 ∨ j = 2 := by omega
    · rw [f55_0, Int.toNat_natCast]; rfl
    · rw [f55_1, Int.toNat_natCast]; rfl
    · rw [f55_2, Int.toNat_natCast]; rfl
theorem iOrb_calls (a b c n : Int) (w : World) : Calls Tryd.prog 12 #[.agg #[.int .i64 a, .int .i64 b, .int .i64 c], .int .i64 n] w (OrbR a b c n w) :=
  ((rok_iOrb (pv := fun _ _ => 0) w).2 [a, b, c, n] rfl (fun x hx => by cases hx) w (Hb.refl _)).mono fun e w' h => orb_row h
theorem sOrb_calls (a b c n : Int) (w : World) : Calls Tryd.prog 16 #[.agg #[.int .i64 a, .int .i64 b, .int .i64 c], .int .i64 n] w (OrbR a b c n w) :=
  ((rok_sOrb (pv := fun _ _ => 0) w).2 [a, b, c, n] rfl (fun x hx => by cases hx) w (Hb.refl _)).mono fun e w' h => orb_row h
theorem sameDyads_yes (a b c : Int) (L B1 c1 B2 c2 : Nat) (w : World) (h1 : ListAt a b c L B1 w) (h2 : ListAt a b c L B2 w) (hL : L ≤ 400) (hc1 : L ≤ c1) :
    Calls Tryd.prog 17 #[.slice (some ⟨B1, 0, none⟩) L c1, .slice (some ⟨B2, 0, none⟩) L c2] w (Gives (.bool true) w) := by
  have H1 := Lib.hid h1; have H2 := Lib.hid h2
  clear h1 h2
  go_enter Tryd.func17, Tryd.ntmps17
  go_wp2
  go_loopw [5] (fun v wr => ∃ i : Nat, v = .int .i64 i ∧ i ≤ L ∧ Below w.heap.size w wr) (fun v _ => L - (intOf v).toNat)
  case atStart => exact ⟨0, rfl, by omega, Below.refl _ _⟩
  case round =>
    obtain ⟨i, rfl, k1, hb⟩ := hrel
    by_cases hi : i < L
    · have hl1 := H1.out.below hb
      have hl2 := H2.out.below hb
      have a0 := hl1.cell hi (j := 0) (by omega); have a1 := hl1.cell hi (j := 1) (by omega); have a2 := hl1.cell hi (j := 2) (by omega)
      have b0 := hl2.cell hi (j := 0) (by omega); have b1 := hl2.cell hi (j := 1) (by omega); have b2 := hl2.cell hi (j := 2) (by omega)
      rw [Nat.add_zero] at a0 b0
      generalize Oz a b c i 0 = x0 at a0 b0
      generalize Oz a b c i 1 = x1 at a1 b1
      generalize Oz a b c i 2 = x2 at a2 b2
      have HB := Lib.hid hb
      clear hl1 hl2 hb
      go_wp2
      go_region
      go_wp2
      go_roundw
      case rel => exact ⟨i + 1, by simp, by omega, HB.out.drew⟩
      case measure => simp [intOf]; omega
    · obtain rfl : i = L := by omega
      go_wp2
      go_returns
      exact ⟨rfl, hb⟩
end Go.Proofs.YtjpmpjcenajmbaaDoor
/- The context in which the drawing of an exact number and a count is walked. -/
namespace Go.Proofs.YtjpmpjcenajmbaaDoor
set_option linter.unusedSimpArgs false
set_option linter.unusedVariables false
end Go.Proofs.YtjpmpjcenajmbaaDoor
/- What the drawing of an exact number and a count gives: numbers. -/
namespace Go.Proofs.YtjpmpjcenajmbaaDoor
set_option linter.unusedSimpArgs false
set_option linter.unusedVariables false
open Go.RowKit Eng
/-- An exact number's parts and a count. -/
def isDN : SVal → Bool
  | .tup [.agg [.int .i64 _, .int .i64 _, .int .i64 _], .one (.int .i64 _)] => true
  | _ => false
def leavesOk (p : SVal → Bool) : Tree → Bool
  | .node _ a b => leavesOk p a && leavesOk p b
  | .leaf v => p v
  | .dead _ => true
theorem leaves_den (p : SVal → Bool) (E : Env) : ∀ t : Tree, leavesOk p t = true → t.den E ≠ none → ∃ v, p v = true ∧ t.den E = some (v.den E Pl.no)
  | .leaf v, h, _ => ⟨v, h, rfl⟩
  | .dead _, _, h => absurd rfl h
  | .node c a b, h, hn => by
    simp only [leavesOk, Bool.and_eq_true] at h
    unfold Tree.den at hn ⊢
    cases hc : c.den E
    · rw [hc] at hn; exact leaves_den p E b h.2 hn
    · rw [hc] at hn; exact leaves_den p E a h.1 hn
theorem isDN_den {v : SVal} (h : isDN v = true) (E : Env) : ∃ a b c n : Int, v.den E Pl.no = .tuple #[.agg #[.int .i64 a, .int .i64 b, .int .i64 c], .int .i64 n] := by
  unfold isDN at h
  split at h
  · exact ⟨_, _, _, _, rfl⟩
  · cases h
def t_DDO_c0 : SB := (.cmp .eq (.app 1000 0 (.cons (.app 1002 100 (.cons (.lit 0) .nil)) (.cons (.lit 3) .nil))) (.lit 0))
def t_DDO_k0 : Kn := (t_DDO_c0, true) :: []
def t_DDO_k1 : Kn := (t_DDO_c0, false) :: []
def t_DDO_c1 : SB := (.cmp .eq (.app 1000 0 (.cons (.app 1000 100 (.cons (.app 1002 100 (.cons (.lit 0) .nil)) .nil)) (.cons (.lit 6) .nil))) (.lit 0))
def t_DDO_k2 : Kn := (t_DDO_c1, true) :: t_DDO_k0
def t_DDO_k3 : Kn := (t_DDO_c1, false) :: t_DDO_k0
theorem t_DDO_r4 : runFn (drawn XF4) t_DDO_k2 200 15 [.cv (.one (.opq 0))] = .ok (.tup [(.agg [(.int .i64 (.lit 0)), (.int .i64 (.lit 0)), (.int .i64 (.lit 0))]), (.one (.int .i64 (.wrap .i64 (.bin .add .i64 (.wrap .i64 (.bin .sub .i64 (.app 1000 0 (.cons (.app 1000 100 (.cons (.app 1000 100 (.cons (.app 1002 100 (.cons (.lit 0) .nil)) .nil)) .nil)) (.cons (.lit 12) .nil))) (.wrap .i64 (.bin .mul .i64 (.wrap .i64 (.bin .tdiv .i64 (.app 1000 0 (.cons (.app 1000 100 (.cons (.app 1000 100 (.cons (.app 1000 100 (.cons (.app 1002 100 (.cons (.lit 0) .nil)) .nil)) .nil)) .nil)) (.cons (.lit 20) .nil))) (.lit 19))) (.lit 13))))) (.wrap .i64 (.bin .mul .i64 (.wrap .i64 (.bin .tdiv .i64 (.app 1000 0 (.cons (.app 1000 100 (.cons (.app 1000 100 (.cons (.app 1000 100 (.cons (.app 1000 100 (.cons (.app 1002 100 (.cons (.lit 0) .nil)) .nil)) .nil)) .nil)) .nil)) (.cons (.lit 20) .nil))) (.lit 19))) (.lit 29)))))))]) := by kernel_rfl
def t_DDO_c2 : SB := (.cmp .eq (.app 1000 0 (.cons (.app 1000 100 (.cons (.app 1002 100 (.cons (.lit 0) .nil)) .nil)) (.cons (.lit 6) .nil))) (.lit 1))
def t_DDO_k5 : Kn := (t_DDO_c2, true) :: t_DDO_k3
def t_DDO_k6 : Kn := (t_DDO_c2, false) :: t_DDO_k3
theorem t_DDO_r7 : runFn (drawn XF4) t_DDO_k5 200 15 [.cv (.one (.opq 0))] = .ok (.tup [(.agg [(.int .i64 (.lit (-1))), (.int .i64 (.lit 0)), (.int .i64 (.lit 0))]), (.one (.int .i64 (.wrap .i64 (.bin .add .i64 (.wrap .i64 (.bin .sub .i64 (.app 1000 0 (.cons (.app 1000 100 (.cons (.app 1000 100 (.cons (.app 1002 100 (.cons (.lit 0) .nil)) .nil)) .nil)) (.cons (.lit 12) .nil))) (.wrap .i64 (.bin .mul .i64 (.wrap .i64 (.bin .tdiv .i64 (.app 1000 0 (.cons (.app 1000 100 (.cons (.app 1000 100 (.cons (.app 1000 100 (.cons (.app 1002 100 (.cons (.lit 0) .nil)) .nil)) .nil)) .nil)) (.cons (.lit 20) .nil))) (.lit 19))) (.lit 13))))) (.wrap .i64 (.bin .mul .i64 (.wrap .i64 (.bin .tdiv .i64 (.app 1000 0 (.cons (.app 1000 100 (.cons (.app 1000 100 (.cons (.app 1000 100 (.cons (.app 1000 100 (.cons (.app 1002 100 (.cons (.lit 0) .nil)) .nil)) .nil)) .nil)) .nil)) (.cons (.lit 20) .nil))) (.lit 19))) (.lit 29)))))))]) := by kernel_rfl
def t_DDO_c3 : SB := (.cmp .eq (.app 1000 0 (.cons (.app 1000 100 (.cons (.app 1002 100 (.cons (.lit 0) .nil)) .nil)) (.cons (.lit 6) .nil))) (.lit 2))
def t_DDO_k8 : Kn := (t_DDO_c3, true) :: t_DDO_k6
def t_DDO_k9 : Kn := (t_DDO_c3, false) :: t_DDO_k6
theorem t_DDO_r10 : runFn (drawn XF4) t_DDO_k8 200 15 [.cv (.one (.opq 0))] = .ok (.tup [(.agg [(.int .i64 (.lit (-2))), (.int .i64 (.lit 0)), (.int .i64 (.lit 0))]), (.one (.int .i64 (.wrap .i64 (.bin .add .i64 (.wrap .i64 (.bin .sub .i64 (.app 1000 0 (.cons (.app 1000 100 (.cons (.app 1000 100 (.cons (.app 1002 100 (.cons (.lit 0) .nil)) .nil)) .nil)) (.cons (.lit 12) .nil))) (.wrap .i64 (.bin .mul .i64 (.wrap .i64 (.bin .tdiv .i64 (.app 1000 0 (.cons (.app 1000 100 (.cons (.app 1000 100 (.cons (.app 1000 100 (.cons (.app 1002 100 (.cons (.lit 0) .nil)) .nil)) .nil)) .nil)) (.cons (.lit 20) .nil))) (.lit 19))) (.lit 13))))) (.wrap .i64 (.bin .mul .i64 (.wrap .i64 (.bin .tdiv .i64 (.app 1000 0 (.cons (.app 1000 100 (.cons (.app 1000 100 (.cons (.app 1000 100 (.cons (.app 1000 100 (.cons (.app 1002 100 (.cons (.lit 0) .nil)) .nil)) .nil)) .nil)) .nil)) (.cons (.lit 20) .nil))) (.lit 19))) (.lit 29)))))))]) := by kernel_rfl
def t_DDO_c4 : SB := (.cmp .eq (.app 1000 0 (.cons (.app 1000 100 (.cons (.app 1002 100 (.cons (.lit 0) .nil)) .nil)) (.cons (.lit 6) .nil))) (.lit 3))
def t_DDO_k11 : Kn := (t_DDO_c4, true) :: t_DDO_k9
def t_DDO_k12 : Kn := (t_DDO_c4, false) :: t_DDO_k9
theorem t_DDO_r13 : runFn (drawn XF4) t_DDO_k11 200 15 [.cv (.one (.opq 0))] = .ok (.tup [(.agg [(.int .i64 (.lit 0)), (.int .i64 (.lit 1)), (.int .i64 (.lit 0))]), (.one (.int .i64 (.wrap .i64 (.bin .add .i64 (.wrap .i64 (.bin .sub .i64 (.app 1000 0 (.cons (.app 1000 100 (.cons (.app 1000 100 (.cons (.app 1002 100 (.cons (.lit 0) .nil)) .nil)) .nil)) (.cons (.lit 12) .nil))) (.wrap .i64 (.bin .mul .i64 (.wrap .i64 (.bin .tdiv .i64 (.app 1000 0 (.cons (.app 1000 100 (.cons (.app 1000 100 (.cons (.app 1000 100 (.cons (.app 1002 100 (.cons (.lit 0) .nil)) .nil)) .nil)) .nil)) (.cons (.lit 20) .nil))) (.lit 19))) (.lit 13))))) (.wrap .i64 (.bin .mul .i64 (.wrap .i64 (.bin .tdiv .i64 (.app 1000 0 (.cons (.app 1000 100 (.cons (.app 1000 100 (.cons (.app 1000 100 (.cons (.app 1000 100 (.cons (.app 1002 100 (.cons (.lit 0) .nil)) .nil)) .nil)) .nil)) .nil)) (.cons (.lit 20) .nil))) (.lit 19))) (.lit 29)))))))]) := by kernel_rfl
def t_DDO_c5 : SB := (.cmp .eq (.app 1000 0 (.cons (.app 1000 100 (.cons (.app 1002 100 (.cons (.lit 0) .nil)) .nil)) (.cons (.lit 6) .nil))) (.lit 4))
def t_DDO_k14 : Kn := (t_DDO_c5, true) :: t_DDO_k12
def t_DDO_k15 : Kn := (t_DDO_c5, false) :: t_DDO_k12
theorem t_DDO_r16 : runFn (drawn XF4) t_DDO_k14 200 15 [.cv (.one (.opq 0))] = .ok (.tup [(.agg [(.int .i64 (.lit 1)), (.int .i64 (.lit 0)), (.int .i64 (.lit 2))]), (.one (.int .i64 (.wrap .i64 (.bin .add .i64 (.wrap .i64 (.bin .sub .i64 (.app 1000 0 (.cons (.app 1000 100 (.cons (.app 1000 100 (.cons (.app 1002 100 (.cons (.lit 0) .nil)) .nil)) .nil)) (.cons (.lit 12) .nil))) (.wrap .i64 (.bin .mul .i64 (.wrap .i64 (.bin .tdiv .i64 (.app 1000 0 (.cons (.app 1000 100 (.cons (.app 1000 100 (.cons (.app 1000 100 (.cons (.app 1002 100 (.cons (.lit 0) .nil)) .nil)) .nil)) .nil)) (.cons (.lit 20) .nil))) (.lit 19))) (.lit 13))))) (.wrap .i64 (.bin .mul .i64 (.wrap .i64 (.bin .tdiv .i64 (.app 1000 0 (.cons (.app 1000 100 (.cons (.app 1000 100 (.cons (.app 1000 100 (.cons (.app 1000 100 (.cons (.app 1002 100 (.cons (.lit 0) .nil)) .nil)) .nil)) .nil)) .nil)) (.cons (.lit 20) .nil))) (.lit 19))) (.lit 29)))))))]) := by kernel_rfl
def t_DDO_c6 : SB := (.cmp .eq (.app 1000 0 (.cons (.app 1000 100 (.cons (.app 1002 100 (.cons (.lit 0) .nil)) .nil)) (.cons (.lit 6) .nil))) (.lit 5))
def t_DDO_k17 : Kn := (t_DDO_c6, true) :: t_DDO_k15
def t_DDO_k18 : Kn := (t_DDO_c6, false) :: t_DDO_k15
theorem t_DDO_r19 : runFn (drawn XF4) t_DDO_k17 200 15 [.cv (.one (.opq 0))] = .ok (.tup [(.agg [(.int .i64 (.lit (-3))), (.int .i64 (.lit 0)), (.int .i64 (.lit 2))]), (.one (.int .i64 (.wrap .i64 (.bin .add .i64 (.wrap .i64 (.bin .sub .i64 (.app 1000 0 (.cons (.app 1000 100 (.cons (.app 1000 100 (.cons (.app 1002 100 (.cons (.lit 0) .nil)) .nil)) .nil)) (.cons (.lit 12) .nil))) (.wrap .i64 (.bin .mul .i64 (.wrap .i64 (.bin .tdiv .i64 (.app 1000 0 (.cons (.app 1000 100 (.cons (.app 1000 100 (.cons (.app 1000 100 (.cons (.app 1002 100 (.cons (.lit 0) .nil)) .nil)) .nil)) .nil)) (.cons (.lit 20) .nil))) (.lit 19))) (.lit 13))))) (.wrap .i64 (.bin .mul .i64 (.wrap .i64 (.bin .tdiv .i64 (.app 1000 0 (.cons (.app 1000 100 (.cons (.app 1000 100 (.cons (.app 1000 100 (.cons (.app 1000 100 (.cons (.app 1002 100 (.cons (.lit 0) .nil)) .nil)) .nil)) .nil)) .nil)) (.cons (.lit 20) .nil))) (.lit 19))) (.lit 29)))))))]) := by kernel_rfl
theorem t_DDO_r20 : runFn (drawn XF4) t_DDO_k1 200 15 [.cv (.one (.opq 0))] = .ok (.tup [(.agg [(.int .i64 (.app 1002 0 (.cons (.lit 0) .nil))), (.int .i64 (.app 1002 1 (.cons (.lit 0) .nil))), (.int .i64 (.app 1002 2 (.cons (.lit 0) .nil)))]), (.one (.int .i64 (.wrap .i64 (.bin .add .i64 (.wrap .i64 (.bin .sub .i64 (.app 1000 0 (.cons (.app 1000 100 (.cons (.app 1002 100 (.cons (.lit 0) .nil)) .nil)) (.cons (.lit 12) .nil))) (.wrap .i64 (.bin .mul .i64 (.wrap .i64 (.bin .tdiv .i64 (.app 1000 0 (.cons (.app 1000 100 (.cons (.app 1000 100 (.cons (.app 1002 100 (.cons (.lit 0) .nil)) .nil)) .nil)) (.cons (.lit 20) .nil))) (.lit 19))) (.lit 13))))) (.wrap .i64 (.bin .mul .i64 (.wrap .i64 (.bin .tdiv .i64 (.app 1000 0 (.cons (.app 1000 100 (.cons (.app 1000 100 (.cons (.app 1000 100 (.cons (.app 1002 100 (.cons (.lit 0) .nil)) .nil)) .nil)) .nil)) (.cons (.lit 20) .nil))) (.lit 19))) (.lit 29)))))))]) := by kernel_rfl
def t_DDO : Tree := (.node t_DDO_c0 (.node t_DDO_c1 (.leaf (.tup [(.agg [(.int .i64 (.lit 0)), (.int .i64 (.lit 0)), (.int .i64 (.lit 0))]), (.one (.int .i64 (.wrap .i64 (.bin .add .i64 (.wrap .i64 (.bin .sub .i64 (.app 1000 0 (.cons (.app 1000 100 (.cons (.app 1000 100 (.cons (.app 1002 100 (.cons (.lit 0) .nil)) .nil)) .nil)) (.cons (.lit 12) .nil))) (.wrap .i64 (.bin .mul .i64 (.wrap .i64 (.bin .tdiv .i64 (.app 1000 0 (.cons (.app 1000 100 (.cons (.app 1000 100 (.cons (.app 1000 100 (.cons (.app 1002 100 (.cons (.lit 0) .nil)) .nil)) .nil)) .nil)) (.cons (.lit 20) .nil))) (.lit 19))) (.lit 13))))) (.wrap .i64 (.bin .mul .i64 (.wrap .i64 (.bin .tdiv .i64 (.app 1000 0 (.cons (.app 1000 100 (.cons (.app 1000 100 (.cons (.app 1000 100 (.cons (.app 1000 100 (.cons (.app 1002 100 (.cons (.lit 0) .nil)) .nil)) .nil)) .nil)) .nil)) (.cons (.lit 20) .nil))) (.lit 19))) (.lit 29)))))))])) (.node t_DDO_c2 (.leaf (.tup [(.agg [(.int .i64 (.lit (-1))), (.int .i64 (.lit 0)), (.int .i64 (.lit 0))]), (.one (.int .i64 (.wrap .i64 (.bin .add .i64 (.wrap .i64 (.bin .sub .i64 (.app 1000 0 (.cons (.app 1000 100 (.cons (.app 1000 100 (.cons (.app 1002 100 (.cons (.lit 0) .nil)) .nil)) .nil)) (.cons (.lit 12) .nil))) (.wrap .i64 (.bin .mul .i64 (.wrap .i64 (.bin .tdiv .i64 (.app 1000 0 (.cons (.app 1000 100 (.cons (.app 1000 100 (.cons (.app 1000 100 (.cons (.app 1002 100 (.cons (.lit 0) .nil)) .nil)) .nil)) .nil)) (.cons (.lit 20) .nil))) (.lit 19))) (.lit 13))))) (.wrap .i64 (.bin .mul .i64 (.wrap .i64 (.bin .tdiv .i64 (.app 1000 0 (.cons (.app 1000 100 (.cons (.app 1000 100 (.cons (.app 1000 100 (.cons (.app 1000 100 (.cons (.app 1002 100 (.cons (.lit 0) .nil)) .nil)) .nil)) .nil)) .nil)) (.cons (.lit 20) .nil))) (.lit 19))) (.lit 29)))))))])) (.node t_DDO_c3 (.leaf (.tup [(.agg [(.int .i64 (.lit (-2))), (.int .i64 (.lit 0)), (.int .i64 (.lit 0))]), (.one (.int .i64 (.wrap .i64 (.bin .add .i64 (.wrap .i64 (.bin .sub .i64 (.app 1000 0 (.cons (.app 1000 100 (.cons (.app 1000 100 (.cons (.app 1002 100 (.cons (.lit 0) .nil)) .nil)) .nil)) (.cons (.lit 12) .nil))) (.wrap .i64 (.bin .mul .i64 (.wrap .i64 (.bin .tdiv .i64 (.app 1000 0 (.cons (.app 1000 100 (.cons (.app 1000 100 (.cons (.app 1000 100 (.cons (.app 1002 100 (.cons (.lit 0) .nil)) .nil)) .nil)) .nil)) (.cons (.lit 20) .nil))) (.lit 19))) (.lit 13))))) (.wrap .i64 (.bin .mul .i64 (.wrap .i64 (.bin .tdiv .i64 (.app 1000 0 (.cons (.app 1000 100 (.cons (.app 1000 100 (.cons (.app 1000 100 (.cons (.app 1000 100 (.cons (.app 1002 100 (.cons (.lit 0) .nil)) .nil)) .nil)) .nil)) .nil)) (.cons (.lit 20) .nil))) (.lit 19))) (.lit 29)))))))])) (.node t_DDO_c4 (.leaf (.tup [(.agg [(.int .i64 (.lit 0)), (.int .i64 (.lit 1)), (.int .i64 (.lit 0))]), (.one (.int .i64 (.wrap .i64 (.bin .add .i64 (.wrap .i64 (.bin .sub .i64 (.app 1000 0 (.cons (.app 1000 100 (.cons (.app 1000 100 (.cons (.app 1002 100 (.cons (.lit 0) .nil)) .nil)) .nil)) (.cons (.lit 12) .nil))) (.wrap .i64 (.bin .mul .i64 (.wrap .i64 (.bin .tdiv .i64 (.app 1000 0 (.cons (.app 1000 100 (.cons (.app 1000 100 (.cons (.app 1000 100 (.cons (.app 1002 100 (.cons (.lit 0) .nil)) .nil)) .nil)) .nil)) (.cons (.lit 20) .nil))) (.lit 19))) (.lit 13))))) (.wrap .i64 (.bin .mul .i64 (.wrap .i64 (.bin .tdiv .i64 (.app 1000 0 (.cons (.app 1000 100 (.cons (.app 1000 100 (.cons (.app 1000 100 (.cons (.app 1000 100 (.cons (.app 1002 100 (.cons (.lit 0) .nil)) .nil)) .nil)) .nil)) .nil)) (.cons (.lit 20) .nil))) (.lit 19))) (.lit 29)))))))])) (.node t_DDO_c5 (.leaf (.tup [(.agg [(.int .i64 (.lit 1)), (.int .i64 (.lit 0)), (.int .i64 (.lit 2))]), (.one (.int .i64 (.wrap .i64 (.bin .add .i64 (.wrap .i64 (.bin .sub .i64 (.app 1000 0 (.cons (.app 1000 100 (.cons (.app 1000 100 (.cons (.app 1002 100 (.cons (.lit 0) .nil)) .nil)) .nil)) (.cons (.lit 12) .nil))) (.wrap .i64 (.bin .mul .i64 (.wrap .i64 (.bin .tdiv .i64 (.app 1000 0 (.cons (.app 1000 100 (.cons (.app 1000 100 (.cons (.app 1000 100 (.cons (.app 1002 100 (.cons (.lit 0) .nil)) .nil)) .nil)) .nil)) (.cons (.lit 20) .nil))) (.lit 19))) (.lit 13))))) (.wrap .i64 (.bin .mul .i64 (.wrap .i64 (.bin .tdiv .i64 (.app 1000 0 (.cons (.app 1000 100 (.cons (.app 1000 100 (.cons (.app 1000 100 (.cons (.app 1000 100 (.cons (.app 1002 100 (.cons (.lit 0) .nil)) .nil)) .nil)) .nil)) .nil)) (.cons (.lit 20) .nil))) (.lit 19))) (.lit 29)))))))])) (.node t_DDO_c6 (.leaf (.tup [(.agg [(.int .i64 (.lit (-3))), (.int .i64 (.lit 0)), (.int .i64 (.lit 2))]), (.one (.int .i64 (.wrap .i64 (.bin .add .i64 (.wrap .i64 (.bin .sub .i64 (.app 1000 0 (.cons (.app 1000 100 (.cons (.app 1000 100 (.cons (.app 1002 100 (.cons (.lit 0) .nil)) .nil)) .nil)) (.cons (.lit 12) .nil))) (.wrap .i64 (.bin .mul .i64 (.wrap .i64 (.bin .tdiv .i64 (.app 1000 0 (.cons (.app 1000 100 (.cons (.app 1000 100 (.cons (.app 1000 100 (.cons (.app 1002 100 (.cons (.lit 0) .nil)) .nil)) .nil)) .nil)) (.cons (.lit 20) .nil))) (.lit 19))) (.lit 13))))) (.wrap .i64 (.bin .mul .i64 (.wrap .i64 (.bin .tdiv .i64 (.app 1000 0 (.cons (.app 1000 100 (.cons (.app 1000 100 (.cons (.app 1000 100 (.cons (.app 1000 100 (.cons (.app 1002 100 (.cons (.lit 0) .nil)) .nil)) .nil)) .nil)) .nil)) (.cons (.lit 20) .nil))) (.lit 19))) (.lit 29)))))))])) (.dead 11))))))) (.leaf (.tup [(.agg [(.int .i64 (.app 1002 0 (.cons (.lit 0) .nil))), (.int .i64 (.app 1002 1 (.cons (.lit 0) .nil))), (.int .i64 (.app 1002 2 (.cons (.lit 0) .nil)))]), (.one (.int .i64 (.wrap .i64 (.bin .add .i64 (.wrap .i64 (.bin .sub .i64 (.app 1000 0 (.cons (.app 1000 100 (.cons (.app 1002 100 (.cons (.lit 0) .nil)) .nil)) (.cons (.lit 12) .nil))) (.wrap .i64 (.bin .mul .i64 (.wrap .i64 (.bin .tdiv .i64 (.app 1000 0 (.cons (.app 1000 100 (.cons (.app 1000 100 (.cons (.app 1002 100 (.cons (.lit 0) .nil)) .nil)) .nil)) (.cons (.lit 20) .nil))) (.lit 19))) (.lit 13))))) (.wrap .i64 (.bin .mul .i64 (.wrap .i64 (.bin .tdiv .i64 (.app 1000 0 (.cons (.app 1000 100 (.cons (.app 1000 100 (.cons (.app 1000 100 (.cons (.app 1002 100 (.cons (.lit 0) .nil)) .nil)) .nil)) .nil)) (.cons (.lit 20) .nil))) (.lit 19))) (.lit 29)))))))])))
theorem t_DDO_runs : Runs (drawn XF4) 200 15 [.cv (.one (.opq 0))] t_DDO [] := ⟨⟨t_DDO_r4, ⟨t_DDO_r7, ⟨t_DDO_r10, ⟨t_DDO_r13, ⟨t_DDO_r16, ⟨t_DDO_r19, trivial⟩⟩⟩⟩⟩⟩, t_DDO_r20⟩
theorem ddo_some (pv : Int → Int → Int) (p : Option Addr) (len cap : Nat) (h : PvOk pv) : t_DDO.den (envD pv p len cap) ≠ none := by
  have hq : ∀ k : Int, SB.den (envD pv p len cap) (.cmp .eq (.app 1000 0 (.cons (.app 1000 100 (.cons (.app 1002 100 (.cons (.lit 0) .nil)) .nil)) (.cons (.lit 6) .nil))) (.lit k)) = (pv 5 6 == k) := fun _ => rfl
  have c1 : t_DDO_c1.den (envD pv p len cap) = (pv 5 6 == 0) := hq 0
  have c2 : t_DDO_c2.den (envD pv p len cap) = (pv 5 6 == 1) := hq 1
  have c3 : t_DDO_c3.den (envD pv p len cap) = (pv 5 6 == 2) := hq 2
  have c4 : t_DDO_c4.den (envD pv p len cap) = (pv 5 6 == 3) := hq 3
  have c5 : t_DDO_c5.den (envD pv p len cap) = (pv 5 6 == 4) := hq 4
  have c6 : t_DDO_c6.den (envD pv p len cap) = (pv 5 6 == 5) := hq 5
  have hb := h 5 6 (by decide) (by decide) (by decide)
  generalize pv 5 6 = x at *
  unfold t_DDO
  simp only [Tree.den, c1, c2, c3, c4, c5, c6]
  cases t_DDO_c0.den (envD pv p len cap)
  · simp
  · obtain rfl | rfl | rfl | rfl | rfl | rfl : x = 0 ∨ x = 1 ∨ x = 2 ∨ x = 3 ∨ x = 4 ∨ x = 5 := by omega
    all_goals simp
theorem DrawDyadOrbit_any (v : Value) (w : World) (hv : BytesOk w w.heap.size v) :
    Calls Tryd.prog 15 #[v] w fun e w' => ∃ a b c n : Int, e = .returned (.tuple #[.agg #[.int .i64 a, .int .i64 b, .int .i64 c], .int .i64 n]) ∧ Below w.heap.size w w' := by
  obtain ⟨p, len, cap, pv, rfl, hc⟩ := hv.cut
  have hXD := drawn_ok (X := XF4) rfl (XF4_ok w (envD pv p len cap) rfl rfl) hv hc
  obtain ⟨r, h1, h2⟩ := leaves_den isDN (envD pv p len cap) t_DDO (by kernel_rfl) (ddo_some pv p len cap hc.pvOk)
  have := runs_ok hXD (by show Tryd.prog.follows _ = true; exact mixed) t_DDO [] (fun p hp => by cases hp) t_DDO_runs h2
  have e : (drawn XF4).P = Tryd.prog := rfl
  rw [e] at this
  obtain ⟨a, b, c, n, hd⟩ := isDN_den h1 (envD pv p len cap)
  refine this.mono ?_
  rintro en w' ⟨rfl, hb⟩
  exact ⟨a, b, c, n, by rw [hd], hb⟩
end Go.Proofs.YtjpmpjcenajmbaaDoor
