import Derived.Test.YtjpmpjcenajmbaaDoorMAg
import Derived.Test.YtjpmpjcenajmbaaDoorMBj
import Derived.Test.YtjpmpjcenajmbaaDoorMOi
/- Exact orbits keep both widths together: where the exact numbers have few digits both orbits' numbers are equal. Plain. -/
namespace Go.Proofs.YtjpmpjcenajmbaaDoor
set_option linter.unusedSimpArgs false
set_option linter.unusedVariables false
open Go.RowKit Eng
theorem bl_lt {n : Int} {k : Nat} (h1 : 1 ≤ n) (h2 : n ≤ 18446744073709551615) (h : bl n ≤ k) : n < 2 ^ k := by
  by_cases hc : n < 2 ^ k
  · exact hc
  · exfalso
    have hp := pos2 k
    have h3 := bl_shift (n := n) (k := k) (by omega) h2
    have h4 : 1 ≤ n / 2 ^ k := by
      rw [Int.le_ediv_iff_mul_le hp]; omega
    have := bl_pos h4 (Int.le_trans (Int.ediv_le_self _ (by omega)) h2)
    omega
/-- A number of 24 digits at most. -/
theorem BT_few {n : Int} (h : BT n ≤ 24) (hn : n.natAbs ≤ 1073741824) : ∃ m k : Nat, n.natAbs = m * 2 ^ k ∧ m < 16777216 := by
  by_cases h0 : n = 0
  · subst h0; exact ⟨0, 0, rfl, by decide⟩
  · have h1 : (1 : Int) ≤ n.natAbs := by omega
    have h2 : (n.natAbs : Int) ≤ 18446744073709551615 := by omega
    unfold BT at h
    rw [if_neg h0] at h
    obtain ⟨m, hm, he⟩ := tz_split n.natAbs n.natAbs (by simp) h1 h2
    have hp := pos2 (tz n.natAbs).toNat
    have hb := bl_odd h1 h2
    have hq : (n.natAbs : Int) / 2 ^ (tz n.natAbs).toNat = 2 * m + 1 := by
      generalize (tz n.natAbs).toNat = t at he hp ⊢
      rw [he]
      exact Int.mul_ediv_cancel_left _ (by omega)
    rw [hq] at hb
    have hle : 2 * m + 1 ≤ (n.natAbs : Int) := by rw [← hq]; exact Int.ediv_le_self _ (by omega)
    have hlt := bl_lt (n := 2 * m + 1) (k := 24) (by omega) (by omega) (by omega)
    refine ⟨(2 * m + 1).toNat, (tz n.natAbs).toNat, ?_, ?_⟩
    · have : ((n.natAbs : Nat) : Int) = (((2 * m + 1).toNat * 2 ^ (tz n.natAbs).toNat : Nat) : Int) := by
        rw [Int.natCast_mul, Int.natCast_pow, Int.toNat_of_nonneg (by omega), Int.mul_comm]
        exact he
      exact_mod_cast this
    · have e24 : (2 : Int) ^ 24 = 16777216 := by decide
      omega
theorem rep1 {n : Int} {k : Nat} (h : BT n ≤ 24) (hn : n.natAbs ≤ 1073741824) (hk : k ≤ 149) : Fl.Rep Ieee.single (n * 2 ^ k).natAbs := by
  obtain ⟨m, j, h1, h2⟩ := BT_few h hn
  rw [Fl.natAbs_mul_pow]
  refine ⟨⟨m, j + k, by rw [h1, Nat.mul_assoc, ← Nat.pow_add], by rw [show 2 ^ (Ieee.single.fractionBits + 1) = 16777216 by decide]; exact h2⟩, ?_⟩
  have h3 : n.natAbs * 2 ^ k < 2 ^ 31 * 2 ^ k := Nat.mul_lt_mul_of_pos_right (by rw [show (2 : Nat) ^ 31 = 2147483648 by decide]; omega) (Nat.two_pow_pos k)
  rw [← Nat.pow_add] at h3
  refine Nat.lt_of_lt_of_le h3 (Nat.pow_le_pow_right (by decide) ?_)
  have : 2 ^ Ieee.single.exponentBits + Ieee.single.fractionBits - 2 = 277 := by decide
  omega
theorem V_sum1 {x y z : Nat} {r t R : Int} {s u S m : Nat} (hx : Fl.V Ieee.single x (r * 2 ^ (149 - s))) (hy : Fl.V Ieee.single y (t * 2 ^ (149 - u))) (hR : BT R ≤ 24) (hR' : R.natAbs ≤ 1073741824) (hs : s ≤ 140) (hu : u ≤ 140) (hS : S + m = max s u)
    (h : r * 2 ^ (max s u - s) + t * 2 ^ (max s u - u) = R * 2 ^ m) (hz : ArF Ieee.single (Ieee.single.add x y) z) : Fl.V Ieee.single z (R * 2 ^ (149 - S)) := by
  have e : r * 2 ^ (149 - s) + t * 2 ^ (149 - u) = R * 2 ^ (149 - S) := by
    obtain ⟨k, hk⟩ : ∃ k, 149 - max s u = k := ⟨_, rfl⟩
    rw [show 149 - s = (max s u - s) + k by omega, show 149 - u = (max s u - u) + k by omega, show 149 - S = m + k by omega, Int.pow_add, Int.pow_add, Int.pow_add, ← Int.mul_assoc, ← Int.mul_assoc, ← Int.mul_assoc, ← Int.add_mul, h]
  obtain ⟨q, h1, h2⟩ := Fl.V_add Fl.std1 hx hy (by rw [e]; exact rep1 hR hR' (by omega))
  rw [e] at h2
  rcases hz with hz | ⟨hz, -⟩
  · rw [h1] at hz; injection hz with hz; subst hz; exact h2
  · rw [h1] at hz; cases hz
theorem narrow_few {u p : Nat} {R : Int} {S : Nat} (hu : Fl.V Ieee.double u (R * 2 ^ (1074 - S))) (hR : BT R ≤ 24) (hR' : R.natAbs ≤ 1073741824) (hS : S ≤ 140) (h : Nrr u p) : Fl.V Ieee.single p (R * 2 ^ (149 - S)) := by
  obtain ⟨l, hl⟩ : ∃ l : Nat, l = 1074 := ⟨_, rfl⟩
  rw [← hl] at hu
  obtain ⟨r, h1, h2⟩ := Fl.V_narrow hu (w := R * 2 ^ (149 - S)) (by
    rw [← hl, Int.mul_assoc, Int.mul_assoc, ← Int.pow_add, ← Int.pow_add]
    congr 2
    omega) (rep1 hR hR' (by omega))
  rcases h with h | ⟨h, -⟩
  · rw [h1] at h; injection h with h; subst h; exact h2
  · rw [h1] at h; cases h
theorem pow925 {r : Int} {s : Nat} (hs : s ≤ 149) : r * 2 ^ (149 - s) * 2 ^ 925 = r * 2 ^ (1074 - s) := by
  obtain ⟨d, hd⟩ : ∃ d : Nat, d = 925 := ⟨_, rfl⟩
  rw [← hd, Int.mul_assoc, ← Int.pow_add, show 149 - s + d = 1074 - s by omega]
/-- One single step. -/
theorem st_exact1 {zx zy cx cy p q : Nat} {r i s a b c : Int} (hX : Fl.V Ieee.single zx (r * 2 ^ (149 - s.toNat))) (hY : Fl.V Ieee.single zy (i * 2 ^ (149 - s.toNat))) (hC : Fl.V Ieee.single cx (a * 2 ^ (149 - c.toNat))) (hD : Fl.V Ieee.single cy (b * 2 ^ (149 - c.toNat)))
    (hq : SQ r i s = true) (ha : ADD (dq0 r i s) (dq1 r i s) (dq2 r i s) a b c = true) (hb1 : BT (dq0 r i s) ≤ 24) (hb2 : BT (dq1 r i s) ≤ 24) (hb3 : BT (da0 (dq0 r i s) (dq1 r i s) (dq2 r i s) a b c) ≤ 24) (hb4 : BT (da1 (dq0 r i s) (dq1 r i s) (dq2 r i s) a b c) ≤ 24) (h : StS zx zy cx cy p q) :
    Fl.V Ieee.single p (da0 (dq0 r i s) (dq1 r i s) (dq2 r i s) a b c * 2 ^ (149 - (da2 (dq0 r i s) (dq1 r i s) (dq2 r i s) a b c).toNat)) ∧ Fl.V Ieee.single q (da1 (dq0 r i s) (dq1 r i s) (dq2 r i s) a b c * 2 ^ (149 - (da2 (dq0 r i s) (dq1 r i s) (dq2 r i s) a b c).toNat)) := by
  obtain ⟨u0, v0, ⟨X, Y, u, v, w1, w2, hsq, n1, n2⟩, hu, hv⟩ := h
  obtain ⟨s1, s2, s3, s4, m, e1, e2, e3, hdv⟩ := sq_small hq
  have k1 := wide_of (y := 0) hX w1
  have k2 := wide_of (y := 0) hY w2
  rw [pow925 (by omega)] at k1 k2
  obtain ⟨k1, k2⟩ := sq_exact k1 k2 s1 s2 (by omega) hsq
  have f0 : dq0 r i s = lR (SR r i) (SI r i) (2 * s) := if_pos hq
  have f1 : dq1 r i s = lI (SR r i) (SI r i) (2 * s) := if_pos hq
  have f2 : dq2 r i s = lS (SR r i) (SI r i) (2 * s) := if_pos hq
  rw [← f0, ← f1, ← f2] at hdv
  rw [← f2] at e1
  rw [← f0] at e2
  rw [← f1] at e3
  obtain ⟨d1, d2, d3, d4⟩ := dv_rngF hdv
  have g1 := V_terms (S := (dq2 r i s).toNat) (m := m) k1 (by omega) (by omega) e2
  have g2 := V_terms (S := (dq2 r i s).toNat) (m := m) k2 (by omega) (by omega) e3
  have g1 := narrow_few g1 hb1 (by omega) (by omega) n1
  have g2 := narrow_few g2 hb2 (by omega) (by omega) n2
  clear k1 k2 e1 e2 e3 f0 f1 f2 hdv hsq hX hY n1 n2 w1 w2
  have ha' := ha
  unfold ADD at ha'
  simp only [Bool.and_eq_true] at ha'
  obtain ⟨⟨-, hdc⟩, hdr⟩ := ha'
  obtain ⟨c1, c2, c3, c4⟩ := dv_rngF hdc
  obtain ⟨r1, r2, r3, r4⟩ := dv_rngF hdr
  have z0 : da0 (dq0 r i s) (dq1 r i s) (dq2 r i s) a b c = lR (AP (dq0 r i s) (dq2 r i s) a c) (AP (dq1 r i s) (dq2 r i s) b c) (max (dq2 r i s) c) := if_pos ha
  have z1 : da1 (dq0 r i s) (dq1 r i s) (dq2 r i s) a b c = lI (AP (dq0 r i s) (dq2 r i s) a c) (AP (dq1 r i s) (dq2 r i s) b c) (max (dq2 r i s) c) := if_pos ha
  have z2 : da2 (dq0 r i s) (dq1 r i s) (dq2 r i s) a b c = lS (AP (dq0 r i s) (dq2 r i s) a c) (AP (dq1 r i s) (dq2 r i s) b c) (max (dq2 r i s) c) := if_pos ha
  obtain ⟨n, e1, e2, e3, -⟩ := l_spec (AP (dq0 r i s) (dq2 r i s) a c) (AP (dq1 r i s) (dq2 r i s) b c) (max (dq2 r i s) c) (by omega)
  rw [z0] at hb3
  rw [z1] at hb4
  rw [z0, z1, z2]
  generalize lR (AP (dq0 r i s) (dq2 r i s) a c) (AP (dq1 r i s) (dq2 r i s) b c) (max (dq2 r i s) c) = R at *
  generalize lI (AP (dq0 r i s) (dq2 r i s) a c) (AP (dq1 r i s) (dq2 r i s) b c) (max (dq2 r i s) c) = I at *
  generalize lS (AP (dq0 r i s) (dq2 r i s) a c) (AP (dq1 r i s) (dq2 r i s) b c) (max (dq2 r i s) c) = S at *
  generalize dq0 r i s = A at *
  generalize dq1 r i s = B at *
  generalize dq2 r i s = T at *
  have mx : max T.toNat c.toNat = (max T c).toNat := by omega
  have t1 : (max T c - T).toNat = max T.toNat c.toNat - T.toNat := by omega
  have t2 : (max T c - c).toNat = max T.toNat c.toNat - c.toNat := by omega
  unfold AP at e2 e3
  rw [t1, t2] at e2 e3
  exact ⟨V_sum1 (S := S.toNat) (m := n) g1 hC hb3 (by omega) (by omega) (by omega) (by omega) e2 hu, V_sum1 (S := S.toNat) (m := n) g2 hD hb4 (by omega) (by omega) (by omega) (by omega) e3 hv⟩
/-- How many digits a number of the exact orbit has, and its square. -/
def Few (a b c : Int) (k : Nat) : Prop := BT (oz a b c k).1 ≤ 24 ∧ BT (oz a b c k).2.1 ≤ 24
def FewSq (a b c : Int) (k : Nat) : Prop := BT (dq0 (oz a b c k).1 (oz a b c k).2.1 (oz a b c k).2.2) ≤ 24 ∧ BT (dq1 (oz a b c k).1 (oz a b c k).2.1 (oz a b c k).2.2) ≤ 24
theorem exact_agree {cx cy C D : Nat} {Zx Zy Yx Yy : Nat → Nat} {n : Nat} {a b c : Int} (hd : DV a b c = true) (hC : Fl.V Ieee.double C (a * 2 ^ (1074 - c.toNat))) (hD : Fl.V Ieee.double D (b * 2 ^ (1074 - c.toNat))) (R : AgRun cx cy C D Zx Zy Yx Yy n) :
    ∀ k : Nat, k ≤ n → (∀ i, i < k → ook a b c i = true) → (∀ i, i ≤ k → Few a b c i) → (∀ i, i < k → FewSq a b c i) →
      Fl.V Ieee.single (Zx k) ((oz a b c k).1 * 2 ^ (149 - (oz a b c k).2.2.toNat)) ∧ Fl.V Ieee.single (Zy k) ((oz a b c k).2.1 * 2 ^ (149 - (oz a b c k).2.2.toNat))
  | 0, _, _, _, _ => by
    rw [R.z1, R.z2]
    show Fl.V Ieee.single 0 (0 * 2 ^ (149 - (0 : Int).toNat)) ∧ Fl.V Ieee.single 0 (0 * 2 ^ (149 - (0 : Int).toNat))
    rw [Int.zero_mul]
    exact ⟨V1_zero, V1_zero⟩
  | k + 1, hk, h1, h2, h3 => by
    obtain ⟨i1, i2⟩ := exact_agree hd hC hD R k (by omega) (fun i hi => h1 i (by omega)) (fun i hi => h2 i (by omega)) (fun i hi => h3 i (by omega))
    have ho := h1 k (by omega)
    unfold ook at ho
    obtain ⟨o1, o2⟩ := Bool.and_eq_true_iff.1 ho
    obtain ⟨c1, c2, c3, c4⟩ := dv_rngF hd
    have cs : ∀ {x X : Nat} {t : Int}, ArF Ieee.double (cvI .f32 x) X → Fl.V Ieee.double X (t * 2 ^ (1074 - c.toNat)) → Fl.V Ieee.single x (t * 2 ^ (149 - c.toNat)) := fun {x X t} hx hX => by
      obtain ⟨p, p1, p2⟩ := widen_num hx ⟨_, hX⟩
      have e := Fl.V_unique p2 hX
      rw [← pow925 (by omega)] at e
      have : p = t * 2 ^ (149 - c.toNat) := Int.eq_of_mul_eq_mul_right (Fl.pow_ne 925) e
      rwa [this] at p1
    exact st_exact1 i1 i2 (cs R.c1 hC) (cs R.c2 hD) o1 o2 (h3 k (by omega)).1 (h3 k (by omega)).2 (h2 (k + 1) (by omega)).1 (h2 (k + 1) (by omega)).2 (R.zs k (by omega))
/-- The count is not below what the exact orbit tells. -/
theorem AgK_exact {cx cy C D L k : Nat} {a b c : Int} (hd : DV a b c = true) (hC : Fl.V Ieee.double C (a * 2 ^ (1074 - c.toNat))) (hD : Fl.V Ieee.double D (b * 2 ^ (1074 - c.toNat))) (hx : ArF Ieee.double (cvI .f32 cx) C) (hy : ArF Ieee.double (cvI .f32 cy) D) (h : AgK cx cy L k)
    (h1 : ∀ i, i < k → ook a b c i = true) (h2 : ∀ i, i ≤ k → Few a b c i) (h3 : ∀ i, i < k → FewSq a b c i) : k = L := by
  obtain ⟨C', D', Zx, Zy, Yx, Yy, R, hS, hk, hx'⟩ := h
  refine hx'.resolve_right fun hno => hno ?_
  have eC : C' = C := by
    rcases cv_eqv R.c1 hx with h | ⟨-, h⟩
    · exact h
    · exact absurd h (V_not hC).2
  have eD : D' = D := by
    rcases cv_eqv R.c2 hy with h | ⟨-, h⟩
    · exact h
    · exact absurd h (V_not hD).2
  subst eC; subst eD
  obtain ⟨z1, z2⟩ := exact_agree hd hC hD R k (Nat.le_refl _) h1 h2 h3
  obtain ⟨y1, y2⟩ := orbit_exact hC hD R.y1 R.y2 k h1 (fun i hi => R.ys i hi)
  have hdv := dv_rngF (oz_dv a b c k)
  rw [← pow925 (by omega)] at y1 y2
  exact ⟨.inl ⟨_, z1, y1⟩, .inl ⟨_, z2, y2⟩⟩
/-- A wide number that is equal to a single one fits. -/
theorem same_fits {z y : Nat} (h : Same z y) : ∃ n m, cvI .f64 y = some n ∧ cvI .f32 n = some m ∧ Ieee.double.order y m = some .eq := by
  rcases h with ⟨a, h1, h2⟩ | ⟨s, h1, h2⟩
  · obtain ⟨d, hd⟩ : ∃ d : Nat, d = 925 := ⟨_, rfl⟩
    obtain ⟨sg, m, j, hu, hm, hj⟩ := Fl.V1_rep h1
    have hrep : Fl.Rep Ieee.single a.natAbs := by
      rw [hu, Fl.sg_natAbs]
      refine ⟨⟨m, j, rfl, by rw [show 2 ^ (Ieee.single.fractionBits + 1) = 16777216 by decide]; exact hm⟩, ?_⟩
      have : m * 2 ^ j < 2 ^ 24 * 2 ^ j := Nat.mul_lt_mul_of_pos_right (by simpa using hm) (Nat.two_pow_pos j)
      rw [← Nat.pow_add] at this
      refine Nat.lt_of_lt_of_le this (Nat.pow_le_pow_right (by decide) ?_)
      have : 2 ^ Ieee.single.exponentBits + Ieee.single.fractionBits - 2 = 277 := by decide
      omega
    obtain ⟨n, n1, n2⟩ := Fl.V_narrow h2 (w := a) (by
      rw [← hd, Int.mul_assoc, ← Int.pow_add]; congr 2; omega) hrep
    obtain ⟨m, m1, m2⟩ := widen_V n2
    exact ⟨n, m, n1, m1, Fl.V_eq h2 m2⟩
  · refine ⟨_, _, cv_infD h2, cv_inf (inf_single s), ?_⟩
    unfold Ieee.Format.order
    rw [h2, Fl.read_inf s]
    cases s <;> decide
/-- The numbers of another wide orbit of the same c fit as well. -/
theorem AgK_fits {cx cy C D L k n : Nat} {X Y : Nat → Nat} (hx : ArF Ieee.double (cvI .f32 cx) C) (hy : ArF Ieee.double (cvI .f32 cy) D) (h : AgK cx cy L k) (x0 : X 0 = 0) (y0 : Y 0 = 0) (hst : ∀ i, i < n → StR (X i) (Y i) C D (X (i + 1)) (Y (i + 1))) (hkn : k ≤ n) :
    ∀ i, i < k → (∃ p q, cvI .f64 (X i) = some p ∧ cvI .f32 p = some q ∧ Ieee.double.order (X i) q = some .eq) ∧ ∃ p q, cvI .f64 (Y i) = some p ∧ cvI .f32 p = some q ∧ Ieee.double.order (Y i) q = some .eq := by
  obtain ⟨C', D', Zx, Zy, Yx, Yy, R, hS, hk, -⟩ := h
  have key : ∀ i, i ≤ k → Eqv Ieee.double (Yx i) (X i) ∧ Eqv Ieee.double (Yy i) (Y i) := by
    intro i
    induction i with
    | zero => intro _; rw [R.y1, R.y2, x0, y0]; exact ⟨.inl rfl, .inl rfl⟩
    | succ i ih =>
      intro hi
      obtain ⟨e1, e2⟩ := ih (by omega)
      exact Eqv.st e1 e2 (cv_eqv R.c1 hx) (cv_eqv R.c2 hy) (R.ys i (by omega)) (hst i (by omega))
  intro i hi
  obtain ⟨e1, e2⟩ := key i (by omega)
  have f1 := e1.same (hS i hi).1.num.2
  have f2 := e2.same (hS i hi).2.num.2
  rw [← f1, ← f2]
  exact ⟨same_fits (hS i hi).1, same_fits (hS i hi).2⟩
end Go.Proofs.YtjpmpjcenajmbaaDoor
/- Steps of single orbits, NaN and numbers too great allowed; of wide ones in the reference. -/
namespace Go.Proofs.YtjpmpjcenajmbaaDoor
set_option linter.unusedSimpArgs false
set_option linter.unusedVariables false
open Go.RowKit Eng
attribute [local go_sem] Oper.semAt_some
theorem nanD1_isN (t : Nat) : IsN Ieee.single (t % 2 * 2147483648 + 2139095040 + 1 + t / 2 % 8388607) := by
  obtain ⟨h1, h2, h3, h4, h5⟩ := Fl.sgl_facts
  have h : 2139095040 < (t % 2 * 2147483648 + 2139095040 + 1 + t / 2 % 8388607) % 2147483648 := by
    have := Nat.mod_lt (t / 2) (show 8388607 > 0 by decide)
    generalize t / 2 % 8388607 = u at this ⊢
    omega
  generalize t % 2 * 2147483648 + 2139095040 + 1 + t / 2 % 8388607 = x at h ⊢
  unfold IsN Ieee.Format.read
  simp only [h1, h2, h3, h4]
  rw [if_neg (by omega), if_neg (by omega), if_neg (by omega)]
  exact ⟨_, _, rfl⟩
theorem cv_none {x : Nat} (h : IsN Ieee.double x ∨ ¬ IsN Ieee.double x) : True := trivial
theorem widen_part (x : Nat) (w : World) : ∃ y w', (Conv.floatToFloat .f32 x .f64).run Tryd.prog w = .ok (.float .f64 y) w' ∧ Drawn w w' ∧ ArF Ieee.double (cvI .f32 x) y := by
  rcases read_cases _ Fl.std1 x with ⟨a, ha⟩ | ⟨s, hs⟩ | hn
  · obtain ⟨X, h1, h2⟩ := widen_V ha
    refine ⟨X, w, ?_, Drawn.refl w, .inl h1⟩
    obtain ⟨s, m, e, hr, -⟩ := ha
    unfold cvI at h1
    unfold Conv.floatToFloat
    rw [if_neg (by decide)]
    rw [show FloatKind.decode .f32 x = .number s m e from hr] at h1 ⊢
    simp only [] at h1 ⊢
    split at h1
    · cases h1
    · rename_i hi
      injection h1 with h1
      rw [if_neg (by exact hi)]
      rw [show FloatKind.encode .f64 (.number s m e) = X from h1]; rfl
  · refine ⟨_, w, ?_, Drawn.refl w, .inl (cv_inf hs)⟩
    unfold Conv.floatToFloat
    rw [if_neg (by decide), show FloatKind.decode .f32 x = .infinity s from hs]; rfl
  · refine ⟨_, w.drew, ?_, fun B => (Below.refl _ _).drew, .inr ⟨cv_nan hn, nanD_isN (w.tape w.drawn (.nanConv .f64 x))⟩⟩
    obtain ⟨s, t, hn⟩ := hn
    unfold Conv.floatToFloat
    rw [if_neg (by decide), show FloatKind.decode .f32 x = .nan s t from hn]; rfl
theorem narrow_part' (x : Nat) (w : World) : ∃ y w', (Conv.floatToFloat .f64 x .f32).run Tryd.prog w = .ok (.float .f32 y) w' ∧ Drawn w w' ∧ Nrr x y := by
  unfold Conv.floatToFloat
  rw [if_neg (by decide)]
  cases h : FloatKind.decode .f64 x with
  | nan s t =>
    have hn : IsN Ieee.double x := ⟨s, t, h⟩
    exact ⟨_, w.drew, rfl, fun B => (Below.refl _ _).drew, .inr ⟨cv_nanD hn, fun _ => nanD1_isN (w.tape w.drawn (.nanConv .f32 x))⟩⟩
  | infinity s => exact ⟨_, w, rfl, Drawn.refl w, .inl (cv_infD h)⟩
  | number s m e =>
    simp only []
    have hno : ¬ IsN Ieee.double x := by
      rintro ⟨a, b, hn⟩
      rw [show Ieee.double.read x = .number s m e from h] at hn; cases hn
    split
    · rename_i hi
      refine ⟨_, w.drew, rfl, fun B => (Below.refl _ _).drew, .inr ⟨?_, fun hn => absurd hn hno⟩⟩
      unfold cvI
      rw [h]; simp only []
      rw [if_pos (by exact hi)]
    · rename_i hi
      refine ⟨_, w, rfl, Drawn.refl w, .inl ?_⟩
      unfold cvI
      rw [h]; simp only []
      rw [if_neg (by exact hi)]; rfl
theorem widen_conv (x y : Nat) (w : World) : ∃ X Y w', (convert 23 27 (.complex .f32 x y)).run Tryd.prog w = .ok (.complex .f64 X Y) w' ∧ Drawn w w' ∧ ArF Ieee.double (cvI .f32 x) X ∧ ArF Ieee.double (cvI .f32 y) Y := by
  obtain ⟨a, w1, h1, k1, l1⟩ := widen_part x w
  obtain ⟨b, w2, h2, k2, l2⟩ := widen_part y w1
  refine ⟨a, b, w2, ?_, k1.trans k2, l1, l2⟩
  unfold convert
  simp only [Sem.run_bind, run_underlying' Tryd.underlying23, run_underlying' Tryd.underlying27, Result.andThen_ok]
  unfold Conv.complexToComplex
  simp only [Sem.run_bind, h1, h2, Result.andThen_ok]
  rfl
theorem narrow_conv (x y : Nat) (w : World) : ∃ X Y w', (convert 27 23 (.complex .f64 x y)).run Tryd.prog w = .ok (.complex .f32 X Y) w' ∧ Drawn w w' ∧ Nrr x X ∧ Nrr y Y := by
  obtain ⟨a, w1, h1, k1, l1⟩ := narrow_part' x w
  obtain ⟨b, w2, h2, k2, l2⟩ := narrow_part' y w1
  refine ⟨a, b, w2, ?_, k1.trans k2, l1, l2⟩
  unfold convert
  simp only [Sem.run_bind, run_underlying' Tryd.underlying27, run_underlying' Tryd.underlying23, Result.andThen_ok]
  unfold Conv.complexToComplex
  simp only [Sem.run_bind, h1, h2, Result.andThen_ok]
  rfl
theorem ar1_fadd (x y : Nat) (w : World) : ∃ z w', (Op.floatArith .add .f32 x y).run Tryd.prog w = .ok (.float .f32 z) w' ∧ Drawn w w' ∧ ArF Ieee.single (Ieee.single.add x y) z := by
  cases h : Ieee.single.add x y with
  | some z => exact ⟨z, w, by simp only [Op.floatArith, show FloatKind.f32.format = Ieee.single from rfl, h]; rfl, Drawn.refl w, .inl rfl⟩
  | none => exact ⟨_, w.drew, by simp only [Op.floatArith, show FloatKind.f32.format = Ieee.single from rfl, h]; rfl, fun B => (Below.refl _ _).drew, .inr ⟨rfl, nanD1_isN (w.tape w.drawn (.nanBits .f32 x y))⟩⟩
theorem ar1_cadd (t u v c d : Nat) (w : World) : ∃ p q w', (binOp .add t (.complex .f32 u v) (.complex .f32 c d)).run Tryd.prog w = .ok (.complex .f32 p q) w' ∧ Drawn w w' ∧ ArF Ieee.single (Ieee.single.add u c) p ∧ ArF Ieee.single (Ieee.single.add v d) q := by
  obtain ⟨p, w1, m1, d1, r1⟩ := ar1_fadd u c w
  obtain ⟨q, w2, m2, d2, r2⟩ := ar1_fadd v d w1
  refine ⟨p, q, w2, ?_, d1.trans d2, r1, r2⟩
  show (Op.complexOp .add .f32 u v c d).run Tryd.prog w = _
  unfold Op.complexOp
  simp only [Op.Complex.arith, Sem.run_bind, m1, m2, Result.andThen_ok, Sem.run_pure]
/-- What widening and narrowing give, as calls. -/
def WidR (x y : Nat) (w : World) (e : Ending) (w' : World) : Prop := ∃ X Y, e = .returned (.complex .f64 X Y) ∧ Drawn w w' ∧ ArF Ieee.double (cvI .f32 x) X ∧ ArF Ieee.double (cvI .f32 y) Y
def NarR (x y : Nat) (w : World) (e : Ending) (w' : World) : Prop := ∃ X Y, e = .returned (.complex .f32 X Y) ∧ Drawn w w' ∧ Nrr x X ∧ Nrr y Y
theorem inWidth_up (x y : Nat) (w : World) : Calls Tryd.prog 28 #[.complex .f32 x y] w (WidR x y w) := by
  obtain ⟨X, Y, w1, h, hd, h1, h2⟩ := widen_conv x y w
  have HD := Lib.hid hd; have H1 := Lib.hid h1; have H2 := Lib.hid h2
  clear hd h1 h2
  go_enter Tryd.func28, Tryd.ntmps28
  go_wp2
  go_returns
  exact ⟨X, Y, rfl, HD.out, H1.out, H2.out⟩
theorem inWidth_down (x y : Nat) (w : World) : Calls Tryd.prog 55 #[.complex .f64 x y] w (NarR x y w) := by
  obtain ⟨X, Y, w1, h, hd, h1, h2⟩ := narrow_conv x y w
  have HD := Lib.hid hd; have H1 := Lib.hid h1; have H2 := Lib.hid h2
  clear hd h1 h2
  go_enter Tryd.func55, Tryd.ntmps55
  go_wp2
  go_returns
  exact ⟨X, Y, rfl, HD.out, H1.out, H2.out⟩
theorem impl_Widen_any (x y : Nat) (w : World) : Calls Tryd.prog 8 #[.complex .f32 x y] w (WidR x y w) := by
  go_enter Tryd.func8, Tryd.ntmps8
  go_wp2_with fail
  refine (inWidth_up x y _).mono ?_
  rintro e w1 ⟨X, Y, rfl, hd, h1, h2⟩
  have HD := Lib.hid hd; have H1 := Lib.hid h1; have H2 := Lib.hid h2
  clear hd h1 h2
  go_wp2
  go_returns
  exact ⟨X, Y, rfl, HD.out, H1.out, H2.out⟩
theorem impl_Narrow_any (x y : Nat) (w : World) : Calls Tryd.prog 30 #[.complex .f64 x y] w (NarR x y w) := by
  go_enter Tryd.func30, Tryd.ntmps30
  go_wp2_with fail
  refine (inWidth_down x y _).mono ?_
  rintro e w1 ⟨X, Y, rfl, hd, h1, h2⟩
  have HD := Lib.hid hd; have H1 := Lib.hid h1; have H2 := Lib.hid h2
  clear hd h1 h2
  go_wp2
  go_returns
  exact ⟨X, Y, rfl, HD.out, H1.out, H2.out⟩
theorem impl_SquareSingle_any (x y : Nat) (w : World) : Calls Tryd.prog 50 #[.complex .f32 x y] w fun e w' => ∃ p q, e = .returned (.complex .f32 p q) ∧ Drawn w w' ∧ SqS x y p q := by
  go_enter Tryd.func50, Tryd.ntmps50
  go_wp2_with fail
  refine (impl_Widen_any x y _).mono ?_
  rintro e w1 ⟨X, Y, rfl, hd1, h1, h2⟩
  have H1 := Lib.hid h1; have H2 := Lib.hid h2; have D1 := Lib.hid hd1
  clear hd1 h1 h2
  go_wp2_with fail
  refine (impl_Square_any X Y _).mono ?_
  rintro e w2 ⟨u, v, rfl, hd2, h3⟩
  have H3 := Lib.hid h3; have D2 := Lib.hid (D1.out.trans hd2)
  clear hd2 h3
  go_wp2_with fail
  refine (impl_Narrow_any u v _).mono ?_
  rintro e w3 ⟨p, q, rfl, hd3, h4, h5⟩
  have H4 := Lib.hid h4; have H5 := Lib.hid h5; have D3 := Lib.hid (D2.out.trans hd3)
  clear hd3 h4 h5
  go_wp2
  go_returns
  exact ⟨p, q, rfl, D3.out, X, Y, u, v, H1.out, H2.out, H3.out, H4.out, H5.out⟩
theorem impl_StepSingle_any (x y c d : Nat) (w : World) : Calls Tryd.prog 23 #[.complex .f32 x y, .complex .f32 c d] w fun e w' => ∃ p q, e = .returned (.complex .f32 p q) ∧ Drawn w w' ∧ StS x y c d p q := by
  go_enter Tryd.func23, Tryd.ntmps23
  go_wp2_with fail
  refine (impl_SquareSingle_any x y _).mono ?_
  rintro e w1 ⟨u, v, rfl, hd, hr⟩
  obtain ⟨p, q, w2, m2, d2, r2, r3⟩ := ar1_cadd 23 u v c d w1
  have HD := Lib.hid (hd.trans d2)
  have HR : Hid (StS x y c d p q) := Lib.hid ⟨u, v, hr, r2, r3⟩
  clear hd d2 hr r2 r3
  go_wp2
  go_returns
  exact ⟨p, q, rfl, HD.out, HR.out⟩
theorem spec_Square_any (x y : Nat) (w : World) : Calls Tryd.prog 53 #[.complex .f64 x y] w fun e w' => ∃ p q, e = .returned (.complex .f64 p q) ∧ Drawn w w' ∧ SqR x y p q := by
  obtain ⟨a, w1, m1, d1, r1⟩ := ar_mul 58 x x w
  obtain ⟨b, w2, m2, d2, r2⟩ := ar_mul 58 y y w1
  obtain ⟨p, w3, m3, d3, r3⟩ := ar_sub 58 a b w2
  obtain ⟨e, w4, m4, d4, r4⟩ := ar_mul 58 x y w3
  obtain ⟨q, w5, m5, d5, r5⟩ := ar_mul 58 4611686018427387904 e w4
  have HD := Lib.hid (d1.trans (d2.trans (d3.trans (d4.trans d5))))
  have HR : Hid (SqR x y p q) := Lib.hid ⟨a, b, e, r1, r2, r3, r4, r5⟩
  clear d1 d2 d3 d4 d5 r1 r2 r3 r4 r5
  go_enter Tryd.func53, Tryd.ntmps53
  set_option maxRecDepth 20000 in
  go_wp2
  go_returns
  exact ⟨p, q, rfl, HD.out, HR.out⟩
theorem spec_StepWide_any (x y c d : Nat) (w : World) : Calls Tryd.prog 27 #[.complex .f64 x y, .complex .f64 c d] w fun e w' => ∃ p q, e = .returned (.complex .f64 p q) ∧ Drawn w w' ∧ StR x y c d p q := by
  go_enter Tryd.func27, Tryd.ntmps27
  go_wp2_with fail
  refine (spec_Square_any x y _).mono ?_
  rintro e w1 ⟨u, v, rfl, hd, hr⟩
  obtain ⟨p, q, w2, m2, d2, r2, r3⟩ := ar_cadd 27 u v c d w1
  have HD := Lib.hid (hd.trans d2)
  have HR : Hid (StR x y c d p q) := Lib.hid ⟨u, v, hr, r2, r3⟩
  clear hd d2 hr r2 r3
  go_wp2
  go_returns
  exact ⟨p, q, rfl, HD.out, HR.out⟩
theorem spec_SquareSingle_any (x y : Nat) (w : World) : Calls Tryd.prog 52 #[.complex .f32 x y] w fun e w' => ∃ p q, e = .returned (.complex .f32 p q) ∧ Drawn w w' ∧ SqS x y p q := by
  obtain ⟨X, Y, w1, c1, hd1, h1, h2⟩ := widen_conv x y w
  have H1 := Lib.hid h1; have H2 := Lib.hid h2; have D1 := Lib.hid hd1
  clear hd1 h1 h2
  go_enter Tryd.func52, Tryd.ntmps52
  go_wp2_with fail
  refine (spec_Square_any X Y _).mono ?_
  rintro e w2 ⟨u, v, rfl, hd2, h3⟩
  obtain ⟨p, q, w3, c3, hd3, h4, h5⟩ := narrow_conv u v w2
  have H3 := Lib.hid h3; have D2 := Lib.hid (D1.out.trans (hd2.trans hd3))
  have H4 := Lib.hid h4; have H5 := Lib.hid h5
  clear hd2 h3 hd3 h4 h5
  go_wp2
  go_returns
  exact ⟨p, q, rfl, D2.out, X, Y, u, v, H1.out, H2.out, H3.out, H4.out, H5.out⟩
theorem spec_StepSingle_any (x y c d : Nat) (w : World) : Calls Tryd.prog 26 #[.complex .f32 x y, .complex .f32 c d] w fun e w' => ∃ p q, e = .returned (.complex .f32 p q) ∧ Drawn w w' ∧ StS x y c d p q := by
  go_enter Tryd.func26, Tryd.ntmps26
  go_wp2_with fail
  refine (spec_SquareSingle_any x y _).mono ?_
  rintro e w1 ⟨u, v, rfl, hd, hr⟩
  obtain ⟨p, q, w2, m2, d2, r2, r3⟩ := ar1_cadd 23 u v c d w1
  have HD := Lib.hid (hd.trans d2)
  have HR : Hid (StS x y c d p q) := Lib.hid ⟨u, v, hr, r2, r3⟩
  clear hd d2 hr r2 r3
  go_wp2
  go_returns
  exact ⟨p, q, rfl, HD.out, HR.out⟩
end Go.Proofs.YtjpmpjcenajmbaaDoor
/- How many numbers of both orbits are equal: the reference's count; the iterator of single orbits. -/
namespace Go.Proofs.YtjpmpjcenajmbaaDoor
set_option linter.unusedSimpArgs false
set_option linter.unusedVariables false
open Go.RowKit Eng
attribute [local go_sem] Oper.semAt_some
/-- The most, brought into its range. -/
def LM (most : Int) : Nat := (max 0 (min 400 most)).toNat
theorem l3Most_any (most : Int) (w : World) : Calls Tryd.prog 25 #[.int .i64 most] w fun e w' => e = .returned (.int .i64 (LM most)) ∧ w = w' := by
  go_enter Tryd.func25, Tryd.ntmps25
  go_wp2
  all_goals go_returns
  all_goals refine ⟨?_, rfl⟩
  all_goals exact congrArg Ending.returned (congrArg (Value.int IntKind.i64) (show _ = ((LM most : Nat) : Int) by unfold LM; omega))
theorem stepsOf_any (most : Int) (w : World) : Calls Tryd.prog 21 #[.int .i64 most] w fun e w' => e = .returned (.int .i64 (LM most)) ∧ w = w' := by
  go_enter Tryd.func21, Tryd.ntmps21
  go_wp2
  all_goals go_returns
  all_goals refine ⟨?_, rfl⟩
  all_goals exact congrArg Ending.returned (congrArg (Value.int IntKind.i64) (show _ = ((LM most : Nat) : Int) by unfold LM; omega))
theorem neq_run (x y u v : Nat) (w : World) : (binOp .neq 27 (.complex .f64 x y) (.complex .f64 u v)).run Tryd.prog w = .ok (.bool (!(Ieee.double.order x u == some .eq && Ieee.double.order y v == some .eq))) w := by
  go_simp
  rfl
/-- Both orbits, so far. -/
def AgAt (cx cy C D k zx zy yx yy : Nat) : Prop := ∃ Zx Zy Yx Yy, AgRun cx cy C D Zx Zy Yx Yy k ∧ (∀ i, i < k → Same (Zx i) (Yx i) ∧ Same (Zy i) (Yy i)) ∧ Zx k = zx ∧ Zy k = zy ∧ Yx k = yx ∧ Yy k = yy
theorem AgAt.zero {cx cy C D : Nat} (h1 : ArF Ieee.double (cvI .f32 cx) C) (h2 : ArF Ieee.double (cvI .f32 cy) D) : AgAt cx cy C D 0 0 0 0 0 :=
  ⟨fun _ => 0, fun _ => 0, fun _ => 0, fun _ => 0, ⟨h1, h2, rfl, rfl, rfl, rfl, fun i hi => by omega, fun i hi => by omega⟩, fun i hi => by omega, rfl, rfl, rfl, rfl⟩
theorem AgAt.next {cx cy C D k zx zy yx yy p q r s : Nat} (h : AgAt cx cy C D k zx zy yx yy) (hs : Same zx yx ∧ Same zy yy) (hz : StS zx zy cx cy p q) (hy : StR yx yy C D r s) : AgAt cx cy C D (k + 1) p q r s := by
  obtain ⟨Zx, Zy, Yx, Yy, R, hS, rfl, rfl, rfl, rfl⟩ := h
  refine ⟨fun i => if i ≤ k then Zx i else p, fun i => if i ≤ k then Zy i else q, fun i => if i ≤ k then Yx i else r, fun i => if i ≤ k then Yy i else s,
    ⟨R.c1, R.c2, by simpa using R.z1, by simpa using R.z2, by simpa using R.y1, by simpa using R.y2, fun i hi => ?_, fun i hi => ?_⟩, fun i hi => ?_, if_neg (by omega), if_neg (by omega), if_neg (by omega), if_neg (by omega)⟩
  · by_cases hik : i < k
    · simp only [if_pos (show i ≤ k by omega), if_pos (show i + 1 ≤ k by omega)]; exact R.zs i hik
    · obtain rfl : i = k := by omega
      simp only [if_pos (Nat.le_refl i), if_neg (show ¬ i + 1 ≤ i by omega)]; exact hz
  · by_cases hik : i < k
    · simp only [if_pos (show i ≤ k by omega), if_pos (show i + 1 ≤ k by omega)]; exact R.ys i hik
    · obtain rfl : i = k := by omega
      simp only [if_pos (Nat.le_refl i), if_neg (show ¬ i + 1 ≤ i by omega)]; exact hy
  · simp only [if_pos (show i ≤ k by omega)]
    by_cases hik : i < k
    · exact hS i hik
    · obtain rfl : i = k := by omega
      exact hs
theorem AgAt.done {cx cy C D k zx zy yx yy L : Nat} (h : AgAt cx cy C D k zx zy yx yy) (hk : k ≤ L) (hx : k = L ∨ ¬ (Same zx yx ∧ Same zy yy)) : AgK cx cy L k := by
  obtain ⟨Zx, Zy, Yx, Yy, R, hS, rfl, rfl, rfl, rfl⟩ := h
  exact ⟨C, D, Zx, Zy, Yx, Yy, R, hS, hk, hx⟩
/-- What the comparison of the widened number with the wide one tells. -/
theorem cmp_same {z y X : Nat} (h : ArF Ieee.double (cvI .f32 z) X) : (Ieee.double.order X y == some .eq) = true ↔ Same z y := by
  rw [← AgP_iff]
  unfold AgP
  rcases h with h | ⟨h, hn⟩
  · rw [h]
  · rw [h]
    obtain ⟨s, t, hn⟩ := hn
    unfold Ieee.Format.order
    rw [hn]
    constructor
    · intro hh; cases Ieee.double.read y <;> cases hh
    · intro hh; cases hh
theorem order_comm {x y : Nat} : (Ieee.double.order x y == some .eq) = (Ieee.double.order y x == some .eq) := by
  have key : ∀ {a b : Nat}, Ieee.double.order a b = some .eq → Ieee.double.order b a = some .eq := fun {a b} h => by
    rcases read_cases _ Fl.std a with ⟨v, hv⟩ | ⟨s, hs⟩ | ⟨s, t, hn⟩
    · rcases read_cases _ Fl.std b with ⟨u, hu⟩ | ⟨s, hs⟩ | ⟨s, t, hn⟩
      · rw [Fl.V_order hv hu] at h
        injection h with h
        have := Int.compare_eq_eq.1 h
        subst this
        rw [Fl.V_order hu hv, Int.compare_eq_eq.2 rfl]
      · obtain ⟨s', m, e', hr, -⟩ := hv
        unfold Ieee.Format.order at h; rw [hr, hs] at h; cases s <;> cases h
      · obtain ⟨s', m, e', hr, -⟩ := hv
        unfold Ieee.Format.order at h; rw [hr, hn] at h; cases h
    · unfold Ieee.Format.order at h ⊢
      rw [hs] at h ⊢
      cases hb : Ieee.double.read b with
      | infinity t => rw [hb] at h; cases s <;> cases t <;> first | rfl | exact absurd h (by decide)
      | nan a b => rw [hb] at h; cases h
      | number a b c => rw [hb] at h; cases s <;> cases h
    · unfold Ieee.Format.order at h; rw [hn] at h; cases Ieee.double.read b <;> cases h
  rw [Bool.eq_iff_iff]
  constructor
  · intro h; rw [beq_iff_eq] at h ⊢; exact key h
  · intro h; rw [beq_iff_eq] at h ⊢; exact key h
theorem LM_le (most : Int) : LM most ≤ 400 := by unfold LM; omega
theorem spec_AgreeCount_any (cx cy : Nat) (most : Int) (w : World) : Calls Tryd.prog 7 #[.complex .f32 cx cy, .int .i64 most] w fun e w' => ∃ k : Nat, e = .returned (.int .i64 k) ∧ Drawn w w' ∧ AgK cx cy (LM most) k := by
  obtain ⟨C, D, w1, c1, hd1, h1, h2⟩ := widen_conv cx cy w
  have hL := LM_le most
  have H0 : Hid (AgAt cx cy C D 0 0 0 0 0) := Lib.hid (AgAt.zero h1 h2)
  have HD := Lib.hid hd1
  clear hd1 h1 h2
  go_enter Tryd.func7, Tryd.ntmps7
  go_wp2
  go_loopw [6, 7, 8] (fun z y v wr => ∃ k zx zy yx yy : Nat, z = .complex .f32 zx zy ∧ y = .complex .f64 yx yy ∧ v = .int .i64 k ∧ k ≤ LM most ∧ Hid (AgAt cx cy C D k zx zy yx yy) ∧ Hid (Drawn w wr)) (fun _ _ v _ => LM most + 1 - (intOf v).toNat)
  case atStart => exact ⟨0, 0, 0, 0, 0, rfl, rfl, rfl, by omega, H0, HD⟩
  case round =>
    obtain ⟨k, zx, zy, yx, yy, rfl, rfl, rfl, hk, hA, hD⟩ := hrel
    clear H0 HD
    go_wp2_with fail
    refine (l3Most_any most _).mono ?_
    rintro e u1 ⟨rfl, rfl⟩
    by_cases hlt : k < LM most
    · obtain ⟨X, Y, w2, c2, hd2, h1, h2⟩ := widen_conv zx zy wr
      have H1 := Lib.hid (cmp_same (y := yx) h1); have H2 := Lib.hid (cmp_same (y := yy) h2)
      have hD2 := Lib.hid (hD.out.trans hd2)
      clear hd2 h1 h2
      have yes : ∀ {o : Option Ordering} {a b : Nat}, Ieee.double.order a b = o → o ≠ some .eq → ¬ (Ieee.double.order a b == some .eq) = true := fun {o a b} h hn he => hn (by rw [← h]; simpa using he)
      have no : ∀ e' : Ending, ¬ (Same zx yx ∧ Same zy yy) → e' = .returned (.int .i64 k) → ∃ k' : Nat, e' = .returned (.int .i64 k') ∧ Drawn w w2 ∧ AgK cx cy (LM most) k' := fun e' hno he => ⟨k, he, hD2.out, hA.out.done hk (.inr hno)⟩
      have NO := Lib.hid no
      clear no
      obtain ⟨o1, ho1⟩ : ∃ o, FloatKind.f64.format.order X yx = o := ⟨_, rfl⟩
      obtain ⟨o2, ho2⟩ : ∃ o, FloatKind.f64.format.order Y yy = o := ⟨_, rfl⟩
      by_cases e1 : o1 = some .eq
      · by_cases e2 : o2 = some .eq
        · subst e1; subst e2
          have hs1 : Same zx yx := H1.out.1 (by rw [show Ieee.double.order X yx = some .eq from ho1]; rfl)
          have hs2 : Same zy yy := H2.out.1 (by rw [show Ieee.double.order Y yy = some .eq from ho2]; rfl)
          have HS := Lib.hid (And.intro hs1 hs2)
          clear hs1 hs2 yes NO
          go_wp2_with fail
          refine (spec_StepSingle_any zx zy cx cy _).mono ?_
          rintro e u3 ⟨p, q, rfl, hd3, h3⟩
          have hD3 := Lib.hid (hD2.out.trans hd3); have H3 := Lib.hid h3
          clear hd3 h3
          go_wp2_with fail
          refine (spec_StepWide_any yx yy C D _).mono ?_
          rintro e u4 ⟨r, s, rfl, hd4, h4⟩
          have hD4 := Lib.hid (hD3.out.trans hd4)
          have hA' := Lib.hid (hA.out.next HS.out H3.out h4)
          clear hd4 h4
          go_wp2
          go_roundw
          case rel => exact ⟨k + 1, p, q, r, s, rfl, rfl, by simp, by omega, hA', hD4⟩
          case measure => simp [intOf]; omega
        · have hn : ¬ (Same zx yx ∧ Same zy yy) := fun h => yes ho2 e2 (H2.out.2 h.2)
          have HN := Lib.hid hn
          clear yes hn
          subst e1
          obtain rfl | rfl | rfl : o2 = none ∨ o2 = some .lt ∨ o2 = some .gt := by
            rcases o2 with _ | (_ | _ | _)
            · exact .inl rfl
            · exact .inr (.inl rfl)
            · exact absurd rfl e2
            · exact .inr (.inr rfl)
          all_goals go_wp2
          all_goals go_returns
          all_goals exact NO.out _ HN.out rfl
      · have hn : ¬ (Same zx yx ∧ Same zy yy) := fun h => yes ho1 e1 (H1.out.2 h.1)
        have HN := Lib.hid hn
        clear yes hn
        obtain rfl | rfl | rfl : o1 = none ∨ o1 = some .lt ∨ o1 = some .gt := by
          rcases o1 with _ | (_ | _ | _)
          · exact .inl rfl
          · exact .inr (.inl rfl)
          · exact absurd rfl e1
          · exact .inr (.inr rfl)
        all_goals go_wp2
        all_goals go_returns
        all_goals exact NO.out _ HN.out rfl
    · obtain rfl : k = LM most := by omega
      go_wp2_with fail
      refine (l3Most_any most _).mono ?_
      rintro e u1 ⟨rfl, rfl⟩
      go_wp2
      go_returns
      exact ⟨LM most, rfl, hD.out, hA.out.done (Nat.le_refl _) (.inl rfl)⟩
end Go.Proofs.YtjpmpjcenajmbaaDoor
/- The program's count of equal numbers: a range over single orbits. -/
namespace Go.Proofs.YtjpmpjcenajmbaaDoor
set_option linter.unusedSimpArgs false
set_option linter.unusedVariables false
open Go.RowKit Eng
attribute [local go_sem] Oper.semAt_some
theorem orb1_it (m l Bs Bc cr ci M : Nat) (J : Nat → Nat → Nat → World → Prop) (Jx : World → Prop)
    (hM : ∀ k x y W, J k x y W → k ≤ M)
    (hY : ∀ k x y W, J k x y W → YieldAt Fence.wide m Tryd.prog l #[.int .i64 k, .complex .f32 x y] W fun e W' =>
      (e = .returned (.bool true) ∧ W'.cell? ⟨Bs, 0, none⟩ = some (.func (.func 23) #[] #[]) ∧ W'.cell? ⟨Bc, 0, none⟩ = some (.complex .f32 cr ci) ∧ ∀ p q W'', StS x y cr ci p q → Drawn W' W'' → J (k + 1) p q W'') ∨ (e = .returned (.bool false) ∧ Jx W'))
    (hMx : M ≤ 1000) (W : World) (h0 : J 0 0 0 W) :
    CallsIn Fence.wide (m + 1) Tryd.prog 49 #[.func (.yield l) #[] #[], .pointer (some ⟨Bs, 0, none⟩), .pointer (some ⟨Bc, 0, none⟩)] W fun e W' => (∃ v, e = .returned v) ∧ Jx W' := by
  refine callsIn_of_wp Tryd.func49 rfl trivial ?_ rfl
  simp only [Tryd.ntmps49, List.size_toArray, List.length_cons, List.length_nil, Nat.reduceAdd, Nat.reduceSub, Array.replicate_succ, Array.replicate_zero, List.push_toArray, List.append_toArray, List.nil_append, List.cons_append]
  gi_wp2
  gi_loopw [5, 4] (fun u v wr => ∃ k x y : Nat, u = .int .i64 k ∧ v = .complex .f32 x y ∧ J k x y wr) (fun u _ _ => M + 1 - (intOf u).toNat)
  case atStart => exact ⟨0, 0, 0, rfl, rfl, h0⟩
  case round =>
    obtain ⟨k, x, y, rfl, rfl, hJ⟩ := hrel
    have hk := hM k x y _ hJ
    obtain ⟨fn, tmps, assign, body, hy, hR⟩ := hY k x y _ hJ
    clear hY hM
    gi_wp2
    refine hR.mono ?_
    rintro e W1 (⟨rfl, hs, hc, hJ1⟩ | ⟨rfl, hx⟩)
    · have HJ := Lib.hid hJ1
      clear hJ1 hJ
      gi_wp2
      refine ⟨trivial, ?_⟩
      refine (callsIn_wide.2 (impl_StepSingle_any x y cr ci _)).mono ?_
      rintro e W2 ⟨p, q, rfl, hd, hr⟩
      have HK := Lib.hid (HJ.out p q _ hr hd)
      clear hd hr
      gi_wp2
      go_roundw
      case rel => exact ⟨k + 1, p, q, by simp, rfl, HK.out⟩
      case measure => simp [intOf]; omega
    · gi_wp2
      go_end0
      exact ⟨⟨_, rfl⟩, hx⟩
theorem orbitOf1_any (cr ci : Nat) (w : World) : Calls Tryd.prog 22 #[.complex .f32 cr ci, .func (.func 23) #[] #[]] w fun e w' =>
    e = .returned (.func (.func 49) #[] #[.pointer (some ⟨w.heap.size + 1, 0, none⟩), .pointer (some ⟨w.heap.size, 0, none⟩)]) ∧ w' = (w.alloc (.cells #[.complex .f32 cr ci] 23)).alloc (.cells #[.func (.func 23) #[] #[]] 54) := by
  go_enter Tryd.func22, Tryd.ntmps22
  go_wp2
  go_returns
  exact ⟨rfl, rfl⟩
/-! All orders of a region that draws. -/
def allOrd (md : Region.Mode) (ops : Array Oper) : Nat → Array Bool → List (List Nat)
  | 0, _ => [[]]
  | fuel + 1, listed => match Region.ready md ops listed with
    | [] => [[]]
    | r => r.flatMap fun i => (allOrd md ops fuel (listed.setIfInBounds i true)).map (i :: ·)
theorem go_mem (md : Region.Mode) (ops : Array Oper) : ∀ (fuel t : Nat) (listed : Array Bool), Region.linearise.go md ops fuel t listed [] ∈ allOrd md ops fuel listed := by
  intro fuel
  induction fuel with
  | zero => intro t listed; simp [Region.linearise.go, allOrd]
  | succ fuel ih =>
    intro t listed
    simp only [Region.linearise.go]
    change (match (Region.ready md ops listed)[t % (Region.ready md ops listed).length]? with
      | some i => Region.linearise.go md ops fuel (t / (Region.ready md ops listed).length) (listed.setIfInBounds i true) [i]
      | none => [].reverse) ∈ _
    cases hi : (Region.ready md ops listed)[t % (Region.ready md ops listed).length]? with
    | none =>
      have hnil : Region.ready md ops listed = [] := by
        cases hr : Region.ready md ops listed with
        | nil => rfl
        | cons x xs =>
          rw [hr] at hi
          have hlt : t % (x :: xs).length < (x :: xs).length := Nat.mod_lt _ (by simp)
          simp at hi
          simp at hlt
          omega
      simp [allOrd, hnil]
    | some i =>
      simp only []
      rw [linearise_go_acc, List.reverse_singleton, List.singleton_append]
      have hm := List.mem_of_getElem? hi
      unfold allOrd
      cases hr : Region.ready md ops listed with
      | nil => rw [hr] at hm; cases hm
      | cons x xs =>
        simp only [List.mem_flatMap, List.mem_map]
        rw [hr] at hm
        exact ⟨i, hm, _, ih _ _, rfl⟩
theorem wpIn_region_orders {F : Fence} {n : Nat} {P : Program} {ops : Array Oper} {Q : Exit → Act → World → Prop} {id : Nat} {a : Act} {w : World} (hm : P.follows .mixedOrders = true) (L : List (List Nat)) (hL : allOrd .any ops ops.size (Array.replicate ops.size false) = L)
    (h : ∀ o ∈ L, wpOpsIn F n P ops Q o a w.drew) : (Code.region id ops true).wpIn F n P Q a w :=
  wpIn_region_draw fun t => by
    simp only [Region.schedule, hm, Bool.true_or, if_true]
    exact h _ (by rw [← hL]; exact go_mem _ _ _ _ _)
theorem wpOps_list {F : Fence} {n : Nat} {P : Program} {ops : Array Oper} {Q : Exit → Act → World → Prop} : ∀ (o : List Nat) (l : List Oper) (a : Act) (w : World), o.map (ops[·]?) = l.map some → wpListIn F n P ops Q l a w → wpOpsIn F n P ops Q o a w
  | [], [], _, _, _, h => h
  | [], _ :: _, _, _, e, _ => by cases e
  | _ :: _, [], _, _, e, _ => by cases e
  | i :: o, x :: l, a, w, e, h => by
    simp only [List.map_cons, List.cons.injEq] at e
    have key : wpOpsIn F n P ops Q o = wpOpsIn F n P ops Q o := rfl
    rw [wpOpsIn_cons]
    unfold wpOpIn
    rw [e.1]
    simp only []
    unfold wpListIn at h
    split
    · rename_i hw
      rw [if_pos hw] at h
      exact Oper.wpIn_mono (fun a w hh => wpOps_list o l a w e.2 hh) h
    · rename_i hw
      rw [if_neg hw] at h
      exact ⟨h.1, wpOps_list o l _ _ e.2 h.2⟩
theorem wpOps_pick {F : Fence} {n : Nat} {P : Program} {Q : Exit → Act → World → Prop} (L : List Oper) (o : List Nat) (a : Act) (w : World) (hi : o.all (· < L.length) = true) (h : wpListIn F n P L.toArray Q (o.map fun i => L.getD i default) a w) : wpOpsIn F n P L.toArray Q o a w := by
  refine wpOps_list o _ a w ?_ h
  rw [List.map_map]
  refine List.map_congr_left fun i hx => ?_
  have := List.all_eq_true.1 hi i hx
  have hlt : i < L.length := by simpa using this
  simp [hlt]
theorem wpIn_cutQ {F : Fence} {n : Nat} {P : Program} {c : Code} {Q : Exit → Act → World → Prop} {a : Act} {w : World} (Post : Act → World → Prop) (h1 : c.wpIn F n P (fun e a' w' => e = .normal ∧ Post a' w') a w) (h2 : ∀ a' w', Post a' w' → Q .normal a' w') : c.wpIn F n P Q a w :=
  Code.wpIn_mono (by rintro e a' w' ⟨rfl, hp⟩; exact h2 _ _ hp) h1
/-- Between two rounds. -/
structure CJ (cx cy C D L : Nat) (w : World) (U : Nat) (lp : Loop) (k x y : Nat) (W : World) : Prop where
  le : k ≤ L
  wU : w.heap.size < U
  bel : Below w.heap.size w W
  ag : ∃ yx yy, AgAt cx cy C D k x y yx yy ∧ W.heap[U + 1]? = some (.cells #[.complex .f64 yx yy] 27 (0, 0))
  b0 : W.heap[w.heap.size]? = some (.cells #[.int .i64 L] 3 (0, 0))
  b1 : W.heap[U]? = some (.cells #[.complex .f64 C D] 27 (0, 0))
  b3 : W.heap[U + 2]? = some (.cells #[.int .i64 k] 3 (0, 0))
  b4 : W.heap[U + 3]? = some (.cells #[.complex .f32 cx cy] 23 (0, 0))
  b5 : W.heap[U + 4]? = some (.cells #[.func (.func 23) #[] #[]] 54 (0, 0))
  b6 : W.heap[U + 5]? = some (.deferred (some []))
  b7 : W.heap[U + 6]? = some (.loop lp)
theorem CJ.lt {cx cy C D L : Nat} {w : World} {U : Nat} {lp : Loop} {k x y : Nat} {W : World} (h : CJ cx cy C D L w U lp k x y W) : U + 6 < W.heap.size := (Array.getElem?_eq_some_iff.1 h.b7).1
theorem CJ.drawn {cx cy C D L : Nat} {w : World} {U : Nat} {lp : Loop} {k x y : Nat} {W W' : World} (h : CJ cx cy C D L w U lp k x y W) (hd : Drawn W W') : CJ cx cy C D L w U lp k x y W' :=
  ⟨h.le, h.wU, h.bel.trans (hd _), let ⟨a, b, h1, h2⟩ := h.ag; ⟨a, b, h1, hd.heap h2⟩, hd.heap h.b0, hd.heap h.b1, hd.heap h.b3, hd.heap h.b4, hd.heap h.b5, hd.heap h.b6, hd.heap h.b7⟩
theorem CJ.turn {cx cy C D L : Nat} {w : World} {U : Nat} {lp : Loop} {k x y : Nat} {W : World} (h : CJ cx cy C D L w U lp k x y W) (lq : Loop) : CJ cx cy C D L w U lq k x y (W.putObj (U + 6) (.loop lq)) := by
  have o : ∀ j, j < U + 6 → (W.putObj (U + 6) (.loop lq)).heap[j]? = W.heap[j]? := fun j hj => World.putObj_heap_other (by omega)
  have hU := h.wU
  refine ⟨h.le, h.wU, ?_, let ⟨a, b, h1, h2⟩ := h.ag; ⟨a, b, h1, (o _ (by omega)).trans h2⟩, (o _ (by omega)).trans h.b0, (o _ (by omega)).trans h.b1, (o _ (by omega)).trans h.b3, (o _ (by omega)).trans h.b4, (o _ (by omega)).trans h.b5, (o _ (by omega)).trans h.b6, World.putObj_heap_same h.lt⟩
  exact ⟨h.bel.os, h.bel.tape, h.bel.output, by have := h.bel.size; simpa using this, fun j hj => (o j (by omega)).trans (h.bel.block j hj)⟩
/-- One number more. -/
theorem CJ.next {cx cy C D L : Nat} {w : World} {U : Nat} {lp : Loop} {k x y : Nat} {W W' : World} {r s p q : Nat} (h : CJ cx cy C D L w U lp k x y W) (hk : k < L) (hd : Drawn (W.setCell ⟨U + 2, 0, none⟩ (.int .i64 (k + 1 : Nat))) W') (hA : AgAt cx cy C D (k + 1) p q r s) :
    CJ cx cy C D L w U lp (k + 1) p q (W'.setCell ⟨U + 1, 0, none⟩ (.complex .f64 r s)) := by
  have hU := h.wU
  obtain ⟨yx, yy, -, hb⟩ := h.ag
  have keep : ∀ (j : Nat) (u : Obj), j ≠ U + 1 → j ≠ U + 2 → W.heap[j]? = some u → (W'.setCell ⟨U + 1, 0, none⟩ (.complex .f64 r s)).heap[j]? = some u := fun j u h1 h2 hu => set_keep (hd.heap (set_keep hu h2)) h1
  refine ⟨hk, hU, ?_, ⟨r, s, hA, ?_⟩, keep _ _ (by omega) (by omega) h.b0, keep _ _ (by omega) (by omega) h.b1, ?_, keep _ _ (by omega) (by omega) h.b4, keep _ _ (by omega) (by omega) h.b5, keep _ _ (by omega) (by omega) h.b6, keep _ _ (by omega) (by omega) h.b7⟩
  · exact ((h.bel.setCell (by show w.heap.size ≤ U + 2; omega) _).trans (hd _)).setCell (by show w.heap.size ≤ U + 1; omega) _
  · have := set_here (w := W') (b := U + 1) (j := 0) (v := .complex .f64 r s) (hd.heap (set_keep hb (by show U + 1 ≠ U + 2; omega)))
    simpa using this
  · have := set_here (w := W) (b := U + 2) (j := 0) (v := .int .i64 (k + 1 : Nat)) h.b3
    exact set_keep (hd.heap (by simpa using this)) (by show U + 2 ≠ U + 1; omega)
theorem store_c (u : World) (a b c d : Nat) : (store ⟨u.heap.size, 0, none⟩ (.complex .f64 a b)).run Tryd.prog (u.alloc (.cells #[.complex .f64 c d] 27)) = .ok () ((u.alloc (.cells #[.complex .f64 c d] 27)).setCell ⟨u.heap.size, 0, none⟩ (.complex .f64 a b)) := by
  rw [run_store _ _ _ _ _ rfl]
  simp [stored]
def CEnd (cx cy C D L : Nat) (w : World) (U : Nat) (W : World) : Prop := ∃ (lq : Loop) (k x y : Nat), lq.pending = some (.exit 0) ∧ lq.state = .done ∧ CJ cx cy C D L w U lq k x y W ∧ AgK cx cy L k
theorem store_at {W : World} {b t a c : Nat} (h : W.heap[b]? = some (.cells #[.complex .f64 a c] t (0, 0))) (r s : Nat) : (store ⟨b, 0, none⟩ (.complex .f64 r s)).run Tryd.prog W = .ok () (W.setCell ⟨b, 0, none⟩ (.complex .f64 r s)) := by
  rw [run_store _ _ _ _ _ rfl]
  obtain ⟨h1, h2⟩ := cell_of h
  simp [stored, h1, h2]
/-- What the round's question leaves. -/
def RegP (cx cy C D : Nat) (most : Int) (k x y yx yy B U : Nat) (W1 : World) (a' : Act) (w' : World) : Prop := ∃ (b : Bool) (t19 t20 t21 t22 t23 t24 t25 t26 : Value), a' = { tmps := #[.complex .f32 cx cy, .int .i64 most, undef, undef, .int .i64 0, .pointer (some ⟨B, 0, none⟩), .pointer (some ⟨U, 0, none⟩), .pointer (some ⟨U + 1, 0, none⟩), .pointer (some ⟨U + 1 + 1, 0, none⟩), .int .i64 k, .complex .f32 x y, .int .i64 most, .int .i64 (LM most), .complex .f32 cx cy, .complex .f64 C D, .complex .f32 cx cy,
          .func (.func 49) #[] #[.pointer (some ⟨U + 1 + 1 + 1 + 1, 0, none⟩), .pointer (some ⟨U + 1 + 1 + 1, 0, none⟩)], .int .i64 k, .complex .f32 x y, t19, t20, t21, t22, t23, t24, t25, t26, .bool b, undef, undef, undef, undef, undef, undef], defers := [] } ∧
        Drawn W1 w' ∧ (b = true → k = LM most ∨ ¬ (Same x yx ∧ Same y yy)) ∧ (b = false → k < LM most ∧ Same x yx ∧ Same y yy)
set_option maxHeartbeats 4000000 in
theorem impl_AgreeCount_any (cx cy : Nat) (most : Int) (w : World) : Calls Tryd.prog 6 #[.complex .f32 cx cy, .int .i64 most] w fun e w' => ∃ k : Nat, e = .returned (.int .i64 k) ∧ Below w.heap.size w w' ∧ AgK cx cy (LM most) k := by
  have hL := LM_le most
  refine (callsIn_wide (n := 6)).1 ?_
  refine callsIn_of_wp_marks Tryd.func6 rfl trivial ?_ rfl
  simp only [Tryd.ntmps6, List.size_toArray, List.length_cons, List.length_nil, Nat.reduceAdd, Nat.reduceSub, Array.replicate_succ, Array.replicate_zero, List.push_toArray, List.append_toArray, List.nil_append, List.cons_append]
  refine (wpIn_wide).2 ?_
  go_wp2
  go_step3
  go_wp2_with fail
  refine (stepsOf_any most _).mono ?_
  rintro e u1 ⟨rfl, rfl⟩
  go_wp2_with fail
  refine (impl_Widen_any cx cy _).mono ?_
  rintro e u2 ⟨C, D, rfl, hd, h1, h2⟩
  have hz := hd 0
  have hzs := hz.size
  simp at hzs
  clear hz
  have st := store_c u2 C D 0 0
  go_wp2
  go_step3
  go_wp2_with (go_at_call 22; refine (orbitOf1_any cx cy _).mono ?_; rintro e w1 ⟨rfl, rfl⟩)
  refine (wpIn_wide (n := 6)).1 ?_
  have hsz : (((((u2.alloc (Obj.cells #[Value.complex FloatKind.f64 C D] 27)).alloc (Obj.cells #[Value.complex FloatKind.f64 0 0] 27)).alloc (Obj.cells #[Value.int IntKind.i64 0] 3)).alloc (Obj.cells #[Value.complex FloatKind.f32 cx cy] 23)).alloc (Obj.cells #[Value.func (Fn.func 23) #[] #[]] 54)).heap.size = u2.heap.size + 5 := by simp
  refine range_calls (m := 4) (gf := 49) (lb := #[.pointer (some ⟨u2.heap.size + 1 + 1 + 1 + 1, 0, none⟩), .pointer (some ⟨u2.heap.size + 1 + 1 + 1, 0, none⟩)]) rfl (Eng.enters_of Tryd.func49 rfl (by kernel_rfl)) (fun fid => ?_)
  rw [hsz]
  generalize hlp : rec0 fid _ _ _ _ _ = lp
  have hbel : Below w.heap.size w u2 := (Below.alloc (Below.refl _ _) (Nat.le_refl _) _).trans (hd _)
  have hb0 : u2.heap[w.heap.size]? = some (.cells #[.int .i64 (LM most)] 3 (0, 0)) := hd.heap (al_new rfl)
  refine (orb1_it 4 (u2.heap.size + 5 + 1) (u2.heap.size + 1 + 1 + 1 + 1) (u2.heap.size + 1 + 1 + 1) cx cy (LM most) (CJ cx cy C D (LM most) w u2.heap.size lp) (CEnd cx cy C D (LM most) w u2.heap.size) ?hM ?hY (by omega) _ ?h0).mono ?fin
  case hM => exact fun k x y W h => h.le
  case h0 =>
    refine ⟨by omega, by omega, by go_grown, ⟨0, 0, AgAt.zero h1 h2, ?_⟩, ?_, ?_, ?_, ?_, ?_, ?_, ?_⟩
    all_goals repeat (first | exact al_new (by simp) | exact hb0 | refine al_keep ?_)
  case hY =>
    intro k x y W hJ
    have hk := hJ.le
    have HJ := Lib.hid hJ
    have h1 := hJ.turn { lp with state := .busy }
    obtain ⟨W1, hW1⟩ : ∃ W1, W1 = W.putObj (u2.heap.size + 6) (.loop { lp with state := .busy }) := ⟨_, rfl⟩
    rw [← hW1] at h1
    have h1' := h1
    have HF := Lib.hid h1'
    clear h1'
    obtain ⟨c0, f0⟩ := cell_of h1.b0
    obtain ⟨c3, f3⟩ := cell_of h1.b3
    obtain ⟨yx, yy, hA, hbw⟩ := h1.ag
    have HA := Lib.hid hA
    have HBW := Lib.hid hbw
    obtain ⟨cw, fw⟩ := cell_of hbw
    have hb7 := hJ.b7
    refine yield_round hb7 (by rw [← hlp]; rfl) ?_
    rw [← hlp]
    simp only [rec0]
    gi_wp2
    refine ⟨_, run_beginRound hb7 (by rw [← hlp]; rfl), ?_⟩
    rw [← hW1]
    have HW := Lib.hid hW1
    have hl6 := h1.lt
    clear hJ hW1 hA hbw h1 hb0 hbel st hsz h2
    gi_wp2
    refine wpIn_cutQ (RegP cx cy C D most k x y yx yy w.heap.size u2.heap.size W1) ?reg ?rest
    case reg =>
      refine wpIn_region_orders mixed [[0,1,2,3,4,5,6,7,8],[0,1,2,3,5,4,6,7,8],[0,1,2,3,5,6,4,7,8],[1,0,2,3,4,5,6,7,8],[1,0,2,3,5,4,6,7,8],[1,0,2,3,5,6,4,7,8]] (by kernel_rfl) ?_
      intro o ho
      have hall : o.all (· < 9) = true := by
        simp only [List.mem_cons, List.not_mem_nil, or_false] at ho
        rcases ho with rfl | rfl | rfl | rfl | rfl | rfl <;> rfl
      refine wpOps_pick _ o _ _ hall ?_
      simp only [List.mem_cons, List.not_mem_nil, or_false] at ho
      clear hall hlp hd h1
      by_cases hkL : k = LM most
      · rcases ho with rfl | rfl | rfl | rfl | rfl | rfl
        all_goals simp only [List.map_cons, List.map_nil, List.getD_cons_zero, List.getD_cons_succ]
        all_goals gi_wp2
        all_goals refine ⟨trivial, ?_⟩
        all_goals gi_wp2
        all_goals exact ⟨true, _, _, _, _, _, _, _, _, rfl, fun B => (Below.refl _ _).drew, fun _ => .inl rfl, fun h => by cases h⟩
      · have hne : ¬ ((k : Int) = ((LM most : Nat) : Int)) := by omega
        rcases ho with rfl | rfl | rfl | rfl | rfl | rfl
        all_goals simp only [List.map_cons, List.map_nil, List.getD_cons_zero, List.getD_cons_succ]
        all_goals gi_wp2
        all_goals refine ⟨trivial, ?_⟩
        all_goals refine (callsIn_wide.2 (impl_Widen_any x y _)).mono ?_
        all_goals rintro e w2 ⟨X, Y, rfl, hd, h1, h2⟩
        all_goals have hdd : Drawn W1 w2 := Drawn.trans (fun B => (Below.refl _ _).drew) hd
        all_goals obtain ⟨cw2, fw2⟩ := cell_of (hdd.heap HBW.out)
        all_goals have N1 : ∀ {o : Option Ordering}, FloatKind.f64.format.order yx X = o → o ≠ some .eq → ¬ Same x yx := fun {o} ho hn hs => hn (by
          have h3 := (cmp_same (y := yx) h1).2 hs
          rw [order_comm, beq_iff_eq] at h3
          rw [← ho]; exact h3)
        all_goals have N2 : ∀ {o : Option Ordering}, FloatKind.f64.format.order yy Y = o → o ≠ some .eq → ¬ Same y yy := fun {o} ho hn hs => hn (by
          have h3 := (cmp_same (y := yy) h2).2 hs
          rw [order_comm, beq_iff_eq] at h3
          rw [← ho]; exact h3)
        all_goals have Y1 : FloatKind.f64.format.order yx X = some .eq → Same x yx := fun ho => (cmp_same (y := yx) h1).1 (by
          rw [order_comm, beq_iff_eq]; exact ho)
        all_goals have Y2 : FloatKind.f64.format.order yy Y = some .eq → Same y yy := fun ho => (cmp_same (y := yy) h2).1 (by
          rw [order_comm, beq_iff_eq]; exact ho)
        all_goals have HD := Lib.hid hdd
        all_goals have hlt : k < LM most := by omega
        all_goals clear hdd hd h1 h2
        all_goals obtain ⟨o1, ho1⟩ : ∃ o, FloatKind.f64.format.order yx X = o := ⟨_, rfl⟩
        all_goals obtain ⟨o2, ho2⟩ : ∃ o, FloatKind.f64.format.order yy Y = o := ⟨_, rfl⟩
        all_goals rcases o1 with _ | (_ | _ | _)
        all_goals first
          | (have HN : Hid (¬ (Same x yx ∧ Same y yy)) := Lib.hid fun h => N1 ho1 (by decide) h.1
             clear N1 N2 Y1 Y2
             gi_wp2
             exact ⟨true, _, _, _, _, _, _, _, _, rfl, HD.out, fun _ => .inr HN.out, fun h => by cases h⟩)
          | (rcases o2 with _ | (_ | _ | _)
             all_goals first
               | (have HN : Hid (¬ (Same x yx ∧ Same y yy)) := Lib.hid fun h => N2 ho2 (by decide) h.2
                  clear N1 N2 Y1 Y2
                  gi_wp2
                  exact ⟨true, _, _, _, _, _, _, _, _, rfl, HD.out, fun _ => .inr HN.out, fun h => by cases h⟩)
               | (have HY : Hid (Same x yx ∧ Same y yy) := Lib.hid ⟨Y1 ho1, Y2 ho2⟩
                  clear N1 N2 Y1 Y2
                  gi_wp2
                  exact ⟨_, _, _, _, _, _, _, _, _, rfl, HD.out, fun h => absurd (LawfulBEq.eq_of_beq h) hne, fun _ => ⟨hlt, HY.out⟩⟩))
    case rest =>
      rintro a' w3 ⟨b, t19, t20, t21, t22, t23, t24, t25, t26, rfl, hd3, hb1, hb0⟩
      have hG := HF.out.drawn hd3
      have HG := Lib.hid hG
      cases b
      · obtain ⟨hlt, hS⟩ := hb0 rfl
        have HS := Lib.hid hS
        have HLP := Lib.hid hlp
        clear hb1 hb0 hS hlp hd h1 c0 f0 c3 f3 cw fw
        obtain ⟨c3, f3⟩ := cell_of hG.b3
        obtain ⟨cw, fw⟩ := cell_of (hd3.heap HBW.out)
        obtain ⟨c1, f1⟩ := cell_of hG.b1
        have hU := hG.wU
        have hl6 := hG.lt
        have HBW3 := Lib.hid (hd3.heap HBW.out)
        clear hG hd3
        gi_wp2
        refine ⟨trivial, ?_⟩
        refine (callsIn_wide.2 (impl_StepWide_any yx yy C D _)).mono ?_
        rintro e w4 ⟨r, s, rfl, hd4, h4⟩
        have HR := Lib.hid h4
        have hd4' : Drawn (w3.setCell ⟨u2.heap.size + 2, 0, none⟩ (.int .i64 (k + 1 : Nat))) w4 := hd4
        have HD4 := Lib.hid hd4'
        have hst := store_at (hd4'.heap (set_keep (a := ⟨u2.heap.size + 2, 0, none⟩) (v := .int .i64 (k + 1 : Nat)) HBW3.out (by show u2.heap.size + 1 ≠ u2.heap.size + 2; omega))) r s
        clear hd4 hd4' h4 c3 f3 cw fw c1 f1
        gi_wp2
        have hN : ∀ p q, StS x y cx cy p q → CJ cx cy C D (LM most) w u2.heap.size { lp with state := .busy } (k + 1) p q _ := fun p q hs => HG.out.next hlt HD4.out (HA.out.next HS.out hs HR.out)
        have keep : ∀ (j : Nat) (u : Obj), j ≠ u2.heap.size + 1 → j ≠ u2.heap.size + 2 → w3.heap[j]? = some u → (w4.setCell ⟨u2.heap.size + 1, 0, none⟩ (.complex .f64 r s)).heap[j]? = some u := fun j u h1 h2 hu => set_keep (HD4.out.heap (set_keep hu h2)) h1
        have b4 := keep _ _ (by omega) (by omega) HG.out.b4
        have b5 := keep _ _ (by omega) (by omega) HG.out.b5
        have b7 := keep _ _ (by omega) (by omega) HG.out.b7
        have hlp := HLP.out
        clear HLP
        subst hlp
        refine ⟨_, _, run_endRound none b7, .inl ⟨rfl, ?_, ?_, fun p q W2 hs hd => ((hN p q hs).turn _).drawn hd⟩⟩
        · exact (cell_of ((World.putObj_heap_other (by show u2.heap.size + 4 ≠ u2.heap.size + 6; omega)).trans b5)).1
        · exact (cell_of ((World.putObj_heap_other (by show u2.heap.size + 3 ≠ u2.heap.size + 6; omega)).trans b4)).1
      · have hx := hb1 rfl
        have HX := Lib.hid hx
        clear hb1 hb0 hx hG hd hd3 h1
        gi_wp2
        refine ⟨_, _, run_endRound (some (.exit 0)) HG.out.b7, .inr ⟨rfl, ?_⟩⟩
        exact ⟨_, k, x, y, rfl, rfl, HG.out.turn _, HA.out.done hk HX.out⟩
  case fin =>
    rintro e W' ⟨⟨v, rfl⟩, lq, k, x, y, hp, hst, hF, hK⟩
    refine ⟨⟨v, rfl⟩, lq, hF.b7, by rw [hst]; decide, ?_⟩
    have hG := hF.turn { lq with state := .exhausted }
    rw [show u2.heap.size + 5 + 1 = u2.heap.size + 6 from rfl]
    generalize W'.putObj (u2.heap.size + 6) (.loop { lq with state := .exhausted }) = W2 at hG ⊢
    rw [hp]
    obtain ⟨c3, f3⟩ := cell_of hG.b3
    have HG := Lib.hid hG
    have HK := Lib.hid hK
    clear hF hG hp hst hlp hK hd h1 h2 hbel hb0 st hsz
    simp only []
    refine wpIn_wide.2 ?_
    go_wp2
    rw [Exit.noGoto_ret]
    have hG := HG.out
    have hU := hG.wU
    refine ⟨by simp, .inl ⟨_, _, rfl, run_takeDeferred hG.b6, ?_⟩⟩
    refine ⟨_, results_tmp rfl _ _ _, k, rfl, ?_, HK.out⟩
    have hb := hG.bel
    exact ⟨hb.os, hb.tape, hb.output, by have := hb.size; simpa using this, fun j hj => (World.putObj_heap_other (by omega)).trans (hb.block j hj)⟩
end Go.Proofs.YtjpmpjcenajmbaaDoor
