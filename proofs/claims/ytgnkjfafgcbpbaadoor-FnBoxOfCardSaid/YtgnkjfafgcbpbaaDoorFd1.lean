/- Contracts of the laws' own questions on words; digits; the context. -/
import Derived.Test.YtgnkjfafgcbpbaaDoorFd0
import Derived.Test.YtgnkjfafgcbpbaaDoorFl4
namespace Go.Proofs.YtgnkjfafgcbpbaaDoor
set_option linter.unusedSimpArgs false
set_option linter.unusedVariables false
variable {pv : Int → Int → Int}
open Go.RowKit Eng
/-- Words that are 0 or normal. -/
theorem good_cases {a : Int} (h : (a == 0 || nrm a) = true) : a = 0 ∨ ∃ x : Nat, a = x ∧ Fl.Nrm x ∧ a ≠ 0 := by
  by_cases h0 : a = 0
  · exact Or.inl h0
  · rw [beq_eq_false_iff_ne.2 h0, Bool.false_or] at h
    obtain ⟨x, hx, hN⟩ := nrm_of h
    exact Or.inr ⟨x, hx, hN, h0⟩
def e_alikeF : CEnt := ⟨49, [1001, 1001], some (.app 112 0 (vs 2)), ob (.lit true)⟩
def t_alikeF : Tree := (.node (.cmp .eq (.bin .ford .u64 (.var 0) (.var 0)) (.lit 0)) (.node (.cmp .eq (.bin .ford .u64 (.var 0) (.var 1)) (.lit 0)) (.node (.cmp .le (.lit 0) (.bin .fdiv .u64 (.lit 4607182418800017408) (.var 0))) (.node (.cmp .le (.lit 0) (.bin .fdiv .u64 (.lit 4607182418800017408) (.var 1))) (.leaf (.cv (.one (.bool (.cmp .eq (.bin .ford .u64 (.bin .fdiv .u64 (.lit 4607182418800017408) (.var 0)) (.bin .fdiv .u64 (.lit 4607182418800017408) (.var 1))) (.lit 0)))))) (.dead 9)) (.dead 9)) (.leaf (.cv (.one (.bool (.lit false)))))) (.leaf (.cv (.one (.bool (.not (.cmp .eq (.bin .ford .u64 (.var 1) (.var 1)) (.lit 0))))))))
theorem t_alikeF_eq : explore XF4 200 49 (lettersFrom 0 [1001, 1001]) 40 [] = t_alikeF := by kernel_rfl
theorem ok_alikeF (w : World) : e_alikeF.ok Tryd.prog w (FI pv) FB := by
  refine CEnt.by_tree (e := e_alikeF) (fi := FI pv) (fb := FB) (X := XF4) (fuel := 200) (d := 40) (enters_of Tryd.func49 rfl (by kernel_rfl)) (fun w zs => XF4_ok w _ rfl rfl) mixed (fun zs hz hp => ?_) w
  obtain ⟨a, b, rfl⟩ := len2 hz
  show (explore XF4 200 49 (lettersFrom 0 [1001, 1001]) 40 []).den _ = _
  rw [t_alikeF_eq]
  clear hz
  replace hp : ((a == b) && or (a == 0) (nrm a)) = true := hp _ rfl
  show Tree.den _ t_alikeF = some (.bool true)
  simp only [t_alikeF, Tree.den, SVal.den, CV.den, At.den, SE.den, SB.den, SL.den, IOp.den, COp.den, envOf, List.map_cons, List.map_nil, List.getD_cons_zero, List.getD_cons_succ]
  simp only [Bool.and_eq_true, beq_iff_eq] at hp
  obtain ⟨rfl, hp⟩ := hp
  rcases good_cases hp with rfl | ⟨x, rfl, hN, h0⟩
  · kernel_rfl
  · have e1 := Fl.order_self (Fl.V_nrm hN)
    obtain ⟨q, s, e2, e3⟩ := Fl.one_over hN
    have e4 := Fl.sound_self e3
    rw [Int.toNat_natCast, show (fkOf IntKind.u64).format = Ieee.double from rfl, e1, show Int.toNat 4607182418800017408 = 4607182418800017408 from rfl, e2, show (oInt (some q)).toNat = q from rfl, e4]
    simp [ordI, oInt]
def e_finite : CEnt := ⟨19, [1002], some (.app 114 0 (vs 2)), ob (.lit true)⟩
def t_finite : Tree := (.node (.cmp .le (.lit 0) (.bin .fsub .u64 (.var 0) (.var 0))) (.node (.cmp .eq (.bin .ford .u64 (.bin .fsub .u64 (.var 0) (.var 0)) (.lit 0)) (.lit 0)) (.node (.cmp .le (.lit 0) (.bin .fsub .u64 (.var 1) (.var 1))) (.leaf (.cv (.one (.bool (.cmp .eq (.bin .ford .u64 (.bin .fsub .u64 (.var 1) (.var 1)) (.lit 0)) (.lit 0)))))) (.dead 9)) (.leaf (.cv (.one (.bool (.lit false)))))) (.dead 9))
theorem t_finite_eq : explore XF4 200 19 (lettersFrom 0 [1002]) 40 [] = t_finite := by kernel_rfl
theorem ok_finite (w : World) : e_finite.ok Tryd.prog w (FI pv) FB := by
  refine CEnt.by_tree (e := e_finite) (fi := FI pv) (fb := FB) (X := XF4) (fuel := 200) (d := 40) (enters_of Tryd.func19 rfl (by kernel_rfl)) (fun w zs => XF4_ok w _ rfl rfl) mixed (fun zs hz hp => ?_) w
  obtain ⟨a, b, rfl⟩ := len2 hz
  show (explore XF4 200 19 (lettersFrom 0 [1002]) 40 []).den _ = _
  rw [t_finite_eq]
  clear hz
  replace hp : (or (a == 0) (nrm a) && or (b == 0) (nrm b)) = true := hp _ rfl
  show Tree.den _ t_finite = some (.bool true)
  simp only [t_finite, Tree.den, SVal.den, CV.den, At.den, SE.den, SB.den, SL.den, IOp.den, COp.den, envOf, List.map_cons, List.map_nil, List.getD_cons_zero, List.getD_cons_succ]
  simp only [Bool.and_eq_true] at hp
  have key : ∀ a : Int, (a == 0 || nrm a) = true → ∃ q, Ieee.double.sub a.toNat a.toNat = some q ∧ (ordI (Ieee.double.order q 0) == 0) = true := by
    intro a ha
    rcases good_cases ha with rfl | ⟨x, rfl, hN, h0⟩
    · exact ⟨0, by kernel_rfl, by kernel_rfl⟩
    · obtain ⟨q, h1, h2⟩ := Fl.V_sub Fl.std (Fl.V_nrm hN) (Fl.V_nrm hN) (by rw [Int.sub_self]; exact ⟨⟨0, 0, rfl, by decide⟩, Nat.two_pow_pos _⟩)
      rw [Int.sub_self] at h2
      exact ⟨q, h1, by rw [Fl.V_eq h2 Fl.V_zero]; rfl⟩
  obtain ⟨q1, a1, a2⟩ := key a hp.1
  obtain ⟨q2, b1, b2⟩ := key b hp.2
  rw [show (fkOf IntKind.u64).format = Ieee.double from rfl, a1, b1, show (oInt (some q1)).toNat = q1 from rfl, show (oInt (some q2)).toNat = q2 from rfl, show Int.toNat 0 = 0 from rfl, a2, b2]
  simp [oInt]
theorem b114_dw (r i s : Int) : FB 114 0 [FI pv 112 0 [r, i, s], FI pv 112 1 [r, i, s]] = true := by
  show ((FI pv 112 0 [r, i, s] == 0 || nrm (FI pv 112 0 [r, i, s])) && (FI pv 112 1 [r, i, s] == 0 || nrm (FI pv 112 1 [r, i, s]))) = true
  cases h : DV r i s
  · rw [f112a' h, f112b' h]; rfl
  · obtain ⟨h1, h2, h3, h4⟩ := dv_rngF h
    rw [f112a h, f112b h, DWi_good (by omega) (by omega) h3 h4, DWi_good (by omega) (by omega) h3 h4]; rfl
/-- Few digits. -/
theorem bl_upper : ∀ (k : Nat) (x : Int), 0 ≤ x → x ≤ 18446744073709551615 → bl x ≤ k → x < 2 ^ k
  | 0, x, h0, h1, h => by
    by_cases hx : x = 0
    · subst hx; decide
    · have := bl_pos (n := x) (by omega) h1; omega
  | k + 1, x, h0, h1, h => by
    by_cases hx : x = 0
    · subst hx; exact pos2 _
    · have h2 := bl_half (n := x) (by omega) h1
      have := bl_upper k (x / 2) (by omega) (by omega) (by omega)
      rw [Int.pow_succ]; omega
theorem BT_split {n : Int} (h : n ≠ 0) (hb : n.natAbs ≤ 4611686018427387904) : ∃ m k : Nat, n.natAbs = m * 2 ^ k ∧ ∀ K : Nat, BT n ≤ K → m < 2 ^ K := by
  obtain ⟨m, hm, hn⟩ := tz_split n.natAbs n.natAbs (by omega) (by omega) (by omega)
  refine ⟨(2 * m + 1).toNat, (tz n.natAbs).toNat, ?_, fun K hK => ?_⟩
  · have e : ((n.natAbs : Nat) : Int) = (((2 * m + 1).toNat * 2 ^ (tz n.natAbs).toNat : Nat) : Int) := by
      rw [Fl.cast_mul_pow, show (((2 * m + 1).toNat : Nat) : Int) = 2 * m + 1 by omega, Int.mul_comm]; exact hn
    exact Int.ofNat_inj.1 e
  · unfold BT at hK
    rw [if_neg h] at hK
    have ho := bl_odd (n := (n.natAbs : Int)) (by omega) (by omega)
    have hp := pos2 (tz n.natAbs).toNat
    have hq : (n.natAbs : Int) / 2 ^ (tz n.natAbs).toNat = 2 * m + 1 := by
      generalize (tz n.natAbs).toNat = t at hn hp ⊢
      rw [hn]
      exact Int.mul_ediv_cancel_left _ (by omega)
    rw [hq] at ho
    have hle : 2 * m + 1 ≤ (n.natAbs : Int) := by rw [← hq]; exact Int.ediv_le_self _ (by omega)
    have := bl_upper K (2 * m + 1) (by omega) (by omega) (by omega)
    have c : ((2 * m + 1).toNat : Int) < ((2 ^ K : Nat) : Int) := by rw [Int.natCast_pow]; show _ < (2 : Int) ^ K; omega
    omega
def GD1 : List CEnt := [e_ldexp, e_l2Float, e_iDWide, e_sDWide, e_iSq, e_sSq, e_iNrm, e_sNrm, e_iMake, e_alikeF, e_finite] ++ GT3
theorem GD1_ok : ∀ e ∈ GD1, ∀ w : World, Tb w → e.ok Tryd.prog w (FI pv) FB := by
  intro e he w hT
  rcases List.mem_append.1 he with he | he
  case inr => exact GT3_ok e he w hT
  simp only [List.mem_cons, List.not_mem_nil, or_false] at he
  rcases he with rfl | rfl | rfl | rfl | rfl | rfl | rfl | rfl | rfl | rfl | rfl
  · exact ok_ldexp w
  · exact ok_l2Float w
  · exact ok_iDWide w
  · exact ok_sDWide w
  · exact ok_iSq w
  · exact ok_sSq w
  · exact ok_iNrm w
  · exact ok_sNrm w
  · exact ok_iMake w
  · exact ok_alikeF w
  · exact ok_finite w
def XD1c (P : Program) : Cx := { P := P, G := GD1, en := enF3, call := nil0, L := [], R := [], ext := xF }
noncomputable def XD1 : Cx := XD1c Tryd.prog
theorem XD1_ok (w : World) (hT : Tb w) (E : Env) (hi : E.fi = FI pv) (hb : E.fb = FB) : XOk XD1 w E := xokT GD1_ok enF3_ok (fun _ h => by cases h) (fun _ h => by cases h) xF_ok w hT E hi hb
end Go.Proofs.YtgnkjfafgcbpbaaDoor
