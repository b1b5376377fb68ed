/- The wide number that an exact one is, both: contracts. -/
import Derived.Test.YtgnkjfafgcbpbaaFw3
namespace Go.Proofs.Ytgnkjfafgcbpbaa
set_option linter.unusedSimpArgs false
set_option linter.unusedVariables false
variable {pv : Int → Int → Int}
open Go.RowKit Eng
def e_iDWide : CEnt := ⟨7, [3], none, outDW⟩
def t_iDWide : Tree := (.node (.app 3 0 (.cons (.var 0) (.cons (.var 1) (.cons (.var 2) .nil)))) (.node (.app 110 0 (.cons (.bin .i2f .u64 (.var 0) (.lit 0)) (.cons (.wrap .i64 (.bin .sub .i64 (.lit 0) (.var 2))) .nil))) (.node (.app 110 0 (.cons (.bin .i2f .u64 (.var 1) (.lit 0)) (.cons (.wrap .i64 (.bin .sub .i64 (.lit 0) (.var 2))) .nil))) (.leaf (.tup [(.one (.cpx .f64 (.app 110 0 (.cons (.bin .i2f .u64 (.var 0) (.lit 0)) (.cons (.wrap .i64 (.bin .sub .i64 (.lit 0) (.var 2))) .nil))) (.app 110 0 (.cons (.bin .i2f .u64 (.var 1) (.lit 0)) (.cons (.wrap .i64 (.bin .sub .i64 (.lit 0) (.var 2))) .nil))))), (.one (.bool (.lit true)))])) (.dead 47)) (.dead 47)) (.leaf (.tup [(.one (.cpx .f64 (.lit 0) (.lit 0))), (.one (.bool (.lit false)))])))
theorem t_iDWide_eq : explore XF3 200 7 (lettersFrom 0 [3]) 40 [] = t_iDWide := by kernel_rfl
theorem ok_iDWide (w : World) : e_iDWide.ok Try.prog w (FI pv) FB := by
  refine CEnt.by_tree (e := e_iDWide) (fi := FI pv) (fb := FB) (X := XF3) (fuel := 200) (d := 40) (enters_of Try.func7 rfl (by kernel_rfl)) (fun w zs => XF3_ok w _ rfl rfl) mixed (fun zs hz hp => ?_) w
  obtain ⟨a, b, c, rfl⟩ := len3 hz
  show (explore XF3 200 7 (lettersFrom 0 [3]) 40 []).den _ = _
  rw [t_iDWide_eq]
  clear hz
  clear hp
  show Tree.den _ t_iDWide = some (.tuple #[.complex .f64 (FI pv 112 0 [a, b, c]).toNat (FI pv 112 1 [a, b, c]).toNat, .bool (FB 3 0 [a, b, c])])
  simp only [t_iDWide, Tree.den, SVal.den, CV.den, At.den, SE.den, SB.den, SL.den, IOp.den, COp.den, envOf, List.map_cons, List.map_nil, List.getD_cons_zero, List.getD_cons_succ]
  cases h : DV a b c
  · rw [f112a' h, f112b' h, show FB 3 0 [a, b, c] = false from h]; rfl
  · obtain ⟨h1, h2, h3, h4⟩ := dv_rngF h
    have e1 : FB 110 0 [FWi a, -c] = true := b110_of (by omega) (by omega) h3 h4
    have e2 : FB 110 0 [FWi b, -c] = true := b110_of (by omega) (by omega) h3 h4
    have e3 : FI pv 110 0 [FWi a, -c] = DWi a c := LD_FWi (by omega) (by omega) h3 h4
    have e4 : FI pv 110 0 [FWi b, -c] = DWi b c := LD_FWi (by omega) (by omega) h3 h4
    rw [f112a h, f112b h, show FB 3 0 [a, b, c] = true from h, near_eq, near_eq, wrap_in (by omega) (by omega), Int.zero_sub, e1, e2, e3, e4]; rfl
def e_sDWide : CEnt := ⟨5, [3], none, outDW⟩
def t_sDWide : Tree := (.node (.app 3 0 (.cons (.var 0) (.cons (.var 1) (.cons (.var 2) .nil)))) (.node (.app 111 0 (.cons (.var 0) (.cons (.var 2) .nil))) (.node (.app 111 0 (.cons (.var 1) (.cons (.var 2) .nil))) (.leaf (.tup [(.one (.cpx .f64 (.app 111 0 (.cons (.var 0) (.cons (.var 2) .nil))) (.app 111 0 (.cons (.var 1) (.cons (.var 2) .nil))))), (.one (.bool (.lit true)))])) (.dead 47)) (.dead 47)) (.leaf (.tup [(.one (.cpx .f64 (.lit 0) (.lit 0))), (.one (.bool (.lit false)))])))
theorem t_sDWide_eq : explore XF3 200 5 (lettersFrom 0 [3]) 40 [] = t_sDWide := by kernel_rfl
theorem ok_sDWide (w : World) : e_sDWide.ok Try.prog w (FI pv) FB := by
  refine CEnt.by_tree (e := e_sDWide) (fi := FI pv) (fb := FB) (X := XF3) (fuel := 200) (d := 40) (enters_of Try.func5 rfl (by kernel_rfl)) (fun w zs => XF3_ok w _ rfl rfl) mixed (fun zs hz hp => ?_) w
  obtain ⟨a, b, c, rfl⟩ := len3 hz
  show (explore XF3 200 5 (lettersFrom 0 [3]) 40 []).den _ = _
  rw [t_sDWide_eq]
  clear hz
  clear hp
  show Tree.den _ t_sDWide = some (.tuple #[.complex .f64 (FI pv 112 0 [a, b, c]).toNat (FI pv 112 1 [a, b, c]).toNat, .bool (FB 3 0 [a, b, c])])
  simp only [t_sDWide, Tree.den, SVal.den, CV.den, At.den, SE.den, SB.den, SL.den, IOp.den, COp.den, envOf, List.map_cons, List.map_nil, List.getD_cons_zero, List.getD_cons_succ]
  cases h : DV a b c
  · rw [f112a' h, f112b' h, show FB 3 0 [a, b, c] = false from h]; rfl
  · obtain ⟨h1, h2, h3, h4⟩ := dv_rngF h
    have q : ∀ n, -1073741824 ≤ n → n ≤ 1073741824 → FB 111 0 [n, c] = true := fun n q1 q2 => by
      show (decide (-2147483648 ≤ n) && decide (n ≤ 2147483648) && decide (0 ≤ c) && decide (c ≤ 60)) = true
      simp only [Bool.and_eq_true, decide_eq_true_eq]; omega
    rw [f112a h, f112b h, show FB 3 0 [a, b, c] = true from h, q a h1.1 h1.2, q b h2.1 h2.2]; rfl
/-- A good word is like itself. -/
def e_sameF : CEnt := ⟨17, [1001, 1001], some (.app 112 0 (vs 2)), ob (.lit true)⟩
def t_sameF : Tree := (.node (.cmp .eq (.bin .ford .u64 (.var 0) (.var 0)) (.lit 0)) (.node (.cmp .eq (.bin .ford .u64 (.var 1) (.var 1)) (.lit 0)) (.node (.cmp .eq (.bin .ford .u64 (.var 0) (.lit 0)) (.lit 0)) (.node (.cmp .eq (.bin .ford .u64 (.var 1) (.lit 0)) (.lit 0)) (.node (.cmp .le (.lit 0) (.bin .fdiv .u64 (.lit 4607182418800017408) (.var 0))) (.node (.cmp .le (.lit 0) (.bin .fdiv .u64 (.lit 4607182418800017408) (.var 1))) (.leaf (.cv (.one (.bool (.beq (.cmp .eq (.bin .ford .u64 (.bin .fdiv .u64 (.lit 4607182418800017408) (.var 0)) (.lit 0)) (.lit 1)) (.cmp .eq (.bin .ford .u64 (.bin .fdiv .u64 (.lit 4607182418800017408) (.var 1)) (.lit 0)) (.lit 1))))))) (.dead 9)) (.dead 9)) (.leaf (.cv (.one (.bool (.cmp .eq (.bin .ford .u64 (.var 0) (.var 1)) (.lit 0))))))) (.leaf (.cv (.one (.bool (.cmp .eq (.bin .ford .u64 (.var 0) (.var 1)) (.lit 0))))))) (.leaf (.cv (.one (.bool (.lit false)))))) (.leaf (.cv (.one (.bool (.not (.cmp .eq (.bin .ford .u64 (.var 1) (.var 1)) (.lit 0))))))))
theorem t_sameF_eq : explore XF3 200 17 (lettersFrom 0 [1001, 1001]) 40 [] = t_sameF := by kernel_rfl
theorem ok_sameF (w : World) : e_sameF.ok Try.prog w (FI pv) FB := by
  refine CEnt.by_tree (e := e_sameF) (fi := FI pv) (fb := FB) (X := XF3) (fuel := 200) (d := 40) (enters_of Try.func17 rfl (by kernel_rfl)) (fun w zs => XF3_ok w _ rfl rfl) mixed (fun zs hz hp => ?_) w
  obtain ⟨a, b, rfl⟩ := len2 hz
  show (explore XF3 200 17 (lettersFrom 0 [1001, 1001]) 40 []).den _ = _
  rw [t_sameF_eq]
  clear hz
  replace hp : ((a == b) && or (a == 0) (nrm a)) = true := hp _ rfl
  show Tree.den _ t_sameF = some (.bool true)
  simp only [t_sameF, Tree.den, SVal.den, CV.den, At.den, SE.den, SB.den, SL.den, IOp.den, COp.den, envOf, List.map_cons, List.map_nil, List.getD_cons_zero, List.getD_cons_succ]
  simp only [Bool.and_eq_true, Bool.or_eq_true, beq_iff_eq] at hp
  obtain ⟨rfl, hp⟩ := hp
  by_cases h0 : a = 0
  · subst h0; kernel_rfl
  · obtain ⟨x, rfl, hN⟩ := nrm_of (hp.resolve_left h0)
    have e1 := Fl.order_self (Fl.V_nrm hN)
    have e2 : (ordI (Ieee.double.order x 0) == 0) = false := ordI_ne (k := .eq) (Fl.order_zero hN)
    rw [Int.toNat_natCast, show (fkOf IntKind.u64).format = Ieee.double from rfl, e1, show Int.toNat 0 = 0 from rfl, e2]; rfl
theorem DWi_good {n s : Int} (h1 : -2147483648 ≤ n) (h2 : n ≤ 2147483648) (h3 : 0 ≤ s) (h4 : s ≤ 60) : (DWi n s == 0 || nrm (DWi n s)) = true := by
  by_cases h0 : n = 0
  · subst h0; rfl
  · rw [Bool.or_eq_true]
    refine Or.inr ((nrm_iff _).2 (Fl.DWn_nrm h0 (by omega) (by omega)).1)
theorem b112_self {pv : Int → Int → Int} (r i s : Int) : FB 112 0 [FI pv 112 0 [r, i, s], FI pv 112 0 [r, i, s]] = true ∧ FB 112 0 [FI pv 112 1 [r, i, s], FI pv 112 1 [r, i, s]] = true := by
  have g : ∀ x : Int, FB 112 0 [x, x] = ((x == x) && ((x == 0) || nrm x)) := fun _ => rfl
  rw [g, g]
  cases h : DV r i s
  · rw [f112a' h, f112b' h]; exact ⟨rfl, rfl⟩
  · obtain ⟨h1, h2, h3, h4⟩ := dv_rngF h
    rw [f112a h, f112b h, DWi_good (by omega) (by omega) h3 h4, DWi_good (by omega) (by omega) h3 h4]
    simp
def GF3 : List CEnt := [e_iDWide, e_sDWide, e_sameF] ++ GF2
theorem GF3_ok : ∀ e ∈ GF3, ∀ w, e.ok Try.prog w (FI pv) FB := by
  intro e he w
  rcases List.mem_append.1 he with he | he
  case inr => exact GF2_ok e he w
  simp only [List.mem_cons, List.not_mem_nil, or_false] at he
  rcases he with rfl | rfl | rfl
  · exact ok_iDWide w
  · exact ok_sDWide w
  · exact ok_sameF w
def enF3 : List Nat := [8, 25, 24, 31, 12, 9]
theorem enF3_8 : Enters Try.prog 8 := enters_of Try.func8 rfl (by kernel_rfl)
theorem enF3_25 : Enters Try.prog 25 := enters_of Try.func25 rfl (by kernel_rfl)
theorem enF3_24 : Enters Try.prog 24 := enters_of Try.func24 rfl (by kernel_rfl)
theorem enF3_31 : Enters Try.prog 31 := enters_of Try.func31 rfl (by kernel_rfl)
theorem enF3_12 : Enters Try.prog 12 := enters_of Try.func12 rfl (by kernel_rfl)
theorem enF3_9 : Enters Try.prog 9 := enters_of Try.func9 rfl (by kernel_rfl)
theorem enF3_ok : ∀ f ∈ enF3, Enters Try.prog f := by
  intro f hf
  simp only [enF3, List.mem_cons, List.not_mem_nil, or_false] at hf
  rcases hf with rfl | rfl | rfl | rfl | rfl | rfl
  · exact enF3_8
  · exact enF3_25
  · exact enF3_24
  · exact enF3_31
  · exact enF3_12
  · exact enF3_9
def XF4c (P : Program) : Cx := { P := P, G := GF3, en := enF3, call := nil0, L := [], R := [], ext := xF }
noncomputable def XF4 : Cx := XF4c Try.prog
theorem XF4_ok (w : World) (E : Env) (hi : E.fi = FI pv) (hb : E.fb = FB) : XOk XF4 w E := xokX GF3_ok enF3_ok (fun _ h => by cases h) (fun _ h => by cases h) xF_ok w E hi hb
end Go.Proofs.Ytgnkjfafgcbpbaa
