/- The wide number that an exact one is, both: contracts. -/
import Derived.Test.YtgnkjfafgcbpbaaDoorFw2
namespace Go.Proofs.YtgnkjfafgcbpbaaDoor
set_option linter.unusedSimpArgs false
set_option linter.unusedVariables false
variable {pv : Int → Int → Int}
open Go.RowKit Eng
theorem FWi_eq (n : Int) : ((Ieee.double.nearest (decide (n < 0)) n.natAbs 0 : Nat) : Int) = FWi n := rfl
theorem b110_of {n s : Int} (h1 : -2147483648 ≤ n) (h2 : n ≤ 2147483648) (h3 : 0 ≤ s) (h4 : s ≤ 60) : LDok (FWi n) (-s) = true := by
  by_cases h0 : n = 0
  · subst h0; exact ldok_zero _
  · obtain ⟨a, b⟩ := Fl.FW_nrm h0 (by omega)
    have hL : n.natAbs.log2 ≤ 52 := by have := (Nat.log2_lt (k := 53) (by omega : n.natAbs ≠ 0)).2 (by omega); omega
    have hb0 : ((Fl.FW n : Nat) : Int) ≠ 0 := by unfold Fl.fld at b; omega
    exact (ldok_iff hb0).2 ⟨a, by omega, by omega, by omega, by omega⟩
theorem LD_FWi {n s : Int} (h1 : -2147483648 ≤ n) (h2 : n ≤ 2147483648) (h3 : 0 ≤ s) (h4 : s ≤ 60) : LD (FWi n) (-s) = DWi n s := by
  unfold DWi
  by_cases h0 : n = 0
  · subst h0; unfold Fl.DWn; rw [if_pos rfl]; rfl
  · obtain ⟨a, b⟩ := Fl.FW_nrm h0 (by omega)
    have hb0 : ((Fl.FW n : Nat) : Int) ≠ 0 := by unfold Fl.fld at b; omega
    obtain ⟨-, -, c⟩ := Fl.DWn_nrm (s := s.toNat) h0 (by omega) (by omega)
    unfold LD FWi
    rw [if_neg hb0, c]; omega
theorem f110 (b e : Int) : FI pv 110 0 [b, e] = LD b e := rfl
theorem g110 (b e : Int) : FB 110 0 [b, e] = LDok b e := rfl
theorem DWi_nonneg (n s : Int) : 0 ≤ DWi n s := by unfold DWi; omega
def outDW : SVal := .tup [.one (.cpx .f64 (.app 112 0 (vs 3)) (.app 112 1 (vs 3))), .one (.bool (.app 3 0 (vs 3)))]
theorem f112a {r i s : Int} (h : DV r i s = true) : FI pv 112 0 [r, i, s] = DWi r s := if_pos h
theorem f112b {r i s : Int} (h : DV r i s = true) : FI pv 112 1 [r, i, s] = DWi i s := if_pos h
theorem f112a' {r i s : Int} (h : DV r i s = false) : FI pv 112 0 [r, i, s] = 0 := by
  show (if DV r i s = true then DWi r s else (0 : Int)) = 0
  rw [if_neg (by rw [h]; decide)]
theorem f112b' {r i s : Int} (h : DV r i s = false) : FI pv 112 1 [r, i, s] = 0 := by
  show (if DV r i s = true then DWi i s else (0 : Int)) = 0
  rw [if_neg (by rw [h]; decide)]
theorem dv_rngF {r i s : Int} (h : DV r i s = true) : (-1073741824 ≤ r ∧ r ≤ 1073741824) ∧ (-1073741824 ≤ i ∧ i ≤ 1073741824) ∧ 0 ≤ s ∧ s ≤ 60 := by
  obtain ⟨a1, a2, a3, a4, a5, a6, _⟩ := (DV_iff r i s).1 h
  exact ⟨⟨by omega, by omega⟩, ⟨by omega, by omega⟩, by omega, by omega⟩
theorem near_eq (a : Int) : (((fkOf IntKind.u64).nearest a : Nat) : Int) = FWi a := rfl
def e_l2Float : CEnt := ⟨48, [0, 0], some (.app 111 0 (vs 2)), .cv (.one (.flt .f64 (.app 111 0 (vs 2))))⟩
def t_l2Float : Tree := (.node (.and (.app 110 0 (.cons (.bin .i2f .u64 (.var 0) (.lit 0)) (.cons (.bin .sub .i64 (.lit 0) (.var 1)) .nil))) (.and (.cmp .le (.lit 0) (.var 1)) (.cmp .le (.var 1) (.lit 60)))) (.leaf (.cv (.one (.flt .f64 (.app 115 0 (.cons (.var 0) (.cons (.var 1) (.cons (.bin .i2f .u64 (.var 0) (.lit 0)) (.cons (.lit 0) .nil))))))))) (.dead 92))
theorem t_l2Float_eq : explore XF2 200 48 (lettersFrom 0 [0, 0]) 40 [] = t_l2Float := by kernel_rfl
theorem ok_l2Float (w : World) : e_l2Float.ok Tryd.prog w (FI pv) FB := by
  refine CEnt.by_tree (e := e_l2Float) (fi := FI pv) (fb := FB) (X := XF2) (fuel := 200) (d := 40) (enters_of Tryd.func48 rfl (by kernel_rfl)) (fun w zs => XF2_ok w _ rfl rfl) mixed (fun zs hz hp => ?_) w
  obtain ⟨a, b, rfl⟩ := len2 hz
  show (explore XF2 200 48 (lettersFrom 0 [0, 0]) 40 []).den _ = _
  rw [t_l2Float_eq]
  clear hz
  replace hp : (decide (-2147483648 ≤ a) && decide (a ≤ 2147483648) && decide (0 ≤ b) && decide (b ≤ 60)) = true := hp _ rfl
  show Tree.den _ t_l2Float = some (.float .f64 (DWi a b).toNat)
  simp only [t_l2Float, Tree.den, SVal.den, CV.den, At.den, SE.den, SB.den, SL.den, IOp.den, COp.den, envOf, List.map_cons, List.map_nil, List.getD_cons_zero, List.getD_cons_succ]
  simp only [Bool.and_eq_true, decide_eq_true_eq] at hp
  obtain ⟨⟨⟨h1, h2⟩, h3⟩, h4⟩ := hp
  have e1 : FB 110 0 [FWi a, 0 - b] = true := by rw [Int.zero_sub]; exact b110_of h1 h2 h3 h4
  have e2 : FI pv 115 0 [a, b, FWi a, 0] = DWi a b := by show LD (FWi a) (0 - b) = _; rw [Int.zero_sub]; exact LD_FWi h1 h2 h3 h4
  rw [near_eq, e1, e2, decide_eq_true h3, decide_eq_true h4]; rfl
def GF2 : List CEnt := [e_l2Float] ++ GF1
theorem GF2_ok : ∀ e ∈ GF2, ∀ w : World, e.ok Tryd.prog w (FI pv) FB := by
  intro e he w
  rcases List.mem_append.1 he with he | he
  case inr => exact GF1_ok e he w
  simp only [List.mem_cons, List.not_mem_nil, or_false] at he
  rcases he with rfl
  · exact ok_l2Float w
def XF3c (P : Program) : Cx := { P := P, G := GF2, en := enF, call := nil0, L := [], R := [], ext := xF }
noncomputable def XF3 : Cx := XF3c Tryd.prog
theorem XF3_ok (w : World) (E : Env) (hi : E.fi = FI pv) (hb : E.fb = FB) : XOk XF3 w E := xokX GF2_ok enF_ok (fun _ h => by cases h) (fun _ h => by cases h) xF_ok w E hi hb
end Go.Proofs.YtgnkjfafgcbpbaaDoor
