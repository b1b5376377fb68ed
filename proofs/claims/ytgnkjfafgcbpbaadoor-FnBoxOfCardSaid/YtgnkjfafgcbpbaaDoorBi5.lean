/- How many digits an exact number needs: the contracts of both. -/
import Derived.Test.YtgnkjfafgcbpbaaDoorBi4
namespace Go.Proofs.YtgnkjfafgcbpbaaDoor
set_option linter.unusedSimpArgs false
set_option linter.unusedVariables false
variable {pv : Int → Int → Int}
open Go.RowKit Eng
def outBt : SVal := .tup [.one (ai (.app 93 0 (vs 3))), .one (.bool (.app 3 0 (vs 3)))]
theorem f93 (r i s : Int) : FI pv 93 0 [r, i, s] = if DV r i s then max (BT r) (BT i) else 0 := rfl
theorem f92 (n : Int) : FI pv 92 0 [n] = BT n := rfl
theorem b3 (r i s : Int) : FB 3 0 [r, i, s] = DV r i s := rfl
theorem b106 {n : Int} (h : -1073741824 ≤ n) (h' : n ≤ 1073741824) : FB 106 0 [n] = true := by
  show (decide (-9223372036854775807 ≤ n) && decide (n ≤ 9223372036854775807)) = true
  simp only [Bool.and_eq_true, decide_eq_true_eq]; omega
theorem dv_rng {r i s : Int} (h : DV r i s = true) : (-1073741824 ≤ r ∧ r ≤ 1073741824) ∧ (-1073741824 ≤ i ∧ i ≤ 1073741824) ∧ 0 ≤ s ∧ s ≤ 60 := by
  obtain ⟨a1, a2, a3, a4, a5, a6, _⟩ := (DV_iff r i s).1 h
  exact ⟨⟨by omega, by omega⟩, ⟨by omega, by omega⟩, by omega, by omega⟩
def e_iBits : CEnt := ⟨18, [3], none, outBt⟩
def t_iBits : Tree := (.node (.app 3 0 (.cons (.var 0) (.cons (.var 1) (.cons (.var 2) .nil)))) (.node (.app 106 0 (.cons (.var 0) .nil)) (.node (.app 106 0 (.cons (.var 1) .nil)) (.leaf (.tup [(.one (.int .i64 (.bin .imax .i64 (.app 92 0 (.cons (.var 0) .nil)) (.app 92 0 (.cons (.var 1) .nil))))), (.one (.bool (.lit true)))])) (.dead 47)) (.dead 47)) (.leaf (.tup [(.one (.int .i64 (.lit 0))), (.one (.bool (.lit false)))])))
theorem t_iBits_eq : explore XT2 200 18 (lettersFrom 0 [3]) 40 [] = t_iBits := by kernel_rfl
theorem ok_iBits (w : World) (hT : Tb w) : e_iBits.ok Tryd.prog w (FI pv) FB := by
  refine by_treeT (e := e_iBits) (fi := FI pv) (fb := FB) (X := XT2) (fuel := 200) (d := 40) (enters_of Tryd.func18 rfl (by kernel_rfl)) (fun w zs hT => XT2_ok w hT _ rfl rfl) mixed (fun zs hz hp => ?_) w hT
  obtain ⟨a, b, c, rfl⟩ := len3 hz
  show (explore XT2 200 18 (lettersFrom 0 [3]) 40 []).den _ = _
  rw [t_iBits_eq]
  clear hz
  clear hp
  show Tree.den _ t_iBits = some (.tuple #[.int .i64 (FI pv 93 0 [a, b, c]), .bool (FB 3 0 [a, b, c])])
  simp only [t_iBits, Tree.den, SVal.den, CV.den, At.den, SE.den, SB.den, SL.den, IOp.den, COp.den, envOf, List.map_cons, List.map_nil, List.getD_cons_zero, List.getD_cons_succ]
  simp only [ite_max]
  simp only [f93, f92, b3]
  cases h : DV a b c
  · rfl
  · obtain ⟨h1, h2, -⟩ := dv_rng h
    simp only [b106 h1.1 h1.2, b106 h2.1 h2.2, cond_true, if_true]
def GT3 : List CEnt := [e_iBits] ++ GT2
theorem GT3_ok : ∀ e ∈ GT3, ∀ w : World, Tb w → e.ok Tryd.prog w (FI pv) FB := by
  intro e he w hT
  rcases List.mem_append.1 he with he | he
  case inr => exact GT2_ok e he w hT
  simp only [List.mem_cons, List.not_mem_nil, or_false] at he
  rcases he with rfl
  · exact ok_iBits w hT
def XT3c (P : Program) : Cx := { P := P, G := GT3, en := enB0, call := nil0, L := [], R := [], ext := [] }
noncomputable def XT3 : Cx := XT3c Tryd.prog
theorem XT3_ok (w : World) (hT : Tb w) (E : Env) (hi : E.fi = FI pv) (hb : E.fb = FB) : XOk XT3 w E := xokT GT3_ok enB0_ok (fun _ h => by cases h) (fun _ h => by cases h) (fun _ h => by cases h) w hT E hi hb
end Go.Proofs.YtgnkjfafgcbpbaaDoor
