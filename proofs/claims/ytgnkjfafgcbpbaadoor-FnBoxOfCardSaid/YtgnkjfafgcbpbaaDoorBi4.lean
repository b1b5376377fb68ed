/- The program's count of digits; how many digits an exact number needs, both. -/
import Derived.Test.YtgnkjfafgcbpbaaDoorBi3
namespace Go.Proofs.YtgnkjfafgcbpbaaDoor
set_option linter.unusedSimpArgs false
set_option linter.unusedVariables false
variable {pv : Int → Int → Int}
open Go.RowKit Eng
theorem wrap_u_in {x : Int} (h : 0 ≤ x) (h' : x ≤ 18446744073709551615) : IntKind.u64.wrap x = x := by
  simp [IntKind.wrap, IntKind.bits, IntKind.signed]; omega
def e_digs : CEnt := ⟨50, [0], some (.app 106 0 (vs 1)), oi (.app 92 0 (vs 1))⟩
def t_digs : Tree := (.node (.cmp .eq (.var 0) (.lit 0)) (.leaf (.cv (.one (.int .i64 (.lit 0))))) (.node (.app 105 0 (.cons (.wrap .u64 (.bin .imax .i64 (.var 0) (.wrap .i64 (.bin .sub .i64 (.lit 0) (.var 0))))) .nil)) (.leaf (.cv (.one (.int .i64 (.wrap .i64 (.bin .sub .i64 (.app 90 0 (.cons (.wrap .u64 (.bin .imax .i64 (.var 0) (.wrap .i64 (.bin .sub .i64 (.lit 0) (.var 0))))) .nil)) (.app 91 0 (.cons (.wrap .u64 (.bin .imax .i64 (.var 0) (.wrap .i64 (.bin .sub .i64 (.lit 0) (.var 0))))) .nil)))))))) (.dead 47)))
theorem t_digs_eq : explore XT1 200 50 (lettersFrom 0 [0]) 40 [] = t_digs := by kernel_rfl
theorem ok_digs (w : World) (hT : Tb w) : e_digs.ok Tryd.prog w (FI pv) FB := by
  refine by_treeT (e := e_digs) (fi := FI pv) (fb := FB) (X := XT1) (fuel := 200) (d := 40) (enters_of Tryd.func50 rfl (by kernel_rfl)) (fun w zs hT => XT1_ok w hT _ rfl rfl) mixed (fun zs hz hp => ?_) w hT
  obtain ⟨a, rfl⟩ := len1 hz
  show (explore XT1 200 50 (lettersFrom 0 [0]) 40 []).den _ = _
  rw [t_digs_eq]
  clear hz
  replace hp : (decide (-9223372036854775807 ≤ a) && decide (a ≤ 9223372036854775807)) = true := hp _ rfl
  show Tree.den _ t_digs = some (.int .i64 (BT a))
  simp only [t_digs, Tree.den, SVal.den, CV.den, At.den, SE.den, SB.den, SL.den, IOp.den, COp.den, envOf, List.map_cons, List.map_nil, List.getD_cons_zero, List.getD_cons_succ]
  simp only [Bool.and_eq_true, decide_eq_true_eq] at hp
  unfold BT
  rw [cond_beq]
  by_cases h0 : a = 0
  · rw [if_pos h0, if_pos h0]
  · rw [if_neg h0, if_neg h0, wrap_in (by omega) (by omega), show (if 0 - a > a then 0 - a else a) = (a.natAbs : Int) by split <;> omega, wrap_u_in (by omega) (by omega)]
    have e0 : FB 105 0 [(a.natAbs : Int)] = true := by
      show (decide (0 ≤ (a.natAbs : Int)) && decide ((a.natAbs : Int) ≤ 18446744073709551615)) = true
      simp only [Bool.and_eq_true, decide_eq_true_eq]; omega
    have e1 : FI pv 90 0 [(a.natAbs : Int)] = bl a.natAbs := rfl
    have e2 : FI pv 91 0 [(a.natAbs : Int)] = tz a.natAbs := rfl
    have t1 := tz_lt (n := (a.natAbs : Int)) (by omega) (by omega)
    have t2 := tz_nonneg (a.natAbs : Int)
    have t3 := bl_le (n := (a.natAbs : Int)) 64 (by omega) (by omega)
    rw [e0, e1, e2, wrap_in (by omega) (by omega)]; rfl
def GT2 : List CEnt := [e_digs] ++ GT1
theorem GT2_ok : ∀ e ∈ GT2, ∀ w : World, Tb w → e.ok Tryd.prog w (FI pv) FB := by
  intro e he w hT
  rcases List.mem_append.1 he with he | he
  case inr => exact GT1_ok e he w hT
  simp only [List.mem_cons, List.not_mem_nil, or_false] at he
  rcases he with rfl
  · exact ok_digs w hT
def XT2c (P : Program) : Cx := { P := P, G := GT2, en := enB0, call := nil0, L := [], R := [], ext := [] }
noncomputable def XT2 : Cx := XT2c Tryd.prog
theorem XT2_ok (w : World) (hT : Tb w) (E : Env) (hi : E.fi = FI pv) (hb : E.fb = FB) : XOk XT2 w E := xokT GT2_ok enB0_ok (fun _ h => by cases h) (fun _ h => by cases h) (fun _ h => by cases h) w hT E hi hb
end Go.Proofs.YtgnkjfafgcbpbaaDoor
