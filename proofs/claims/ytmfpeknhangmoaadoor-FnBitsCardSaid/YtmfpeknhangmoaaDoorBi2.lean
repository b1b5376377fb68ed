/- The reference's count of digits: its contract. -/
import Derived.Test.YtmfpeknhangmoaaDoorBi1
namespace Go.Proofs.YtmfpeknhangmoaaDoor
set_option linter.unusedSimpArgs false
set_option linter.unusedVariables false
variable {pv : Int → Int → Int}
open Go.RowKit Eng
theorem bits_val {m : Int} (h1 : 1 ≤ m) (h2 : m ≤ 9223372036854775807) :
    (bif decide (1 ≤ m) && decide (m ≤ 9223372036854775807) then bif decide (0 ≤ FI pv 94 0 [m]) && decide (FI pv 94 0 [m] ≤ 9223372036854775807) then some (Value.int IntKind.i64 (FI pv 95 0 [FI pv 94 0 [m], 0])) else none else none) = some (Value.int .i64 (bl m - tz m)) := by
  have e1 : FI pv 94 0 [m] = m / 2 ^ (tz m).toNat := rfl
  have e2 : ∀ x, FI pv 95 0 [x, 0] = 0 + bl x := fun _ => rfl
  have q1 : 0 ≤ m / 2 ^ (tz m).toNat := Int.ediv_nonneg (by omega) (Int.le_of_lt (pos2 _))
  have q2 : m / 2 ^ (tz m).toNat ≤ m := Int.ediv_le_self _ (by omega)
  rw [e1, e2, bl_odd h1 (by omega), decide_eq_true h1, decide_eq_true h2, decide_eq_true q1, decide_eq_true (show m / 2 ^ (tz m).toNat ≤ 9223372036854775807 by omega), Int.zero_add]
  rfl
def e_sBits : CEnt := ⟨10, [0], some (.app 106 0 (vs 1)), oi (.app 92 0 (vs 1))⟩
def t_sBits : Tree := (.node (.cmp .lt (.var 0) (.lit 0)) (.node (.cmp .eq (.wrap .i64 (.bin .sub .i64 (.lit 0) (.var 0))) (.lit 0)) (.leaf (.cv (.one (.int .i64 (.lit 0))))) (.node (.and (.cmp .le (.lit 1) (.wrap .i64 (.bin .sub .i64 (.lit 0) (.var 0)))) (.cmp .le (.wrap .i64 (.bin .sub .i64 (.lit 0) (.var 0))) (.lit 9223372036854775807))) (.node (.and (.cmp .le (.lit 0) (.app 94 0 (.cons (.wrap .i64 (.bin .sub .i64 (.lit 0) (.var 0))) .nil))) (.cmp .le (.app 94 0 (.cons (.wrap .i64 (.bin .sub .i64 (.lit 0) (.var 0))) .nil)) (.lit 9223372036854775807))) (.leaf (.cv (.one (.int .i64 (.app 95 0 (.cons (.app 94 0 (.cons (.wrap .i64 (.bin .sub .i64 (.lit 0) (.var 0))) .nil)) (.cons (.lit 0) .nil))))))) (.dead 92)) (.dead 92))) (.node (.cmp .eq (.var 0) (.lit 0)) (.leaf (.cv (.one (.int .i64 (.lit 0))))) (.node (.and (.cmp .le (.lit 1) (.var 0)) (.cmp .le (.var 0) (.lit 9223372036854775807))) (.node (.and (.cmp .le (.lit 0) (.app 94 0 (.cons (.var 0) .nil))) (.cmp .le (.app 94 0 (.cons (.var 0) .nil)) (.lit 9223372036854775807))) (.leaf (.cv (.one (.int .i64 (.app 95 0 (.cons (.app 94 0 (.cons (.var 0) .nil)) (.cons (.lit 0) .nil))))))) (.dead 92)) (.dead 92))))
theorem t_sBits_eq : explore XB1 200 10 (lettersFrom 0 [0]) 40 [] = t_sBits := by kernel_rfl
theorem ok_sBits (w : World) : e_sBits.ok Tryd.prog w (FI pv) FB := by
  refine CEnt.by_tree (e := e_sBits) (fi := FI pv) (fb := FB) (X := XB1) (fuel := 200) (d := 40) (enters_of Tryd.func10 rfl (by kernel_rfl)) (fun w zs => XB1_ok w _ rfl rfl) mixed (fun zs hz hp => ?_) w
  obtain ⟨a, rfl⟩ := len1 hz
  show (explore XB1 200 10 (lettersFrom 0 [0]) 40 []).den _ = _
  rw [t_sBits_eq]
  clear hz
  replace hp : (decide (-9223372036854775807 ≤ a) && decide (a ≤ 9223372036854775807)) = true := hp _ rfl
  show Tree.den _ t_sBits = some (.int .i64 (BT a))
  simp only [t_sBits, Tree.den, SVal.den, CV.den, At.den, SE.den, SB.den, SL.den, IOp.den, COp.den, envOf, List.map_cons, List.map_nil, List.getD_cons_zero, List.getD_cons_succ]
  simp only [Bool.and_eq_true, decide_eq_true_eq] at hp
  unfold BT
  by_cases h : a < 0
  · rw [decide_eq_true h, wrap_in (by omega) (by omega), cond_true, if_neg (by omega), beq_eq_false_iff_ne.2 (by omega), cond_false, show ((a.natAbs : Nat) : Int) = 0 - a by omega]
    exact bits_val (by omega) (by omega)
  · rw [decide_eq_false h, cond_false, cond_beq]
    by_cases h0 : a = 0
    · rw [if_pos h0, if_pos h0]
    · rw [if_neg h0, if_neg h0, show ((a.natAbs : Nat) : Int) = a by omega]
      exact bits_val (by omega) (by omega)
end Go.Proofs.YtmfpeknhangmoaaDoor
