/- The contracts of the states of exact numbers. -/
import Derived.Test.YthggppjdapmgdaaEs7c
namespace Go.Proofs.Ythggppjdapmgdaa
set_option linter.unusedSimpArgs false
set_option linter.unusedVariables false
variable {pv : Int → Int → Int}
open Go.RowKit Eng
def dst : SB := .and (.app 3 0 (vs 3)) (.app 2 0 (SL.of [.app 37 0 (SL.of [.var 0, .var 2]), .app 37 1 (SL.of [.var 0, .var 2]), .app 37 0 (SL.of [.var 1, .var 2]), .app 37 1 (SL.of [.var 1, .var 2])]))
theorem f52 (a b c d m : Int) : FI pv 52 0 [a, b, c, d, m] = if BV a b c d then CST a b c d m else 0 := rfl
theorem f53 (r i s m : Int) : FI pv 53 0 [r, i, s, m] = if DV r i s then (if BV (FLq r s) (CEq r s) (FLq i s) (CEq i s) then CST (FLq r s) (CEq r s) (FLq i s) (CEq i s) m else 0) else 0 := rfl
def e_iDyadState : CEnt := ⟨16, [3, 0], none, .tup [.one (ai (.app 53 0 (vs 4))), .one (.bool dst)]⟩
def t_iDyadState : Tree := (.node (.app 3 0 (.cons (.var 0) (.cons (.var 1) (.cons (.var 2) .nil)))) (.node (.app 103 0 (.cons (.wrap .i64 (.bin .shl .i64 (.var 0) (.lit 24))) (.cons (.wrap .i64 (.bin .shl .i64 (.var 0) (.lit 24))) (.cons (.var 2) .nil)))) (.node (.app 103 0 (.cons (.wrap .i64 (.bin .shl .i64 (.var 1) (.lit 24))) (.cons (.wrap .i64 (.bin .shl .i64 (.var 1) (.lit 24))) (.cons (.var 2) .nil)))) (.node (.app 1 0 (.cons (.app 32 0 (.cons (.wrap .i64 (.bin .shl .i64 (.var 0) (.lit 24))) (.cons (.var 2) .nil))) (.cons (.app 32 1 (.cons (.wrap .i64 (.bin .shl .i64 (.var 0) (.lit 24))) (.cons (.var 2) .nil))) .nil))) (.node (.app 1 0 (.cons (.app 32 0 (.cons (.wrap .i64 (.bin .shl .i64 (.var 1) (.lit 24))) (.cons (.var 2) .nil))) (.cons (.app 32 1 (.cons (.wrap .i64 (.bin .shl .i64 (.var 1) (.lit 24))) (.cons (.var 2) .nil))) .nil))) (.leaf (.tup [(.one (.int .i64 (.app 52 0 (.cons (.app 32 0 (.cons (.wrap .i64 (.bin .shl .i64 (.var 0) (.lit 24))) (.cons (.var 2) .nil))) (.cons (.app 32 1 (.cons (.wrap .i64 (.bin .shl .i64 (.var 0) (.lit 24))) (.cons (.var 2) .nil))) (.cons (.app 32 0 (.cons (.wrap .i64 (.bin .shl .i64 (.var 1) (.lit 24))) (.cons (.var 2) .nil))) (.cons (.app 32 1 (.cons (.wrap .i64 (.bin .shl .i64 (.var 1) (.lit 24))) (.cons (.var 2) .nil))) (.cons (.var 3) .nil)))))))), (.one (.bool (.app 2 0 (.cons (.app 32 0 (.cons (.wrap .i64 (.bin .shl .i64 (.var 0) (.lit 24))) (.cons (.var 2) .nil))) (.cons (.app 32 1 (.cons (.wrap .i64 (.bin .shl .i64 (.var 0) (.lit 24))) (.cons (.var 2) .nil))) (.cons (.app 32 0 (.cons (.wrap .i64 (.bin .shl .i64 (.var 1) (.lit 24))) (.cons (.var 2) .nil))) (.cons (.app 32 1 (.cons (.wrap .i64 (.bin .shl .i64 (.var 1) (.lit 24))) (.cons (.var 2) .nil))) .nil)))))))])) (.leaf (.tup [(.one (.int .i64 (.lit 0))), (.one (.bool (.lit false)))]))) (.leaf (.tup [(.one (.int .i64 (.lit 0))), (.one (.bool (.lit false)))]))) (.dead 47)) (.dead 47)) (.leaf (.tup [(.one (.int .i64 (.lit 0))), (.one (.bool (.lit false)))])))
theorem t_iDyadState_eq : explore X5 200 16 (lettersFrom 0 [3, 0]) 40 [] = t_iDyadState := by kernel_rfl
theorem ok_iDyadState (w : World) : e_iDyadState.ok Try.prog w (FI pv) FB := by
  refine CEnt.by_tree (e := e_iDyadState) (fi := FI pv) (fb := FB) (X := X5) (fuel := 200) (d := 40) (enters_of Try.func16 rfl (by kernel_rfl)) (fun w zs => X5_ok w _ rfl rfl) mixed (fun zs hz hp => ?_) w
  obtain ⟨a, b, c, d, rfl⟩ := len4 hz
  show (explore X5 200 16 (lettersFrom 0 [3, 0]) 40 []).den _ = _
  rw [t_iDyadState_eq]
  clear hz
  clear hp
  show Tree.den _ t_iDyadState = some (.tuple #[.int .i64 (FI pv 53 0 [a, b, c, d]), .bool (DV a b c && BV (FLq a c) (CEq a c) (FLq b c) (CEq b c))])
  simp only [t_iDyadState, Tree.den, SVal.den, CV.den, At.den, SE.den, SB.den, SL.den, IOp.den, COp.den, envOf, List.map_cons, List.map_nil, List.getD_cons_zero, List.getD_cons_succ]
  simp only [g2, g3, p24, f52, f53]
  cases h : DV a b c
  · rfl
  obtain ⟨b1, b2, b3, b4, b5, b6, -⟩ := (DV_iff _ _ _).1 h
  rw [wrap_in (x := a * 16777216) (by omega) (by omega), wrap_in (x := b * 16777216) (by omega) (by omega), t103 (by omega) (by omega) (by omega), t103 (by omega) (by omega) (by omega)]
  show (bif SV (FLq a c) (CEq a c) then bif SV (FLq b c) (CEq b c) then some (Value.tuple #[.int .i64 (if (SV (FLq a c) (CEq a c) && SV (FLq b c) (CEq b c)) = true then CST (FLq a c) (CEq a c) (FLq b c) (CEq b c) d else 0), .bool (SV (FLq a c) (CEq a c) && SV (FLq b c) (CEq b c))]) else _ else _) = some (Value.tuple #[.int .i64 (if true = true then (if (SV (FLq a c) (CEq a c) && SV (FLq b c) (CEq b c)) = true then CST (FLq a c) (CEq a c) (FLq b c) (CEq b c) d else 0) else 0), .bool (true && (SV (FLq a c) (CEq a c) && SV (FLq b c) (CEq b c)))])
  cases SV (FLq a c) (CEq a c) <;> cases SV (FLq b c) (CEq b c) <;> rfl
def e_sDyadState : CEnt := ⟨17, [3, 0], none, .tup [.one (ai (.app 53 0 (vs 4))), .one (.bool dst)]⟩
def t_sDyadState : Tree := (.node (.app 3 0 (.cons (.var 0) (.cons (.var 1) (.cons (.var 2) .nil)))) (.node (.cmp .le (.var 2) (.lit 24)) (.node (.cmp .lt (.wrap .i64 (.bin .sub .i64 (.lit 24) (.var 2))) (.lit 0)) (.dead 3) (.leaf (.tup [(.one (.int .i64 (.app 52 0 (.cons (.wrap .i64 (.bin .shl .i64 (.var 0) (.wrap .i64 (.bin .sub .i64 (.lit 24) (.var 2))))) (.cons (.wrap .i64 (.bin .shl .i64 (.var 0) (.wrap .i64 (.bin .sub .i64 (.lit 24) (.var 2))))) (.cons (.wrap .i64 (.bin .shl .i64 (.var 1) (.wrap .i64 (.bin .sub .i64 (.lit 24) (.var 2))))) (.cons (.wrap .i64 (.bin .shl .i64 (.var 1) (.wrap .i64 (.bin .sub .i64 (.lit 24) (.var 2))))) (.cons (.var 3) .nil)))))))), (.one (.bool (.app 2 0 (.cons (.wrap .i64 (.bin .shl .i64 (.var 0) (.wrap .i64 (.bin .sub .i64 (.lit 24) (.var 2))))) (.cons (.wrap .i64 (.bin .shl .i64 (.var 0) (.wrap .i64 (.bin .sub .i64 (.lit 24) (.var 2))))) (.cons (.wrap .i64 (.bin .shl .i64 (.var 1) (.wrap .i64 (.bin .sub .i64 (.lit 24) (.var 2))))) (.cons (.wrap .i64 (.bin .shl .i64 (.var 1) (.wrap .i64 (.bin .sub .i64 (.lit 24) (.var 2))))) .nil)))))))]))) (.node (.cmp .lt (.wrap .i64 (.bin .sub .i64 (.var 2) (.lit 24))) (.lit 0)) (.dead 3) (.node (.app 102 0 (.cons (.var 0) (.cons (.wrap .i64 (.bin .shl .i64 (.lit 1) (.wrap .i64 (.bin .sub .i64 (.var 2) (.lit 24))))) .nil))) (.node (.app 102 0 (.cons (.var 1) (.cons (.wrap .i64 (.bin .shl .i64 (.lit 1) (.wrap .i64 (.bin .sub .i64 (.var 2) (.lit 24))))) .nil))) (.leaf (.tup [(.one (.int .i64 (.app 52 0 (.cons (.app 33 0 (.cons (.var 0) (.cons (.wrap .i64 (.bin .shl .i64 (.lit 1) (.wrap .i64 (.bin .sub .i64 (.var 2) (.lit 24))))) .nil))) (.cons (.app 33 1 (.cons (.var 0) (.cons (.wrap .i64 (.bin .shl .i64 (.lit 1) (.wrap .i64 (.bin .sub .i64 (.var 2) (.lit 24))))) .nil))) (.cons (.app 33 0 (.cons (.var 1) (.cons (.wrap .i64 (.bin .shl .i64 (.lit 1) (.wrap .i64 (.bin .sub .i64 (.var 2) (.lit 24))))) .nil))) (.cons (.app 33 1 (.cons (.var 1) (.cons (.wrap .i64 (.bin .shl .i64 (.lit 1) (.wrap .i64 (.bin .sub .i64 (.var 2) (.lit 24))))) .nil))) (.cons (.var 3) .nil)))))))), (.one (.bool (.app 2 0 (.cons (.app 33 0 (.cons (.var 0) (.cons (.wrap .i64 (.bin .shl .i64 (.lit 1) (.wrap .i64 (.bin .sub .i64 (.var 2) (.lit 24))))) .nil))) (.cons (.app 33 1 (.cons (.var 0) (.cons (.wrap .i64 (.bin .shl .i64 (.lit 1) (.wrap .i64 (.bin .sub .i64 (.var 2) (.lit 24))))) .nil))) (.cons (.app 33 0 (.cons (.var 1) (.cons (.wrap .i64 (.bin .shl .i64 (.lit 1) (.wrap .i64 (.bin .sub .i64 (.var 2) (.lit 24))))) .nil))) (.cons (.app 33 1 (.cons (.var 1) (.cons (.wrap .i64 (.bin .shl .i64 (.lit 1) (.wrap .i64 (.bin .sub .i64 (.var 2) (.lit 24))))) .nil))) .nil)))))))])) (.dead 47)) (.dead 47)))) (.leaf (.tup [(.one (.int .i64 (.lit 0))), (.one (.bool (.lit false)))])))
theorem t_sDyadState_eq : explore X5 200 17 (lettersFrom 0 [3, 0]) 40 [] = t_sDyadState := by kernel_rfl
theorem ok_sDyadState (w : World) : e_sDyadState.ok Try.prog w (FI pv) FB := by
  refine CEnt.by_tree (e := e_sDyadState) (fi := FI pv) (fb := FB) (X := X5) (fuel := 200) (d := 40) (enters_of Try.func17 rfl (by kernel_rfl)) (fun w zs => X5_ok w _ rfl rfl) mixed (fun zs hz hp => ?_) w
  obtain ⟨a, b, c, d, rfl⟩ := len4 hz
  show (explore X5 200 17 (lettersFrom 0 [3, 0]) 40 []).den _ = _
  rw [t_sDyadState_eq]
  clear hz
  clear hp
  show Tree.den _ t_sDyadState = some (.tuple #[.int .i64 (FI pv 53 0 [a, b, c, d]), .bool (DV a b c && BV (FLq a c) (CEq a c) (FLq b c) (CEq b c))])
  simp only [t_sDyadState, Tree.den, SVal.den, CV.den, At.den, SE.den, SB.den, SL.den, IOp.den, COp.den, envOf, List.map_cons, List.map_nil, List.getD_cons_zero, List.getD_cons_succ]
  simp only [g2, g3, f33_0, f33_1, Int.one_mul, f52, f53]
  cases h : DV a b c
  · rfl
  obtain ⟨b1, b2, b3, b4, b5, b6, -⟩ := (DV_iff _ _ _).1 h
  by_cases hg : c ≤ 24
  · have hw := wrap_in (x := 24 - c) (by omega) (by omega)
    obtain ⟨p1, p2, p3⟩ := shl_bd (n := a) (k := 24 - c) b1 b2 (by omega) (by omega)
    obtain ⟨-, p4, p5⟩ := shl_bd (n := b) (k := 24 - c) b3 b4 (by omega) (by omega)
    rw [decide_eq_true hg, FL_le a b5 hg, CE_le a b5 hg, FL_le b b5 hg, CE_le b b5 hg, hw, p1, wrap_in (x := a * 2 ^ (24 - c).toNat) (by omega) (by omega), wrap_in (x := b * 2 ^ (24 - c).toNat) (by omega) (by omega), decide_eq_false (p := 24 - c < 0) (by omega)]
    rfl
  · have hw := wrap_in (x := c - 24) (by omega) (by omega)
    obtain ⟨p1, p2, p3⟩ := shr_bd (k := c - 24) (by omega) (by omega)
    rw [decide_eq_false hg, FL_gt a (by omega), CE_gt a (by omega), FL_gt b (by omega), CE_gt b (by omega), hw, p1, wrap_in (x := 2 ^ (c - 24).toNat) (by omega) (by omega), decide_eq_false (p := c - 24 < 0) (by omega), t102 (by omega) (by omega), t102 (by omega) (by omega)]
    rfl
end Go.Proofs.Ythggppjdapmgdaa
