/- Contracts of the greater functions on boxes, by the reckoner: sums, norms, boxes in boxes. -/
import Derived.Test.YtjbpaejjpamcpaaBoB
namespace Go.Proofs.Ytjbpaejjpamcpaa
set_option linter.unusedSimpArgs false
set_option linter.unusedVariables false
variable {pv : Int → Int → Int}
open Go.RowKit Eng

def e_iBoxAdd : CEnt := ⟨77, [4, 4], none, .tup [og (oapps 7 4 (vs 8)), .one (.bool (.app 7 0 (vs 8)))]⟩
def t_iBoxAdd : Tree := (.node (.app 2 0 (.cons (.var 0) (.cons (.var 1) (.cons (.var 2) (.cons (.var 3) .nil))))) (.node (.app 2 0 (.cons (.var 4) (.cons (.var 5) (.cons (.var 6) (.cons (.var 7) .nil))))) (.node (.app 101 0 (.cons (.var 0) (.cons (.var 1) (.cons (.var 4) (.cons (.var 5) .nil))))) (.node (.app 101 0 (.cons (.var 2) (.cons (.var 3) (.cons (.var 6) (.cons (.var 7) .nil))))) (.node (.app 1 0 (.cons (.bin .add .i64 (.var 0) (.var 4)) (.cons (.bin .add .i64 (.var 1) (.var 5)) .nil))) (.node (.app 1 0 (.cons (.bin .add .i64 (.var 2) (.var 6)) (.cons (.bin .add .i64 (.var 3) (.var 7)) .nil))) (.leaf (.tup [(.agg [(.int .i64 (.bin .add .i64 (.var 0) (.var 4))), (.int .i64 (.bin .add .i64 (.var 1) (.var 5))), (.int .i64 (.bin .add .i64 (.var 2) (.var 6))), (.int .i64 (.bin .add .i64 (.var 3) (.var 7)))]), (.one (.bool (.lit true)))])) (.leaf (.tup [(.agg [(.int .i64 (.lit 0)), (.int .i64 (.lit 0)), (.int .i64 (.lit 0)), (.int .i64 (.lit 0))]), (.one (.bool (.lit false)))]))) (.leaf (.tup [(.agg [(.int .i64 (.lit 0)), (.int .i64 (.lit 0)), (.int .i64 (.lit 0)), (.int .i64 (.lit 0))]), (.one (.bool (.lit false)))]))) (.dead 47)) (.dead 47)) (.leaf (.tup [(.agg [(.int .i64 (.lit 0)), (.int .i64 (.lit 0)), (.int .i64 (.lit 0)), (.int .i64 (.lit 0))]), (.one (.bool (.lit false)))]))) (.leaf (.tup [(.agg [(.int .i64 (.lit 0)), (.int .i64 (.lit 0)), (.int .i64 (.lit 0)), (.int .i64 (.lit 0))]), (.one (.bool (.lit false)))])))
theorem t_iBoxAdd_eq : explore X2 300 77 (lettersFrom 0 [4, 4]) 40 [] = t_iBoxAdd := by kernel_rfl
theorem ok_iBoxAdd (w : World) : e_iBoxAdd.ok Try.prog w (FI pv) FB := by
  refine CEnt.by_tree (e := e_iBoxAdd) (fi := FI pv) (fb := FB) (X := X2) (fuel := 300) (d := 40) (enters_of Try.func77 rfl (by kernel_rfl)) (fun w zs => X2_ok w _ rfl rfl) mixed (fun zs hz hp => ?_) w
  obtain ⟨a, b, c, d, e, f, g, i, rfl⟩ := len8 hz
  show (explore X2 300 77 (lettersFrom 0 [4, 4]) 40 []).den _ = _
  rw [t_iBoxAdd_eq]
  clear hz
  clear hp
  show Tree.den _ t_iBoxAdd = some (.tuple #[.agg #[.int .i64 (if ADB a b c d e f g i then a + e else 0), .int .i64 (if ADB a b c d e f g i then b + f else 0), .int .i64 (if ADB a b c d e f g i then c + g else 0), .int .i64 (if ADB a b c d e f g i then d + i else 0)], .bool (ADB a b c d e f g i)])
  simp only [t_iBoxAdd, Tree.den, SVal.den, CV.den, At.den, SE.den, SB.den, SL.den, IOp.den, COp.den, envOf, List.map_cons, List.map_nil, List.getD_cons_zero, List.getD_cons_succ]
  simp only [g1, g2]
  cases h1 : BV a b c d
  · have e0 : ADB a b c d e f g i = false := by unfold ADB; rw [h1]; rfl
    rw [e0]; rfl
  cases h2 : BV e f g i
  · have e0 : ADB a b c d e f g i = false := by unfold ADB; rw [h1, h2]; rfl
    rw [e0]; rfl
  have e0 : ADB a b c d e f g i = (SV (a + e) (b + f) && SV (c + g) (d + i)) := by unfold ADB; rw [h1, h2]; rfl
  obtain ⟨a1, a2, a3, a4, a5, a6⟩ := (BV_iff _ _ _ _).1 h1
  obtain ⟨b1, b2, b3, b4, b5, b6⟩ := (BV_iff _ _ _ _).1 h2
  rw [t60_4 (by omega) (by omega) (by omega) (by omega), t60_4 (by omega) (by omega) (by omega) (by omega), e0]
  cases SV (a + e) (b + f) <;> cases SV (c + g) (d + i) <;> rfl
def e_sBoxAdd : CEnt := ⟨66, [4, 4], none, .tup [og (oapps 7 4 (vs 8)), .one (.bool (.app 7 0 (vs 8)))]⟩
def t_sBoxAdd : Tree := (.node (.app 2 0 (.cons (.var 0) (.cons (.var 1) (.cons (.var 2) (.cons (.var 3) .nil))))) (.node (.app 2 0 (.cons (.var 4) (.cons (.var 5) (.cons (.var 6) (.cons (.var 7) .nil))))) (.node (.app 2 0 (.cons (.wrap .i64 (.bin .add .i64 (.var 0) (.var 4))) (.cons (.wrap .i64 (.bin .add .i64 (.var 1) (.var 5))) (.cons (.wrap .i64 (.bin .add .i64 (.var 2) (.var 6))) (.cons (.wrap .i64 (.bin .add .i64 (.var 3) (.var 7))) .nil))))) (.leaf (.tup [(.agg [(.int .i64 (.wrap .i64 (.bin .add .i64 (.var 0) (.var 4)))), (.int .i64 (.wrap .i64 (.bin .add .i64 (.var 1) (.var 5)))), (.int .i64 (.wrap .i64 (.bin .add .i64 (.var 2) (.var 6)))), (.int .i64 (.wrap .i64 (.bin .add .i64 (.var 3) (.var 7))))]), (.one (.bool (.lit true)))])) (.leaf (.tup [(.agg [(.int .i64 (.lit 0)), (.int .i64 (.lit 0)), (.int .i64 (.lit 0)), (.int .i64 (.lit 0))]), (.one (.bool (.lit false)))]))) (.leaf (.tup [(.agg [(.int .i64 (.lit 0)), (.int .i64 (.lit 0)), (.int .i64 (.lit 0)), (.int .i64 (.lit 0))]), (.one (.bool (.lit false)))]))) (.leaf (.tup [(.agg [(.int .i64 (.lit 0)), (.int .i64 (.lit 0)), (.int .i64 (.lit 0)), (.int .i64 (.lit 0))]), (.one (.bool (.lit false)))])))
theorem t_sBoxAdd_eq : explore X2 300 66 (lettersFrom 0 [4, 4]) 40 [] = t_sBoxAdd := by kernel_rfl
theorem ok_sBoxAdd (w : World) : e_sBoxAdd.ok Try.prog w (FI pv) FB := by
  refine CEnt.by_tree (e := e_sBoxAdd) (fi := FI pv) (fb := FB) (X := X2) (fuel := 300) (d := 40) (enters_of Try.func66 rfl (by kernel_rfl)) (fun w zs => X2_ok w _ rfl rfl) mixed (fun zs hz hp => ?_) w
  obtain ⟨a, b, c, d, e, f, g, i, rfl⟩ := len8 hz
  show (explore X2 300 66 (lettersFrom 0 [4, 4]) 40 []).den _ = _
  rw [t_sBoxAdd_eq]
  clear hz
  clear hp
  show Tree.den _ t_sBoxAdd = some (.tuple #[.agg #[.int .i64 (if ADB a b c d e f g i then a + e else 0), .int .i64 (if ADB a b c d e f g i then b + f else 0), .int .i64 (if ADB a b c d e f g i then c + g else 0), .int .i64 (if ADB a b c d e f g i then d + i else 0)], .bool (ADB a b c d e f g i)])
  simp only [t_sBoxAdd, Tree.den, SVal.den, CV.den, At.den, SE.den, SB.den, SL.den, IOp.den, COp.den, envOf, List.map_cons, List.map_nil, List.getD_cons_zero, List.getD_cons_succ]
  simp only [g1, g2]
  cases h1 : BV a b c d
  · have e0 : ADB a b c d e f g i = false := by unfold ADB; rw [h1]; rfl
    rw [e0]; rfl
  cases h2 : BV e f g i
  · have e0 : ADB a b c d e f g i = false := by unfold ADB; rw [h1, h2]; rfl
    rw [e0]; rfl
  have e0 : ADB a b c d e f g i = BV (a + e) (b + f) (c + g) (d + i) := by unfold ADB; rw [h1, h2]; rfl
  obtain ⟨a1, a2, a3, a4, a5, a6⟩ := (BV_iff _ _ _ _).1 h1
  obtain ⟨b1, b2, b3, b4, b5, b6⟩ := (BV_iff _ _ _ _).1 h2
  rw [wrap_in (x := a + e) (by omega) (by omega), wrap_in (x := b + f) (by omega) (by omega), wrap_in (x := c + g) (by omega) (by omega), wrap_in (x := d + i) (by omega) (by omega), e0]
  cases BV (a + e) (b + f) (c + g) (d + i) <;> rfl
def e_sBoxNorm : CEnt := ⟨64, [4], none, .tup [.one (ai (.app 34 0 (vs 4))), .one (ai (.app 34 1 (vs 4))), .one (.bool (.app 2 0 (vs 4)))]⟩
def t_sBoxNorm : Tree := (.node (.app 2 0 (.cons (.var 0) (.cons (.var 1) (.cons (.var 2) (.cons (.var 3) .nil))))) (.node (.app 100 0 (.cons (.var 0) (.cons (.var 1) .nil))) (.node (.app 100 0 (.cons (.var 2) (.cons (.var 3) .nil))) (.leaf (.tup [(.one (.int .i64 (.wrap .i64 (.bin .add .i64 (.app 31 0 (.cons (.var 0) (.cons (.var 1) .nil))) (.app 31 0 (.cons (.var 2) (.cons (.var 3) .nil))))))), (.one (.int .i64 (.wrap .i64 (.bin .add .i64 (.app 31 1 (.cons (.var 0) (.cons (.var 1) .nil))) (.app 31 1 (.cons (.var 2) (.cons (.var 3) .nil))))))), (.one (.bool (.lit true)))])) (.dead 47)) (.dead 47)) (.leaf (.tup [(.one (.int .i64 (.lit 0))), (.one (.int .i64 (.lit 0))), (.one (.bool (.lit false)))])))
theorem t_sBoxNorm_eq : explore X2 300 64 (lettersFrom 0 [4]) 40 [] = t_sBoxNorm := by kernel_rfl
theorem ok_sBoxNorm (w : World) : e_sBoxNorm.ok Try.prog w (FI pv) FB := by
  refine CEnt.by_tree (e := e_sBoxNorm) (fi := FI pv) (fb := FB) (X := X2) (fuel := 300) (d := 40) (enters_of Try.func64 rfl (by kernel_rfl)) (fun w zs => X2_ok w _ rfl rfl) mixed (fun zs hz hp => ?_) w
  obtain ⟨a, b, c, d, rfl⟩ := len4 hz
  show (explore X2 300 64 (lettersFrom 0 [4]) 40 []).den _ = _
  rw [t_sBoxNorm_eq]
  clear hz
  clear hp
  show Tree.den _ t_sBoxNorm = some (.tuple #[.int .i64 (if BV a b c d then NLo a b c d else 0), .int .i64 (if BV a b c d then NHi a b c d else 0), .bool (BV a b c d)])
  simp only [t_sBoxNorm, Tree.den, SVal.den, CV.den, At.den, SE.den, SB.den, SL.den, IOp.den, COp.den, envOf, List.map_cons, List.map_nil, List.getD_cons_zero, List.getD_cons_succ]
  simp only [g1, g2, f31_0, f31_1]
  cases h1 : BV a b c d
  · rfl
  obtain ⟨a1, a2, a3, a4, a5, a6⟩ := (BV_iff _ _ _ _).1 h1
  have s1 := sq_bd 134217728 (l := a) (h := b) (by omega) (by omega) (by omega) (by omega)
  have s2 := sq_bd 134217728 (l := c) (h := d) (by omega) (by omega) (by omega) (by omega)
  rw [t30_2 (by omega) (by omega) (by omega) (by omega), t30_2 (by omega) (by omega) (by omega) (by omega), wrap_in (by omega) (by omega), wrap_in (by omega) (by omega)]
  rfl
end Go.Proofs.Ytjbpaejjpamcpaa
