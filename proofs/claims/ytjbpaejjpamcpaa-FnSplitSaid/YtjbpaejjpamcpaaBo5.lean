/- Contracts of the greater functions on boxes, by the reckoner: bounds. -/
import Derived.Test.YtjbpaejjpamcpaaBoB
namespace Go.Proofs.Ytjbpaejjpamcpaa
set_option linter.unusedSimpArgs false
set_option linter.unusedVariables false
variable {pv : Int → Int → Int}
open Go.RowKit Eng

def e_iDiscBound : CEnt := ⟨23, [4], none, .tup [.one (ai (.app 36 0 (vs 4))), .one (.bool (.app 2 0 (vs 4)))]⟩
def t_iDiscBound : Tree := (.node (.app 2 0 (.cons (.var 0) (.cons (.var 1) (.cons (.var 2) (.cons (.var 3) .nil))))) (.node (.app 103 0 (.cons (.var 0) (.cons (.var 1) (.cons (.lit 12) .nil)))) (.node (.app 103 0 (.cons (.var 2) (.cons (.var 3) (.cons (.lit 12) .nil)))) (.node (.app 101 0 (.cons (.app 32 0 (.cons (.var 0) (.cons (.lit 12) .nil))) (.cons (.app 32 1 (.cons (.var 1) (.cons (.lit 12) .nil))) (.cons (.lit 4096) (.cons (.lit 4096) .nil))))) (.node (.app 100 0 (.cons (.bin .add .i64 (.app 32 0 (.cons (.var 0) (.cons (.lit 12) .nil))) (.lit 4096)) (.cons (.bin .add .i64 (.app 32 1 (.cons (.var 1) (.cons (.lit 12) .nil))) (.lit 4096)) .nil))) (.node (.app 100 0 (.cons (.app 32 0 (.cons (.var 2) (.cons (.lit 12) .nil))) (.cons (.app 32 1 (.cons (.var 3) (.cons (.lit 12) .nil))) .nil))) (.node (.app 101 0 (.cons (.app 31 0 (.cons (.bin .add .i64 (.app 32 0 (.cons (.var 0) (.cons (.lit 12) .nil))) (.lit 4096)) (.cons (.bin .add .i64 (.app 32 1 (.cons (.var 1) (.cons (.lit 12) .nil))) (.lit 4096)) .nil))) (.cons (.app 31 1 (.cons (.bin .add .i64 (.app 32 0 (.cons (.var 0) (.cons (.lit 12) .nil))) (.lit 4096)) (.cons (.bin .add .i64 (.app 32 1 (.cons (.var 1) (.cons (.lit 12) .nil))) (.lit 4096)) .nil))) (.cons (.app 31 0 (.cons (.app 32 0 (.cons (.var 2) (.cons (.lit 12) .nil))) (.cons (.app 32 1 (.cons (.var 3) (.cons (.lit 12) .nil))) .nil))) (.cons (.app 31 1 (.cons (.app 32 0 (.cons (.var 2) (.cons (.lit 12) .nil))) (.cons (.app 32 1 (.cons (.var 3) (.cons (.lit 12) .nil))) .nil))) .nil))))) (.leaf (.tup [(.one (.int .i64 (.wrap .i64 (.bin .sub .i64 (.bin .add .i64 (.app 31 1 (.cons (.bin .add .i64 (.app 32 0 (.cons (.var 0) (.cons (.lit 12) .nil))) (.lit 4096)) (.cons (.bin .add .i64 (.app 32 1 (.cons (.var 1) (.cons (.lit 12) .nil))) (.lit 4096)) .nil))) (.app 31 1 (.cons (.app 32 0 (.cons (.var 2) (.cons (.lit 12) .nil))) (.cons (.app 32 1 (.cons (.var 3) (.cons (.lit 12) .nil))) .nil)))) (.lit 1048576))))), (.one (.bool (.lit true)))])) (.dead 47)) (.dead 47)) (.dead 47)) (.dead 47)) (.dead 47)) (.dead 47)) (.leaf (.tup [(.one (.int .i64 (.lit 0))), (.one (.bool (.lit false)))])))
theorem t_iDiscBound_eq : explore X2 300 23 (lettersFrom 0 [4]) 40 [] = t_iDiscBound := by kernel_rfl
theorem ok_iDiscBound (w : World) : e_iDiscBound.ok Try.prog w (FI pv) FB := by
  refine CEnt.by_tree (e := e_iDiscBound) (fi := FI pv) (fb := FB) (X := X2) (fuel := 300) (d := 40) (enters_of Try.func23 rfl (by kernel_rfl)) (fun w zs => X2_ok w _ rfl rfl) mixed (fun zs hz hp => ?_) w
  obtain ⟨a, b, c, d, rfl⟩ := len4 hz
  show (explore X2 300 23 (lettersFrom 0 [4]) 40 []).den _ = _
  rw [t_iDiscBound_eq]
  clear hz
  clear hp
  show Tree.den _ t_iDiscBound = some (.tuple #[.int .i64 (if BV a b c d then DBD a b c d else 0), .bool (BV a b c d)])
  simp only [t_iDiscBound, Tree.den, SVal.den, CV.den, At.den, SE.den, SB.den, SL.den, IOp.den, COp.den, envOf, List.map_cons, List.map_nil, List.getD_cons_zero, List.getD_cons_succ]
  simp only [g2, f31_0, f31_1, f32_0_12, f32_1_12]
  cases h1 : BV a b c d
  · rfl
  obtain ⟨a1, a2, a3, a4, a5, a6⟩ := (BV_iff _ _ _ _).1 h1
  have q1 := coarse_bd a1 a2 a3
  have q2 := coarse_bd a4 a5 a6
  unfold DBD cyH
  generalize fl a 4096 = A at *; generalize ce b 4096 = B at *; generalize fl c 4096 = C at *; generalize ce d 4096 = D at *
  have s1 := sq_bd 40000 (l := A + 4096) (h := B + 4096) (by omega) (by omega) (by omega) (by omega)
  have s2 := sq_bd 40000 (l := C) (h := D) (by omega) (by omega) (by omega) (by omega)
  rw [t103 (by omega) (by omega) (by omega), t103 (by omega) (by omega) (by omega), t60_4 (by omega) (by omega) (by omega) (by omega), t30_2 (by omega) (by omega) (by omega) (by omega), t30_2 (by omega) (by omega) (by omega) (by omega), t60_4 (by omega) (by omega) (by omega) (by omega), wrap_in (by omega) (by omega)]
  rfl
def e_sDiscBound : CEnt := ⟨28, [4], none, .tup [.one (ai (.app 36 0 (vs 4))), .one (.bool (.app 2 0 (vs 4)))]⟩
def t_sDiscBound : Tree := (.node (.app 2 0 (.cons (.var 0) (.cons (.var 1) (.cons (.var 2) (.cons (.var 3) .nil))))) (.node (.app 102 0 (.cons (.var 0) (.cons (.lit 4096) .nil))) (.node (.app 102 0 (.cons (.var 1) (.cons (.lit 4096) .nil))) (.node (.app 102 0 (.cons (.var 2) (.cons (.lit 4096) .nil))) (.node (.app 102 0 (.cons (.var 3) (.cons (.lit 4096) .nil))) (.node (.app 100 0 (.cons (.wrap .i64 (.bin .add .i64 (.app 33 0 (.cons (.var 0) (.cons (.lit 4096) .nil))) (.lit 4096))) (.cons (.wrap .i64 (.bin .add .i64 (.app 33 1 (.cons (.var 1) (.cons (.lit 4096) .nil))) (.lit 4096))) .nil))) (.node (.app 100 0 (.cons (.app 33 0 (.cons (.var 2) (.cons (.lit 4096) .nil))) (.cons (.app 33 1 (.cons (.var 3) (.cons (.lit 4096) .nil))) .nil))) (.leaf (.tup [(.one (.int .i64 (.wrap .i64 (.bin .sub .i64 (.wrap .i64 (.bin .add .i64 (.app 31 1 (.cons (.wrap .i64 (.bin .add .i64 (.app 33 0 (.cons (.var 0) (.cons (.lit 4096) .nil))) (.lit 4096))) (.cons (.wrap .i64 (.bin .add .i64 (.app 33 1 (.cons (.var 1) (.cons (.lit 4096) .nil))) (.lit 4096))) .nil))) (.app 31 1 (.cons (.app 33 0 (.cons (.var 2) (.cons (.lit 4096) .nil))) (.cons (.app 33 1 (.cons (.var 3) (.cons (.lit 4096) .nil))) .nil))))) (.lit 1048576))))), (.one (.bool (.lit true)))])) (.dead 47)) (.dead 47)) (.dead 47)) (.dead 47)) (.dead 47)) (.dead 47)) (.leaf (.tup [(.one (.int .i64 (.lit 0))), (.one (.bool (.lit false)))])))
theorem t_sDiscBound_eq : explore X2 300 28 (lettersFrom 0 [4]) 40 [] = t_sDiscBound := by kernel_rfl
theorem ok_sDiscBound (w : World) : e_sDiscBound.ok Try.prog w (FI pv) FB := by
  refine CEnt.by_tree (e := e_sDiscBound) (fi := FI pv) (fb := FB) (X := X2) (fuel := 300) (d := 40) (enters_of Try.func28 rfl (by kernel_rfl)) (fun w zs => X2_ok w _ rfl rfl) mixed (fun zs hz hp => ?_) w
  obtain ⟨a, b, c, d, rfl⟩ := len4 hz
  show (explore X2 300 28 (lettersFrom 0 [4]) 40 []).den _ = _
  rw [t_sDiscBound_eq]
  clear hz
  clear hp
  show Tree.den _ t_sDiscBound = some (.tuple #[.int .i64 (if BV a b c d then DBD a b c d else 0), .bool (BV a b c d)])
  simp only [t_sDiscBound, Tree.den, SVal.den, CV.den, At.den, SE.den, SB.den, SL.den, IOp.den, COp.den, envOf, List.map_cons, List.map_nil, List.getD_cons_zero, List.getD_cons_succ]
  simp only [g2, f31_0, f31_1, f33_0, f33_1]
  cases h1 : BV a b c d
  · rfl
  obtain ⟨a1, a2, a3, a4, a5, a6⟩ := (BV_iff _ _ _ _).1 h1
  have q1 := coarse_bd a1 a2 a3
  have q2 := coarse_bd a4 a5 a6
  unfold DBD cyH
  generalize fl a 4096 = A at *; generalize ce b 4096 = B at *; generalize fl c 4096 = C at *; generalize ce d 4096 = D at *
  have s1 := sq_bd 40000 (l := A + 4096) (h := B + 4096) (by omega) (by omega) (by omega) (by omega)
  have s2 := sq_bd 40000 (l := C) (h := D) (by omega) (by omega) (by omega) (by omega)
  rw [wrap_in (x := A + 4096) (by omega) (by omega), wrap_in (x := B + 4096) (by omega) (by omega), wrap_in (x := sqHi (A + 4096) (B + 4096) + sqHi C D) (by omega) (by omega), wrap_in (by omega) (by omega)]
  rw [t102 (by omega) (by omega), t102 (by omega) (by omega), t102 (by omega) (by omega), t102 (by omega) (by omega), t30_2 (by omega) (by omega) (by omega) (by omega), t30_2 (by omega) (by omega) (by omega) (by omega)]
  rfl
end Go.Proofs.Ytjbpaejjpamcpaa
