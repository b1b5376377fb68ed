/- The contracts of the functions on orbits of boxes, in the reference. -/
import Derived.Test.YtjbpaejjpamcpaaEs2
namespace Go.Proofs.Ytjbpaejjpamcpaa
set_option linter.unusedSimpArgs false
set_option linter.unusedVariables false
variable {pv : Int → Int → Int}
open Go.RowKit Eng
def e_sBoxEscape : CEnt := ⟨29, [4, 0], none, .tup [.one (ai (.app 51 0 (vs 5))), .one (ai (.app 51 1 (vs 5))), .one (.bool (.app 2 0 (vs 4)))]⟩
def t_sBoxEscape : Tree := (.node (.app 2 0 (.cons (.var 0) (.cons (.var 1) (.cons (.var 2) (.cons (.var 3) .nil))))) (.node (.cmp .eq (.app 50 99 (.cons (.var 4) (.cons (.lit (-1)) (.cons (.lit 0) (.cons (.var 0) (.cons (.var 1) (.cons (.var 2) (.cons (.var 3) (.cons (.lit 0) (.cons (.lit 0) (.cons (.lit 0) (.cons (.lit 0) .nil)))))))))))) (.lit 0)) (.leaf (.tup [(.one (.int .i64 (.app 50 0 (.cons (.var 4) (.cons (.lit (-1)) (.cons (.lit 0) (.cons (.var 0) (.cons (.var 1) (.cons (.var 2) (.cons (.var 3) (.cons (.lit 0) (.cons (.lit 0) (.cons (.lit 0) (.cons (.lit 0) .nil)))))))))))))), (.one (.int .i64 (.app 50 1 (.cons (.var 4) (.cons (.lit (-1)) (.cons (.lit 0) (.cons (.var 0) (.cons (.var 1) (.cons (.var 2) (.cons (.var 3) (.cons (.lit 0) (.cons (.lit 0) (.cons (.lit 0) (.cons (.lit 0) .nil)))))))))))))), (.one (.bool (.lit true)))])) (.node (.cmp .eq (.app 50 99 (.cons (.var 4) (.cons (.lit (-1)) (.cons (.lit 0) (.cons (.var 0) (.cons (.var 1) (.cons (.var 2) (.cons (.var 3) (.cons (.lit 0) (.cons (.lit 0) (.cons (.lit 0) (.cons (.lit 0) .nil)))))))))))) (.lit 1)) (.leaf (.tup [(.one (.int .i64 (.app 50 10 (.cons (.var 4) (.cons (.lit (-1)) (.cons (.lit 0) (.cons (.var 0) (.cons (.var 1) (.cons (.var 2) (.cons (.var 3) (.cons (.lit 0) (.cons (.lit 0) (.cons (.lit 0) (.cons (.lit 0) .nil)))))))))))))), (.one (.int .i64 (.lit (-1)))), (.one (.bool (.lit true)))])) (.dead 11))) (.leaf (.tup [(.one (.int .i64 (.lit 0))), (.one (.int .i64 (.lit 0))), (.one (.bool (.lit false)))])))
theorem t_sBoxEscape_eq : explore XE2 200 29 (lettersFrom 0 [4, 0]) 40 [] = t_sBoxEscape := by kernel_rfl
theorem ok_sBoxEscape (w : World) : e_sBoxEscape.ok Try.prog w (FI pv) FB := by
  refine CEnt.by_tree (e := e_sBoxEscape) (fi := FI pv) (fb := FB) (X := XE2) (fuel := 200) (d := 40) (enters_of Try.func29 rfl (by kernel_rfl)) (fun w zs => XE2_ok w _ rfl rfl) mixed (fun zs hz hp => ?_) w
  obtain ⟨a, b, c, d, e, rfl⟩ := len5 hz
  show (explore XE2 200 29 (lettersFrom 0 [4, 0]) 40 []).den _ = _
  rw [t_sBoxEscape_eq]
  clear hz
  clear hp
  show Tree.den _ t_sBoxEscape = some (.tuple #[.int .i64 (FI pv 51 0 [a, b, c, d, e]), .int .i64 (FI pv 51 1 [a, b, c, d, e]), .bool (BV a b c d)])
  simp only [t_sBoxEscape, Tree.den, SVal.den, CV.den, At.den, SE.den, SB.den, SL.den, IOp.den, COp.den, envOf, List.map_cons, List.map_nil, List.getD_cons_zero, List.getD_cons_succ]
  simp only [show ∀ a b c d, FB 2 0 [a, b, c, d] = BV a b c d from fun _ _ _ _ => rfl]
  cases h : BV a b c d
  · have e0 : FI pv 51 0 [a, b, c, d, e] = 0 := show FI0 51 0 [a, b, c, d, e] = 0 from if_neg (show ¬ BV a b c d = true by rw [h]; decide)
    have e1 : FI pv 51 1 [a, b, c, d, e] = 0 := show FI0 51 1 [a, b, c, d, e] = 0 from if_neg (show ¬ BV a b c d = true by rw [h]; decide)
    rw [e0, e1]; rfl
  · have e0 : FI pv 51 0 [a, b, c, d, e] = (esc e a b c d 402 (-1) 0 0 0 0 0).2.1 := show FI0 51 0 [a, b, c, d, e] = _ from if_pos h
    have e1 : FI pv 51 1 [a, b, c, d, e] = (esc e a b c d 402 (-1) 0 0 0 0 0).2.2 := show FI0 51 1 [a, b, c, d, e] = _ from if_pos h
    rw [e0, e1]
    have hle := esc_le e a b c d 402 (-1) 0 0 0 0 0
    have hc : (esc e a b c d 402 (-1) 0 0 0 0 0).1 = 0 ∨ (esc e a b c d 402 (-1) 0 0 0 0 0).1 = 1 := by omega
    have g9 : FI pv 50 99 [e, -1, 0, a, b, c, d, 0, 0, 0, 0] = ((esc e a b c d 402 (-1) 0 0 0 0 0).1 : Int) := rfl
    have g0 : FI pv 50 0 [e, -1, 0, a, b, c, d, 0, 0, 0, 0] = (esc e a b c d 402 (-1) 0 0 0 0 0).2.1 := rfl
    have g1 : FI pv 50 1 [e, -1, 0, a, b, c, d, 0, 0, 0, 0] = (esc e a b c d 402 (-1) 0 0 0 0 0).2.2 := rfl
    have g2 : FI pv 50 10 [e, -1, 0, a, b, c, d, 0, 0, 0, 0] = (esc e a b c d 402 (-1) 0 0 0 0 0).2.1 := rfl
    rw [g9]
    rcases hc with hc | hc
    · rw [hc, g0, g1]; rfl
    · have := esc_end e a b c d 402 (-1) 0 0 0 0 0 hc
      rw [hc, g2, this]; rfl
end Go.Proofs.Ytjbpaejjpamcpaa
