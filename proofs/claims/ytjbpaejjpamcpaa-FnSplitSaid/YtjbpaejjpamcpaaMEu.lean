import Derived.Test.YtjbpaejjpamcpaaMEt
/- The context of the states of boxes. -/
namespace Go.Proofs.Ytjbpaejjpamcpaa
set_option linter.unusedSimpArgs false
set_option linter.unusedVariables false
variable {pv : Int → Int → Int}
open Go.RowKit Eng
/-- Where a box wholly escapes: nowhere, or at an index. -/
theorem esc_rng (m c0 c1 c2 c3 : Int) : ∀ (n : Nat) (f k z0 z1 z2 z3 : Int), 0 ≤ k → (esc m c0 c1 c2 c3 n f k z0 z1 z2 z3).2.2 = -1 ∨ 0 ≤ (esc m c0 c1 c2 c3 n f k z0 z1 z2 z3).2.2
  | 0, _, _, _, _, _, _, _ => by simp [esc]
  | n + 1, f, k, z0, z1, z2, z3, hk => by
    unfold esc
    split
    · split
      · exact Or.inr hk
      · split
        · exact esc_rng m c0 c1 c2 c3 n _ _ _ _ _ _ (by omega)
        · simp
    · simp
theorem escW_rng (a b c d m : Int) : escW a b c d m = -1 ∨ 0 ≤ escW a b c d m := esc_rng m a b c d 402 (-1) 0 0 0 0 0 (by omega)
def GE4 : List CEnt := [e_iBoxEscape, e_sBoxEscape] ++ G3
theorem GE4_ok : ∀ e ∈ GE4, ∀ w : World, e.ok Try.prog w (FI pv) FB := by
  intro e he w
  rcases List.mem_append.1 he with he | he
  case inr => exact G3_ok e he w
  simp only [List.mem_cons, List.not_mem_nil, or_false] at he
  rcases he with rfl | rfl
  · exact ok_iBoxEscape w
  · exact ok_sBoxEscape w
def XE4c (P : Program) : Cx := { P := P, G := GE4, en := en3, call := nil0 }
noncomputable def XE4 : Cx := XE4c Try.prog
theorem XE4_ok (w : World) (E : Env) (hi : E.fi = FI pv) (hb : E.fb = FB) : XOk XE4 w E := xok GE4_ok en3_ok w E hi hb
end Go.Proofs.Ytjbpaejjpamcpaa
/- The contracts of the states of boxes. -/
namespace Go.Proofs.Ytjbpaejjpamcpaa
set_option linter.unusedSimpArgs false
set_option linter.unusedVariables false
variable {pv : Int → Int → Int}
open Go.RowKit Eng
def e_iCellState : CEnt := ⟨13, [4, 0], none, .tup [.one (ai (.app 52 0 (vs 5))), .one (.bool (.app 2 0 (vs 4)))]⟩
def t_iCellState : Tree := (.node (.app 2 0 (.cons (.var 0) (.cons (.var 1) (.cons (.var 2) (.cons (.var 3) .nil))))) (.node (.cmp .le (.app 35 0 (.cons (.var 0) (.cons (.var 1) (.cons (.var 2) (.cons (.var 3) .nil))))) (.lit 0)) (.leaf (.tup [(.one (.int .i64 (.lit 1))), (.one (.bool (.lit true)))])) (.node (.cmp .le (.app 36 0 (.cons (.var 0) (.cons (.var 1) (.cons (.var 2) (.cons (.var 3) .nil))))) (.lit 0)) (.leaf (.tup [(.one (.int .i64 (.lit 1))), (.one (.bool (.lit true)))])) (.node (.cmp .eq (.app 51 1 (.cons (.var 0) (.cons (.var 1) (.cons (.var 2) (.cons (.var 3) (.cons (.var 4) .nil)))))) (.lit (-1))) (.leaf (.tup [(.one (.int .i64 (.lit 0))), (.one (.bool (.lit true)))])) (.leaf (.tup [(.one (.int .i64 (.lit (-1)))), (.one (.bool (.lit true)))]))))) (.leaf (.tup [(.one (.int .i64 (.lit 0))), (.one (.bool (.lit false)))])))
theorem t_iCellState_eq : explore XE4 200 13 (lettersFrom 0 [4, 0]) 40 [] = t_iCellState := by kernel_rfl
theorem ok_iCellState (w : World) : e_iCellState.ok Try.prog w (FI pv) FB := by
  refine CEnt.by_tree (e := e_iCellState) (fi := FI pv) (fb := FB) (X := XE4) (fuel := 200) (d := 40) (enters_of Try.func13 rfl (by kernel_rfl)) (fun w zs => XE4_ok w _ rfl rfl) mixed (fun zs hz hp => ?_) w
  obtain ⟨a, b, c, d, e, rfl⟩ := len5 hz
  show (explore XE4 200 13 (lettersFrom 0 [4, 0]) 40 []).den _ = _
  rw [t_iCellState_eq]
  clear hz
  clear hp
  show Tree.den _ t_iCellState = some (.tuple #[.int .i64 (FI pv 52 0 [a, b, c, d, e]), .bool (BV a b c d)])
  simp only [t_iCellState, Tree.den, SVal.den, CV.den, At.den, SE.den, SB.den, SL.den, IOp.den, COp.den, envOf, List.map_cons, List.map_nil, List.getD_cons_zero, List.getD_cons_succ]
  simp only [g2]
  cases h : BV a b c d
  · have e0 : FI pv 52 0 [a, b, c, d, e] = 0 := show FI0 52 0 [a, b, c, d, e] = 0 from if_neg (show ¬ BV a b c d = true by rw [h]; decide)
    rw [e0]; rfl
  · have e0 : FI pv 52 0 [a, b, c, d, e] = CST a b c d e := show FI0 52 0 [a, b, c, d, e] = _ from if_pos h
    have e1 : FI pv 35 0 [a, b, c, d] = CBD a b c d := show FI0 35 0 [a, b, c, d] = _ from if_pos h
    have e2 : FI pv 36 0 [a, b, c, d] = DBD a b c d := show FI0 36 0 [a, b, c, d] = _ from if_pos h
    have e3 : FI pv 51 1 [a, b, c, d, e] = escW a b c d e := show FI0 51 1 [a, b, c, d, e] = _ from if_pos h
    have hw := escW_rng a b c d e
    have g5 : (escW a b c d e == -1) = decide (escW a b c d e = -1) := rfl
    simp only [e0, e1, e2, e3, g5]
    unfold CST
    by_cases g1 : CBD a b c d ≤ 0 <;> by_cases g2 : DBD a b c d ≤ 0 <;> by_cases g3 : escW a b c d e = -1 <;> by_cases g4 : 0 ≤ escW a b c d e <;> first | omega | (simp [g1, g2, g5, g3, g4]; done)
def e_sCellState : CEnt := ⟨15, [4, 0], none, .tup [.one (ai (.app 52 0 (vs 5))), .one (.bool (.app 2 0 (vs 4)))]⟩
def t_sCellState : Tree := (.node (.app 2 0 (.cons (.var 0) (.cons (.var 1) (.cons (.var 2) (.cons (.var 3) .nil))))) (.node (.cmp .le (.app 35 0 (.cons (.var 0) (.cons (.var 1) (.cons (.var 2) (.cons (.var 3) .nil))))) (.lit 0)) (.leaf (.tup [(.one (.int .i64 (.lit 1))), (.one (.bool (.lit true)))])) (.node (.cmp .le (.app 36 0 (.cons (.var 0) (.cons (.var 1) (.cons (.var 2) (.cons (.var 3) .nil))))) (.lit 0)) (.leaf (.tup [(.one (.int .i64 (.lit 1))), (.one (.bool (.lit true)))])) (.node (.cmp .le (.lit 0) (.app 51 1 (.cons (.var 0) (.cons (.var 1) (.cons (.var 2) (.cons (.var 3) (.cons (.var 4) .nil))))))) (.leaf (.tup [(.one (.int .i64 (.lit (-1)))), (.one (.bool (.lit true)))])) (.leaf (.tup [(.one (.int .i64 (.lit 0))), (.one (.bool (.lit true)))]))))) (.leaf (.tup [(.one (.int .i64 (.lit 0))), (.one (.bool (.lit false)))])))
theorem t_sCellState_eq : explore XE4 200 15 (lettersFrom 0 [4, 0]) 40 [] = t_sCellState := by kernel_rfl
theorem ok_sCellState (w : World) : e_sCellState.ok Try.prog w (FI pv) FB := by
  refine CEnt.by_tree (e := e_sCellState) (fi := FI pv) (fb := FB) (X := XE4) (fuel := 200) (d := 40) (enters_of Try.func15 rfl (by kernel_rfl)) (fun w zs => XE4_ok w _ rfl rfl) mixed (fun zs hz hp => ?_) w
  obtain ⟨a, b, c, d, e, rfl⟩ := len5 hz
  show (explore XE4 200 15 (lettersFrom 0 [4, 0]) 40 []).den _ = _
  rw [t_sCellState_eq]
  clear hz
  clear hp
  show Tree.den _ t_sCellState = some (.tuple #[.int .i64 (FI pv 52 0 [a, b, c, d, e]), .bool (BV a b c d)])
  simp only [t_sCellState, Tree.den, SVal.den, CV.den, At.den, SE.den, SB.den, SL.den, IOp.den, COp.den, envOf, List.map_cons, List.map_nil, List.getD_cons_zero, List.getD_cons_succ]
  simp only [g2]
  cases h : BV a b c d
  · have e0 : FI pv 52 0 [a, b, c, d, e] = 0 := show FI0 52 0 [a, b, c, d, e] = 0 from if_neg (show ¬ BV a b c d = true by rw [h]; decide)
    rw [e0]; rfl
  · have e0 : FI pv 52 0 [a, b, c, d, e] = CST a b c d e := show FI0 52 0 [a, b, c, d, e] = _ from if_pos h
    have e1 : FI pv 35 0 [a, b, c, d] = CBD a b c d := show FI0 35 0 [a, b, c, d] = _ from if_pos h
    have e2 : FI pv 36 0 [a, b, c, d] = DBD a b c d := show FI0 36 0 [a, b, c, d] = _ from if_pos h
    have e3 : FI pv 51 1 [a, b, c, d, e] = escW a b c d e := show FI0 51 1 [a, b, c, d, e] = _ from if_pos h
    simp only [e0, e1, e2, e3]
    unfold CST
    by_cases g1 : CBD a b c d ≤ 0 <;> by_cases g2 : DBD a b c d ≤ 0 <;> by_cases g4 : 0 ≤ escW a b c d e <;> first | omega | (simp [g1, g2, g4]; done)
end Go.Proofs.Ytjbpaejjpamcpaa
