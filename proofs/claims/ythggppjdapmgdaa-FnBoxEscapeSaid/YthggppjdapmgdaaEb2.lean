/- The outer loop of the law of escapes of drawn boxes. -/
import Derived.Test.YthggppjdapmgdaaEb1c
namespace Go.Proofs.Ythggppjdapmgdaa
set_option linter.unusedSimpArgs false
set_option linter.unusedVariables false
variable {pv : Int → Int → Int}
open Go.RowKit Eng
theorem len12e {zs : List Int} (h : zs.length = 12) : ∃ x0 x1 x2 x3 x4 x5 x6 x7 x8 x9 x10 x11, zs = [x0, x1, x2, x3, x4, x5, x6, x7, x8, x9, x10, x11] := by
  match zs, h with
  | [x0, x1, x2, x3, x4, x5, x6, x7, x8, x9, x10, x11], _ => exact ⟨x0, x1, x2, x3, x4, x5, x6, x7, x8, x9, x10, x11, rfl⟩
theorem inB {a b c d i : Int} (h : BV a b c d = true) (h0 : 0 ≤ i) (h9 : i < 9) : FB 8 0 [a, b, c, d, FI pv 59 0 [a, b, c, d, i], FI pv 59 1 [a, b, c, d, i], FI pv 59 2 [a, b, c, d, i]] = true := by
  obtain ⟨p1, p2, p3, p4, p5, p6⟩ := (BV_iff _ _ _ _).1 h
  refine (BH_in (pv := pv) (x := pk3 a b (i / 3)) (y := pk3 c d (i % 3)) h ?_ ?_).2
  · unfold pk3
    split
    · omega
    split <;> omega
  · unfold pk3
    split
    · omega
    split <;> omega
def l_bO : LEnt := (.mk 11 [false, true, false, true, true, true, true, true, true, true] (.mk [.any, .any, .any, .any, (.cv (.one (.int .i64 (.var 0)))), (.cv (.one (.int .i64 (.var 1)))), (.cv (.one (.int .i64 (.var 2)))), .any, .any, .any, .any, (.cv (.one (.slc 1 (.lit 9)))), (.cv (.one (.int .i64 (.var 3)))), .any, .any, .any, .any, .any, .any, .any, .any, .any, .any, .any, .any, .any, .any, .any, .any, .any, .any, .any, .any, .any, .any, .any, .any, .any, .any, .any, .any, .any, .any, .any, .any, .any, .any, .any, .any, .any, .any, .any, .any, .any, .any, .any, .any, .any, .any, .any, .any, .any, .any, .any, .any, .any, .any, .any, .any, .any, .any, .any, .any, .any, .any, .any, .any, .any, .any, .any, .any, .any, .any, .any, .any, .any, .any, .any, .any, .any, .any, .any, .any, .any, .any, .any, .any, .any, .any, .any, .any, .any, .any, .any, .any, .any, .any, .any, .any, .any, .any, .any, .any, .any, .any, .any, .any, .any, .any, .any, .any, .any, .any, .any, .any, .any, .any, .any, .any, .any, .any, .any, .any, .any, .any, .any, .any, .any] [(.blk (.mk 35 [(.int .i64 (.var 4)), (.int .i64 (.var 5)), (.int .i64 (.var 6)), (.int .i64 (.var 7))] 0 none)), (.blk (.mk 24 [] 0 (some (.row (.mk 59 3 [(.var 8), (.var 9), (.var 10), (.var 11)] (.lit 9) (.lit 9) none [])))))]) 12 64 (some (ands [qEq (vv 1) (.app 51 0 (SL.of [vv 8, vv 9, vv 10, vv 11, vv 0])), qEq (vv 2) (.app 51 1 (SL.of [vv 8, vv 9, vv 10, vv 11, vv 0])), .app 2 0 (SL.of [vv 8, vv 9, vv 10, vv 11]), qLe (.lit 0) (vv 3)])) [((.exit 0), (.mk [.any, .any, .any, .any, .any, (.cv (.one (.int .i64 (.var 0)))), (.cv (.one (.int .i64 (.var 1)))), .any, .any, .any, .any, .any, .any, .any, .any, .any, .any, .any, .any, .any, .any, .any, .any, .any, .any, .any, .any, .any, .any, .any, .any, .any, .any, .any, .any, .any, .any, .any, .any, .any, .any, .any, .any, .any, .any, .any, .any, .any, .any, .any, .any, .any, .any, .any, .any, .any, .any, .any, .any, .any, .any, .any, .any, .any, .any, .any, .any, .any, .any, .any, .any, .any, .any, .any, .any, .any, .any, .any, .any, .any, .any, .any, .any, .any, .any, .any, .any, .any, .any, .any, .any, .any, .any, .any, .any, .any, .any, .any, .any, .any, .any, .any, .any, .any, .any, .any, .any, .any, .any, .any, .any, .any, .any, .any, .any, .any, .any, .any, .any, .any, .any, .any, .any, .any, .any, .any, .any, .any, .any, .any, .any, .any, .any, .any, .any, .any, .any, .any] [.dead, .dead]), 0, [1, 2])])
def bt_bO : BTree := (.node (.cmp .lt (.var 3) (.lit 9)) (.node (.cmp .le (.lit 0) (.var 3)) (.node (.and (.cmp .eq (.var 1) (.app 51 0 (.cons (.var 8) (.cons (.var 9) (.cons (.var 10) (.cons (.var 11) (.cons (.var 0) .nil))))))) (.and (.cmp .eq (.var 2) (.app 51 1 (.cons (.var 8) (.cons (.var 9) (.cons (.var 10) (.cons (.var 11) (.cons (.var 0) .nil))))))) (.app 8 0 (.cons (.var 8) (.cons (.var 9) (.cons (.var 10) (.cons (.var 11) (.cons (.app 59 0 (.cons (.var 8) (.cons (.var 9) (.cons (.var 10) (.cons (.var 11) (.cons (.var 3) .nil)))))) (.cons (.app 59 1 (.cons (.var 8) (.cons (.var 9) (.cons (.var 10) (.cons (.var 11) (.cons (.var 3) .nil)))))) (.cons (.app 59 2 (.cons (.var 8) (.cons (.var 9) (.cons (.var 10) (.cons (.var 11) (.cons (.var 3) .nil)))))) .nil)))))))))) (.next [(.var 0), (.var 1), (.var 2), (.wrap .i64 (.bin .add .i64 (.var 3) (.lit 1))), (.var 4), (.var 5), (.var 6), (.var 7), (.var 8), (.var 9), (.var 10), (.var 11)]) (.dead 1092)) (.dead 1047)) (.out 0 [(.var 1), (.var 2)]))
theorem bt_bO_eq : bodyTree XE10 l_bO 200 80 = bt_bO := by kernel_rfl
theorem lok_bO (w : World) : l_bO.ok Try.prog w (FI pv) FB := by
  refine LEnt.by_loop (X := XE10) (fun zs => XE10_ok w _ rfl rfl) mixed bt_bO_eq (fun zs hz hp => ?_)
  obtain ⟨m, out, got, i, e0, e1, e2, e3, a, b, c, d, rfl⟩ := len12e hz
  have hp := ands_den _ _ (hp _ rfl)
  simp only [List.forall_mem_cons, qEq, qLe, SB.den, COp.den, SE.den, SL.den, SL.of, IOp.den, vv, envOf, List.getD_cons_zero, List.getD_cons_succ, beq_iff_eq, decide_eq_true_eq, ite_max] at hp
  obtain ⟨hL, hW, hb, h0, -⟩ := hp
  have hb : BV a b c d = true := hb
  have key : ∀ (j : Nat) (i : Int), 0 ≤ i → 9 ≤ i + j → loopF (FI pv) FB bt_bO (j + 1) [m, out, got, i, e0, e1, e2, e3, a, b, c, d] = some (0, [out, got]) := by
    intro j
    induction j with
    | zero =>
      intro i h0 h2
      unfold loopF
      simp only [bt_bO, BTree.den, SE.den, SB.den, SL.den, COp.den, IOp.den, envOf, List.map_cons, List.map_nil, List.getD_cons_zero, List.getD_cons_succ, ite_max, ite_min]
      rw [decide_eq_false (p := i < 9) (by omega)]
      rfl
    | succ j ih =>
      intro i h0 h2
      unfold loopF
      simp only [bt_bO, BTree.den, SE.den, SB.den, SL.den, COp.den, IOp.den, envOf, List.map_cons, List.map_nil, List.getD_cons_zero, List.getD_cons_succ, ite_max, ite_min]
      by_cases hc : i < 9
      · rw [decide_eq_true hc, decide_eq_true (p := (0 : Int) ≤ i) h0, ← hL, ← hW, beq_self_eq_true, beq_self_eq_true, inB hb h0 hc, wrap_in (x := i + 1) (by omega) (by omega)]
        exact ih (i + 1) (by omega) (by omega)
      · rw [decide_eq_false hc]
        rfl
  exact ⟨(9 - i).toNat + 1, 0, _, _, _, _, _, key _ i h0 (by omega), rfl, Or.inl rfl, rfl⟩
end Go.Proofs.Ythggppjdapmgdaa
