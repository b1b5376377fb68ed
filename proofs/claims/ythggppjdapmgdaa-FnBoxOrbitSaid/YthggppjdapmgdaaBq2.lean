/- The outer loop of the law of orbits of drawn boxes. -/
import Derived.Test.YthggppjdapmgdaaBq1c
namespace Go.Proofs.Ythggppjdapmgdaa
set_option linter.unusedSimpArgs false
set_option linter.unusedVariables false
variable {pv : Int → Int → Int}
open Go.RowKit Eng
theorem len17q {zs : List Int} (h : zs.length = 17) : ∃ x0 x1 x2 x3 x4 x5 x6 x7 x8 x9 x10 x11 x12 x13 x14 x15 x16, zs = [x0, x1, x2, x3, x4, x5, x6, x7, x8, x9, x10, x11, x12, x13, x14, x15, x16] := by
  match zs, h with
  | [x0, x1, x2, x3, x4, x5, x6, x7, x8, x9, x10, x11, x12, x13, x14, x15, x16], _ => exact ⟨x0, x1, x2, x3, x4, x5, x6, x7, x8, x9, x10, x11, x12, x13, x14, x15, x16, rfl⟩
theorem inB {a b c d i : Int} (h : BV a b c d = true) (h0 : 0 ≤ i) (h9 : i < 9) : FB 8 0 [a, b, c, d, FI pv 59 0 [a, b, c, d, i], FI pv 59 1 [a, b, c, d, i], FI pv 59 2 [a, b, c, d, i]] = true := by
  obtain ⟨p1, p2, p3, p4, p5, p6⟩ := (BV_iff _ _ _ _).1 h
  refine (BH_in (pv := pv) (x := pk3 a b (i / 3)) (y := pk3 c d (i % 3)) h ?_ ?_).2
  · unfold pk3
    split
    · omega
    split <;> omega
  · unfold pk3
    split
    · omega
    split <;> omega
def l_qO : LEnt := (.mk 9 [false, true, false, true, true, true, true, true, true, true] (.mk [.any, .any, .any, .any, (.cv (.one (.int .i64 (.var 0)))), (.cv (.one (.slc 1 (.var 1)))), .any, .any, .any, (.cv (.one (.slc 3 (.lit 9)))), (.cv (.one (.int .i64 (.var 2)))), .any, .any, .any, .any, .any, .any, .any, .any, .any, .any, .any, .any, .any, .any, .any, .any, .any, .any, .any, .any, .any, .any, .any, .any, .any, .any, .any, .any, .any, .any, .any, .any, .any, .any, .any, .any, .any, .any, .any, .any, .any, .any, .any, .any, .any, .any, .any, .any, .any, .any, .any, .any, .any, .any, .any, .any, .any, .any, .any, .any, .any, .any, .any, .any, .any, .any, .any, .any, .any, .any, .any, .any, .any, .any, .any, .any, .any, .any, .any, .any, .any, .any, .any, .any, .any, .any] [(.blk (.mk 35 [(.int .i64 (.var 3)), (.int .i64 (.var 4)), (.int .i64 (.var 5)), (.int .i64 (.var 6))] 0 none)), (.blk (.mk 35 [] 0 (some (.row (.mk 57 4 [(.var 7), (.var 8), (.var 9), (.var 10)] (.var 11) (.var 12) none []))))), .dead, (.blk (.mk 24 [] 0 (some (.row (.mk 59 3 [(.var 13), (.var 14), (.var 15), (.var 16)] (.lit 9) (.lit 9) none [])))))]) 17 64 (some (ands [qEq (vv 1) (vv 11), qEq (vv 7) (vv 13), qEq (vv 8) (vv 14), qEq (vv 9) (vv 15), qEq (vv 10) (vv 16), qEq (vv 1) (.app 56 0 (SL.of [vv 7, vv 8, vv 9, vv 10, vv 0])), .app 2 0 (SL.of [vv 7, vv 8, vv 9, vv 10]), qLe (.lit 0) (vv 2)])) [((.exit 0), (.mk [.any, .any, .any, .any, (.cv (.one (.int .i64 (.var 0)))), (.cv (.one (.slc 1 (.var 1)))), .any, .any, .any, .any, .any, .any, .any, .any, .any, .any, .any, .any, .any, .any, .any, .any, .any, .any, .any, .any, .any, .any, .any, .any, .any, .any, .any, .any, .any, .any, .any, .any, .any, .any, .any, .any, .any, .any, .any, .any, .any, .any, .any, .any, .any, .any, .any, .any, .any, .any, .any, .any, .any, .any, .any, .any, .any, .any, .any, .any, .any, .any, .any, .any, .any, .any, .any, .any, .any, .any, .any, .any, .any, .any, .any, .any, .any, .any, .any, .any, .any, .any, .any, .any, .any, .any, .any, .any, .any, .any, .any] [.dead, (.blk (.mk 35 [] 0 (some (.row (.mk 57 4 [(.var 2), (.var 3), (.var 4), (.var 5)] (.var 6) (.var 7) none []))))), .dead, .dead]), 0, [0, 1, 7, 8, 9, 10, 11, 12])])
def bt_qO : BTree := (.node (.cmp .lt (.var 2) (.lit 9)) (.node (.cmp .le (.lit 0) (.var 2)) (.node (.and (.cmp .eq (.var 1) (.var 11)) (.and (.cmp .eq (.var 1) (.app 56 0 (.cons (.var 7) (.cons (.var 8) (.cons (.var 9) (.cons (.var 10) (.cons (.var 0) .nil))))))) (.and (.cmp .le (.bin .imin .i64 (.lit 40) (.bin .imax .i64 (.var 1) (.lit 0))) (.bin .imax .i64 (.var 1) (.lit 0))) (.app 8 0 (.cons (.var 7) (.cons (.var 8) (.cons (.var 9) (.cons (.var 10) (.cons (.app 59 0 (.cons (.var 13) (.cons (.var 14) (.cons (.var 15) (.cons (.var 16) (.cons (.var 2) .nil)))))) (.cons (.app 59 1 (.cons (.var 13) (.cons (.var 14) (.cons (.var 15) (.cons (.var 16) (.cons (.var 2) .nil)))))) (.cons (.app 59 2 (.cons (.var 13) (.cons (.var 14) (.cons (.var 15) (.cons (.var 16) (.cons (.var 2) .nil)))))) .nil))))))))))) (.next [(.var 0), (.var 1), (.wrap .i64 (.bin .add .i64 (.var 2) (.lit 1))), (.var 3), (.var 4), (.var 5), (.var 6), (.var 7), (.var 8), (.var 9), (.var 10), (.var 11), (.var 12), (.var 13), (.var 14), (.var 15), (.var 16)]) (.dead 1092)) (.dead 1047)) (.out 0 [(.var 0), (.var 1), (.var 7), (.var 8), (.var 9), (.var 10), (.var 11), (.var 12)]))
theorem bt_qO_eq : bodyTree XQ1 l_qO 200 80 = bt_qO := by kernel_rfl
theorem lok_qO (w : World) : l_qO.ok Try.prog w (FI pv) FB := by
  refine LEnt.by_loop (X := XQ1) (fun zs => XQ1_ok w _ rfl rfl) mixed bt_qO_eq (fun zs hz hp => ?_)
  obtain ⟨n, L, i, e0, e1, e2, e3, a, b, c, d, L2, lo, a2, b2, c2, d2, rfl⟩ := len17q hz
  have hp := ands_den _ _ (hp _ rfl)
  simp only [List.forall_mem_cons, qEq, qLe, SB.den, COp.den, SE.den, SL.den, SL.of, IOp.den, vv, envOf, List.getD_cons_zero, List.getD_cons_succ, beq_iff_eq, decide_eq_true_eq, ite_max] at hp
  obtain ⟨rfl, rfl, rfl, rfl, rfl, hL, hb, h0, -⟩ := hp
  have hb : BV a b c d = true := hb
  have key : ∀ (j : Nat) (i : Int), 0 ≤ i → 9 ≤ i + j → loopF (FI pv) FB bt_qO (j + 1) [n, L, i, e0, e1, e2, e3, a, b, c, d, L, lo, a, b, c, d] = some (0, [n, L, a, b, c, d, L, lo]) := by
    intro j
    induction j with
    | zero =>
      intro i h0 h2
      unfold loopF
      simp only [bt_qO, BTree.den, SE.den, SB.den, SL.den, COp.den, IOp.den, envOf, List.map_cons, List.map_nil, List.getD_cons_zero, List.getD_cons_succ, ite_max, ite_min]
      rw [decide_eq_false (p := i < 9) (by omega)]
      rfl
    | succ j ih =>
      intro i h0 h2
      unfold loopF
      simp only [bt_qO, BTree.den, SE.den, SB.den, SL.den, COp.den, IOp.den, envOf, List.map_cons, List.map_nil, List.getD_cons_zero, List.getD_cons_succ, ite_max, ite_min]
      by_cases hc : i < 9
      · rw [decide_eq_true hc, decide_eq_true (p := (0 : Int) ≤ i) h0, beq_self_eq_true, ← hL, beq_self_eq_true, decide_eq_true (p := min 40 (max L 0) ≤ max L 0) (by omega), inB hb h0 hc, wrap_in (x := i + 1) (by omega) (by omega)]
        exact ih (i + 1) (by omega) (by omega)
      · rw [decide_eq_false hc]
        rfl
  exact ⟨(9 - i).toNat + 1, 0, _, _, _, _, _, key _ i h0 (by omega), rfl, Or.inl rfl, rfl⟩
end Go.Proofs.Ythggppjdapmgdaa
