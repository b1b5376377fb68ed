/- The outer loop of the law of states of drawn boxes. -/
import Derived.Test.YthggppjdapmgdaaSt1c
namespace Go.Proofs.Ythggppjdapmgdaa
set_option linter.unusedSimpArgs false
set_option linter.unusedVariables false
variable {pv : Int → Int → Int}
open Go.RowKit Eng
theorem len21s {zs : List Int} (h : zs.length = 21) : ∃ x0 x1 x2 x3 x4 x5 x6 x7 x8 x9 x10 x11 x12 x13 x14 x15 x16 x17 x18 x19 x20, zs = [x0, x1, x2, x3, x4, x5, x6, x7, x8, x9, x10, x11, x12, x13, x14, x15, x16, x17, x18, x19, x20] := by
  match zs, h with
  | [x0, x1, x2, x3, x4, x5, x6, x7, x8, x9, x10, x11, x12, x13, x14, x15, x16, x17, x18, x19, x20], _ => exact ⟨x0, x1, x2, x3, x4, x5, x6, x7, x8, x9, x10, x11, x12, x13, x14, x15, x16, x17, x18, x19, x20, rfl⟩
theorem inB {a b c d i : Int} (h : BV a b c d = true) (h0 : 0 ≤ i) (h9 : i < 9) : FB 8 0 [a, b, c, d, FI pv 59 0 [a, b, c, d, i], FI pv 59 1 [a, b, c, d, i], FI pv 59 2 [a, b, c, d, i]] = true := by
  obtain ⟨p1, p2, p3, p4, p5, p6⟩ := (BV_iff _ _ _ _).1 h
  refine (BH_in (pv := pv) (x := pk3 a b (i / 3)) (y := pk3 c d (i % 3)) h ?_ ?_).2
  · unfold pk3
    split
    · omega
    split <;> omega
  · unfold pk3
    split
    · omega
    split <;> omega
def l_sO : LEnt := (.mk 14 [false, true, false, true, true, true, true, true, true, true, true, true] (.mk [.any, .any, .any, .any, (.cv (.one (.int .i64 (.var 0)))), (.cv (.one (.int .i64 (.var 1)))), .any, .any, .any, .any, (.cv (.one (.int .i64 (.var 2)))), (.cv (.one (.bool (.app 2 0 (.cons (.var 3) (.cons (.var 4) (.cons (.var 5) (.cons (.var 6) .nil)))))))), (.cv (.one (.int .i64 (.var 7)))), (.cv (.one (.bool (.app 2 0 (.cons (.var 8) (.cons (.var 9) (.cons (.var 10) (.cons (.var 11) .nil)))))))), (.cv (.one (.slc 1 (.lit 9)))), (.cv (.one (.int .i64 (.var 12)))), .any, .any, .any, .any, .any, .any, .any, .any, .any, .any, .any, .any, .any, .any, .any, .any, .any, .any, .any, .any, .any, .any, .any, .any, .any, .any, .any, .any, .any, .any, .any, .any, .any, .any, .any, .any, .any, .any, .any, .any, .any, .any, .any, .any, .any, .any, .any, .any, .any, .any, .any, .any, .any, .any, .any, .any, .any, .any, .any, .any, .any, .any, .any, .any, .any, .any, .any, .any, .any, .any, .any, .any, .any, .any, .any, .any, .any, .any, .any, .any, .any, .any, .any, .any, .any, .any, .any, .any, .any, .any, .any, .any, .any, .any, .any, .any, .any, .any, .any, .any, .any, .any, .any, .any, .any, .any, .any, .any, .any, .any, .any, .any, .any, .any, .any, .any, .any, .any, .any, .any, .any, .any, .any, .any, .any, .any, .any, .any, .any] [(.blk (.mk 35 [(.int .i64 (.var 13)), (.int .i64 (.var 14)), (.int .i64 (.var 15)), (.int .i64 (.var 16))] 0 none)), (.blk (.mk 24 [] 0 (some (.row (.mk 59 3 [(.var 17), (.var 18), (.var 19), (.var 20)] (.lit 9) (.lit 9) none [])))))]) 21 64 (some (ands [qEq (vv 1) (.app 52 0 (SL.of [vv 17, vv 18, vv 19, vv 20, vv 0])), qEq (vv 2) (.app 51 1 (SL.of [vv 17, vv 18, vv 19, vv 20, vv 0])), .app 2 0 (SL.of [vv 17, vv 18, vv 19, vv 20]), qLe (.lit 0) (vv 12)])) [((.exit 0), (.mk [.any, .any, .any, .any, .any, (.cv (.one (.int .i64 (.var 0)))), .any, .any, .any, .any, .any, (.cv (.one (.bool (.app 2 0 (.cons (.var 1) (.cons (.var 2) (.cons (.var 3) (.cons (.var 4) .nil)))))))), (.cv (.one (.int .i64 (.var 5)))), (.cv (.one (.bool (.app 2 0 (.cons (.var 6) (.cons (.var 7) (.cons (.var 8) (.cons (.var 9) .nil)))))))), .any, .any, .any, .any, .any, .any, .any, .any, .any, .any, .any, .any, .any, .any, .any, .any, .any, .any, .any, .any, .any, .any, .any, .any, .any, .any, .any, .any, .any, .any, .any, .any, .any, .any, .any, .any, .any, .any, .any, .any, .any, .any, .any, .any, .any, .any, .any, .any, .any, .any, .any, .any, .any, .any, .any, .any, .any, .any, .any, .any, .any, .any, .any, .any, .any, .any, .any, .any, .any, .any, .any, .any, .any, .any, .any, .any, .any, .any, .any, .any, .any, .any, .any, .any, .any, .any, .any, .any, .any, .any, .any, .any, .any, .any, .any, .any, .any, .any, .any, .any, .any, .any, .any, .any, .any, .any, .any, .any, .any, .any, .any, .any, .any, .any, .any, .any, .any, .any, .any, .any, .any, .any, .any, .any, .any, .any, .any, .any, .any, .any, .any] [.dead, .dead]), 0, [1, 3, 4, 5, 6, 7, 8, 9, 10, 11])])
def bt_sO : BTree := (.node (.cmp .lt (.var 12) (.lit 9)) (.node (.cmp .le (.lit 0) (.var 12)) (.node (.and (.cmp .eq (.var 1) (.app 52 0 (.cons (.var 17) (.cons (.var 18) (.cons (.var 19) (.cons (.var 20) (.cons (.var 0) .nil))))))) (.and (.cmp .eq (.var 2) (.app 51 1 (.cons (.var 17) (.cons (.var 18) (.cons (.var 19) (.cons (.var 20) (.cons (.var 0) .nil))))))) (.app 8 0 (.cons (.var 17) (.cons (.var 18) (.cons (.var 19) (.cons (.var 20) (.cons (.app 59 0 (.cons (.var 17) (.cons (.var 18) (.cons (.var 19) (.cons (.var 20) (.cons (.var 12) .nil)))))) (.cons (.app 59 1 (.cons (.var 17) (.cons (.var 18) (.cons (.var 19) (.cons (.var 20) (.cons (.var 12) .nil)))))) (.cons (.app 59 2 (.cons (.var 17) (.cons (.var 18) (.cons (.var 19) (.cons (.var 20) (.cons (.var 12) .nil)))))) .nil)))))))))) (.next [(.var 0), (.var 1), (.var 2), (.var 3), (.var 4), (.var 5), (.var 6), (.var 7), (.var 8), (.var 9), (.var 10), (.var 11), (.wrap .i64 (.bin .add .i64 (.var 12) (.lit 1))), (.var 13), (.var 14), (.var 15), (.var 16), (.var 17), (.var 18), (.var 19), (.var 20)]) (.dead 1092)) (.dead 1047)) (.out 0 [(.var 1), (.var 3), (.var 4), (.var 5), (.var 6), (.var 7), (.var 8), (.var 9), (.var 10), (.var 11)]))
theorem bt_sO_eq : bodyTree XS1 l_sO 200 80 = bt_sO := by kernel_rfl
theorem lok_sO (w : World) : l_sO.ok Try.prog w (FI pv) FB := by
  refine LEnt.by_loop (X := XS1) (fun zs => XS1_ok w _ rfl rfl) mixed bt_sO_eq (fun zs hz hp => ?_)
  obtain ⟨m, out, got, u0, u1, u2, u3, ag, v0, v1, v2, v3, i, e0, e1, e2, e3, a, b, c, d, rfl⟩ := len21s hz
  have hp := ands_den _ _ (hp _ rfl)
  simp only [List.forall_mem_cons, qEq, qLe, SB.den, COp.den, SE.den, SL.den, SL.of, IOp.den, vv, envOf, List.getD_cons_zero, List.getD_cons_succ, beq_iff_eq, decide_eq_true_eq, ite_max] at hp
  obtain ⟨hL, hW, hb, h0, -⟩ := hp
  have hb : BV a b c d = true := hb
  have key : ∀ (j : Nat) (i : Int), 0 ≤ i → 9 ≤ i + j → loopF (FI pv) FB bt_sO (j + 1) [m, out, got, u0, u1, u2, u3, ag, v0, v1, v2, v3, i, e0, e1, e2, e3, a, b, c, d] = some (0, [out, u0, u1, u2, u3, ag, v0, v1, v2, v3]) := by
    intro j
    induction j with
    | zero =>
      intro i h0 h2
      unfold loopF
      simp only [bt_sO, BTree.den, SE.den, SB.den, SL.den, COp.den, IOp.den, envOf, List.map_cons, List.map_nil, List.getD_cons_zero, List.getD_cons_succ, ite_max, ite_min]
      rw [decide_eq_false (p := i < 9) (by omega)]
      rfl
    | succ j ih =>
      intro i h0 h2
      unfold loopF
      simp only [bt_sO, BTree.den, SE.den, SB.den, SL.den, COp.den, IOp.den, envOf, List.map_cons, List.map_nil, List.getD_cons_zero, List.getD_cons_succ, ite_max, ite_min]
      by_cases hc : i < 9
      · rw [decide_eq_true hc, decide_eq_true (p := (0 : Int) ≤ i) h0, ← hL, ← hW, beq_self_eq_true, beq_self_eq_true, inB hb h0 hc, wrap_in (x := i + 1) (by omega) (by omega)]
        exact ih (i + 1) (by omega) (by omega)
      · rw [decide_eq_false hc]
        rfl
  exact ⟨(9 - i).toNat + 1, 0, _, _, _, _, _, key _ i h0 (by omega), rfl, Or.inl rfl, rfl⟩
end Go.Proofs.Ythggppjdapmgdaa
