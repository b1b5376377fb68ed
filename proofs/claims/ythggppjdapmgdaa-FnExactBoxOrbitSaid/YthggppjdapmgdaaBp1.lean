/- Loops over orbits of boxes in the law of exact orbits. -/
import Derived.Test.YthggppjdapmgdaaBp0
namespace Go.Proofs.Ythggppjdapmgdaa
set_option linter.unusedSimpArgs false
set_option linter.unusedVariables false
variable {pv : Int → Int → Int}
open Go.RowKit Eng
theorem f58 (k m i : Int) (j : Nat) : FI pv 58 j [k, m, i] = k + m * i + j := rfl
theorem f66_0 (L : Int) (r : List Int) : FI pv 66 0 (L :: r) = 1 + 4 * max L 0 := rfl
theorem f66_1 (L : Int) (r : List Int) : FI pv 66 1 (L :: r) = max L 0 := rfl
theorem len15b {zs : List Int} (h : zs.length = 15) : ∃ x0 x1 x2 x3 x4 x5 x6 x7 x8 x9 x10 x11 x12 x13 x14, zs = [x0, x1, x2, x3, x4, x5, x6, x7, x8, x9, x10, x11, x12, x13, x14] := by
  match zs, h with
  | [x0, x1, x2, x3, x4, x5, x6, x7, x8, x9, x10, x11, x12, x13, x14], _ => exact ⟨x0, x1, x2, x3, x4, x5, x6, x7, x8, x9, x10, x11, x12, x13, x14, rfl⟩
theorem len17b {zs : List Int} (h : zs.length = 17) : ∃ x0 x1 x2 x3 x4 x5 x6 x7 x8 x9 x10 x11 x12 x13 x14 x15 x16, zs = [x0, x1, x2, x3, x4, x5, x6, x7, x8, x9, x10, x11, x12, x13, x14, x15, x16] := by
  match zs, h with
  | [x0, x1, x2, x3, x4, x5, x6, x7, x8, x9, x10, x11, x12, x13, x14, x15, x16], _ => exact ⟨x0, x1, x2, x3, x4, x5, x6, x7, x8, x9, x10, x11, x12, x13, x14, x15, x16, rfl⟩
theorem len19b {zs : List Int} (h : zs.length = 19) : ∃ x0 x1 x2 x3 x4 x5 x6 x7 x8 x9 x10 x11 x12 x13 x14 x15 x16 x17 x18, zs = [x0, x1, x2, x3, x4, x5, x6, x7, x8, x9, x10, x11, x12, x13, x14, x15, x16, x17, x18] := by
  match zs, h with
  | [x0, x1, x2, x3, x4, x5, x6, x7, x8, x9, x10, x11, x12, x13, x14, x15, x16, x17, x18], _ => exact ⟨x0, x1, x2, x3, x4, x5, x6, x7, x8, x9, x10, x11, x12, x13, x14, x15, x16, x17, x18, rfl⟩
def l_qb1 : LEnt := (.mk 32 [false, true, false, true, true] (.mk [(.cv (.one (.slc 2 (.var 0)))), (.cv (.one (.slc 1 (.var 1)))), .any, .any, .any, (.cv (.one (.int .i64 (.var 2)))), .any, .any, .any, .any, .any, .any, .any, .any, .any, .any, .any, .any, .any, .any, .any, .any, .any, .any, .any, .any, .any] [(.blk (.mk 44 [(.int .i64 (.var 3)), (.int .i64 (.var 4)), (.int .i64 (.var 5)), (.int .i64 (.var 6))] 0 none)), (.blk (.mk 35 [] 0 (some (.row (.mk 57 4 [(.var 7), (.var 8), (.var 9), (.var 10)] (.var 11) (.var 12) none []))))), (.blk (.mk 35 [] 0 (some (.row (.mk 57 4 [(.var 13), (.var 14), (.var 15), (.var 16)] (.var 17) (.var 18) none [])))))]) 19 64 (some (ands [qEq (vv 0) (vv 1), qEq (vv 7) (vv 13), qEq (vv 8) (vv 14), qEq (vv 9) (vv 15), qEq (vv 10) (vv 16), qEq (vv 11) (vv 0), qEq (vv 17) (vv 0), qLe (.lit 0) (vv 2), qLe (vv 0) (.lit 400000)])) [((.exit 0), (.mk [.any, .any, .any, .any, .any, .any, .any, .any, .any, .any, .any, .any, .any, .any, .any, .any, .any, .any, .any, .any, .any, .any, .any, .any, .any, .any, .any] [(.blk (.mk 44 [(.int .i64 (.var 0)), (.int .i64 (.var 1)), (.int .i64 (.var 2)), (.int .i64 (.var 3))] 0 none)), (.blk (.mk 35 [] 0 (some (.row (.mk 57 4 [(.var 4), (.var 5), (.var 6), (.var 7)] (.var 8) (.var 9) none []))))), (.blk (.mk 35 [] 0 (some (.row (.mk 57 4 [(.var 10), (.var 11), (.var 12), (.var 13)] (.var 14) (.var 15) none [])))))]), 0, [3, 4, 5, 6, 7, 8, 9, 10, 11, 12, 13, 14, 15, 16, 17, 18])])
def bt_qb1 : BTree := (.node (.cmp .lt (.var 2) (.bin .imax .i64 (.var 0) (.lit 0))) (.node (.cmp .le (.lit 0) (.var 2)) (.node (.cmp .lt (.var 2) (.bin .imax .i64 (.var 17) (.lit 0))) (.node (.cmp .lt (.var 2) (.bin .imax .i64 (.var 1) (.lit 0))) (.node (.cmp .lt (.var 2) (.bin .imax .i64 (.var 11) (.lit 0))) (.node (.and (.cmp .eq (.app 57 0 (.cons (.var 13) (.cons (.var 14) (.cons (.var 15) (.cons (.var 16) (.cons (.var 2) .nil)))))) (.app 57 0 (.cons (.var 7) (.cons (.var 8) (.cons (.var 9) (.cons (.var 10) (.cons (.var 2) .nil))))))) (.and (.cmp .eq (.app 57 1 (.cons (.var 13) (.cons (.var 14) (.cons (.var 15) (.cons (.var 16) (.cons (.var 2) .nil)))))) (.app 57 1 (.cons (.var 7) (.cons (.var 8) (.cons (.var 9) (.cons (.var 10) (.cons (.var 2) .nil))))))) (.and (.cmp .eq (.app 57 2 (.cons (.var 13) (.cons (.var 14) (.cons (.var 15) (.cons (.var 16) (.cons (.var 2) .nil)))))) (.app 57 2 (.cons (.var 7) (.cons (.var 8) (.cons (.var 9) (.cons (.var 10) (.cons (.var 2) .nil))))))) (.cmp .eq (.app 57 3 (.cons (.var 13) (.cons (.var 14) (.cons (.var 15) (.cons (.var 16) (.cons (.var 2) .nil)))))) (.app 57 3 (.cons (.var 7) (.cons (.var 8) (.cons (.var 9) (.cons (.var 10) (.cons (.var 2) .nil)))))))))) (.next [(.var 0), (.var 1), (.wrap .i64 (.bin .add .i64 (.var 2) (.lit 1))), (.var 3), (.var 4), (.var 5), (.var 6), (.var 7), (.var 8), (.var 9), (.var 10), (.var 11), (.var 12), (.var 13), (.var 14), (.var 15), (.var 16), (.var 17), (.var 18)]) (.dead 2)) (.dead 1047)) (.dead 1047)) (.dead 1047)) (.dead 1047)) (.out 0 [(.var 3), (.var 4), (.var 5), (.var 6), (.var 7), (.var 8), (.var 9), (.var 10), (.var 11), (.var 12), (.var 13), (.var 14), (.var 15), (.var 16), (.var 17), (.var 18)]))
theorem bt_qb1_eq : bodyTree XB0 l_qb1 200 60 = bt_qb1 := by kernel_rfl
theorem lok_qb1 (w : World) : l_qb1.ok Try.prog w (FI pv) FB := by
  refine LEnt.by_loop (X := XB0) (fun zs => XB0_ok w _ rfl rfl) mixed bt_qb1_eq (fun zs hz hp => ?_)
  obtain ⟨L, L2, i, d0, d1, d2, d3, a, b, c, d, n1, l1, a2, b2, c2, d4, M, l2, rfl⟩ := len19b hz
  have hp := ands_den _ _ (hp _ rfl)
  simp only [List.forall_mem_cons, qEq, qLe, SB.den, COp.den, SE.den, IOp.den, vv, envOf, List.getD_cons_zero, List.getD_cons_succ, beq_iff_eq, decide_eq_true_eq, ite_max] at hp
  obtain ⟨rfl, rfl, rfl, rfl, rfl, rfl, rfl, h0, h1, -⟩ := hp
  have key : ∀ (j : Nat) (i : Int), 0 ≤ i → max M 0 ≤ i + j → loopF (FI pv) FB bt_qb1 (j + 1) [M, M, i, d0, d1, d2, d3, a, b, c, d, M, l1, a, b, c, d, M, l2] = some (0, [d0, d1, d2, d3, a, b, c, d, M, l1, a, b, c, d, M, l2]) := by
    intro j
    induction j with
    | zero =>
      intro i h0 h2
      unfold loopF
      simp only [bt_qb1, BTree.den, SE.den, SB.den, SL.den, COp.den, IOp.den, envOf, List.map_cons, List.map_nil, List.getD_cons_zero, List.getD_cons_succ, ite_max]
      rw [decide_eq_false (p := i < max M 0) (by omega)]
      rfl
    | succ j ih =>
      intro i h0 h2
      unfold loopF
      simp only [bt_qb1, BTree.den, SE.den, SB.den, SL.den, COp.den, IOp.den, envOf, List.map_cons, List.map_nil, List.getD_cons_zero, List.getD_cons_succ, ite_max, beq_self_eq_true, cond_true]
      by_cases hc : i < max M 0
      · rw [decide_eq_true hc, decide_eq_true (p := (0 : Int) ≤ i) h0, wrap_in (x := i + 1) (by omega) (by omega)]
        exact ih (i + 1) (by omega) (by omega)
      · rw [decide_eq_false hc]
        rfl
  exact ⟨(max M 0 - i).toNat + 1, 0, _, _, _, _, _, key _ i h0 (by omega), rfl, Or.inl rfl, rfl⟩
def l_mb1 : LEnt := (.mk 33 [false, true, false, true] (.mk [(.cv (.one (.slc 2 (.var 0)))), (.cv (.one (.int .i64 (.var 1)))), .any, .any, .any, (.cv (.one (.int .i64 (.var 2)))), .any, .any, .any, .any, .any, .any, .any, .any, .any, .any, .any, .any, .any, .any, .any, .any, .any, .any, .any, .any, .any, .any, .any, .any, .any, .any, .any, .any, .any, .any, .any, .any, .any, .any, .any] [(.blk (.mk 44 [(.int .i64 (.var 3)), (.int .i64 (.var 4)), (.int .i64 (.var 5)), (.int .i64 (.var 6))] 0 none)), (.blk (.mk 35 [] 0 (some (.row (.mk 57 4 [(.var 7), (.var 8), (.var 9), (.var 10)] (.var 11) (.var 12) none []))))), (.blk (.mk 35 [] 0 (some (.row (.mk 58 4 [(.lit 1), (.lit 4)] (.var 13) (.var 14) none [])))))]) 15 66 (some (ands [qEq (vv 1) (.bin .add .i64 (.lit 1) (.bin .mul .i64 (.lit 4) (vv 2))), qEq (vv 13) (vv 2), qLe (.lit 0) (vv 2), qLe (vv 2) (.bin .imax .i64 (vv 0) (.lit 0)), qLe (vv 0) (.lit 400000), qLe (vv 0) (vv 14)])) [((.exit 0), (.mk [.any, (.cv (.one (.int .i64 (.var 0)))), .any, .any, .any, .any, .any, .any, .any, .any, .any, .any, .any, .any, .any, .any, .any, .any, .any, .any, .any, .any, .any, .any, .any, .any, .any, .any, .any, .any, .any, .any, .any, .any, .any, .any, .any, .any, .any, .any, .any] [(.blk (.mk 44 [(.int .i64 (.var 2)), (.int .i64 (.var 3)), (.int .i64 (.var 4)), (.int .i64 (.var 5))] 0 none)), (.blk (.mk 35 [] 0 (some (.row (.mk 57 4 [(.var 6), (.var 7), (.var 8), (.var 9)] (.var 10) (.var 11) none []))))), (.blk (.mk 35 [] 0 (some (.row (.mk 58 4 [(.lit 1), (.lit 4)] (.var 1) (.var 12) none [])))))]), 2, [3, 4, 5, 6, 7, 8, 9, 10, 11, 12, 14])])
def bt_mb1 : BTree := (.node (.cmp .lt (.var 2) (.bin .imax .i64 (.var 0) (.lit 0))) (.node (.cmp .le (.lit 0) (.var 2)) (.node (.cmp .eq (.var 2) (.var 13)) (.node (.cmp .lt (.var 2) (.bin .imax .i64 (.var 14) (.lit 0))) (.node (.cmp .eq (.var 1) (.app 58 0 (.cons (.lit 1) (.cons (.lit 4) (.cons (.var 13) .nil))))) (.node (.cmp .eq (.wrap .i64 (.bin .add .i64 (.var 1) (.lit 1))) (.app 58 1 (.cons (.lit 1) (.cons (.lit 4) (.cons (.var 13) .nil))))) (.node (.cmp .eq (.wrap .i64 (.bin .add .i64 (.wrap .i64 (.bin .add .i64 (.var 1) (.lit 1))) (.lit 1))) (.app 58 2 (.cons (.lit 1) (.cons (.lit 4) (.cons (.var 13) .nil))))) (.node (.cmp .eq (.wrap .i64 (.bin .add .i64 (.wrap .i64 (.bin .add .i64 (.wrap .i64 (.bin .add .i64 (.var 1) (.lit 1))) (.lit 1))) (.lit 1))) (.app 58 3 (.cons (.lit 1) (.cons (.lit 4) (.cons (.var 13) .nil))))) (.next [(.var 0), (.wrap .i64 (.bin .add .i64 (.wrap .i64 (.bin .add .i64 (.wrap .i64 (.bin .add .i64 (.wrap .i64 (.bin .add .i64 (.var 1) (.lit 1))) (.lit 1))) (.lit 1))) (.lit 1))), (.wrap .i64 (.bin .add .i64 (.var 2) (.lit 1))), (.var 3), (.var 4), (.var 5), (.var 6), (.var 7), (.var 8), (.var 9), (.var 10), (.var 11), (.var 12), (.bin .add .i64 (.var 13) (.lit 1)), (.var 14)]) (.dead 1047)) (.dead 1047)) (.dead 1047)) (.dead 1047)) (.dead 1047)) (.dead 1047)) (.dead 1047)) (.out 0 [(.var 1), (.var 13), (.var 3), (.var 4), (.var 5), (.var 6), (.var 7), (.var 8), (.var 9), (.var 10), (.var 11), (.var 12), (.var 14)]))
theorem bt_mb1_eq : bodyTree XB0 l_mb1 200 60 = bt_mb1 := by kernel_rfl
theorem lok_mb1 (w : World) : l_mb1.ok Try.prog w (FI pv) FB := by
  refine LEnt.by_loop (X := XB0) (fun zs => XB0_ok w _ rfl rfl) mixed bt_mb1_eq (fun zs hz hp => ?_)
  obtain ⟨L, k, i, d0, d1, d2, d3, a, b, c, d, n1, l1, N, lo, rfl⟩ := len15b hz
  have hp := ands_den _ _ (hp _ rfl)
  simp only [List.forall_mem_cons, qEq, qLe, SB.den, COp.den, SE.den, IOp.den, vv, envOf, List.getD_cons_zero, List.getD_cons_succ, beq_iff_eq, decide_eq_true_eq, ite_max] at hp
  obtain ⟨rfl, rfl, h0, h1, h2, h3, -⟩ := hp
  have key : ∀ (j : Nat) (i : Int), 0 ≤ i → i ≤ max L 0 → max L 0 ≤ i + j → loopF (FI pv) FB bt_mb1 (j + 1) [L, 1 + 4 * i, i, d0, d1, d2, d3, a, b, c, d, n1, l1, i, lo] = some (0, [1 + 4 * max L 0, max L 0, d0, d1, d2, d3, a, b, c, d, n1, l1, lo]) := by
    intro j
    induction j with
    | zero =>
      intro i h0 h4 h5
      have e : i = max L 0 := by omega
      unfold loopF
      simp only [bt_mb1, BTree.den, SE.den, SB.den, SL.den, COp.den, IOp.den, envOf, List.map_cons, List.map_nil, List.getD_cons_zero, List.getD_cons_succ, ite_max]
      rw [decide_eq_false (p := i < max L 0) (by omega), e]
      rfl
    | succ j ih =>
      intro i h0 h4 h5
      unfold loopF
      simp only [bt_mb1, BTree.den, SE.den, SB.den, SL.den, COp.den, IOp.den, envOf, List.map_cons, List.map_nil, List.getD_cons_zero, List.getD_cons_succ, ite_max, beq_self_eq_true, cond_true, f58]
      by_cases hc : i < max L 0
      · rw [decide_eq_true hc, decide_eq_true (p := (0 : Int) ≤ i) h0, decide_eq_true (p := i < max lo 0) (by omega), wrap_in (x := i + 1) (by omega) (by omega), wrap_in (x := 1 + 4 * i + 1) (by omega) (by omega), wrap_in (x := 1 + 4 * i + 1 + 1) (by omega) (by omega), wrap_in (x := 1 + 4 * i + 1 + 1 + 1) (by omega) (by omega), wrap_in (x := 1 + 4 * i + 1 + 1 + 1 + 1) (by omega) (by omega)]
        rw [show (1 + 4 * i == 1 + 4 * i + ((0 : Nat) : Int)) = true from beq_iff_eq.2 (by omega), show (1 + 4 * i + 1 == 1 + 4 * i + ((1 : Nat) : Int)) = true from beq_iff_eq.2 (by omega), show (1 + 4 * i + 1 + 1 == 1 + 4 * i + ((2 : Nat) : Int)) = true from beq_iff_eq.2 (by omega), show (1 + 4 * i + 1 + 1 + 1 == 1 + 4 * i + ((3 : Nat) : Int)) = true from beq_iff_eq.2 (by omega)]
        have e : 1 + 4 * i + 1 + 1 + 1 + 1 = 1 + 4 * (i + 1) := by omega
        rw [e]
        exact ih (i + 1) (by omega) (by omega) (by omega)
      · have e : i = max L 0 := by omega
        rw [decide_eq_false hc, e]
        rfl
  exact ⟨(max L 0 - N).toNat + 1, 0, _, _, _, _, _, key _ N h0 h1 (by omega), rfl, Or.inl rfl, rfl⟩
def l_hb1 : LEnt := (.mk 34 [false, true, false, true] (.mk [(.cv (.one (.slc 2 (.var 0)))), (.cv (.one (.int .i64 (.var 1)))), .any, .any, .any, (.cv (.one (.int .i64 (.var 2)))), .any, .any, .any, .any, .any, .any, .any, .any, .any, .any, .any, .any, .any, .any, .any, .any, .any, .any, .any, .any, .any, .any, .any, .any, .any, .any, .any, .any, .any, .any, .any, .any, .any, .any, .any, .any, .any, .any, .any, .any, .any, .any, .any] [(.blk (.mk 44 [(.int .i64 (.var 3)), (.int .i64 (.var 4)), (.int .i64 (.var 5)), (.int .i64 (.var 6))] 0 none)), (.blk (.mk 35 [] 0 (some (.row (.mk 57 4 [(.var 7), (.var 8), (.var 9), (.var 10)] (.var 11) (.var 12) none []))))), (.blk (.mk 35 [] 0 (some (.row (.mk 58 4 [(.lit 1), (.lit 4)] (.var 13) (.var 14) none [])))))]) 15 66 (some (ands [qEq (vv 1) (.bin .add .i64 (.lit 1) (.bin .mul .i64 (.lit 4) (vv 2))), qLe (.lit 0) (vv 2), qLe (vv 2) (.bin .imax .i64 (vv 0) (.lit 0)), qLe (vv 0) (.lit 400000), qLe (.bin .imax .i64 (vv 0) (.lit 0)) (.bin .imax .i64 (vv 13) (.lit 0))])) [((.exit 0), (.mk [.any, (.cv (.one (.int .i64 (.var 0)))), .any, .any, .any, .any, .any, .any, .any, .any, .any, .any, .any, .any, .any, .any, .any, .any, .any, .any, .any, .any, .any, .any, .any, .any, .any, .any, .any, .any, .any, .any, .any, .any, .any, .any, .any, .any, .any, .any, .any, .any, .any, .any, .any, .any, .any, .any, .any] [(.blk (.mk 44 [(.int .i64 (.var 1)), (.int .i64 (.var 2)), (.int .i64 (.var 3)), (.int .i64 (.var 4))] 0 none)), (.blk (.mk 35 [] 0 (some (.row (.mk 57 4 [(.var 5), (.var 6), (.var 7), (.var 8)] (.var 9) (.var 10) none []))))), (.blk (.mk 35 [] 0 (some (.row (.mk 58 4 [(.lit 1), (.lit 4)] (.var 11) (.var 12) none [])))))]), 1, [3, 4, 5, 6, 7, 8, 9, 10, 11, 12, 13, 14])])
def bt_hb1 : BTree := (.node (.cmp .lt (.var 2) (.bin .imax .i64 (.var 0) (.lit 0))) (.node (.cmp .le (.lit 0) (.var 2)) (.node (.cmp .lt (.var 2) (.bin .imax .i64 (.var 13) (.lit 0))) (.node (.cmp .eq (.app 58 0 (.cons (.lit 1) (.cons (.lit 4) (.cons (.var 2) .nil)))) (.var 1)) (.node (.cmp .eq (.app 58 1 (.cons (.lit 1) (.cons (.lit 4) (.cons (.var 2) .nil)))) (.wrap .i64 (.bin .add .i64 (.var 1) (.lit 1)))) (.node (.cmp .eq (.app 58 2 (.cons (.lit 1) (.cons (.lit 4) (.cons (.var 2) .nil)))) (.wrap .i64 (.bin .add .i64 (.wrap .i64 (.bin .add .i64 (.var 1) (.lit 1))) (.lit 1)))) (.node (.cmp .eq (.app 58 3 (.cons (.lit 1) (.cons (.lit 4) (.cons (.var 2) .nil)))) (.wrap .i64 (.bin .add .i64 (.wrap .i64 (.bin .add .i64 (.wrap .i64 (.bin .add .i64 (.var 1) (.lit 1))) (.lit 1))) (.lit 1)))) (.next [(.var 0), (.wrap .i64 (.bin .add .i64 (.wrap .i64 (.bin .add .i64 (.wrap .i64 (.bin .add .i64 (.wrap .i64 (.bin .add .i64 (.var 1) (.lit 1))) (.lit 1))) (.lit 1))) (.lit 1))), (.wrap .i64 (.bin .add .i64 (.var 2) (.lit 1))), (.var 3), (.var 4), (.var 5), (.var 6), (.var 7), (.var 8), (.var 9), (.var 10), (.var 11), (.var 12), (.var 13), (.var 14)]) (.dead 2)) (.dead 2)) (.dead 2)) (.dead 2)) (.dead 1047)) (.dead 1047)) (.out 0 [(.var 1), (.var 3), (.var 4), (.var 5), (.var 6), (.var 7), (.var 8), (.var 9), (.var 10), (.var 11), (.var 12), (.var 13), (.var 14)]))
theorem bt_hb1_eq : bodyTree XB0 l_hb1 200 60 = bt_hb1 := by kernel_rfl
theorem lok_hb1 (w : World) : l_hb1.ok Try.prog w (FI pv) FB := by
  refine LEnt.by_loop (X := XB0) (fun zs => XB0_ok w _ rfl rfl) mixed bt_hb1_eq (fun zs hz hp => ?_)
  obtain ⟨L, k, i, d0, d1, d2, d3, a, b, c, d, n1, l1, n, lo, rfl⟩ := len15b hz
  have hp := ands_den _ _ (hp _ rfl)
  simp only [List.forall_mem_cons, qEq, qLe, SB.den, COp.den, SE.den, IOp.den, vv, envOf, List.getD_cons_zero, List.getD_cons_succ, beq_iff_eq, decide_eq_true_eq, ite_max] at hp
  obtain ⟨rfl, h0, h1, h2, h3, -⟩ := hp
  have key : ∀ (j : Nat) (i : Int), 0 ≤ i → i ≤ max L 0 → max L 0 ≤ i + j → loopF (FI pv) FB bt_hb1 (j + 1) [L, 1 + 4 * i, i, d0, d1, d2, d3, a, b, c, d, n1, l1, n, lo] = some (0, [1 + 4 * max L 0, d0, d1, d2, d3, a, b, c, d, n1, l1, n, lo]) := by
    intro j
    induction j with
    | zero =>
      intro i h0 h4 h5
      have e : i = max L 0 := by omega
      unfold loopF
      simp only [bt_hb1, BTree.den, SE.den, SB.den, SL.den, COp.den, IOp.den, envOf, List.map_cons, List.map_nil, List.getD_cons_zero, List.getD_cons_succ, ite_max]
      rw [decide_eq_false (p := i < max L 0) (by omega), e]
      rfl
    | succ j ih =>
      intro i h0 h4 h5
      unfold loopF
      simp only [bt_hb1, BTree.den, SE.den, SB.den, SL.den, COp.den, IOp.den, envOf, List.map_cons, List.map_nil, List.getD_cons_zero, List.getD_cons_succ, ite_max, beq_self_eq_true, cond_true, f58]
      by_cases hc : i < max L 0
      · rw [decide_eq_true hc, decide_eq_true (p := (0 : Int) ≤ i) h0, decide_eq_true (p := i < max n 0) (by omega), wrap_in (x := i + 1) (by omega) (by omega), wrap_in (x := 1 + 4 * i + 1) (by omega) (by omega), wrap_in (x := 1 + 4 * i + 1 + 1) (by omega) (by omega), wrap_in (x := 1 + 4 * i + 1 + 1 + 1) (by omega) (by omega), wrap_in (x := 1 + 4 * i + 1 + 1 + 1 + 1) (by omega) (by omega)]
        rw [show (1 + 4 * i + ((0 : Nat) : Int) == 1 + 4 * i) = true from beq_iff_eq.2 (by omega), show (1 + 4 * i + ((1 : Nat) : Int) == 1 + 4 * i + 1) = true from beq_iff_eq.2 (by omega), show (1 + 4 * i + ((2 : Nat) : Int) == 1 + 4 * i + 1 + 1) = true from beq_iff_eq.2 (by omega), show (1 + 4 * i + ((3 : Nat) : Int) == 1 + 4 * i + 1 + 1 + 1) = true from beq_iff_eq.2 (by omega)]
        have e : 1 + 4 * i + 1 + 1 + 1 + 1 = 1 + 4 * (i + 1) := by omega
        rw [e]
        exact ih (i + 1) (by omega) (by omega) (by omega)
      · have e : i = max L 0 := by omega
        rw [decide_eq_false hc, e]
        rfl
  exact ⟨(max L 0 - i).toNat + 1, 0, _, _, _, _, _, key _ i h0 h1 (by omega), rfl, Or.inl rfl, rfl⟩
def l_qb2 : LEnt := (.mk 32 [false, true, false, true, true] (.mk [(.cv (.one (.slc 3 (.var 0)))), (.cv (.one (.slc 1 (.var 1)))), .any, .any, .any, (.cv (.one (.int .i64 (.var 2)))), .any, .any, .any, .any, .any, .any, .any, .any, .any, .any, .any, .any, .any, .any, .any, .any, .any, .any, .any, .any, .any] [.dead, (.blk (.mk 35 [] 0 (some (.row (.mk 57 4 [(.var 3), (.var 4), (.var 5), (.var 6)] (.var 7) (.var 8) none []))))), (.blk (.mk 35 [] 0 (some (.row (.mk 58 4 [(.lit 1), (.lit 4)] (.var 9) (.var 10) none []))))), (.blk (.mk 35 [] 0 (some (.row (.mk 57 4 [(.var 11), (.var 12), (.var 13), (.var 14)] (.var 15) (.var 16) none [])))))]) 17 64 (some (ands [qEq (vv 0) (vv 1), qEq (vv 3) (vv 11), qEq (vv 4) (vv 12), qEq (vv 5) (vv 13), qEq (vv 6) (vv 14), qEq (vv 7) (vv 0), qEq (vv 15) (vv 0), qLe (.lit 0) (vv 2), qLe (vv 0) (.lit 400000)])) [((.exit 0), (.mk [.any, .any, .any, .any, .any, .any, .any, .any, .any, .any, .any, .any, .any, .any, .any, .any, .any, .any, .any, .any, .any, .any, .any, .any, .any, .any, .any] [.dead, .dead, (.blk (.mk 35 [] 0 (some (.row (.mk 58 4 [(.lit 1), (.lit 4)] (.var 0) (.var 1) none []))))), .dead]), 0, [9, 10])])
def bt_qb2 : BTree := (.node (.cmp .lt (.var 2) (.bin .imax .i64 (.var 0) (.lit 0))) (.node (.cmp .le (.lit 0) (.var 2)) (.node (.cmp .lt (.var 2) (.bin .imax .i64 (.var 15) (.lit 0))) (.node (.cmp .lt (.var 2) (.bin .imax .i64 (.var 1) (.lit 0))) (.node (.cmp .lt (.var 2) (.bin .imax .i64 (.var 7) (.lit 0))) (.node (.and (.cmp .eq (.app 57 0 (.cons (.var 11) (.cons (.var 12) (.cons (.var 13) (.cons (.var 14) (.cons (.var 2) .nil)))))) (.app 57 0 (.cons (.var 3) (.cons (.var 4) (.cons (.var 5) (.cons (.var 6) (.cons (.var 2) .nil))))))) (.and (.cmp .eq (.app 57 1 (.cons (.var 11) (.cons (.var 12) (.cons (.var 13) (.cons (.var 14) (.cons (.var 2) .nil)))))) (.app 57 1 (.cons (.var 3) (.cons (.var 4) (.cons (.var 5) (.cons (.var 6) (.cons (.var 2) .nil))))))) (.and (.cmp .eq (.app 57 2 (.cons (.var 11) (.cons (.var 12) (.cons (.var 13) (.cons (.var 14) (.cons (.var 2) .nil)))))) (.app 57 2 (.cons (.var 3) (.cons (.var 4) (.cons (.var 5) (.cons (.var 6) (.cons (.var 2) .nil))))))) (.cmp .eq (.app 57 3 (.cons (.var 11) (.cons (.var 12) (.cons (.var 13) (.cons (.var 14) (.cons (.var 2) .nil)))))) (.app 57 3 (.cons (.var 3) (.cons (.var 4) (.cons (.var 5) (.cons (.var 6) (.cons (.var 2) .nil)))))))))) (.next [(.var 0), (.var 1), (.wrap .i64 (.bin .add .i64 (.var 2) (.lit 1))), (.var 3), (.var 4), (.var 5), (.var 6), (.var 7), (.var 8), (.var 9), (.var 10), (.var 11), (.var 12), (.var 13), (.var 14), (.var 15), (.var 16)]) (.dead 2)) (.dead 1047)) (.dead 1047)) (.dead 1047)) (.dead 1047)) (.out 0 [(.var 9), (.var 10)]))
theorem bt_qb2_eq : bodyTree XB0 l_qb2 200 60 = bt_qb2 := by kernel_rfl
theorem lok_qb2 (w : World) : l_qb2.ok Try.prog w (FI pv) FB := by
  refine LEnt.by_loop (X := XB0) (fun zs => XB0_ok w _ rfl rfl) mixed bt_qb2_eq (fun zs hz hp => ?_)
  obtain ⟨L, L2, i, a, b, c, d, n1, l1, u, v, a2, b2, c2, d4, M, l2, rfl⟩ := len17b hz
  have hp := ands_den _ _ (hp _ rfl)
  simp only [List.forall_mem_cons, qEq, qLe, SB.den, COp.den, SE.den, IOp.den, vv, envOf, List.getD_cons_zero, List.getD_cons_succ, beq_iff_eq, decide_eq_true_eq, ite_max] at hp
  obtain ⟨rfl, rfl, rfl, rfl, rfl, rfl, rfl, h0, h1, -⟩ := hp
  have key : ∀ (j : Nat) (i : Int), 0 ≤ i → max M 0 ≤ i + j → loopF (FI pv) FB bt_qb2 (j + 1) [M, M, i, a, b, c, d, M, l1, u, v, a, b, c, d, M, l2] = some (0, [u, v]) := by
    intro j
    induction j with
    | zero =>
      intro i h0 h2
      unfold loopF
      simp only [bt_qb2, BTree.den, SE.den, SB.den, SL.den, COp.den, IOp.den, envOf, List.map_cons, List.map_nil, List.getD_cons_zero, List.getD_cons_succ, ite_max]
      rw [decide_eq_false (p := i < max M 0) (by omega)]
      rfl
    | succ j ih =>
      intro i h0 h2
      unfold loopF
      simp only [bt_qb2, BTree.den, SE.den, SB.den, SL.den, COp.den, IOp.den, envOf, List.map_cons, List.map_nil, List.getD_cons_zero, List.getD_cons_succ, ite_max, beq_self_eq_true, cond_true]
      by_cases hc : i < max M 0
      · rw [decide_eq_true hc, decide_eq_true (p := (0 : Int) ≤ i) h0, wrap_in (x := i + 1) (by omega) (by omega)]
        exact ih (i + 1) (by omega) (by omega)
      · rw [decide_eq_false hc]
        rfl
  exact ⟨(max M 0 - i).toNat + 1, 0, _, _, _, _, _, key _ i h0 (by omega), rfl, Or.inl rfl, rfl⟩
def l_hb2 : LEnt := (.mk 34 [false, true, false, true] (.mk [(.cv (.one (.slc 2 (.var 0)))), (.cv (.one (.int .i64 (.var 1)))), .any, .any, .any, (.cv (.one (.int .i64 (.var 2)))), .any, .any, .any, .any, .any, .any, .any, .any, .any, .any, .any, .any, .any, .any, .any, .any, .any, .any, .any, .any, .any, .any, .any, .any, .any, .any, .any, .any, .any, .any, .any, .any, .any, .any, .any, .any, .any, .any, .any, .any, .any, .any, .any] [.dead, .dead, (.blk (.mk 35 [] 0 (some (.row (.mk 58 4 [(.lit 1), (.lit 4)] (.var 3) (.var 4) none []))))), .dead]) 5 66 (some (ands [qEq (vv 1) (.bin .add .i64 (.lit 1) (.bin .mul .i64 (.lit 4) (vv 2))), qLe (.lit 0) (vv 2), qLe (vv 2) (.bin .imax .i64 (vv 0) (.lit 0)), qLe (vv 0) (.lit 400000), qLe (.bin .imax .i64 (vv 0) (.lit 0)) (.bin .imax .i64 (vv 3) (.lit 0))])) [((.exit 0), (.mk [.any, (.cv (.one (.int .i64 (.var 0)))), .any, .any, .any, .any, .any, .any, .any, .any, .any, .any, .any, .any, .any, .any, .any, .any, .any, .any, .any, .any, .any, .any, .any, .any, .any, .any, .any, .any, .any, .any, .any, .any, .any, .any, .any, .any, .any, .any, .any, .any, .any, .any, .any, .any, .any, .any, .any] [.dead, .dead, .dead, .dead]), 1, [])])
def bt_hb2 : BTree := (.node (.cmp .lt (.var 2) (.bin .imax .i64 (.var 0) (.lit 0))) (.node (.cmp .le (.lit 0) (.var 2)) (.node (.cmp .lt (.var 2) (.bin .imax .i64 (.var 3) (.lit 0))) (.node (.cmp .eq (.app 58 0 (.cons (.lit 1) (.cons (.lit 4) (.cons (.var 2) .nil)))) (.var 1)) (.node (.cmp .eq (.app 58 1 (.cons (.lit 1) (.cons (.lit 4) (.cons (.var 2) .nil)))) (.wrap .i64 (.bin .add .i64 (.var 1) (.lit 1)))) (.node (.cmp .eq (.app 58 2 (.cons (.lit 1) (.cons (.lit 4) (.cons (.var 2) .nil)))) (.wrap .i64 (.bin .add .i64 (.wrap .i64 (.bin .add .i64 (.var 1) (.lit 1))) (.lit 1)))) (.node (.cmp .eq (.app 58 3 (.cons (.lit 1) (.cons (.lit 4) (.cons (.var 2) .nil)))) (.wrap .i64 (.bin .add .i64 (.wrap .i64 (.bin .add .i64 (.wrap .i64 (.bin .add .i64 (.var 1) (.lit 1))) (.lit 1))) (.lit 1)))) (.next [(.var 0), (.wrap .i64 (.bin .add .i64 (.wrap .i64 (.bin .add .i64 (.wrap .i64 (.bin .add .i64 (.wrap .i64 (.bin .add .i64 (.var 1) (.lit 1))) (.lit 1))) (.lit 1))) (.lit 1))), (.wrap .i64 (.bin .add .i64 (.var 2) (.lit 1))), (.var 3), (.var 4)]) (.dead 2)) (.dead 2)) (.dead 2)) (.dead 2)) (.dead 1047)) (.dead 1047)) (.out 0 [(.var 1)]))
theorem bt_hb2_eq : bodyTree XB0 l_hb2 200 60 = bt_hb2 := by kernel_rfl
theorem lok_hb2 (w : World) : l_hb2.ok Try.prog w (FI pv) FB := by
  refine LEnt.by_loop (X := XB0) (fun zs => XB0_ok w _ rfl rfl) mixed bt_hb2_eq (fun zs hz hp => ?_)
  obtain ⟨L, k, i, n, lo, rfl⟩ := len5b hz
  have hp := ands_den _ _ (hp _ rfl)
  simp only [List.forall_mem_cons, qEq, qLe, SB.den, COp.den, SE.den, IOp.den, vv, envOf, List.getD_cons_zero, List.getD_cons_succ, beq_iff_eq, decide_eq_true_eq, ite_max] at hp
  obtain ⟨rfl, h0, h1, h2, h3, -⟩ := hp
  have key : ∀ (j : Nat) (i : Int), 0 ≤ i → i ≤ max L 0 → max L 0 ≤ i + j → loopF (FI pv) FB bt_hb2 (j + 1) [L, 1 + 4 * i, i, n, lo] = some (0, [1 + 4 * max L 0]) := by
    intro j
    induction j with
    | zero =>
      intro i h0 h4 h5
      have e : i = max L 0 := by omega
      unfold loopF
      simp only [bt_hb2, BTree.den, SE.den, SB.den, SL.den, COp.den, IOp.den, envOf, List.map_cons, List.map_nil, List.getD_cons_zero, List.getD_cons_succ, ite_max]
      rw [decide_eq_false (p := i < max L 0) (by omega), e]
      rfl
    | succ j ih =>
      intro i h0 h4 h5
      unfold loopF
      simp only [bt_hb2, BTree.den, SE.den, SB.den, SL.den, COp.den, IOp.den, envOf, List.map_cons, List.map_nil, List.getD_cons_zero, List.getD_cons_succ, ite_max, beq_self_eq_true, cond_true, f58]
      by_cases hc : i < max L 0
      · rw [decide_eq_true hc, decide_eq_true (p := (0 : Int) ≤ i) h0, decide_eq_true (p := i < max n 0) (by omega), wrap_in (x := i + 1) (by omega) (by omega), wrap_in (x := 1 + 4 * i + 1) (by omega) (by omega), wrap_in (x := 1 + 4 * i + 1 + 1) (by omega) (by omega), wrap_in (x := 1 + 4 * i + 1 + 1 + 1) (by omega) (by omega), wrap_in (x := 1 + 4 * i + 1 + 1 + 1 + 1) (by omega) (by omega)]
        rw [show (1 + 4 * i + ((0 : Nat) : Int) == 1 + 4 * i) = true from beq_iff_eq.2 (by omega), show (1 + 4 * i + ((1 : Nat) : Int) == 1 + 4 * i + 1) = true from beq_iff_eq.2 (by omega), show (1 + 4 * i + ((2 : Nat) : Int) == 1 + 4 * i + 1 + 1) = true from beq_iff_eq.2 (by omega), show (1 + 4 * i + ((3 : Nat) : Int) == 1 + 4 * i + 1 + 1 + 1) = true from beq_iff_eq.2 (by omega)]
        have e : 1 + 4 * i + 1 + 1 + 1 + 1 = 1 + 4 * (i + 1) := by omega
        rw [e]
        exact ih (i + 1) (by omega) (by omega) (by omega)
      · have e : i = max L 0 := by omega
        rw [decide_eq_false hc, e]
        rfl
  exact ⟨(max L 0 - i).toNat + 1, 0, _, _, _, _, _, key _ i h0 h1 (by omega), rfl, Or.inl rfl, rfl⟩
end Go.Proofs.Ythggppjdapmgdaa
