/- Loops over orbits of exact numbers in the law of exact orbits. -/
import Derived.Test.YtmfpeknhangmoaaOr3
namespace Go.Proofs.Ytmfpeknhangmoaa
set_option linter.unusedSimpArgs false
set_option linter.unusedVariables false
variable {pv : Int → Int → Int}
open Go.RowKit Eng
theorem f58 (k m i : Int) (j : Nat) : FI pv 58 j [k, m, i] = k + m * i + j := rfl
theorem f65_0 (L : Int) (r : List Int) : FI pv 65 0 (L :: r) = 1 + 3 * max L 0 := rfl
theorem f65_1 (L : Int) (r : List Int) : FI pv 65 1 (L :: r) = max L 0 := rfl
theorem len15 {zs : List Int} (h : zs.length = 15) : ∃ a b c d e f g i j k l m n o p, zs = [a, b, c, d, e, f, g, i, j, k, l, m, n, o, p] := by
  match zs, h with
  | [a, b, c, d, e, f, g, i, j, k, l, m, n, o, p], _ => exact ⟨a, b, c, d, e, f, g, i, j, k, l, m, n, o, p, rfl⟩
theorem len5' {zs : List Int} (h : zs.length = 5) : ∃ a b c d e, zs = [a, b, c, d, e] := by
  match zs, h with
  | [a, b, c, d, e], _ => exact ⟨a, b, c, d, e, rfl⟩
def l_eq1 : LEnt := (.mk 26 [false, true, false, true, true] (.mk [(.cv (.one (.slc 2 (.var 0)))), (.cv (.one (.slc 1 (.var 1)))), .any, .any, .any, (.cv (.one (.int .i64 (.var 2)))), .any, .any, .any, .any, .any, .any, .any, .any, .any, .any, .any, .any, .any, .any, .any, .any, .any, .any, .any, .any, .any] [(.blk (.mk 28 [(.int .i64 (.var 3)), (.int .i64 (.var 4)), (.int .i64 (.var 5))] 0 none)), (.blk (.mk 23 [] 0 (some (.row (.mk 55 3 [(.var 6), (.var 7), (.var 8)] (.var 9) (.var 10) none []))))), (.blk (.mk 23 [] 0 (some (.row (.mk 55 3 [(.var 11), (.var 12), (.var 13)] (.var 14) (.var 15) none [])))))]) 16 64 (some (ands [qEq (vv 0) (vv 1), qEq (vv 6) (vv 11), qEq (vv 7) (vv 12), qEq (vv 8) (vv 13), qEq (vv 9) (vv 0), qEq (vv 14) (vv 0), qLe (.lit 0) (vv 2), qLe (vv 0) (.lit 400000)])) [((.exit 0), (.mk [.any, .any, .any, .any, .any, .any, .any, .any, .any, .any, .any, .any, .any, .any, .any, .any, .any, .any, .any, .any, .any, .any, .any, .any, .any, .any, .any] [(.blk (.mk 28 [(.int .i64 (.var 0)), (.int .i64 (.var 1)), (.int .i64 (.var 2))] 0 none)), (.blk (.mk 23 [] 0 (some (.row (.mk 55 3 [(.var 3), (.var 4), (.var 5)] (.var 6) (.var 7) none []))))), (.blk (.mk 23 [] 0 (some (.row (.mk 55 3 [(.var 8), (.var 9), (.var 10)] (.var 11) (.var 12) none [])))))]), 0, [3, 4, 5, 6, 7, 8, 9, 10, 11, 12, 13, 14, 15])])
def bt_eq1 : BTree := (.node (.cmp .lt (.var 2) (.bin .imax .i64 (.var 0) (.lit 0))) (.node (.cmp .le (.lit 0) (.var 2)) (.node (.cmp .lt (.var 2) (.bin .imax .i64 (.var 14) (.lit 0))) (.node (.cmp .lt (.var 2) (.bin .imax .i64 (.var 1) (.lit 0))) (.node (.cmp .lt (.var 2) (.bin .imax .i64 (.var 9) (.lit 0))) (.node (.cmp .eq (.app 55 0 (.cons (.var 11) (.cons (.var 12) (.cons (.var 13) (.cons (.var 2) .nil))))) (.app 55 0 (.cons (.var 6) (.cons (.var 7) (.cons (.var 8) (.cons (.var 2) .nil)))))) (.node (.cmp .eq (.app 55 1 (.cons (.var 11) (.cons (.var 12) (.cons (.var 13) (.cons (.var 2) .nil))))) (.app 55 1 (.cons (.var 6) (.cons (.var 7) (.cons (.var 8) (.cons (.var 2) .nil)))))) (.node (.cmp .eq (.app 55 2 (.cons (.var 11) (.cons (.var 12) (.cons (.var 13) (.cons (.var 2) .nil))))) (.app 55 2 (.cons (.var 6) (.cons (.var 7) (.cons (.var 8) (.cons (.var 2) .nil)))))) (.next [(.var 0), (.var 1), (.wrap .i64 (.bin .add .i64 (.var 2) (.lit 1))), (.var 3), (.var 4), (.var 5), (.var 6), (.var 7), (.var 8), (.var 9), (.var 10), (.var 11), (.var 12), (.var 13), (.var 14), (.var 15)]) (.dead 2)) (.dead 2)) (.dead 2)) (.dead 1047)) (.dead 1047)) (.dead 1047)) (.dead 1047)) (.out 0 [(.var 3), (.var 4), (.var 5), (.var 6), (.var 7), (.var 8), (.var 9), (.var 10), (.var 11), (.var 12), (.var 13), (.var 14), (.var 15)]))
theorem bt_eq1_eq : bodyTree XR0 l_eq1 200 40 = bt_eq1 := by kernel_rfl
theorem lok_eq1 (w : World) : l_eq1.ok Try.prog w (FI pv) FB := by
  refine LEnt.by_loop (X := XR0) (fun zs => XR0_ok w _ rfl rfl) mixed bt_eq1_eq (fun zs hz hp => ?_)
  obtain ⟨L, L2, i, d0, d1, d2, a, b, c, n1, l1, a2, b2, c2, n2, l2, rfl⟩ := len16 hz
  have hp := ands_den _ _ (hp _ rfl)
  simp only [List.forall_mem_cons, qEq, qLe, SB.den, COp.den, SE.den, vv, envOf, List.getD_cons_zero, List.getD_cons_succ, beq_iff_eq, decide_eq_true_eq] at hp
  obtain ⟨rfl, rfl, rfl, rfl, rfl, rfl, h0, h1, -⟩ := hp
  have key : ∀ (j : Nat) (i : Int), 0 ≤ i → max n2 0 ≤ i + j → loopF (FI pv) FB bt_eq1 (j + 1) [n2, n2, i, d0, d1, d2, a, b, c, n2, l1, a, b, c, n2, l2] = some (0, [d0, d1, d2, a, b, c, n2, l1, a, b, c, n2, l2]) := by
    intro j
    induction j with
    | zero =>
      intro i h0 h2
      unfold loopF
      simp only [bt_eq1, BTree.den, SE.den, SB.den, SL.den, COp.den, IOp.den, envOf, List.map_cons, List.map_nil, List.getD_cons_zero, List.getD_cons_succ, ite_max]
      rw [decide_eq_false (p := i < max n2 0) (by omega)]
      rfl
    | succ j ih =>
      intro i h0 h2
      unfold loopF
      simp only [bt_eq1, BTree.den, SE.den, SB.den, SL.den, COp.den, IOp.den, envOf, List.map_cons, List.map_nil, List.getD_cons_zero, List.getD_cons_succ, ite_max, beq_self_eq_true, cond_true]
      by_cases hc : i < max n2 0
      · rw [decide_eq_true hc, decide_eq_true (p := (0 : Int) ≤ i) h0, wrap_in (x := i + 1) (by omega) (by omega)]
        exact ih (i + 1) (by omega) (by omega)
      · rw [decide_eq_false hc]
        rfl
  exact ⟨(max n2 0 - i).toNat + 1, 0, _, _, _, _, _, key _ i h0 (by omega), rfl, Or.inl rfl, rfl⟩
def l_mk1 : LEnt := (.mk 27 [false, true, false, true] (.mk [(.cv (.one (.slc 2 (.var 0)))), (.cv (.one (.int .i64 (.var 1)))), .any, .any, .any, (.cv (.one (.int .i64 (.var 2)))), .any, .any, .any, .any, .any, .any, .any, .any, .any, .any, .any, .any, .any, .any, .any, .any, .any, .any, .any, .any, .any, .any, .any, .any, .any, .any, .any, .any] [(.blk (.mk 28 [(.int .i64 (.var 3)), (.int .i64 (.var 4)), (.int .i64 (.var 5))] 0 none)), (.blk (.mk 23 [] 0 (some (.row (.mk 55 3 [(.var 6), (.var 7), (.var 8)] (.var 9) (.var 10) none []))))), (.blk (.mk 23 [] 0 (some (.row (.mk 58 3 [(.lit 1), (.lit 3)] (.var 11) (.var 12) none [])))))]) 13 65 (some (ands [qEq (vv 1) (.bin .add .i64 (.lit 1) (.bin .mul .i64 (.lit 3) (vv 2))), qEq (vv 11) (vv 2), qLe (.lit 0) (vv 2), qLe (vv 2) (.bin .imax .i64 (vv 0) (.lit 0)), qLe (vv 0) (.lit 400000), qLe (vv 0) (vv 12)])) [((.exit 0), (.mk [.any, (.cv (.one (.int .i64 (.var 0)))), .any, .any, .any, .any, .any, .any, .any, .any, .any, .any, .any, .any, .any, .any, .any, .any, .any, .any, .any, .any, .any, .any, .any, .any, .any, .any, .any, .any, .any, .any, .any, .any] [(.blk (.mk 28 [(.int .i64 (.var 2)), (.int .i64 (.var 3)), (.int .i64 (.var 4))] 0 none)), (.blk (.mk 23 [] 0 (some (.row (.mk 55 3 [(.var 5), (.var 6), (.var 7)] (.var 8) (.var 9) none []))))), (.blk (.mk 23 [] 0 (some (.row (.mk 58 3 [(.lit 1), (.lit 3)] (.var 1) (.var 10) none [])))))]), 2, [3, 4, 5, 6, 7, 8, 9, 10, 12])])
def bt_mk1 : BTree := (.node (.cmp .lt (.var 2) (.bin .imax .i64 (.var 0) (.lit 0))) (.node (.cmp .le (.lit 0) (.var 2)) (.node (.cmp .eq (.var 2) (.var 11)) (.node (.cmp .lt (.var 2) (.bin .imax .i64 (.var 12) (.lit 0))) (.node (.cmp .eq (.var 1) (.app 58 0 (.cons (.lit 1) (.cons (.lit 3) (.cons (.var 11) .nil))))) (.node (.cmp .eq (.wrap .i64 (.bin .add .i64 (.var 1) (.lit 1))) (.app 58 1 (.cons (.lit 1) (.cons (.lit 3) (.cons (.var 11) .nil))))) (.node (.cmp .eq (.wrap .i64 (.bin .add .i64 (.wrap .i64 (.bin .add .i64 (.var 1) (.lit 1))) (.lit 1))) (.app 58 2 (.cons (.lit 1) (.cons (.lit 3) (.cons (.var 11) .nil))))) (.next [(.var 0), (.wrap .i64 (.bin .add .i64 (.wrap .i64 (.bin .add .i64 (.wrap .i64 (.bin .add .i64 (.var 1) (.lit 1))) (.lit 1))) (.lit 1))), (.wrap .i64 (.bin .add .i64 (.var 2) (.lit 1))), (.var 3), (.var 4), (.var 5), (.var 6), (.var 7), (.var 8), (.var 9), (.var 10), (.bin .add .i64 (.var 11) (.lit 1)), (.var 12)]) (.dead 1047)) (.dead 1047)) (.dead 1047)) (.dead 1047)) (.dead 1047)) (.dead 1047)) (.out 0 [(.var 1), (.var 11), (.var 3), (.var 4), (.var 5), (.var 6), (.var 7), (.var 8), (.var 9), (.var 10), (.var 12)]))
theorem bt_mk1_eq : bodyTree XR0 l_mk1 200 40 = bt_mk1 := by kernel_rfl
theorem lok_mk1 (w : World) : l_mk1.ok Try.prog w (FI pv) FB := by
  refine LEnt.by_loop (X := XR0) (fun zs => XR0_ok w _ rfl rfl) mixed bt_mk1_eq (fun zs hz hp => ?_)
  obtain ⟨L, k, i, d0, d1, d2, a, b, c, n1, l1, N, lo, rfl⟩ := len13 hz
  have hp := ands_den _ _ (hp _ rfl)
  simp only [List.forall_mem_cons, qEq, qLe, SB.den, COp.den, SE.den, IOp.den, vv, envOf, List.getD_cons_zero, List.getD_cons_succ, beq_iff_eq, decide_eq_true_eq, ite_max] at hp
  obtain ⟨rfl, rfl, h0, h1, h2, h3, -⟩ := hp
  have key : ∀ (j : Nat) (i : Int), 0 ≤ i → i ≤ max L 0 → max L 0 ≤ i + j → loopF (FI pv) FB bt_mk1 (j + 1) [L, 1 + 3 * i, i, d0, d1, d2, a, b, c, n1, l1, i, lo] = some (0, [1 + 3 * max L 0, max L 0, d0, d1, d2, a, b, c, n1, l1, lo]) := by
    intro j
    induction j with
    | zero =>
      intro i h0 h4 h5
      have e : i = max L 0 := by omega
      unfold loopF
      simp only [bt_mk1, BTree.den, SE.den, SB.den, SL.den, COp.den, IOp.den, envOf, List.map_cons, List.map_nil, List.getD_cons_zero, List.getD_cons_succ, ite_max]
      rw [decide_eq_false (p := i < max L 0) (by omega), e]
      rfl
    | succ j ih =>
      intro i h0 h4 h5
      unfold loopF
      simp only [bt_mk1, BTree.den, SE.den, SB.den, SL.den, COp.den, IOp.den, envOf, List.map_cons, List.map_nil, List.getD_cons_zero, List.getD_cons_succ, ite_max, beq_self_eq_true, cond_true, f58]
      by_cases hc : i < max L 0
      · rw [decide_eq_true hc, decide_eq_true (p := (0 : Int) ≤ i) h0, decide_eq_true (p := i < max lo 0) (by omega), wrap_in (x := i + 1) (by omega) (by omega), wrap_in (x := 1 + 3 * i + 1) (by omega) (by omega), wrap_in (x := 1 + 3 * i + 1 + 1) (by omega) (by omega), wrap_in (x := 1 + 3 * i + 1 + 1 + 1) (by omega) (by omega)]
        rw [show (1 + 3 * i == 1 + 3 * i + ((0 : Nat) : Int)) = true from beq_iff_eq.2 (by omega), show (1 + 3 * i + 1 == 1 + 3 * i + ((1 : Nat) : Int)) = true from beq_iff_eq.2 (by omega), show (1 + 3 * i + 1 + 1 == 1 + 3 * i + ((2 : Nat) : Int)) = true from beq_iff_eq.2 (by omega)]
        have e : 1 + 3 * i + 1 + 1 + 1 = 1 + 3 * (i + 1) := by omega
        rw [e]
        exact ih (i + 1) (by omega) (by omega) (by omega)
      · have e : i = max L 0 := by omega
        rw [decide_eq_false hc, e]
        rfl
  exact ⟨(max L 0 - N).toNat + 1, 0, _, _, _, _, _, key _ N h0 h1 (by omega), rfl, Or.inl rfl, rfl⟩
def l_hl1 : LEnt := (.mk 28 [false, true, false, true] (.mk [(.cv (.one (.slc 2 (.var 0)))), (.cv (.one (.int .i64 (.var 1)))), .any, .any, .any, (.cv (.one (.int .i64 (.var 2)))), .any, .any, .any, .any, .any, .any, .any, .any, .any, .any, .any, .any, .any, .any, .any, .any, .any, .any, .any, .any, .any, .any, .any, .any, .any, .any, .any, .any, .any, .any, .any, .any, .any, .any] [(.blk (.mk 28 [(.int .i64 (.var 3)), (.int .i64 (.var 4)), (.int .i64 (.var 5))] 0 none)), (.blk (.mk 23 [] 0 (some (.row (.mk 55 3 [(.var 6), (.var 7), (.var 8)] (.var 9) (.var 10) none []))))), (.blk (.mk 23 [] 0 (some (.row (.mk 58 3 [(.lit 1), (.lit 3)] (.var 11) (.var 12) none [])))))]) 13 65 (some (ands [qEq (vv 1) (.bin .add .i64 (.lit 1) (.bin .mul .i64 (.lit 3) (vv 2))), qLe (.lit 0) (vv 2), qLe (vv 2) (.bin .imax .i64 (vv 0) (.lit 0)), qLe (vv 0) (.lit 400000), qLe (.bin .imax .i64 (vv 0) (.lit 0)) (.bin .imax .i64 (vv 11) (.lit 0))])) [((.exit 0), (.mk [.any, (.cv (.one (.int .i64 (.var 0)))), .any, .any, .any, .any, .any, .any, .any, .any, .any, .any, .any, .any, .any, .any, .any, .any, .any, .any, .any, .any, .any, .any, .any, .any, .any, .any, .any, .any, .any, .any, .any, .any, .any, .any, .any, .any, .any, .any] [(.blk (.mk 28 [(.int .i64 (.var 1)), (.int .i64 (.var 2)), (.int .i64 (.var 3))] 0 none)), (.blk (.mk 23 [] 0 (some (.row (.mk 55 3 [(.var 4), (.var 5), (.var 6)] (.var 7) (.var 8) none []))))), (.blk (.mk 23 [] 0 (some (.row (.mk 58 3 [(.lit 1), (.lit 3)] (.var 9) (.var 10) none [])))))]), 1, [3, 4, 5, 6, 7, 8, 9, 10, 11, 12])])
def bt_hl1 : BTree := (.node (.cmp .lt (.var 2) (.bin .imax .i64 (.var 0) (.lit 0))) (.node (.cmp .le (.lit 0) (.var 2)) (.node (.cmp .lt (.var 2) (.bin .imax .i64 (.var 11) (.lit 0))) (.node (.cmp .eq (.app 58 0 (.cons (.lit 1) (.cons (.lit 3) (.cons (.var 2) .nil)))) (.var 1)) (.node (.cmp .eq (.app 58 1 (.cons (.lit 1) (.cons (.lit 3) (.cons (.var 2) .nil)))) (.wrap .i64 (.bin .add .i64 (.var 1) (.lit 1)))) (.node (.cmp .eq (.app 58 2 (.cons (.lit 1) (.cons (.lit 3) (.cons (.var 2) .nil)))) (.wrap .i64 (.bin .add .i64 (.wrap .i64 (.bin .add .i64 (.var 1) (.lit 1))) (.lit 1)))) (.next [(.var 0), (.wrap .i64 (.bin .add .i64 (.wrap .i64 (.bin .add .i64 (.wrap .i64 (.bin .add .i64 (.var 1) (.lit 1))) (.lit 1))) (.lit 1))), (.wrap .i64 (.bin .add .i64 (.var 2) (.lit 1))), (.var 3), (.var 4), (.var 5), (.var 6), (.var 7), (.var 8), (.var 9), (.var 10), (.var 11), (.var 12)]) (.dead 2)) (.dead 2)) (.dead 2)) (.dead 1047)) (.dead 1047)) (.out 0 [(.var 1), (.var 3), (.var 4), (.var 5), (.var 6), (.var 7), (.var 8), (.var 9), (.var 10), (.var 11), (.var 12)]))
theorem bt_hl1_eq : bodyTree XR0 l_hl1 200 40 = bt_hl1 := by kernel_rfl
theorem lok_hl1 (w : World) : l_hl1.ok Try.prog w (FI pv) FB := by
  refine LEnt.by_loop (X := XR0) (fun zs => XR0_ok w _ rfl rfl) mixed bt_hl1_eq (fun zs hz hp => ?_)
  obtain ⟨L, k, i, d0, d1, d2, a, b, c, n1, l1, n, lo, rfl⟩ := len13 hz
  have hp := ands_den _ _ (hp _ rfl)
  simp only [List.forall_mem_cons, qEq, qLe, SB.den, COp.den, SE.den, IOp.den, vv, envOf, List.getD_cons_zero, List.getD_cons_succ, beq_iff_eq, decide_eq_true_eq, ite_max] at hp
  obtain ⟨rfl, h0, h1, h2, h3, -⟩ := hp
  have key : ∀ (j : Nat) (i : Int), 0 ≤ i → i ≤ max L 0 → max L 0 ≤ i + j → loopF (FI pv) FB bt_hl1 (j + 1) [L, 1 + 3 * i, i, d0, d1, d2, a, b, c, n1, l1, n, lo] = some (0, [1 + 3 * max L 0, d0, d1, d2, a, b, c, n1, l1, n, lo]) := by
    intro j
    induction j with
    | zero =>
      intro i h0 h4 h5
      have e : i = max L 0 := by omega
      unfold loopF
      simp only [bt_hl1, BTree.den, SE.den, SB.den, SL.den, COp.den, IOp.den, envOf, List.map_cons, List.map_nil, List.getD_cons_zero, List.getD_cons_succ, ite_max]
      rw [decide_eq_false (p := i < max L 0) (by omega), e]
      rfl
    | succ j ih =>
      intro i h0 h4 h5
      unfold loopF
      simp only [bt_hl1, BTree.den, SE.den, SB.den, SL.den, COp.den, IOp.den, envOf, List.map_cons, List.map_nil, List.getD_cons_zero, List.getD_cons_succ, ite_max, beq_self_eq_true, cond_true, f58]
      by_cases hc : i < max L 0
      · rw [decide_eq_true hc, decide_eq_true (p := (0 : Int) ≤ i) h0, decide_eq_true (p := i < max n 0) (by omega), wrap_in (x := i + 1) (by omega) (by omega), wrap_in (x := 1 + 3 * i + 1) (by omega) (by omega), wrap_in (x := 1 + 3 * i + 1 + 1) (by omega) (by omega), wrap_in (x := 1 + 3 * i + 1 + 1 + 1) (by omega) (by omega)]
        rw [show (1 + 3 * i + ((0 : Nat) : Int) == 1 + 3 * i) = true from beq_iff_eq.2 (by omega), show (1 + 3 * i + ((1 : Nat) : Int) == 1 + 3 * i + 1) = true from beq_iff_eq.2 (by omega), show (1 + 3 * i + ((2 : Nat) : Int) == 1 + 3 * i + 1 + 1) = true from beq_iff_eq.2 (by omega)]
        have e : 1 + 3 * i + 1 + 1 + 1 = 1 + 3 * (i + 1) := by omega
        rw [e]
        exact ih (i + 1) (by omega) (by omega) (by omega)
      · have e : i = max L 0 := by omega
        rw [decide_eq_false hc, e]
        rfl
  exact ⟨(max L 0 - i).toNat + 1, 0, _, _, _, _, _, key _ i h0 h1 (by omega), rfl, Or.inl rfl, rfl⟩
def l_eq2 : LEnt := (.mk 26 [false, true, false, true, true] (.mk [(.cv (.one (.slc 3 (.var 0)))), (.cv (.one (.slc 1 (.var 1)))), .any, .any, .any, (.cv (.one (.int .i64 (.var 2)))), .any, .any, .any, .any, .any, .any, .any, .any, .any, .any, .any, .any, .any, .any, .any, .any, .any, .any, .any, .any, .any] [.dead, (.blk (.mk 23 [] 0 (some (.row (.mk 55 3 [(.var 3), (.var 4), (.var 5)] (.var 6) (.var 7) none []))))), (.blk (.mk 23 [] 0 (some (.row (.mk 58 3 [(.lit 1), (.lit 3)] (.var 8) (.var 9) none []))))), (.blk (.mk 23 [] 0 (some (.row (.mk 55 3 [(.var 10), (.var 11), (.var 12)] (.var 13) (.var 14) none [])))))]) 15 64 (some (ands [qEq (vv 0) (vv 1), qEq (vv 3) (vv 10), qEq (vv 4) (vv 11), qEq (vv 5) (vv 12), qEq (vv 6) (vv 0), qEq (vv 13) (vv 0), qLe (.lit 0) (vv 2), qLe (vv 0) (.lit 400000)])) [((.exit 0), (.mk [.any, .any, .any, .any, .any, .any, .any, .any, .any, .any, .any, .any, .any, .any, .any, .any, .any, .any, .any, .any, .any, .any, .any, .any, .any, .any, .any] [.dead, .dead, (.blk (.mk 23 [] 0 (some (.row (.mk 58 3 [(.lit 1), (.lit 3)] (.var 0) (.var 1) none []))))), .dead]), 0, [8, 9])])
def bt_eq2 : BTree := (.node (.cmp .lt (.var 2) (.bin .imax .i64 (.var 0) (.lit 0))) (.node (.cmp .le (.lit 0) (.var 2)) (.node (.cmp .lt (.var 2) (.bin .imax .i64 (.var 13) (.lit 0))) (.node (.cmp .lt (.var 2) (.bin .imax .i64 (.var 1) (.lit 0))) (.node (.cmp .lt (.var 2) (.bin .imax .i64 (.var 6) (.lit 0))) (.node (.cmp .eq (.app 55 0 (.cons (.var 10) (.cons (.var 11) (.cons (.var 12) (.cons (.var 2) .nil))))) (.app 55 0 (.cons (.var 3) (.cons (.var 4) (.cons (.var 5) (.cons (.var 2) .nil)))))) (.node (.cmp .eq (.app 55 1 (.cons (.var 10) (.cons (.var 11) (.cons (.var 12) (.cons (.var 2) .nil))))) (.app 55 1 (.cons (.var 3) (.cons (.var 4) (.cons (.var 5) (.cons (.var 2) .nil)))))) (.node (.cmp .eq (.app 55 2 (.cons (.var 10) (.cons (.var 11) (.cons (.var 12) (.cons (.var 2) .nil))))) (.app 55 2 (.cons (.var 3) (.cons (.var 4) (.cons (.var 5) (.cons (.var 2) .nil)))))) (.next [(.var 0), (.var 1), (.wrap .i64 (.bin .add .i64 (.var 2) (.lit 1))), (.var 3), (.var 4), (.var 5), (.var 6), (.var 7), (.var 8), (.var 9), (.var 10), (.var 11), (.var 12), (.var 13), (.var 14)]) (.dead 2)) (.dead 2)) (.dead 2)) (.dead 1047)) (.dead 1047)) (.dead 1047)) (.dead 1047)) (.out 0 [(.var 8), (.var 9)]))
theorem bt_eq2_eq : bodyTree XR0 l_eq2 200 40 = bt_eq2 := by kernel_rfl
theorem lok_eq2 (w : World) : l_eq2.ok Try.prog w (FI pv) FB := by
  refine LEnt.by_loop (X := XR0) (fun zs => XR0_ok w _ rfl rfl) mixed bt_eq2_eq (fun zs hz hp => ?_)
  obtain ⟨L, L2, i, a, b, c, n1, l1, u, v, a2, b2, c2, n2, l2, rfl⟩ := len15 hz
  have hp := ands_den _ _ (hp _ rfl)
  simp only [List.forall_mem_cons, qEq, qLe, SB.den, COp.den, SE.den, vv, envOf, List.getD_cons_zero, List.getD_cons_succ, beq_iff_eq, decide_eq_true_eq] at hp
  obtain ⟨rfl, rfl, rfl, rfl, rfl, rfl, h0, h1, -⟩ := hp
  have key : ∀ (j : Nat) (i : Int), 0 ≤ i → max n2 0 ≤ i + j → loopF (FI pv) FB bt_eq2 (j + 1) [n2, n2, i, a, b, c, n2, l1, u, v, a, b, c, n2, l2] = some (0, [u, v]) := by
    intro j
    induction j with
    | zero =>
      intro i h0 h2
      unfold loopF
      simp only [bt_eq2, BTree.den, SE.den, SB.den, SL.den, COp.den, IOp.den, envOf, List.map_cons, List.map_nil, List.getD_cons_zero, List.getD_cons_succ, ite_max]
      rw [decide_eq_false (p := i < max n2 0) (by omega)]
      rfl
    | succ j ih =>
      intro i h0 h2
      unfold loopF
      simp only [bt_eq2, BTree.den, SE.den, SB.den, SL.den, COp.den, IOp.den, envOf, List.map_cons, List.map_nil, List.getD_cons_zero, List.getD_cons_succ, ite_max, beq_self_eq_true, cond_true]
      by_cases hc : i < max n2 0
      · rw [decide_eq_true hc, decide_eq_true (p := (0 : Int) ≤ i) h0, wrap_in (x := i + 1) (by omega) (by omega)]
        exact ih (i + 1) (by omega) (by omega)
      · rw [decide_eq_false hc]
        rfl
  exact ⟨(max n2 0 - i).toNat + 1, 0, _, _, _, _, _, key _ i h0 (by omega), rfl, Or.inl rfl, rfl⟩
def l_hl2 : LEnt := (.mk 28 [false, true, false, true] (.mk [(.cv (.one (.slc 2 (.var 0)))), (.cv (.one (.int .i64 (.var 1)))), .any, .any, .any, (.cv (.one (.int .i64 (.var 2)))), .any, .any, .any, .any, .any, .any, .any, .any, .any, .any, .any, .any, .any, .any, .any, .any, .any, .any, .any, .any, .any, .any, .any, .any, .any, .any, .any, .any, .any, .any, .any, .any, .any, .any] [.dead, .dead, (.blk (.mk 23 [] 0 (some (.row (.mk 58 3 [(.lit 1), (.lit 3)] (.var 3) (.var 4) none []))))), .dead]) 5 65 (some (ands [qEq (vv 1) (.bin .add .i64 (.lit 1) (.bin .mul .i64 (.lit 3) (vv 2))), qLe (.lit 0) (vv 2), qLe (vv 2) (.bin .imax .i64 (vv 0) (.lit 0)), qLe (vv 0) (.lit 400000), qLe (.bin .imax .i64 (vv 0) (.lit 0)) (.bin .imax .i64 (vv 3) (.lit 0))])) [((.exit 0), (.mk [.any, (.cv (.one (.int .i64 (.var 0)))), .any, .any, .any, .any, .any, .any, .any, .any, .any, .any, .any, .any, .any, .any, .any, .any, .any, .any, .any, .any, .any, .any, .any, .any, .any, .any, .any, .any, .any, .any, .any, .any, .any, .any, .any, .any, .any, .any] [.dead, .dead, .dead, .dead]), 1, [])])
def bt_hl2 : BTree := (.node (.cmp .lt (.var 2) (.bin .imax .i64 (.var 0) (.lit 0))) (.node (.cmp .le (.lit 0) (.var 2)) (.node (.cmp .lt (.var 2) (.bin .imax .i64 (.var 3) (.lit 0))) (.node (.cmp .eq (.app 58 0 (.cons (.lit 1) (.cons (.lit 3) (.cons (.var 2) .nil)))) (.var 1)) (.node (.cmp .eq (.app 58 1 (.cons (.lit 1) (.cons (.lit 3) (.cons (.var 2) .nil)))) (.wrap .i64 (.bin .add .i64 (.var 1) (.lit 1)))) (.node (.cmp .eq (.app 58 2 (.cons (.lit 1) (.cons (.lit 3) (.cons (.var 2) .nil)))) (.wrap .i64 (.bin .add .i64 (.wrap .i64 (.bin .add .i64 (.var 1) (.lit 1))) (.lit 1)))) (.next [(.var 0), (.wrap .i64 (.bin .add .i64 (.wrap .i64 (.bin .add .i64 (.wrap .i64 (.bin .add .i64 (.var 1) (.lit 1))) (.lit 1))) (.lit 1))), (.wrap .i64 (.bin .add .i64 (.var 2) (.lit 1))), (.var 3), (.var 4)]) (.dead 2)) (.dead 2)) (.dead 2)) (.dead 1047)) (.dead 1047)) (.out 0 [(.var 1)]))
theorem bt_hl2_eq : bodyTree XR0 l_hl2 200 40 = bt_hl2 := by kernel_rfl
theorem lok_hl2 (w : World) : l_hl2.ok Try.prog w (FI pv) FB := by
  refine LEnt.by_loop (X := XR0) (fun zs => XR0_ok w _ rfl rfl) mixed bt_hl2_eq (fun zs hz hp => ?_)
  obtain ⟨L, k, i, n, lo, rfl⟩ := len5' hz
  have hp := ands_den _ _ (hp _ rfl)
  simp only [List.forall_mem_cons, qEq, qLe, SB.den, COp.den, SE.den, IOp.den, vv, envOf, List.getD_cons_zero, List.getD_cons_succ, beq_iff_eq, decide_eq_true_eq, ite_max] at hp
  obtain ⟨rfl, h0, h1, h2, h3, -⟩ := hp
  have key : ∀ (j : Nat) (i : Int), 0 ≤ i → i ≤ max L 0 → max L 0 ≤ i + j → loopF (FI pv) FB bt_hl2 (j + 1) [L, 1 + 3 * i, i, n, lo] = some (0, [1 + 3 * max L 0]) := by
    intro j
    induction j with
    | zero =>
      intro i h0 h4 h5
      have e : i = max L 0 := by omega
      unfold loopF
      simp only [bt_hl2, BTree.den, SE.den, SB.den, SL.den, COp.den, IOp.den, envOf, List.map_cons, List.map_nil, List.getD_cons_zero, List.getD_cons_succ, ite_max]
      rw [decide_eq_false (p := i < max L 0) (by omega), e]
      rfl
    | succ j ih =>
      intro i h0 h4 h5
      unfold loopF
      simp only [bt_hl2, BTree.den, SE.den, SB.den, SL.den, COp.den, IOp.den, envOf, List.map_cons, List.map_nil, List.getD_cons_zero, List.getD_cons_succ, ite_max, beq_self_eq_true, cond_true, f58]
      by_cases hc : i < max L 0
      · rw [decide_eq_true hc, decide_eq_true (p := (0 : Int) ≤ i) h0, decide_eq_true (p := i < max n 0) (by omega), wrap_in (x := i + 1) (by omega) (by omega), wrap_in (x := 1 + 3 * i + 1) (by omega) (by omega), wrap_in (x := 1 + 3 * i + 1 + 1) (by omega) (by omega), wrap_in (x := 1 + 3 * i + 1 + 1 + 1) (by omega) (by omega)]
        rw [show (1 + 3 * i + ((0 : Nat) : Int) == 1 + 3 * i) = true from beq_iff_eq.2 (by omega), show (1 + 3 * i + ((1 : Nat) : Int) == 1 + 3 * i + 1) = true from beq_iff_eq.2 (by omega), show (1 + 3 * i + ((2 : Nat) : Int) == 1 + 3 * i + 1 + 1) = true from beq_iff_eq.2 (by omega)]
        have e : 1 + 3 * i + 1 + 1 + 1 = 1 + 3 * (i + 1) := by omega
        rw [e]
        exact ih (i + 1) (by omega) (by omega) (by omega)
      · have e : i = max L 0 := by omega
        rw [decide_eq_false hc, e]
        rfl
  exact ⟨(max L 0 - i).toNat + 1, 0, _, _, _, _, _, key _ i h0 h1 (by omega), rfl, Or.inl rfl, rfl⟩
end Go.Proofs.Ytmfpeknhangmoaa
