/- Loops of the law of orbits of drawn boxes. -/
import Derived.Test.YthggppjdapmgdaaBq0
import Derived.Test.YthggppjdapmgdaaBoM7
namespace Go.Proofs.Ythggppjdapmgdaa
set_option linter.unusedSimpArgs false
set_option linter.unusedVariables false
variable {pv : Int → Int → Int}
open Go.RowKit Eng
theorem len19q {zs : List Int} (h : zs.length = 19) : ∃ x0 x1 x2 x3 x4 x5 x6 x7 x8 x9 x10 x11 x12 x13 x14 x15 x16 x17 x18, zs = [x0, x1, x2, x3, x4, x5, x6, x7, x8, x9, x10, x11, x12, x13, x14, x15, x16, x17, x18] := by
  match zs, h with
  | [x0, x1, x2, x3, x4, x5, x6, x7, x8, x9, x10, x11, x12, x13, x14, x15, x16, x17, x18], _ => exact ⟨x0, x1, x2, x3, x4, x5, x6, x7, x8, x9, x10, x11, x12, x13, x14, x15, x16, x17, x18, rfl⟩
theorem len28 {zs : List Int} (h : zs.length = 28) : ∃ x0 x1 x2 x3 x4 x5 x6 x7 x8 x9 x10 x11 x12 x13 x14 x15 x16 x17 x18 x19 x20 x21 x22 x23 x24 x25 x26 x27, zs = [x0, x1, x2, x3, x4, x5, x6, x7, x8, x9, x10, x11, x12, x13, x14, x15, x16, x17, x18, x19, x20, x21, x22, x23, x24, x25, x26, x27] := by
  match zs, h with
  | [x0, x1, x2, x3, x4, x5, x6, x7, x8, x9, x10, x11, x12, x13, x14, x15, x16, x17, x18, x19, x20, x21, x22, x23, x24, x25, x26, x27], _ => exact ⟨x0, x1, x2, x3, x4, x5, x6, x7, x8, x9, x10, x11, x12, x13, x14, x15, x16, x17, x18, x19, x20, x21, x22, x23, x24, x25, x26, x27, rfl⟩
theorem olen_le3 (a b c : Int) : ∀ n k : Nat, olen a b c n k ≤ n + k
  | 0, k => by simp [olen]
  | n + 1, k => by
    unfold olen
    split
    · have := olen_le3 a b c n (k + 1); omega
    · omega
theorem blen_le3 (a b c d : Int) : ∀ n k : Nat, blen a b c d n k ≤ n + k
  | 0, k => by simp [blen]
  | n + 1, k => by
    unfold blen
    split
    · have := blen_le3 a b c d n (k + 1); omega
    · omega
def l_qA : LEnt := (.mk 23 [false, true, false, true, true] (.mk [(.cv (.one (.slc 1 (.var 0)))), (.cv (.one (.slc 2 (.var 1)))), .any, .any, .any, (.cv (.one (.int .i64 (.var 2)))), .any, .any, .any, .any, .any, .any, .any, .any, .any, .any, .any, .any, .any, .any, .any, .any, .any, .any, .any, .any] [(.blk (.mk 35 [(.int .i64 (.var 3)), (.int .i64 (.var 4)), (.int .i64 (.var 5)), (.int .i64 (.var 6))] 0 none)), (.blk (.mk 35 [] 0 (some (.row (.mk 57 4 [(.var 7), (.var 8), (.var 9), (.var 10)] (.var 11) (.var 12) none []))))), (.blk (.mk 35 [] 0 (some (.row (.mk 57 4 [(.var 13), (.var 14), (.var 15), (.var 16)] (.var 17) (.var 18) none [])))))]) 19 64 (some (ands [qEq (vv 0) (vv 1), qEq (vv 7) (vv 13), qEq (vv 8) (vv 14), qEq (vv 9) (vv 15), qEq (vv 10) (vv 16), qLe (.bin .imax .i64 (vv 0) (.lit 0)) (.bin .imax .i64 (vv 11) (.lit 0)), qLe (.bin .imax .i64 (vv 0) (.lit 0)) (.bin .imax .i64 (vv 17) (.lit 0)), qLe (.lit 0) (vv 2), qLe (vv 0) (.lit 400000)])) [((.exit 0), (.mk [.any, .any, .any, .any, .any, .any, .any, .any, .any, .any, .any, .any, .any, .any, .any, .any, .any, .any, .any, .any, .any, .any, .any, .any, .any, .any] [(.blk (.mk 35 [(.int .i64 (.var 0)), (.int .i64 (.var 1)), (.int .i64 (.var 2)), (.int .i64 (.var 3))] 0 none)), (.blk (.mk 35 [] 0 (some (.row (.mk 57 4 [(.var 4), (.var 5), (.var 6), (.var 7)] (.var 8) (.var 9) none []))))), (.blk (.mk 35 [] 0 (some (.row (.mk 57 4 [(.var 10), (.var 11), (.var 12), (.var 13)] (.var 14) (.var 15) none [])))))]), 0, [3, 4, 5, 6, 7, 8, 9, 10, 11, 12, 13, 14, 15, 16, 17, 18])])
def bt_qA : BTree := (.node (.cmp .lt (.var 2) (.bin .imax .i64 (.var 0) (.lit 0))) (.node (.cmp .le (.lit 0) (.var 2)) (.node (.cmp .lt (.var 2) (.bin .imax .i64 (.var 11) (.lit 0))) (.node (.cmp .lt (.var 2) (.bin .imax .i64 (.var 1) (.lit 0))) (.node (.cmp .lt (.var 2) (.bin .imax .i64 (.var 17) (.lit 0))) (.node (.and (.cmp .eq (.app 57 0 (.cons (.var 7) (.cons (.var 8) (.cons (.var 9) (.cons (.var 10) (.cons (.var 2) .nil)))))) (.app 57 0 (.cons (.var 13) (.cons (.var 14) (.cons (.var 15) (.cons (.var 16) (.cons (.var 2) .nil))))))) (.and (.cmp .eq (.app 57 1 (.cons (.var 7) (.cons (.var 8) (.cons (.var 9) (.cons (.var 10) (.cons (.var 2) .nil)))))) (.app 57 1 (.cons (.var 13) (.cons (.var 14) (.cons (.var 15) (.cons (.var 16) (.cons (.var 2) .nil))))))) (.and (.cmp .eq (.app 57 2 (.cons (.var 7) (.cons (.var 8) (.cons (.var 9) (.cons (.var 10) (.cons (.var 2) .nil)))))) (.app 57 2 (.cons (.var 13) (.cons (.var 14) (.cons (.var 15) (.cons (.var 16) (.cons (.var 2) .nil))))))) (.cmp .eq (.app 57 3 (.cons (.var 7) (.cons (.var 8) (.cons (.var 9) (.cons (.var 10) (.cons (.var 2) .nil)))))) (.app 57 3 (.cons (.var 13) (.cons (.var 14) (.cons (.var 15) (.cons (.var 16) (.cons (.var 2) .nil)))))))))) (.next [(.var 0), (.var 1), (.wrap .i64 (.bin .add .i64 (.var 2) (.lit 1))), (.var 3), (.var 4), (.var 5), (.var 6), (.var 7), (.var 8), (.var 9), (.var 10), (.var 11), (.var 12), (.var 13), (.var 14), (.var 15), (.var 16), (.var 17), (.var 18)]) (.dead 2)) (.dead 1047)) (.dead 1047)) (.dead 1047)) (.dead 1047)) (.out 0 [(.var 3), (.var 4), (.var 5), (.var 6), (.var 7), (.var 8), (.var 9), (.var 10), (.var 11), (.var 12), (.var 13), (.var 14), (.var 15), (.var 16), (.var 17), (.var 18)]))
theorem bt_qA_eq : bodyTree XQ0 l_qA 200 60 = bt_qA := by kernel_rfl
theorem lok_qA (w : World) : l_qA.ok Try.prog w (FI pv) FB := by
  refine LEnt.by_loop (X := XQ0) (fun zs => XQ0_ok w _ rfl rfl) mixed bt_qA_eq (fun zs hz hp => ?_)
  obtain ⟨L, L2, i, d0, d1, d2, d3, a, b, c, d, n1, l1, a2, b2, c2, d4, n2, l2, rfl⟩ := len19q hz
  have hp := ands_den _ _ (hp _ rfl)
  simp only [List.forall_mem_cons, qEq, qLe, SB.den, COp.den, SE.den, SL.den, SL.of, IOp.den, vv, envOf, List.getD_cons_zero, List.getD_cons_succ, beq_iff_eq, decide_eq_true_eq, ite_max] at hp
  obtain ⟨rfl, rfl, rfl, rfl, rfl, h4, h5, h0, h1, -⟩ := hp
  have key : ∀ (j : Nat) (i : Int), 0 ≤ i → max L 0 ≤ i + j → loopF (FI pv) FB bt_qA (j + 1) [L, L, i, d0, d1, d2, d3, a, b, c, d, n1, l1, a, b, c, d, n2, l2] = some (0, [d0, d1, d2, d3, a, b, c, d, n1, l1, a, b, c, d, n2, l2]) := by
    intro j
    induction j with
    | zero =>
      intro i h0 h2
      unfold loopF
      simp only [bt_qA, BTree.den, SE.den, SB.den, SL.den, COp.den, IOp.den, envOf, List.map_cons, List.map_nil, List.getD_cons_zero, List.getD_cons_succ, ite_max]
      rw [decide_eq_false (p := i < max L 0) (by omega)]
      rfl
    | succ j ih =>
      intro i h0 h2
      unfold loopF
      simp only [bt_qA, BTree.den, SE.den, SB.den, SL.den, COp.den, IOp.den, envOf, List.map_cons, List.map_nil, List.getD_cons_zero, List.getD_cons_succ, ite_max, beq_self_eq_true, cond_true, Bool.and_true]
      by_cases hc : i < max L 0
      · rw [decide_eq_true hc, decide_eq_true (p := (0 : Int) ≤ i) h0, decide_eq_true (p := i < max n1 0) (by omega), decide_eq_true (p := i < max n2 0) (by omega), wrap_in (x := i + 1) (by omega) (by omega)]
        exact ih (i + 1) (by omega) (by omega)
      · rw [decide_eq_false hc]
        rfl
  exact ⟨(max L 0 - i).toNat + 1, 0, _, _, _, _, _, key _ i h0 (by omega), rfl, Or.inl rfl, rfl⟩
def l_qI : LEnt := (.mk 9 [false, true, true, false, false, true, false, false, true, false, true, true, true, true, true, true, true] (.mk [.any, .any, .any, .any, (.cv (.one (.int .i64 (.var 0)))), (.cv (.one (.slc 1 (.var 1)))), .any, .any, .any, (.cv (.one (.slc 3 (.lit 9)))), (.cv (.one (.int .i64 (.var 2)))), (.cv (.one (.slc 4 (.var 3)))), (.cv (.one (.bool (.app 54 0 (.cons (.var 4) (.cons (.var 5) (.cons (.var 6) (.cons (.var 7) .nil)))))))), (.cv (.one (.int .i64 (.var 8)))), .any, .any, .any, .any, .any, .any, .any, .any, .any, .any, .any, .any, .any, .any, .any, .any, .any, .any, .any, .any, .any, .any, .any, .any, .any, .any, .any, .any, .any, .any, .any, .any, .any, .any, .any, .any, .any, .any, .any, .any, .any, .any, .any, .any, .any, .any, .any, .any, .any, .any, .any, .any, .any, .any, .any, .any, .any, .any, .any, .any, .any, .any, .any, .any, .any, .any, .any, .any, .any, .any, .any, .any, .any, .any, .any, .any, .any, .any, .any, .any, .any, .any, .any] [(.blk (.mk 35 [(.int .i64 (.var 9)), (.int .i64 (.var 10)), (.int .i64 (.var 11)), (.int .i64 (.var 12))] 0 none)), (.blk (.mk 35 [] 0 (some (.row (.mk 57 4 [(.var 13), (.var 14), (.var 15), (.var 16)] (.var 17) (.var 18) none []))))), .dead, (.blk (.mk 24 [] 0 (some (.row (.mk 59 3 [(.var 19), (.var 20), (.var 21), (.var 22)] (.lit 9) (.lit 9) none []))))), (.blk (.mk 24 [] 0 (some (.row (.mk 55 3 [(.var 23), (.var 24), (.var 25)] (.var 26) (.var 27) none [])))))]) 28 64 (some (ands [qEq (vv 4) (vv 23), qEq (vv 5) (vv 24), qEq (vv 6) (vv 25), qEq (vv 3) (vv 26), qEq (vv 1) (vv 17), qEq (vv 3) (.app 54 0 (SL.of [vv 4, vv 5, vv 6, vv 7])), qEq (vv 1) (.app 56 0 (SL.of [vv 13, vv 14, vv 15, vv 16, vv 0])), qLe (vv 7) (.bin .imax .i64 (vv 1) (.lit 0)), qLe (.lit 0) (vv 8), .app 8 0 (SL.of [vv 13, vv 14, vv 15, vv 16, vv 23, vv 24, vv 25])])) [((.exit 2), (.mk [.any, .any, .any, .any, (.cv (.one (.int .i64 (.var 0)))), (.cv (.one (.slc 1 (.var 1)))), .any, .any, .any, (.cv (.one (.slc 3 (.lit 9)))), (.cv (.one (.int .i64 (.var 2)))), .any, .any, .any, .any, .any, .any, .any, .any, .any, .any, .any, .any, .any, .any, .any, .any, .any, .any, .any, .any, .any, .any, .any, .any, .any, .any, .any, .any, .any, .any, .any, .any, .any, .any, .any, .any, .any, .any, .any, .any, .any, .any, .any, .any, .any, .any, .any, .any, .any, .any, .any, .any, .any, .any, .any, .any, .any, .any, .any, .any, .any, .any, .any, .any, .any, .any, .any, .any, .any, .any, .any, .any, .any, .any, .any, .any, .any, .any, .any, .any, .any, .any, .any, .any, .any, .any] [(.blk (.mk 35 [(.int .i64 (.var 3)), (.int .i64 (.var 4)), (.int .i64 (.var 5)), (.int .i64 (.var 6))] 0 none)), (.blk (.mk 35 [] 0 (some (.row (.mk 57 4 [(.var 7), (.var 8), (.var 9), (.var 10)] (.var 11) (.var 12) none []))))), .dead, (.blk (.mk 24 [] 0 (some (.row (.mk 59 3 [(.var 13), (.var 14), (.var 15), (.var 16)] (.lit 9) (.lit 9) none []))))), .dead]), 0, [0, 1, 2, 9, 10, 11, 12, 13, 14, 15, 16, 17, 18, 19, 20, 21, 22])])
def bt_qI : BTree := (.node (.cmp .lt (.var 8) (.bin .imax .i64 (.var 3) (.lit 0))) (.node (.app 54 0 (.cons (.var 4) (.cons (.var 5) (.cons (.var 6) (.cons (.var 7) .nil))))) (.node (.cmp .le (.lit 0) (.var 8)) (.node (.cmp .lt (.var 8) (.bin .imax .i64 (.var 1) (.lit 0))) (.node (.cmp .lt (.var 8) (.bin .imax .i64 (.var 17) (.lit 0))) (.node (.cmp .lt (.var 8) (.bin .imax .i64 (.var 26) (.lit 0))) (.node (.app 8 0 (.cons (.app 57 0 (.cons (.var 13) (.cons (.var 14) (.cons (.var 15) (.cons (.var 16) (.cons (.var 8) .nil)))))) (.cons (.app 57 1 (.cons (.var 13) (.cons (.var 14) (.cons (.var 15) (.cons (.var 16) (.cons (.var 8) .nil)))))) (.cons (.app 57 2 (.cons (.var 13) (.cons (.var 14) (.cons (.var 15) (.cons (.var 16) (.cons (.var 8) .nil)))))) (.cons (.app 57 3 (.cons (.var 13) (.cons (.var 14) (.cons (.var 15) (.cons (.var 16) (.cons (.var 8) .nil)))))) (.cons (.app 55 0 (.cons (.var 23) (.cons (.var 24) (.cons (.var 25) (.cons (.var 8) .nil))))) (.cons (.app 55 1 (.cons (.var 23) (.cons (.var 24) (.cons (.var 25) (.cons (.var 8) .nil))))) (.cons (.app 55 2 (.cons (.var 23) (.cons (.var 24) (.cons (.var 25) (.cons (.var 8) .nil))))) .nil)))))))) (.next [(.var 0), (.var 1), (.var 2), (.var 3), (.var 4), (.var 5), (.var 6), (.var 7), (.wrap .i64 (.bin .add .i64 (.var 8) (.lit 1))), (.var 9), (.var 10), (.var 11), (.var 12), (.var 13), (.var 14), (.var 15), (.var 16), (.var 17), (.var 18), (.var 19), (.var 20), (.var 21), (.var 22), (.var 23), (.var 24), (.var 25), (.var 26), (.var 27)]) (.dead 2)) (.dead 1047)) (.dead 1047)) (.dead 1047)) (.dead 1047)) (.out 0 [(.var 0), (.var 1), (.var 2), (.var 9), (.var 10), (.var 11), (.var 12), (.var 13), (.var 14), (.var 15), (.var 16), (.var 17), (.var 18), (.var 19), (.var 20), (.var 21), (.var 22)])) (.out 0 [(.var 0), (.var 1), (.var 2), (.var 9), (.var 10), (.var 11), (.var 12), (.var 13), (.var 14), (.var 15), (.var 16), (.var 17), (.var 18), (.var 19), (.var 20), (.var 21), (.var 22)]))
theorem bt_qI_eq : bodyTree XQ0 l_qI 200 80 = bt_qI := by kernel_rfl
theorem lok_qI (w : World) : l_qI.ok Try.prog w (FI pv) FB := by
  refine LEnt.by_loop (X := XQ0) (fun zs => XQ0_ok w _ rfl rfl) mixed bt_qI_eq (fun zs hz hp => ?_)
  obtain ⟨n, L, ii, M, o0, o1, o2, m, k, e0, e1, e2, e3, a, b, c, d, L2, lo, f0, f1, f2, f3, r, x, s, M2, lo2, rfl⟩ := len28 hz
  have hp := ands_den _ _ (hp _ rfl)
  simp only [List.forall_mem_cons, qEq, qLe, SB.den, COp.den, SE.den, SL.den, SL.of, IOp.den, vv, envOf, List.getD_cons_zero, List.getD_cons_succ, beq_iff_eq, decide_eq_true_eq, ite_max] at hp
  obtain ⟨rfl, rfl, rfl, rfl, rfl, hM, hL, hm, h0, hh, -⟩ := hp
  have hh : BH a b c d o0 o1 o2 = true := hh
  rw [f54] at hM
  rw [f56] at hL
  have key : ∀ (j : Nat) (k : Int), 0 ≤ k → max M 0 ≤ k + j → loopF (FI pv) FB bt_qI (j + 1) [n, L, ii, M, o0, o1, o2, m, k, e0, e1, e2, e3, a, b, c, d, L, lo, f0, f1, f2, f3, o0, o1, o2, M, lo2] = some (0, [n, L, ii, e0, e1, e2, e3, a, b, c, d, L, lo, f0, f1, f2, f3]) := by
    intro j
    induction j with
    | zero =>
      intro i h0 h2
      unfold loopF
      simp only [bt_qI, BTree.den, SE.den, SB.den, SL.den, COp.den, IOp.den, envOf, List.map_cons, List.map_nil, List.getD_cons_zero, List.getD_cons_succ, ite_max]
      rw [decide_eq_false (p := i < max M 0) (by omega)]
      rfl
    | succ j ih =>
      intro i h0 h2
      unfold loopF
      simp only [bt_qI, BTree.den, SE.den, SB.den, SL.den, COp.den, IOp.den, envOf, List.map_cons, List.map_nil, List.getD_cons_zero, List.getD_cons_succ, ite_max, b54, f55_0, f55_1, f55_2, f57_0, f57_1, f57_2, f57_3]
      by_cases hc : i < max M 0
      · obtain ⟨q, rfl⟩ : ∃ q : Nat, i = (q : Int) := ⟨i.toNat, by omega⟩
        cases hO : OV o0 o1 o2 m
        · rw [hO] at hM
          have : M = 0 := hM
          omega
        rw [hO, if_pos rfl] at hM
        have hO' := hO
        unfold OV at hO'
        simp only [Bool.and_eq_true, decide_eq_true_eq] at hO'
        have hl := olen_le3 o0 o1 o2 m.toNat 0
        cases hB : BO a b c d n
        · rw [hB] at hL
          have : L = 0 := hL
          omega
        rw [hB, if_pos rfl] at hL
        have hin := oz_in hh q (fun j hj => olen_ook o0 o1 o2 m.toNat 0 j (by omega) (by omega)) (fun j hj => blen_bok a b c d n.toNat 0 j (by omega) (by omega))
        rw [decide_eq_true hc, decide_eq_true (p := (0 : Int) ≤ (q : Int)) h0, decide_eq_true (p := (q : Int) < max L 0) (by omega), wrap_in (x := (q : Int) + 1) (by omega) (by omega), Int.toNat_natCast]
        rw [show (FB 8 0 [(bz a b c d q).1, (bz a b c d q).2.1, (bz a b c d q).2.2.1, (bz a b c d q).2.2.2, (oz o0 o1 o2 q).1, (oz o0 o1 o2 q).2.1, (oz o0 o1 o2 q).2.2]) = true from hin]
        exact ih (q + 1) (by omega) (by omega)
      · rw [decide_eq_false hc]
        rfl
  exact ⟨(max M 0 - k).toNat + 1, 0, _, _, _, _, _, key _ k h0 (by omega), rfl, Or.inl rfl, rfl⟩
end Go.Proofs.Ythggppjdapmgdaa
