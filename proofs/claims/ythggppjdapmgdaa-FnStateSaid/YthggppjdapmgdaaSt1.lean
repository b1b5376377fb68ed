/- Loops of the law of states of drawn boxes. -/
import Derived.Test.YthggppjdapmgdaaSt0
import Derived.Test.YthggppjdapmgdaaMCs
namespace Go.Proofs.Ythggppjdapmgdaa
set_option linter.unusedSimpArgs false
set_option linter.unusedVariables false
variable {pv : Int → Int → Int}
open Go.RowKit Eng
theorem len31 {zs : List Int} (h : zs.length = 31) : ∃ x0 x1 x2 x3 x4 x5 x6 x7 x8 x9 x10 x11 x12 x13 x14 x15 x16 x17 x18 x19 x20 x21 x22 x23 x24 x25 x26 x27 x28 x29 x30, zs = [x0, x1, x2, x3, x4, x5, x6, x7, x8, x9, x10, x11, x12, x13, x14, x15, x16, x17, x18, x19, x20, x21, x22, x23, x24, x25, x26, x27, x28, x29, x30] := by
  match zs, h with
  | [x0, x1, x2, x3, x4, x5, x6, x7, x8, x9, x10, x11, x12, x13, x14, x15, x16, x17, x18, x19, x20, x21, x22, x23, x24, x25, x26, x27, x28, x29, x30], _ => exact ⟨x0, x1, x2, x3, x4, x5, x6, x7, x8, x9, x10, x11, x12, x13, x14, x15, x16, x17, x18, x19, x20, x21, x22, x23, x24, x25, x26, x27, x28, x29, x30, rfl⟩
theorem olen_le3 (a b c : Int) : ∀ n k : Nat, olen a b c n k ≤ n + k
  | 0, k => by simp [olen]
  | n + 1, k => by
    unfold olen
    split
    · have := olen_le3 a b c n (k + 1); omega
    · omega
theorem CST_1 {a b c d m : Int} (h : CST a b c d m = 1) : CBD a b c d ≤ 0 ∨ DBD a b c d ≤ 0 := by
  unfold CST at h
  split at h
  · assumption
  · split at h <;> omega
def l_sI : LEnt := (.mk 14 [false, true, true, false, false, true, false, false, true, false, true, true, true, true, true, true, true, true, true] (.mk [.any, .any, .any, .any, (.cv (.one (.int .i64 (.var 0)))), (.cv (.one (.int .i64 (.var 1)))), .any, .any, .any, .any, (.cv (.one (.int .i64 (.var 2)))), (.cv (.one (.bool (.app 2 0 (.cons (.var 3) (.cons (.var 4) (.cons (.var 5) (.cons (.var 6) .nil)))))))), (.cv (.one (.int .i64 (.var 7)))), (.cv (.one (.bool (.app 2 0 (.cons (.var 8) (.cons (.var 9) (.cons (.var 10) (.cons (.var 11) .nil)))))))), (.cv (.one (.slc 1 (.lit 9)))), (.cv (.one (.int .i64 (.var 12)))), (.cv (.one (.slc 2 (.var 13)))), (.cv (.one (.bool (.app 54 0 (.cons (.var 14) (.cons (.var 15) (.cons (.var 16) (.cons (.lit 40) .nil)))))))), (.cv (.one (.int .i64 (.var 17)))), .any, .any, .any, .any, .any, .any, .any, .any, .any, .any, .any, .any, .any, .any, .any, .any, .any, .any, .any, .any, .any, .any, .any, .any, .any, .any, .any, .any, .any, .any, .any, .any, .any, .any, .any, .any, .any, .any, .any, .any, .any, .any, .any, .any, .any, .any, .any, .any, .any, .any, .any, .any, .any, .any, .any, .any, .any, .any, .any, .any, .any, .any, .any, .any, .any, .any, .any, .any, .any, .any, .any, .any, .any, .any, .any, .any, .any, .any, .any, .any, .any, .any, .any, .any, .any, .any, .any, .any, .any, .any, .any, .any, .any, .any, .any, .any, .any, .any, .any, .any, .any, .any, .any, .any, .any, .any, .any, .any, .any, .any, .any, .any, .any, .any, .any, .any, .any, .any, .any, .any, .any, .any, .any, .any, .any, .any] [(.blk (.mk 35 [(.int .i64 (.var 18)), (.int .i64 (.var 19)), (.int .i64 (.var 20)), (.int .i64 (.var 21))] 0 none)), (.blk (.mk 24 [] 0 (some (.row (.mk 59 3 [(.var 22), (.var 23), (.var 24), (.var 25)] (.lit 9) (.lit 9) none []))))), (.blk (.mk 24 [] 0 (some (.row (.mk 55 3 [(.var 26), (.var 27), (.var 28)] (.var 29) (.var 30) none [])))))]) 31 64 (some (ands [qEq (vv 14) (vv 26), qEq (vv 15) (vv 27), qEq (vv 16) (vv 28), qEq (vv 13) (vv 29), qEq (vv 13) (.app 54 0 (SL.of [vv 14, vv 15, vv 16, .lit 40])), qEq (vv 1) (.app 52 0 (SL.of [vv 22, vv 23, vv 24, vv 25, vv 0])), qEq (vv 2) (.app 51 1 (SL.of [vv 22, vv 23, vv 24, vv 25, vv 0])), qLe (.lit 0) (vv 17), .app 8 0 (SL.of [vv 22, vv 23, vv 24, vv 25, vv 26, vv 27, vv 28])])) [((.exit 2), (.mk [.any, .any, .any, .any, (.cv (.one (.int .i64 (.var 0)))), (.cv (.one (.int .i64 (.var 1)))), .any, .any, .any, .any, (.cv (.one (.int .i64 (.var 2)))), (.cv (.one (.bool (.app 2 0 (.cons (.var 3) (.cons (.var 4) (.cons (.var 5) (.cons (.var 6) .nil)))))))), (.cv (.one (.int .i64 (.var 7)))), (.cv (.one (.bool (.app 2 0 (.cons (.var 8) (.cons (.var 9) (.cons (.var 10) (.cons (.var 11) .nil)))))))), (.cv (.one (.slc 1 (.lit 9)))), (.cv (.one (.int .i64 (.var 12)))), .any, .any, .any, .any, .any, .any, .any, .any, .any, .any, .any, .any, .any, .any, .any, .any, .any, .any, .any, .any, .any, .any, .any, .any, .any, .any, .any, .any, .any, .any, .any, .any, .any, .any, .any, .any, .any, .any, .any, .any, .any, .any, .any, .any, .any, .any, .any, .any, .any, .any, .any, .any, .any, .any, .any, .any, .any, .any, .any, .any, .any, .any, .any, .any, .any, .any, .any, .any, .any, .any, .any, .any, .any, .any, .any, .any, .any, .any, .any, .any, .any, .any, .any, .any, .any, .any, .any, .any, .any, .any, .any, .any, .any, .any, .any, .any, .any, .any, .any, .any, .any, .any, .any, .any, .any, .any, .any, .any, .any, .any, .any, .any, .any, .any, .any, .any, .any, .any, .any, .any, .any, .any, .any, .any, .any, .any, .any, .any, .any] [(.blk (.mk 35 [(.int .i64 (.var 13)), (.int .i64 (.var 14)), (.int .i64 (.var 15)), (.int .i64 (.var 16))] 0 none)), (.blk (.mk 24 [] 0 (some (.row (.mk 59 3 [(.var 17), (.var 18), (.var 19), (.var 20)] (.lit 9) (.lit 9) none []))))), .dead]), 0, [0, 1, 2, 3, 4, 5, 6, 7, 8, 9, 10, 11, 12, 18, 19, 20, 21, 22, 23, 24, 25])])
def bt_sI : BTree := (.node (.cmp .lt (.var 17) (.bin .imax .i64 (.var 13) (.lit 0))) (.node (.app 54 0 (.cons (.var 14) (.cons (.var 15) (.cons (.var 16) (.cons (.lit 40) .nil))))) (.node (.cmp .le (.lit 0) (.var 17)) (.node (.cmp .lt (.var 17) (.bin .imax .i64 (.var 29) (.lit 0))) (.node (.app 3 0 (.cons (.app 55 0 (.cons (.var 26) (.cons (.var 27) (.cons (.var 28) (.cons (.var 17) .nil))))) (.cons (.app 55 1 (.cons (.var 26) (.cons (.var 27) (.cons (.var 28) (.cons (.var 17) .nil))))) (.cons (.app 55 2 (.cons (.var 26) (.cons (.var 27) (.cons (.var 28) (.cons (.var 17) .nil))))) .nil)))) (.node (.cmp .eq (.var 1) (.lit 1)) (.node (.cmp .lt (.lit 0) (.app 12 0 (.cons (.app 55 0 (.cons (.var 26) (.cons (.var 27) (.cons (.var 28) (.cons (.var 17) .nil))))) (.cons (.app 55 1 (.cons (.var 26) (.cons (.var 27) (.cons (.var 28) (.cons (.var 17) .nil))))) (.cons (.app 55 2 (.cons (.var 26) (.cons (.var 27) (.cons (.var 28) (.cons (.var 17) .nil))))) .nil))))) (.dead 2) (.node (.cmp .eq (.var 1) (.lit (-1))) (.node (.cmp .eq (.var 17) (.var 2)) (.dead 2) (.next [(.var 0), (.var 1), (.var 2), (.var 3), (.var 4), (.var 5), (.var 6), (.var 7), (.var 8), (.var 9), (.var 10), (.var 11), (.var 12), (.var 13), (.var 14), (.var 15), (.var 16), (.wrap .i64 (.bin .add .i64 (.var 17) (.lit 1))), (.var 18), (.var 19), (.var 20), (.var 21), (.var 22), (.var 23), (.var 24), (.var 25), (.var 26), (.var 27), (.var 28), (.var 29), (.var 30)])) (.next [(.var 0), (.var 1), (.var 2), (.var 3), (.var 4), (.var 5), (.var 6), (.var 7), (.var 8), (.var 9), (.var 10), (.var 11), (.var 12), (.var 13), (.var 14), (.var 15), (.var 16), (.wrap .i64 (.bin .add .i64 (.var 17) (.lit 1))), (.var 18), (.var 19), (.var 20), (.var 21), (.var 22), (.var 23), (.var 24), (.var 25), (.var 26), (.var 27), (.var 28), (.var 29), (.var 30)]))) (.node (.cmp .eq (.var 1) (.lit (-1))) (.node (.cmp .eq (.var 17) (.var 2)) (.node (.cmp .le (.app 12 0 (.cons (.app 55 0 (.cons (.var 26) (.cons (.var 27) (.cons (.var 28) (.cons (.var 17) .nil))))) (.cons (.app 55 1 (.cons (.var 26) (.cons (.var 27) (.cons (.var 28) (.cons (.var 17) .nil))))) (.cons (.app 55 2 (.cons (.var 26) (.cons (.var 27) (.cons (.var 28) (.cons (.var 17) .nil))))) .nil)))) (.lit 0)) (.dead 2) (.next [(.var 0), (.var 1), (.var 2), (.var 3), (.var 4), (.var 5), (.var 6), (.var 7), (.var 8), (.var 9), (.var 10), (.var 11), (.var 12), (.var 13), (.var 14), (.var 15), (.var 16), (.wrap .i64 (.bin .add .i64 (.var 17) (.lit 1))), (.var 18), (.var 19), (.var 20), (.var 21), (.var 22), (.var 23), (.var 24), (.var 25), (.var 26), (.var 27), (.var 28), (.var 29), (.var 30)])) (.next [(.var 0), (.var 1), (.var 2), (.var 3), (.var 4), (.var 5), (.var 6), (.var 7), (.var 8), (.var 9), (.var 10), (.var 11), (.var 12), (.var 13), (.var 14), (.var 15), (.var 16), (.wrap .i64 (.bin .add .i64 (.var 17) (.lit 1))), (.var 18), (.var 19), (.var 20), (.var 21), (.var 22), (.var 23), (.var 24), (.var 25), (.var 26), (.var 27), (.var 28), (.var 29), (.var 30)])) (.next [(.var 0), (.var 1), (.var 2), (.var 3), (.var 4), (.var 5), (.var 6), (.var 7), (.var 8), (.var 9), (.var 10), (.var 11), (.var 12), (.var 13), (.var 14), (.var 15), (.var 16), (.wrap .i64 (.bin .add .i64 (.var 17) (.lit 1))), (.var 18), (.var 19), (.var 20), (.var 21), (.var 22), (.var 23), (.var 24), (.var 25), (.var 26), (.var 27), (.var 28), (.var 29), (.var 30)]))) (.dead 2)) (.dead 1047)) (.dead 1047)) (.out 0 [(.var 0), (.var 1), (.var 2), (.var 3), (.var 4), (.var 5), (.var 6), (.var 7), (.var 8), (.var 9), (.var 10), (.var 11), (.var 12), (.var 18), (.var 19), (.var 20), (.var 21), (.var 22), (.var 23), (.var 24), (.var 25)])) (.out 0 [(.var 0), (.var 1), (.var 2), (.var 3), (.var 4), (.var 5), (.var 6), (.var 7), (.var 8), (.var 9), (.var 10), (.var 11), (.var 12), (.var 18), (.var 19), (.var 20), (.var 21), (.var 22), (.var 23), (.var 24), (.var 25)]))
theorem bt_sI_eq : bodyTree XS0 l_sI 200 80 = bt_sI := by kernel_rfl
theorem lok_sI (w : World) : l_sI.ok Try.prog w (FI pv) FB := by
  refine LEnt.by_loop (X := XS0) (fun zs => XS0_ok w _ rfl rfl) mixed bt_sI_eq (fun zs hz hp => ?_)
  obtain ⟨m, out, got, u0, u1, u2, u3, ag, v0, v1, v2, v3, ii, M, o0, o1, o2, k, e0, e1, e2, e3, a, b, c, d, r, x, s, M2, lo, rfl⟩ := len31 hz
  have hp := ands_den _ _ (hp _ rfl)
  simp only [List.forall_mem_cons, qEq, qLe, SB.den, COp.den, SE.den, SL.den, SL.of, IOp.den, vv, envOf, List.getD_cons_zero, List.getD_cons_succ, beq_iff_eq, decide_eq_true_eq, ite_max] at hp
  obtain ⟨rfl, rfl, rfl, rfl, hM, hout, hgot, h0, hh, -⟩ := hp
  have hh : BH a b c d o0 o1 o2 = true := hh
  have hb : BV a b c d = true := ((BH_iff _ _ _ _ _ _ _).1 hh).1
  rw [f54] at hM
  have hout : out = CST a b c d m := hout.trans (if_pos hb)
  have hgot : got = escW a b c d m := hgot.trans (if_pos hb)
  obtain ⟨sP, sW⟩ := esc_top m a b c d
  have key : ∀ (j : Nat) (k : Int), 0 ≤ k → max M 0 ≤ k + j → loopF (FI pv) FB bt_sI (j + 1) [m, out, got, u0, u1, u2, u3, ag, v0, v1, v2, v3, ii, M, o0, o1, o2, k, e0, e1, e2, e3, a, b, c, d, o0, o1, o2, M, lo] = some (0, [m, out, got, u0, u1, u2, u3, ag, v0, v1, v2, v3, ii, e0, e1, e2, e3, a, b, c, d]) := by
    intro j
    induction j with
    | zero =>
      intro i h0 h2
      unfold loopF
      simp only [bt_sI, BTree.den, SE.den, SB.den, SL.den, COp.den, IOp.den, envOf, List.map_cons, List.map_nil, List.getD_cons_zero, List.getD_cons_succ, ite_max]
      rw [decide_eq_false (p := i < max M 0) (by omega)]
      rfl
    | succ j ih =>
      intro i h0 h2
      unfold loopF
      simp only [bt_sI, BTree.den, SE.den, SB.den, SL.den, COp.den, IOp.den, envOf, List.map_cons, List.map_nil, List.getD_cons_zero, List.getD_cons_succ, ite_max, b54, f55_0, f55_1, f55_2]
      by_cases hc : i < max M 0
      · obtain ⟨q, rfl⟩ : ∃ q : Nat, i = (q : Int) := ⟨i.toNat, by omega⟩
        cases hO : OV o0 o1 o2 40
        · rw [hO] at hM
          have : M = 0 := hM
          omega
        rw [hO, if_pos rfl] at hM
        have hM : M = ((olen o0 o1 o2 40 0 : Nat) : Int) := hM
        have hl := olen_le3 o0 o1 o2 40 0
        have hdv : DV (oz o0 o1 o2 q).1 (oz o0 o1 o2 q).2.1 (oz o0 o1 o2 q).2.2 = true := oz_dv o0 o1 o2 q
        have hoo : ∀ j, j < q → ook o0 o1 o2 j = true := fun j hj => olen_ook o0 o1 o2 40 0 j (by omega) (by omega)
        have nx := ih (q + 1) (by omega) (by omega)
        rw [decide_eq_true hc, decide_eq_true (p := (0 : Int) ≤ (q : Int)) h0, wrap_in (x := (q : Int) + 1) (by omega) (by omega), Int.toNat_natCast]
        rw [show FB 3 0 [(oz o0 o1 o2 q).1, (oz o0 o1 o2 q).2.1, (oz o0 o1 o2 q).2.2] = true from hdv, show FI pv 12 0 [(oz o0 o1 o2 q).1, (oz o0 o1 o2 q).2.1, (oz o0 o1 o2 q).2.2] = NM (oz o0 o1 o2 q).1 (oz o0 o1 o2 q).2.1 (oz o0 o1 o2 q).2.2 from if_pos hdv]
        by_cases c1 : out = 1
        · have hcd : CBD a b c d ≤ 0 ∨ DBD a b c d ≤ 0 := CST_1 (hout.symm.trans c1)
          have hn := stay hh hcd q hoo
          rw [beq_iff_eq.2 c1, decide_eq_false (p := 0 < NM (oz o0 o1 o2 q).1 (oz o0 o1 o2 q).2.1 (oz o0 o1 o2 q).2.2) (by omega), show (out == -1) = false from beq_eq_false_iff_ne.2 (by omega)]
          exact nx
        · rw [beq_eq_false_iff_ne.2 c1]
          by_cases c2 : out = -1
          · rw [show (out == -1) = true from beq_iff_eq.2 c2]
            by_cases c3 : (q : Int) = got
            · rw [show ((q : Int) == got) = true from beq_iff_eq.2 c3]
              have hn : ¬ NM (oz o0 o1 o2 q).1 (oz o0 o1 o2 q).2.1 (oz o0 o1 o2 q).2.2 ≤ 0 := by
                intro hn
                obtain ⟨-, g, g1, g2, g3⟩ := sW (by omega)
                obtain rfl : q = g := by omega
                have hi := oz_in hh q hoo g2
                have hb' := ((BH_iff _ _ _ _ _ _ _).1 hi).1
                unfold nlo at g3
                rw [if_pos hb'] at g3
                rcases norm_in2 hi with h | h <;> omega
              rw [decide_eq_false hn]
              exact nx
            · rw [show ((q : Int) == got) = false from beq_eq_false_iff_ne.2 c3]
              exact nx
          · rw [show (out == -1) = false from beq_eq_false_iff_ne.2 c2]
            exact nx
      · rw [decide_eq_false hc]
        rfl
  exact ⟨(max M 0 - k).toNat + 1, 0, _, _, _, _, _, key _ k h0 (by omega), rfl, Or.inl rfl, rfl⟩
end Go.Proofs.Ythggppjdapmgdaa
