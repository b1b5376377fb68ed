/- The loop of the law of states of drawn numbers. -/
import Derived.Test.YthggppjdapmgdaaDs0
import Derived.Test.YthggppjdapmgdaaMCs
namespace Go.Proofs.Ythggppjdapmgdaa
set_option linter.unusedSimpArgs false
set_option linter.unusedVariables false
variable {pv : Int → Int → Int}
open Go.RowKit Eng
theorem len20 {zs : List Int} (h : zs.length = 20) : ∃ x0 x1 x2 x3 x4 x5 x6 x7 x8 x9 x10 x11 x12 x13 x14 x15 x16 x17 x18 x19, zs = [x0, x1, x2, x3, x4, x5, x6, x7, x8, x9, x10, x11, x12, x13, x14, x15, x16, x17, x18, x19] := by
  match zs, h with
  | [x0, x1, x2, x3, x4, x5, x6, x7, x8, x9, x10, x11, x12, x13, x14, x15, x16, x17, x18, x19], _ => exact ⟨x0, x1, x2, x3, x4, x5, x6, x7, x8, x9, x10, x11, x12, x13, x14, x15, x16, x17, x18, x19, rfl⟩
theorem olen_le3 (a b c : Int) : ∀ n k : Nat, olen a b c n k ≤ n + k
  | 0, k => by simp [olen]
  | n + 1, k => by
    unfold olen
    split
    · have := olen_le3 a b c n (k + 1); omega
    · omega
theorem CST_1 {a b c d m : Int} (h : CST a b c d m = 1) : CBD a b c d ≤ 0 ∨ DBD a b c d ≤ 0 := by
  unfold CST at h
  split at h
  · assumption
  · split at h <;> omega
def l_wI : LEnt := (.mk 3 [false, true, false, true, true, true, true, true, true, true, true] (.mk [.any, .any, .any, .any, (.cv (.one (.int .i64 (.var 0)))), (.cv (.one (.int .i64 (.var 1)))), .any, .any, .any, (.cv (.one (.int .i64 (.var 2)))), (.cv (.one (.bool (.app 8 0 (.cons (.var 3) (.cons (.var 4) (.cons (.var 5) (.cons (.var 6) (.cons (.var 7) (.cons (.var 8) (.cons (.var 9) .nil))))))))))), (.cv (.one (.slc 1 (.var 10)))), (.cv (.one (.bool (.app 54 0 (.cons (.var 11) (.cons (.var 12) (.cons (.var 13) (.cons (.lit 40) .nil)))))))), (.cv (.one (.int .i64 (.var 14)))), .any, .any, .any, .any, .any, .any, .any, .any, .any, .any, .any, .any, .any, .any, .any, .any, .any, .any, .any, .any, .any, .any, .any, .any, .any, .any, .any, .any, .any, .any, .any, .any, .any, .any, .any, .any, .any, .any, .any, .any, .any, .any, .any, .any, .any, .any, .any, .any, .any, .any, .any, .any, .any, .any, .any, .any, .any, .any, .any, .any, .any, .any, .any, .any, .any, .any, .any, .any, .any, .any, .any, .any, .any, .any, .any, .any, .any, .any, .any, .any, .any, .any, .any, .any, .any, .any, .any, .any, .any, .any, .any, .any, .any] [.dead, (.blk (.mk 24 [] 0 (some (.row (.mk 55 3 [(.var 15), (.var 16), (.var 17)] (.var 18) (.var 19) none [])))))]) 20 64 (some (ands [qEq (vv 11) (vv 15), qEq (vv 12) (vv 16), qEq (vv 13) (vv 17), qEq (vv 10) (vv 18), qEq (vv 10) (.app 54 0 (SL.of [vv 11, vv 12, vv 13, .lit 40])), qEq (vv 1) (.app 53 0 (SL.of [vv 15, vv 16, vv 17, vv 0])), qLe (.lit 0) (vv 14), .app 8 0 (SL.of [.app 37 0 (SL.of [vv 15, vv 17]), .app 37 1 (SL.of [vv 15, vv 17]), .app 37 0 (SL.of [vv 16, vv 17]), .app 37 1 (SL.of [vv 16, vv 17]), vv 15, vv 16, vv 17])])) [((.exit 0), (.mk [.any, .any, .any, .any, (.cv (.one (.int .i64 (.var 0)))), (.cv (.one (.int .i64 (.var 1)))), .any, .any, .any, (.cv (.one (.int .i64 (.var 2)))), (.cv (.one (.bool (.app 8 0 (.cons (.var 3) (.cons (.var 4) (.cons (.var 5) (.cons (.var 6) (.cons (.var 7) (.cons (.var 8) (.cons (.var 9) .nil))))))))))), .any, .any, .any, .any, .any, .any, .any, .any, .any, .any, .any, .any, .any, .any, .any, .any, .any, .any, .any, .any, .any, .any, .any, .any, .any, .any, .any, .any, .any, .any, .any, .any, .any, .any, .any, .any, .any, .any, .any, .any, .any, .any, .any, .any, .any, .any, .any, .any, .any, .any, .any, .any, .any, .any, .any, .any, .any, .any, .any, .any, .any, .any, .any, .any, .any, .any, .any, .any, .any, .any, .any, .any, .any, .any, .any, .any, .any, .any, .any, .any, .any, .any, .any, .any, .any, .any, .any, .any, .any, .any, .any, .any, .any, .any, .any, .any] [.dead, .dead]), 0, [0, 1, 2, 3, 4, 5, 6, 7, 8, 9])])
def bt_wI : BTree := (.node (.cmp .lt (.var 14) (.bin .imax .i64 (.var 10) (.lit 0))) (.node (.app 54 0 (.cons (.var 11) (.cons (.var 12) (.cons (.var 13) (.cons (.lit 40) .nil))))) (.node (.cmp .le (.lit 0) (.var 14)) (.node (.cmp .lt (.var 14) (.bin .imax .i64 (.var 18) (.lit 0))) (.node (.app 3 0 (.cons (.app 55 0 (.cons (.var 15) (.cons (.var 16) (.cons (.var 17) (.cons (.var 14) .nil))))) (.cons (.app 55 1 (.cons (.var 15) (.cons (.var 16) (.cons (.var 17) (.cons (.var 14) .nil))))) (.cons (.app 55 2 (.cons (.var 15) (.cons (.var 16) (.cons (.var 17) (.cons (.var 14) .nil))))) .nil)))) (.node (.cmp .eq (.var 1) (.lit 1)) (.node (.cmp .lt (.lit 0) (.app 12 0 (.cons (.app 55 0 (.cons (.var 15) (.cons (.var 16) (.cons (.var 17) (.cons (.var 14) .nil))))) (.cons (.app 55 1 (.cons (.var 15) (.cons (.var 16) (.cons (.var 17) (.cons (.var 14) .nil))))) (.cons (.app 55 2 (.cons (.var 15) (.cons (.var 16) (.cons (.var 17) (.cons (.var 14) .nil))))) .nil))))) (.dead 2) (.next [(.var 0), (.var 1), (.var 2), (.var 3), (.var 4), (.var 5), (.var 6), (.var 7), (.var 8), (.var 9), (.var 10), (.var 11), (.var 12), (.var 13), (.wrap .i64 (.bin .add .i64 (.var 14) (.lit 1))), (.var 15), (.var 16), (.var 17), (.var 18), (.var 19)])) (.next [(.var 0), (.var 1), (.var 2), (.var 3), (.var 4), (.var 5), (.var 6), (.var 7), (.var 8), (.var 9), (.var 10), (.var 11), (.var 12), (.var 13), (.wrap .i64 (.bin .add .i64 (.var 14) (.lit 1))), (.var 15), (.var 16), (.var 17), (.var 18), (.var 19)])) (.dead 2)) (.dead 1047)) (.dead 1047)) (.out 0 [(.var 0), (.var 1), (.var 2), (.var 3), (.var 4), (.var 5), (.var 6), (.var 7), (.var 8), (.var 9)])) (.out 0 [(.var 0), (.var 1), (.var 2), (.var 3), (.var 4), (.var 5), (.var 6), (.var 7), (.var 8), (.var 9)]))
theorem bt_wI_eq : bodyTree XD0 l_wI 200 80 = bt_wI := by kernel_rfl
theorem lok_wI (w : World) : l_wI.ok Try.prog w (FI pv) FB := by
  refine LEnt.by_loop (X := XD0) (fun zs => XD0_ok w _ rfl rfl) mixed bt_wI_eq (fun zs hz hp => ?_)
  obtain ⟨m, out, mm, u0, u1, u2, u3, u4, u5, u6, M, o0, o1, o2, k, r, x, s, M2, lo, rfl⟩ := len20 hz
  have hp := ands_den _ _ (hp _ rfl)
  simp only [List.forall_mem_cons, qEq, qLe, SB.den, COp.den, SE.den, SL.den, SL.of, IOp.den, vv, envOf, List.getD_cons_zero, List.getD_cons_succ, beq_iff_eq, decide_eq_true_eq, ite_max] at hp
  obtain ⟨rfl, rfl, rfl, rfl, hM, hout, h0, hh, -⟩ := hp
  have hh : BH (FLq o0 o2) (CEq o0 o2) (FLq o1 o2) (CEq o1 o2) o0 o1 o2 = true := hh
  obtain ⟨hb, hd, -⟩ := (BH_iff _ _ _ _ _ _ _).1 hh
  rw [f54] at hM
  have hout : out = CST (FLq o0 o2) (CEq o0 o2) (FLq o1 o2) (CEq o1 o2) m := (hout.trans (if_pos hd)).trans (if_pos hb)
  have key : ∀ (j : Nat) (k : Int), 0 ≤ k → max M 0 ≤ k + j → loopF (FI pv) FB bt_wI (j + 1) [m, out, mm, u0, u1, u2, u3, u4, u5, u6, M, o0, o1, o2, k, o0, o1, o2, M, lo] = some (0, [m, out, mm, u0, u1, u2, u3, u4, u5, u6]) := by
    intro j
    induction j with
    | zero =>
      intro i h0 h2
      unfold loopF
      simp only [bt_wI, BTree.den, SE.den, SB.den, SL.den, COp.den, IOp.den, envOf, List.map_cons, List.map_nil, List.getD_cons_zero, List.getD_cons_succ, ite_max]
      rw [decide_eq_false (p := i < max M 0) (by omega)]
      rfl
    | succ j ih =>
      intro i h0 h2
      unfold loopF
      simp only [bt_wI, BTree.den, SE.den, SB.den, SL.den, COp.den, IOp.den, envOf, List.map_cons, List.map_nil, List.getD_cons_zero, List.getD_cons_succ, ite_max, b54, f55_0, f55_1, f55_2]
      by_cases hc : i < max M 0
      · obtain ⟨q, rfl⟩ : ∃ q : Nat, i = (q : Int) := ⟨i.toNat, by omega⟩
        cases hO : OV o0 o1 o2 40
        · rw [hO] at hM
          have : M = 0 := hM
          omega
        rw [hO, if_pos rfl] at hM
        have hM : M = ((olen o0 o1 o2 40 0 : Nat) : Int) := hM
        have hl := olen_le3 o0 o1 o2 40 0
        have hdv : DV (oz o0 o1 o2 q).1 (oz o0 o1 o2 q).2.1 (oz o0 o1 o2 q).2.2 = true := oz_dv o0 o1 o2 q
        have hoo : ∀ j, j < q → ook o0 o1 o2 j = true := fun j hj => olen_ook o0 o1 o2 40 0 j (by omega) (by omega)
        have nx := ih (q + 1) (by omega) (by omega)
        rw [decide_eq_true hc, decide_eq_true (p := (0 : Int) ≤ (q : Int)) h0, wrap_in (x := (q : Int) + 1) (by omega) (by omega), Int.toNat_natCast]
        rw [show FB 3 0 [(oz o0 o1 o2 q).1, (oz o0 o1 o2 q).2.1, (oz o0 o1 o2 q).2.2] = true from hdv, show FI pv 12 0 [(oz o0 o1 o2 q).1, (oz o0 o1 o2 q).2.1, (oz o0 o1 o2 q).2.2] = NM (oz o0 o1 o2 q).1 (oz o0 o1 o2 q).2.1 (oz o0 o1 o2 q).2.2 from if_pos hdv]
        by_cases c1 : out = 1
        · have hn := stay hh (CST_1 (hout.symm.trans c1)) q hoo
          rw [beq_iff_eq.2 c1, decide_eq_false (p := 0 < NM (oz o0 o1 o2 q).1 (oz o0 o1 o2 q).2.1 (oz o0 o1 o2 q).2.2) (by omega)]
          exact nx
        · rw [beq_eq_false_iff_ne.2 c1]
          exact nx
      · rw [decide_eq_false hc]
        rfl
  exact ⟨(max M 0 - k).toNat + 1, 0, _, _, _, _, _, key _ k h0 (by omega), rfl, Or.inl rfl, rfl⟩
end Go.Proofs.Ythggppjdapmgdaa
