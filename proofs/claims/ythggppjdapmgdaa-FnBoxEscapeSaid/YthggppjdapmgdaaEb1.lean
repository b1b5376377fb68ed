/- Loops of the law of escapes of drawn boxes. -/
import Derived.Test.YthggppjdapmgdaaEb0
import Derived.Test.YthggppjdapmgdaaBoM7
namespace Go.Proofs.Ythggppjdapmgdaa
set_option linter.unusedSimpArgs false
set_option linter.unusedVariables false
variable {pv : Int → Int → Int}
open Go.RowKit Eng
theorem len22b {zs : List Int} (h : zs.length = 22) : ∃ x0 x1 x2 x3 x4 x5 x6 x7 x8 x9 x10 x11 x12 x13 x14 x15 x16 x17 x18 x19 x20 x21, zs = [x0, x1, x2, x3, x4, x5, x6, x7, x8, x9, x10, x11, x12, x13, x14, x15, x16, x17, x18, x19, x20, x21] := by
  match zs, h with
  | [x0, x1, x2, x3, x4, x5, x6, x7, x8, x9, x10, x11, x12, x13, x14, x15, x16, x17, x18, x19, x20, x21], _ => exact ⟨x0, x1, x2, x3, x4, x5, x6, x7, x8, x9, x10, x11, x12, x13, x14, x15, x16, x17, x18, x19, x20, x21, rfl⟩
theorem olen_le3 (a b c : Int) : ∀ n k : Nat, olen a b c n k ≤ n + k
  | 0, k => by simp [olen]
  | n + 1, k => by
    unfold olen
    split
    · have := olen_le3 a b c n (k + 1); omega
    · omega
def l_bI : LEnt := (.mk 11 [false, true, true, false, false, true, false, false, true, false, true, true, true, true, true, true, true] (.mk [.any, .any, .any, .any, (.cv (.one (.int .i64 (.var 0)))), (.cv (.one (.int .i64 (.var 1)))), (.cv (.one (.int .i64 (.var 2)))), .any, .any, .any, .any, (.cv (.one (.slc 1 (.lit 9)))), (.cv (.one (.int .i64 (.var 3)))), (.cv (.one (.slc 2 (.var 4)))), (.cv (.one (.bool (.app 54 0 (.cons (.var 5) (.cons (.var 6) (.cons (.var 7) (.cons (.lit 40) .nil)))))))), (.cv (.one (.int .i64 (.var 8)))), .any, .any, .any, .any, .any, .any, .any, .any, .any, .any, .any, .any, .any, .any, .any, .any, .any, .any, .any, .any, .any, .any, .any, .any, .any, .any, .any, .any, .any, .any, .any, .any, .any, .any, .any, .any, .any, .any, .any, .any, .any, .any, .any, .any, .any, .any, .any, .any, .any, .any, .any, .any, .any, .any, .any, .any, .any, .any, .any, .any, .any, .any, .any, .any, .any, .any, .any, .any, .any, .any, .any, .any, .any, .any, .any, .any, .any, .any, .any, .any, .any, .any, .any, .any, .any, .any, .any, .any, .any, .any, .any, .any, .any, .any, .any, .any, .any, .any, .any, .any, .any, .any, .any, .any, .any, .any, .any, .any, .any, .any, .any, .any, .any, .any, .any, .any, .any, .any, .any, .any, .any, .any] [(.blk (.mk 35 [(.int .i64 (.var 9)), (.int .i64 (.var 10)), (.int .i64 (.var 11)), (.int .i64 (.var 12))] 0 none)), (.blk (.mk 24 [] 0 (some (.row (.mk 59 3 [(.var 13), (.var 14), (.var 15), (.var 16)] (.lit 9) (.lit 9) none []))))), (.blk (.mk 24 [] 0 (some (.row (.mk 55 3 [(.var 17), (.var 18), (.var 19)] (.var 20) (.var 21) none [])))))]) 22 64 (some (ands [qEq (vv 5) (vv 17), qEq (vv 6) (vv 18), qEq (vv 7) (vv 19), qEq (vv 4) (vv 20), qEq (vv 4) (.app 54 0 (SL.of [vv 5, vv 6, vv 7, .lit 40])), qEq (vv 1) (.app 51 0 (SL.of [vv 13, vv 14, vv 15, vv 16, vv 0])), qEq (vv 2) (.app 51 1 (SL.of [vv 13, vv 14, vv 15, vv 16, vv 0])), qLe (.lit 0) (vv 8), .app 8 0 (SL.of [vv 13, vv 14, vv 15, vv 16, vv 17, vv 18, vv 19])])) [((.exit 2), (.mk [.any, .any, .any, .any, (.cv (.one (.int .i64 (.var 0)))), (.cv (.one (.int .i64 (.var 1)))), (.cv (.one (.int .i64 (.var 2)))), .any, .any, .any, .any, (.cv (.one (.slc 1 (.lit 9)))), (.cv (.one (.int .i64 (.var 3)))), .any, .any, .any, .any, .any, .any, .any, .any, .any, .any, .any, .any, .any, .any, .any, .any, .any, .any, .any, .any, .any, .any, .any, .any, .any, .any, .any, .any, .any, .any, .any, .any, .any, .any, .any, .any, .any, .any, .any, .any, .any, .any, .any, .any, .any, .any, .any, .any, .any, .any, .any, .any, .any, .any, .any, .any, .any, .any, .any, .any, .any, .any, .any, .any, .any, .any, .any, .any, .any, .any, .any, .any, .any, .any, .any, .any, .any, .any, .any, .any, .any, .any, .any, .any, .any, .any, .any, .any, .any, .any, .any, .any, .any, .any, .any, .any, .any, .any, .any, .any, .any, .any, .any, .any, .any, .any, .any, .any, .any, .any, .any, .any, .any, .any, .any, .any, .any, .any, .any, .any, .any, .any, .any, .any, .any] [(.blk (.mk 35 [(.int .i64 (.var 4)), (.int .i64 (.var 5)), (.int .i64 (.var 6)), (.int .i64 (.var 7))] 0 none)), (.blk (.mk 24 [] 0 (some (.row (.mk 59 3 [(.var 8), (.var 9), (.var 10), (.var 11)] (.lit 9) (.lit 9) none []))))), .dead]), 0, [0, 1, 2, 3, 9, 10, 11, 12, 13, 14, 15, 16])])
def bt_bI : BTree := (.node (.cmp .lt (.var 8) (.bin .imax .i64 (.var 4) (.lit 0))) (.node (.app 54 0 (.cons (.var 5) (.cons (.var 6) (.cons (.var 7) (.cons (.lit 40) .nil))))) (.node (.cmp .le (.lit 0) (.var 8)) (.node (.cmp .lt (.var 8) (.bin .imax .i64 (.var 20) (.lit 0))) (.node (.app 3 0 (.cons (.app 55 0 (.cons (.var 17) (.cons (.var 18) (.cons (.var 19) (.cons (.var 8) .nil))))) (.cons (.app 55 1 (.cons (.var 17) (.cons (.var 18) (.cons (.var 19) (.cons (.var 8) .nil))))) (.cons (.app 55 2 (.cons (.var 17) (.cons (.var 18) (.cons (.var 19) (.cons (.var 8) .nil))))) .nil)))) (.node (.cmp .lt (.lit 0) (.app 12 0 (.cons (.app 55 0 (.cons (.var 17) (.cons (.var 18) (.cons (.var 19) (.cons (.var 8) .nil))))) (.cons (.app 55 1 (.cons (.var 17) (.cons (.var 18) (.cons (.var 19) (.cons (.var 8) .nil))))) (.cons (.app 55 2 (.cons (.var 17) (.cons (.var 18) (.cons (.var 19) (.cons (.var 8) .nil))))) .nil))))) (.node (.cmp .le (.lit 0) (.var 1)) (.node (.cmp .lt (.var 8) (.var 1)) (.dead 2) (.node (.cmp .eq (.var 8) (.var 2)) (.next [(.var 0), (.var 1), (.var 2), (.var 3), (.var 4), (.var 5), (.var 6), (.var 7), (.wrap .i64 (.bin .add .i64 (.var 8) (.lit 1))), (.var 9), (.var 10), (.var 11), (.var 12), (.var 13), (.var 14), (.var 15), (.var 16), (.var 17), (.var 18), (.var 19), (.var 20), (.var 21)]) (.next [(.var 0), (.var 1), (.var 2), (.var 3), (.var 4), (.var 5), (.var 6), (.var 7), (.wrap .i64 (.bin .add .i64 (.var 8) (.lit 1))), (.var 9), (.var 10), (.var 11), (.var 12), (.var 13), (.var 14), (.var 15), (.var 16), (.var 17), (.var 18), (.var 19), (.var 20), (.var 21)]))) (.node (.cmp .eq (.var 8) (.var 2)) (.next [(.var 0), (.var 1), (.var 2), (.var 3), (.var 4), (.var 5), (.var 6), (.var 7), (.wrap .i64 (.bin .add .i64 (.var 8) (.lit 1))), (.var 9), (.var 10), (.var 11), (.var 12), (.var 13), (.var 14), (.var 15), (.var 16), (.var 17), (.var 18), (.var 19), (.var 20), (.var 21)]) (.next [(.var 0), (.var 1), (.var 2), (.var 3), (.var 4), (.var 5), (.var 6), (.var 7), (.wrap .i64 (.bin .add .i64 (.var 8) (.lit 1))), (.var 9), (.var 10), (.var 11), (.var 12), (.var 13), (.var 14), (.var 15), (.var 16), (.var 17), (.var 18), (.var 19), (.var 20), (.var 21)]))) (.node (.cmp .eq (.var 8) (.var 2)) (.dead 2) (.next [(.var 0), (.var 1), (.var 2), (.var 3), (.var 4), (.var 5), (.var 6), (.var 7), (.wrap .i64 (.bin .add .i64 (.var 8) (.lit 1))), (.var 9), (.var 10), (.var 11), (.var 12), (.var 13), (.var 14), (.var 15), (.var 16), (.var 17), (.var 18), (.var 19), (.var 20), (.var 21)]))) (.dead 2)) (.dead 1047)) (.dead 1047)) (.out 0 [(.var 0), (.var 1), (.var 2), (.var 3), (.var 9), (.var 10), (.var 11), (.var 12), (.var 13), (.var 14), (.var 15), (.var 16)])) (.out 0 [(.var 0), (.var 1), (.var 2), (.var 3), (.var 9), (.var 10), (.var 11), (.var 12), (.var 13), (.var 14), (.var 15), (.var 16)]))
theorem bt_bI_eq : bodyTree XE9 l_bI 200 80 = bt_bI := by kernel_rfl
theorem lok_bI (w : World) : l_bI.ok Try.prog w (FI pv) FB := by
  refine LEnt.by_loop (X := XE9) (fun zs => XE9_ok w _ rfl rfl) mixed bt_bI_eq (fun zs hz hp => ?_)
  obtain ⟨m, out, got, ii, M, o0, o1, o2, k, e0, e1, e2, e3, a, b, c, d, r, x, s, M2, lo, rfl⟩ := len22b hz
  have hp := ands_den _ _ (hp _ rfl)
  simp only [List.forall_mem_cons, qEq, qLe, SB.den, COp.den, SE.den, SL.den, SL.of, IOp.den, vv, envOf, List.getD_cons_zero, List.getD_cons_succ, beq_iff_eq, decide_eq_true_eq, ite_max] at hp
  obtain ⟨rfl, rfl, rfl, rfl, hM, hout, hgot, h0, hh, -⟩ := hp
  have hh : BH a b c d o0 o1 o2 = true := hh
  have hb : BV a b c d = true := ((BH_iff _ _ _ _ _ _ _).1 hh).1
  rw [f54] at hM
  have hout : out = escP a b c d m := hout.trans (if_pos hb)
  have hgot : got = escW a b c d m := hgot.trans (if_pos hb)
  obtain ⟨sP, sW⟩ := esc_top m a b c d
  have key : ∀ (j : Nat) (k : Int), 0 ≤ k → max M 0 ≤ k + j → loopF (FI pv) FB bt_bI (j + 1) [m, out, got, ii, M, o0, o1, o2, k, e0, e1, e2, e3, a, b, c, d, o0, o1, o2, M, lo] = some (0, [m, out, got, ii, e0, e1, e2, e3, a, b, c, d]) := by
    intro j
    induction j with
    | zero =>
      intro i h0 h2
      unfold loopF
      simp only [bt_bI, BTree.den, SE.den, SB.den, SL.den, COp.den, IOp.den, envOf, List.map_cons, List.map_nil, List.getD_cons_zero, List.getD_cons_succ, ite_max]
      rw [decide_eq_false (p := i < max M 0) (by omega)]
      rfl
    | succ j ih =>
      intro i h0 h2
      unfold loopF
      simp only [bt_bI, BTree.den, SE.den, SB.den, SL.den, COp.den, IOp.den, envOf, List.map_cons, List.map_nil, List.getD_cons_zero, List.getD_cons_succ, ite_max, b54, f55_0, f55_1, f55_2]
      by_cases hc : i < max M 0
      · obtain ⟨q, rfl⟩ : ∃ q : Nat, i = (q : Int) := ⟨i.toNat, by omega⟩
        cases hO : OV o0 o1 o2 40
        · rw [hO] at hM
          have : M = 0 := hM
          omega
        rw [hO, if_pos rfl] at hM
        have hM : M = ((olen o0 o1 o2 40 0 : Nat) : Int) := hM
        have hl := olen_le3 o0 o1 o2 40 0
        have hdv : DV (oz o0 o1 o2 q).1 (oz o0 o1 o2 q).2.1 (oz o0 o1 o2 q).2.2 = true := oz_dv o0 o1 o2 q
        have hin : (∀ i, i < q → bok a b c d i = true) → BH (bz a b c d q).1 (bz a b c d q).2.1 (bz a b c d q).2.2.1 (bz a b c d q).2.2.2 (oz o0 o1 o2 q).1 (oz o0 o1 o2 q).2.1 (oz o0 o1 o2 q).2.2 = true := fun hbk => oz_in hh q (fun j hj => olen_ook o0 o1 o2 40 0 j (by omega) (by omega)) hbk
        have nx := ih (q + 1) (by omega) (by omega)
        rw [decide_eq_true hc, decide_eq_true (p := (0 : Int) ≤ (q : Int)) h0, wrap_in (x := (q : Int) + 1) (by omega) (by omega), Int.toNat_natCast]
        rw [show FB 3 0 [(oz o0 o1 o2 q).1, (oz o0 o1 o2 q).2.1, (oz o0 o1 o2 q).2.2] = true from hdv, show FI pv 12 0 [(oz o0 o1 o2 q).1, (oz o0 o1 o2 q).2.1, (oz o0 o1 o2 q).2.2] = NM (oz o0 o1 o2 q).1 (oz o0 o1 o2 q).2.1 (oz o0 o1 o2 q).2.2 from if_pos hdv]
        by_cases c1 : 0 < NM (oz o0 o1 o2 q).1 (oz o0 o1 o2 q).2.1 (oz o0 o1 o2 q).2.2
        · rw [decide_eq_true c1]
          by_cases c2 : 0 ≤ out
          · rw [decide_eq_true c2]
            by_cases c3 : (q : Int) < out
            · exfalso
              obtain ⟨t1, t2⟩ := sP q (by omega) (by omega)
              have hi := hin t1
              have hb' := ((BH_iff _ _ _ _ _ _ _).1 hi).1
              have t3 : NHi (bz a b c d q).1 (bz a b c d q).2.1 (bz a b c d q).2.2.1 (bz a b c d q).2.2.2 ≤ 1125899906842624 := by
                unfold nhi at t2; rw [if_pos hb'] at t2; exact t2
              rcases (norm_in hi).1 with h | h <;> omega
            · rw [decide_eq_false c3]
              cases ((q : Int) == got) <;> exact nx
          · rw [decide_eq_false c2]
            cases ((q : Int) == got) <;> exact nx
        · rw [decide_eq_false c1]
          by_cases c2 : (q : Int) = got
          · exfalso
            obtain ⟨-, g, g1, g2, g3⟩ := sW (by omega)
            obtain rfl : q = g := by omega
            have hi := hin g2
            have hb' := ((BH_iff _ _ _ _ _ _ _).1 hi).1
            unfold nlo at g3
            rw [if_pos hb'] at g3
            rcases norm_in2 hi with h | h <;> omega
          · rw [beq_eq_false_iff_ne.2 c2]
            exact nx
      · rw [decide_eq_false hc]
        rfl
  exact ⟨(max M 0 - k).toNat + 1, 0, _, _, _, _, _, key _ k h0 (by omega), rfl, Or.inl rfl, rfl⟩
end Go.Proofs.Ythggppjdapmgdaa
