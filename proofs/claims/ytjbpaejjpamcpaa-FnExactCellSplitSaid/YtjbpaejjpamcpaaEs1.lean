/- Where the boxes of an orbit escape, in the reference: its loop and its contract. -/
import Derived.Test.YtjbpaejjpamcpaaEs0
namespace Go.Proofs.Ytjbpaejjpamcpaa
set_option linter.unusedSimpArgs false
set_option linter.unusedVariables false
variable {pv : Int → Int → Int}
open Go.RowKit Eng
theorem len5 {zs : List Int} (h : zs.length = 5) : ∃ a b c d e, zs = [a, b, c, d, e] := by
  match zs, h with
  | [a, b, c, d, e], _ => exact ⟨a, b, c, d, e, rfl⟩
theorem len11 {zs : List Int} (h : zs.length = 11) : ∃ a b c d e f g i j k l, zs = [a, b, c, d, e, f, g, i, j, k, l] := by
  match zs, h with
  | [a, b, c, d, e, f, g, i, j, k, l], _ => exact ⟨a, b, c, d, e, f, g, i, j, k, l, rfl⟩
theorem esc_le (m c0 c1 c2 c3 : Int) : ∀ (n : Nat) (f k z0 z1 z2 z3 : Int), (esc m c0 c1 c2 c3 n f k z0 z1 z2 z3).1 ≤ 1
  | 0, _, _, _, _, _, _ => by simp [esc]
  | n + 1, f, k, z0, z1, z2, z3 => by
    unfold esc
    split
    · split
      · simp
      · split
        · exact esc_le m c0 c1 c2 c3 n _ _ _ _ _ _
        · simp
    · simp
/-- Where the walk comes to its end nothing has wholly escaped. -/
theorem esc_end (m c0 c1 c2 c3 : Int) : ∀ (n : Nat) (f k z0 z1 z2 z3 : Int), (esc m c0 c1 c2 c3 n f k z0 z1 z2 z3).1 = 1 → (esc m c0 c1 c2 c3 n f k z0 z1 z2 z3).2.2 = -1
  | 0, _, _, _, _, _, _, _ => by simp [esc]
  | n + 1, f, k, z0, z1, z2, z3, h => by
    unfold esc at h ⊢
    split at h
    · rename_i h1
      rw [if_pos h1]
      split at h
      · simp at h
      · rename_i h2
        rw [if_neg h2]
        split at h
        · rename_i h3
          rw [if_pos h3]
          exact esc_end m c0 c1 c2 c3 n _ _ _ _ _ _ h
        · simp at h
    · rename_i h1
      rw [if_neg h1]
def l_sEsc : LEnt := (.mk 29 [false, true, false, true, true, true, true] (.mk [.any, (.cv (.one (.int .i64 (.var 0)))), (.cv (.one (.ptr 0 0))), .any, .any, .any, .any, (.cv (.one (.int .i64 (.var 1)))), (.cv (.one (.ptr 1 0))), (.cv (.one (.int .i64 (.var 2)))), .any, .any, .any, .any, .any, .any, .any, .any, .any, .any, .any, .any, .any, .any, .any, .any, .any, .any, .any, .any, .any, .any, .any, .any, .any, .any, .any, .any, .any, .any, .any, .any, .any, .any, .any, .any, .any, .any, .any, .any, .any, .any, .any, .any, .any, .any, .any, .any, .any, .any, .any, .any, .any, .any] [(.blk (.mk 27 [(.int .i64 (.var 3)), (.int .i64 (.var 4)), (.int .i64 (.var 5)), (.int .i64 (.var 6))] 0 none)), (.blk (.mk 27 [(.int .i64 (.var 7)), (.int .i64 (.var 8)), (.int .i64 (.var 9)), (.int .i64 (.var 10))] 0 none))]) 11 50 (some (.cmp .le (.lit 0) (.var 2))) [(.ret, (.mk [.any, .any, .any, .any, (.cv (.one (.int .i64 (.var 0)))), (.cv (.one (.int .i64 (.var 1)))), (.cv (.one (.bool (.lit true)))), .any, .any, .any, .any, .any, .any, .any, .any, .any, .any, .any, .any, .any, .any, .any, .any, .any, .any, .any, .any, .any, .any, .any, .any, .any, .any, .any, .any, .any, .any, .any, .any, .any, .any, .any, .any, .any, .any, .any, .any, .any, .any, .any, .any, .any, .any, .any, .any, .any, .any, .any, .any, .any, .any, .any, .any, .any] [.dead, .dead]), 2, []), ((.exit 0), (.mk [.any, .any, .any, .any, .any, .any, .any, (.cv (.one (.int .i64 (.var 0)))), .any, .any, .any, .any, .any, .any, .any, .any, .any, .any, .any, .any, .any, .any, .any, .any, .any, .any, .any, .any, .any, .any, .any, .any, .any, .any, .any, .any, .any, .any, .any, .any, .any, .any, .any, .any, .any, .any, .any, .any, .any, .any, .any, .any, .any, .any, .any, .any, .any, .any, .any, .any, .any, .any, .any, .any] [.dead, .dead]), 1, [])])
def bt_sEsc : BTree := (.node (.cmp .le (.var 2) (.bin .imax .i64 (.lit 0) (.bin .imin .i64 (.lit 400) (.var 0)))) (.node (.cmp .lt (.var 1) (.lit 0)) (.node (.cmp .lt (.lit 1125899906842624) (.app 34 1 (.cons (.var 7) (.cons (.var 8) (.cons (.var 9) (.cons (.var 10) .nil)))))) (.node (.cmp .lt (.lit 1125899906842624) (.app 34 0 (.cons (.var 7) (.cons (.var 8) (.cons (.var 9) (.cons (.var 10) .nil)))))) (.out 0 [(.var 2), (.var 2)]) (.node (.app 6 0 (.cons (.var 7) (.cons (.var 8) (.cons (.var 9) (.cons (.var 10) .nil))))) (.node (.app 7 0 (.cons (.app 6 0 (.cons (.var 7) (.cons (.var 8) (.cons (.var 9) (.cons (.var 10) .nil))))) (.cons (.app 6 1 (.cons (.var 7) (.cons (.var 8) (.cons (.var 9) (.cons (.var 10) .nil))))) (.cons (.app 6 2 (.cons (.var 7) (.cons (.var 8) (.cons (.var 9) (.cons (.var 10) .nil))))) (.cons (.app 6 3 (.cons (.var 7) (.cons (.var 8) (.cons (.var 9) (.cons (.var 10) .nil))))) (.cons (.var 3) (.cons (.var 4) (.cons (.var 5) (.cons (.var 6) .nil))))))))) (.next [(.var 0), (.var 2), (.wrap .i64 (.bin .add .i64 (.var 2) (.lit 1))), (.var 3), (.var 4), (.var 5), (.var 6), (.app 7 0 (.cons (.app 6 0 (.cons (.var 7) (.cons (.var 8) (.cons (.var 9) (.cons (.var 10) .nil))))) (.cons (.app 6 1 (.cons (.var 7) (.cons (.var 8) (.cons (.var 9) (.cons (.var 10) .nil))))) (.cons (.app 6 2 (.cons (.var 7) (.cons (.var 8) (.cons (.var 9) (.cons (.var 10) .nil))))) (.cons (.app 6 3 (.cons (.var 7) (.cons (.var 8) (.cons (.var 9) (.cons (.var 10) .nil))))) (.cons (.var 3) (.cons (.var 4) (.cons (.var 5) (.cons (.var 6) .nil))))))))), (.app 7 1 (.cons (.app 6 0 (.cons (.var 7) (.cons (.var 8) (.cons (.var 9) (.cons (.var 10) .nil))))) (.cons (.app 6 1 (.cons (.var 7) (.cons (.var 8) (.cons (.var 9) (.cons (.var 10) .nil))))) (.cons (.app 6 2 (.cons (.var 7) (.cons (.var 8) (.cons (.var 9) (.cons (.var 10) .nil))))) (.cons (.app 6 3 (.cons (.var 7) (.cons (.var 8) (.cons (.var 9) (.cons (.var 10) .nil))))) (.cons (.var 3) (.cons (.var 4) (.cons (.var 5) (.cons (.var 6) .nil))))))))), (.app 7 2 (.cons (.app 6 0 (.cons (.var 7) (.cons (.var 8) (.cons (.var 9) (.cons (.var 10) .nil))))) (.cons (.app 6 1 (.cons (.var 7) (.cons (.var 8) (.cons (.var 9) (.cons (.var 10) .nil))))) (.cons (.app 6 2 (.cons (.var 7) (.cons (.var 8) (.cons (.var 9) (.cons (.var 10) .nil))))) (.cons (.app 6 3 (.cons (.var 7) (.cons (.var 8) (.cons (.var 9) (.cons (.var 10) .nil))))) (.cons (.var 3) (.cons (.var 4) (.cons (.var 5) (.cons (.var 6) .nil))))))))), (.app 7 3 (.cons (.app 6 0 (.cons (.var 7) (.cons (.var 8) (.cons (.var 9) (.cons (.var 10) .nil))))) (.cons (.app 6 1 (.cons (.var 7) (.cons (.var 8) (.cons (.var 9) (.cons (.var 10) .nil))))) (.cons (.app 6 2 (.cons (.var 7) (.cons (.var 8) (.cons (.var 9) (.cons (.var 10) .nil))))) (.cons (.app 6 3 (.cons (.var 7) (.cons (.var 8) (.cons (.var 9) (.cons (.var 10) .nil))))) (.cons (.var 3) (.cons (.var 4) (.cons (.var 5) (.cons (.var 6) .nil)))))))))]) (.out 0 [(.var 2), (.lit (-1))])) (.out 0 [(.var 2), (.lit (-1))]))) (.node (.cmp .lt (.lit 1125899906842624) (.app 34 0 (.cons (.var 7) (.cons (.var 8) (.cons (.var 9) (.cons (.var 10) .nil)))))) (.out 0 [(.var 1), (.var 2)]) (.node (.app 6 0 (.cons (.var 7) (.cons (.var 8) (.cons (.var 9) (.cons (.var 10) .nil))))) (.node (.app 7 0 (.cons (.app 6 0 (.cons (.var 7) (.cons (.var 8) (.cons (.var 9) (.cons (.var 10) .nil))))) (.cons (.app 6 1 (.cons (.var 7) (.cons (.var 8) (.cons (.var 9) (.cons (.var 10) .nil))))) (.cons (.app 6 2 (.cons (.var 7) (.cons (.var 8) (.cons (.var 9) (.cons (.var 10) .nil))))) (.cons (.app 6 3 (.cons (.var 7) (.cons (.var 8) (.cons (.var 9) (.cons (.var 10) .nil))))) (.cons (.var 3) (.cons (.var 4) (.cons (.var 5) (.cons (.var 6) .nil))))))))) (.next [(.var 0), (.var 1), (.wrap .i64 (.bin .add .i64 (.var 2) (.lit 1))), (.var 3), (.var 4), (.var 5), (.var 6), (.app 7 0 (.cons (.app 6 0 (.cons (.var 7) (.cons (.var 8) (.cons (.var 9) (.cons (.var 10) .nil))))) (.cons (.app 6 1 (.cons (.var 7) (.cons (.var 8) (.cons (.var 9) (.cons (.var 10) .nil))))) (.cons (.app 6 2 (.cons (.var 7) (.cons (.var 8) (.cons (.var 9) (.cons (.var 10) .nil))))) (.cons (.app 6 3 (.cons (.var 7) (.cons (.var 8) (.cons (.var 9) (.cons (.var 10) .nil))))) (.cons (.var 3) (.cons (.var 4) (.cons (.var 5) (.cons (.var 6) .nil))))))))), (.app 7 1 (.cons (.app 6 0 (.cons (.var 7) (.cons (.var 8) (.cons (.var 9) (.cons (.var 10) .nil))))) (.cons (.app 6 1 (.cons (.var 7) (.cons (.var 8) (.cons (.var 9) (.cons (.var 10) .nil))))) (.cons (.app 6 2 (.cons (.var 7) (.cons (.var 8) (.cons (.var 9) (.cons (.var 10) .nil))))) (.cons (.app 6 3 (.cons (.var 7) (.cons (.var 8) (.cons (.var 9) (.cons (.var 10) .nil))))) (.cons (.var 3) (.cons (.var 4) (.cons (.var 5) (.cons (.var 6) .nil))))))))), (.app 7 2 (.cons (.app 6 0 (.cons (.var 7) (.cons (.var 8) (.cons (.var 9) (.cons (.var 10) .nil))))) (.cons (.app 6 1 (.cons (.var 7) (.cons (.var 8) (.cons (.var 9) (.cons (.var 10) .nil))))) (.cons (.app 6 2 (.cons (.var 7) (.cons (.var 8) (.cons (.var 9) (.cons (.var 10) .nil))))) (.cons (.app 6 3 (.cons (.var 7) (.cons (.var 8) (.cons (.var 9) (.cons (.var 10) .nil))))) (.cons (.var 3) (.cons (.var 4) (.cons (.var 5) (.cons (.var 6) .nil))))))))), (.app 7 3 (.cons (.app 6 0 (.cons (.var 7) (.cons (.var 8) (.cons (.var 9) (.cons (.var 10) .nil))))) (.cons (.app 6 1 (.cons (.var 7) (.cons (.var 8) (.cons (.var 9) (.cons (.var 10) .nil))))) (.cons (.app 6 2 (.cons (.var 7) (.cons (.var 8) (.cons (.var 9) (.cons (.var 10) .nil))))) (.cons (.app 6 3 (.cons (.var 7) (.cons (.var 8) (.cons (.var 9) (.cons (.var 10) .nil))))) (.cons (.var 3) (.cons (.var 4) (.cons (.var 5) (.cons (.var 6) .nil)))))))))]) (.out 0 [(.var 1), (.lit (-1))])) (.out 0 [(.var 1), (.lit (-1))])))) (.node (.cmp .lt (.lit 1125899906842624) (.app 34 0 (.cons (.var 7) (.cons (.var 8) (.cons (.var 9) (.cons (.var 10) .nil)))))) (.out 0 [(.var 1), (.var 2)]) (.node (.app 6 0 (.cons (.var 7) (.cons (.var 8) (.cons (.var 9) (.cons (.var 10) .nil))))) (.node (.app 7 0 (.cons (.app 6 0 (.cons (.var 7) (.cons (.var 8) (.cons (.var 9) (.cons (.var 10) .nil))))) (.cons (.app 6 1 (.cons (.var 7) (.cons (.var 8) (.cons (.var 9) (.cons (.var 10) .nil))))) (.cons (.app 6 2 (.cons (.var 7) (.cons (.var 8) (.cons (.var 9) (.cons (.var 10) .nil))))) (.cons (.app 6 3 (.cons (.var 7) (.cons (.var 8) (.cons (.var 9) (.cons (.var 10) .nil))))) (.cons (.var 3) (.cons (.var 4) (.cons (.var 5) (.cons (.var 6) .nil))))))))) (.next [(.var 0), (.var 1), (.wrap .i64 (.bin .add .i64 (.var 2) (.lit 1))), (.var 3), (.var 4), (.var 5), (.var 6), (.app 7 0 (.cons (.app 6 0 (.cons (.var 7) (.cons (.var 8) (.cons (.var 9) (.cons (.var 10) .nil))))) (.cons (.app 6 1 (.cons (.var 7) (.cons (.var 8) (.cons (.var 9) (.cons (.var 10) .nil))))) (.cons (.app 6 2 (.cons (.var 7) (.cons (.var 8) (.cons (.var 9) (.cons (.var 10) .nil))))) (.cons (.app 6 3 (.cons (.var 7) (.cons (.var 8) (.cons (.var 9) (.cons (.var 10) .nil))))) (.cons (.var 3) (.cons (.var 4) (.cons (.var 5) (.cons (.var 6) .nil))))))))), (.app 7 1 (.cons (.app 6 0 (.cons (.var 7) (.cons (.var 8) (.cons (.var 9) (.cons (.var 10) .nil))))) (.cons (.app 6 1 (.cons (.var 7) (.cons (.var 8) (.cons (.var 9) (.cons (.var 10) .nil))))) (.cons (.app 6 2 (.cons (.var 7) (.cons (.var 8) (.cons (.var 9) (.cons (.var 10) .nil))))) (.cons (.app 6 3 (.cons (.var 7) (.cons (.var 8) (.cons (.var 9) (.cons (.var 10) .nil))))) (.cons (.var 3) (.cons (.var 4) (.cons (.var 5) (.cons (.var 6) .nil))))))))), (.app 7 2 (.cons (.app 6 0 (.cons (.var 7) (.cons (.var 8) (.cons (.var 9) (.cons (.var 10) .nil))))) (.cons (.app 6 1 (.cons (.var 7) (.cons (.var 8) (.cons (.var 9) (.cons (.var 10) .nil))))) (.cons (.app 6 2 (.cons (.var 7) (.cons (.var 8) (.cons (.var 9) (.cons (.var 10) .nil))))) (.cons (.app 6 3 (.cons (.var 7) (.cons (.var 8) (.cons (.var 9) (.cons (.var 10) .nil))))) (.cons (.var 3) (.cons (.var 4) (.cons (.var 5) (.cons (.var 6) .nil))))))))), (.app 7 3 (.cons (.app 6 0 (.cons (.var 7) (.cons (.var 8) (.cons (.var 9) (.cons (.var 10) .nil))))) (.cons (.app 6 1 (.cons (.var 7) (.cons (.var 8) (.cons (.var 9) (.cons (.var 10) .nil))))) (.cons (.app 6 2 (.cons (.var 7) (.cons (.var 8) (.cons (.var 9) (.cons (.var 10) .nil))))) (.cons (.app 6 3 (.cons (.var 7) (.cons (.var 8) (.cons (.var 9) (.cons (.var 10) .nil))))) (.cons (.var 3) (.cons (.var 4) (.cons (.var 5) (.cons (.var 6) .nil)))))))))]) (.out 0 [(.var 1), (.lit (-1))])) (.out 0 [(.var 1), (.lit (-1))])))) (.out 1 [(.var 1)]))
theorem bt_sEsc_eq : bodyTree XE l_sEsc 200 40 = bt_sEsc := by kernel_rfl
theorem lok_sEsc (w : World) : l_sEsc.ok Try.prog w (FI pv) FB := by
  refine LEnt.by_loop (X := XE) (fun zs => XE_ok w _ rfl rfl) mixed bt_sEsc_eq (fun zs hz hp => ?_)
  obtain ⟨m, f, k, c0, c1, c2, c3, z0, z1, z2, z3, rfl⟩ := len11 hz
  have hk : 0 ≤ k := by
    have := hp _ rfl
    simpa [SB.den, SE.den, COp.den, envOf] using this
  clear hz hp
  have key : ∀ (n : Nat) (f k z0 z1 z2 z3 : Int), 1 ≤ n → 0 ≤ k → 401 < n + k → loopF (FI pv) FB bt_sEsc n [m, f, k, c0, c1, c2, c3, z0, z1, z2, z3] = some ((esc m c0 c1 c2 c3 n f k z0 z1 z2 z3).1, if (esc m c0 c1 c2 c3 n f k z0 z1 z2 z3).1 = 0 then [(esc m c0 c1 c2 c3 n f k z0 z1 z2 z3).2.1, (esc m c0 c1 c2 c3 n f k z0 z1 z2 z3).2.2] else [(esc m c0 c1 c2 c3 n f k z0 z1 z2 z3).2.1]) := by
    intro n
    induction n with
    | zero => intro f k z0 z1 z2 z3 h; omega
    | succ n ih =>
      intro f k z0 z1 z2 z3 _ h1 h2
      have hw : k ≤ lst m → IntKind.i64.wrap (k + 1) = k + 1 := fun h => by
        have : lst m ≤ 400 := by unfold lst; omega
        exact wrap_in (by omega) (by omega)
      have hn : k ≤ lst m → 1 ≤ n := fun h => by
        have : lst m ≤ 400 := by unfold lst; omega
        omega
      unfold loopF esc
      simp only [bt_sEsc, BTree.den, SE.den, SB.den, SL.den, COp.den, IOp.den, envOf, List.map_cons, List.map_nil, List.getD_cons_zero, List.getD_cons_succ, ite_min, ite_max,
        show ∀ a b c d, FI pv 34 0 [a, b, c, d] = nlo a b c d from fun _ _ _ _ => rfl, show ∀ a b c d, FI pv 34 1 [a, b, c, d] = nhi a b c d from fun _ _ _ _ => rfl,
        show ∀ a b c d, FI pv 6 0 [a, b, c, d] = qq0 a b c d from fun _ _ _ _ => rfl, show ∀ a b c d, FI pv 6 1 [a, b, c, d] = qq1 a b c d from fun _ _ _ _ => rfl, show ∀ a b c d, FI pv 6 2 [a, b, c, d] = qq2 a b c d from fun _ _ _ _ => rfl, show ∀ a b c d, FI pv 6 3 [a, b, c, d] = qq3 a b c d from fun _ _ _ _ => rfl,
        show ∀ a b c d x y z u, FI pv 7 0 [a, b, c, d, x, y, z, u] = aa0 a b c d x y z u from fun _ _ _ _ _ _ _ _ => rfl, show ∀ a b c d x y z u, FI pv 7 1 [a, b, c, d, x, y, z, u] = aa1 a b c d x y z u from fun _ _ _ _ _ _ _ _ => rfl, show ∀ a b c d x y z u, FI pv 7 2 [a, b, c, d, x, y, z, u] = aa2 a b c d x y z u from fun _ _ _ _ _ _ _ _ => rfl, show ∀ a b c d x y z u, FI pv 7 3 [a, b, c, d, x, y, z, u] = aa3 a b c d x y z u from fun _ _ _ _ _ _ _ _ => rfl,
        show ∀ a b c d, FB 6 0 [a, b, c, d] = SQB a b c d from fun _ _ _ _ => rfl, show ∀ a b c d x y z u, FB 7 0 [a, b, c, d, x, y, z, u] = ADB a b c d x y z u from fun _ _ _ _ _ _ _ _ => rfl,
        show max 0 (min 400 m) = lst m from rfl]
      by_cases g1 : k ≤ lst m
      · rw [hw g1]
        have hn' := hn g1
        simp only [g1, decide_true, cond_true, if_true]
        by_cases g2 : f < 0 <;> by_cases g3 : 1125899906842624 < nhi z0 z1 z2 z3 <;> by_cases g4 : 1125899906842624 < nlo z0 z1 z2 z3 <;> cases g5 : SQB z0 z1 z2 z3 <;> cases g6 : ADB (qq0 z0 z1 z2 z3) (qq1 z0 z1 z2 z3) (qq2 z0 z1 z2 z3) (qq3 z0 z1 z2 z3) c0 c1 c2 c3 <;>
          simp only [g2, g3, g4, decide_true, decide_false, cond_true, cond_false, if_true, if_false, and_self, and_true, and_false, false_and, true_and, Bool.and_true, Bool.and_false, Bool.false_and, Bool.false_eq_true, ↓reduceIte] <;>
          first | rfl | exact ih _ _ _ _ _ _ hn' (by omega) (by omega)
      · simp only [g1, decide_false, cond_false, if_false, ↓reduceIte]
        rfl
  have h0 := key 402 f k z0 z1 z2 z3 (by omega) hk (by omega)
  have hle := esc_le m c0 c1 c2 c3 402 f k z0 z1 z2 z3
  have hc : (esc m c0 c1 c2 c3 402 f k z0 z1 z2 z3).1 = 0 ∨ (esc m c0 c1 c2 c3 402 f k z0 z1 z2 z3).1 = 1 := by omega
  rcases hc with hc | hc
  · rw [hc] at h0
    refine ⟨402, 0, _, _, _, _, _, h0, rfl, Or.inr ?_, rfl⟩
    show ((esc m c0 c1 c2 c3 402 f k z0 z1 z2 z3).1 : Int) = _
    rw [hc]
  · rw [hc] at h0
    refine ⟨402, 1, _, _, _, _, _, h0, rfl, Or.inr ?_, rfl⟩
    show ((esc m c0 c1 c2 c3 402 f k z0 z1 z2 z3).1 : Int) = _
    rw [hc]
end Go.Proofs.Ytjbpaejjpamcpaa
