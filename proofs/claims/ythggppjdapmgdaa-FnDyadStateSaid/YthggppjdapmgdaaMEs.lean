import Derived.Test.YthggppjdapmgdaaEs0
import Derived.Test.YthggppjdapmgdaaMIt
/- Where the boxes of an orbit escape, in the reference: its loop and its contract. -/
namespace Go.Proofs.Ythggppjdapmgdaa
set_option linter.unusedSimpArgs false
set_option linter.unusedVariables false
variable {pv : Int → Int → Int}
open Go.RowKit Eng
theorem len5 {zs : List Int} (h : zs.length = 5) : ∃ a b c d e, zs = [a, b, c, d, e] := by
  match zs, h with
  | [a, b, c, d, e], _ => exact ⟨a, b, c, d, e, rfl⟩
theorem len11 {zs : List Int} (h : zs.length = 11) : ∃ a b c d e f g i j k l, zs = [a, b, c, d, e, f, g, i, j, k, l] := by
  match zs, h with
  | [a, b, c, d, e, f, g, i, j, k, l], _ => exact ⟨a, b, c, d, e, f, g, i, j, k, l, rfl⟩
theorem esc_le (m c0 c1 c2 c3 : Int) : ∀ (n : Nat) (f k z0 z1 z2 z3 : Int), (esc m c0 c1 c2 c3 n f k z0 z1 z2 z3).1 ≤ 1
  | 0, _, _, _, _, _, _ => by simp [esc]
  | n + 1, f, k, z0, z1, z2, z3 => by
    unfold esc
    split
    · split
      · simp
      · split
        · exact esc_le m c0 c1 c2 c3 n _ _ _ _ _ _
        · simp
    · simp
/-- Where the walk comes to its end nothing has wholly escaped. -/
theorem esc_end (m c0 c1 c2 c3 : Int) : ∀ (n : Nat) (f k z0 z1 z2 z3 : Int), (esc m c0 c1 c2 c3 n f k z0 z1 z2 z3).1 = 1 → (esc m c0 c1 c2 c3 n f k z0 z1 z2 z3).2.2 = -1
  | 0, _, _, _, _, _, _, _ => by simp [esc]
  | n + 1, f, k, z0, z1, z2, z3, h => by
    unfold esc at h ⊢
    split at h
    · rename_i h1
      rw [if_pos h1]
      split at h
      · simp at h
      · rename_i h2
        rw [if_neg h2]
        split at h
        · rename_i h3
          rw [if_pos h3]
          exact esc_end m c0 c1 c2 c3 n _ _ _ _ _ _ h
        · simp at h
    · rename_i h1
      rw [if_neg h1]
def l_sEsc : LEnt := (.mk 27 [false, true, false, true, true, true, true] (.mk [.any, (.cv (.one (.int .i64 (.var 0)))), (.cv (.one (.ptr 0 0))), .any, .any, .any, .any, (.cv (.one (.int .i64 (.var 1)))), (.cv (.one (.ptr 1 0))), (.cv (.one (.int .i64 (.var 2)))), .any, .any, .any, .any, .any, .any, .any, .any, .any, .any, .any, .any, .any, .any, .any, .any, .any, .any, .any, .any, .any, .any, .any, .any, .any, .any, .any, .any, .any, .any, .any, .any, .any, .any, .any, .any, .any, .any, .any, .any, .any, .any, .any, .any, .any, .any, .any, .any, .any, .any, .any, .any, .any, .any] [(.blk (.mk 35 [(.int .i64 (.var 3)), (.int .i64 (.var 4)), (.int .i64 (.var 5)), (.int .i64 (.var 6))] 0 none)), (.blk (.mk 35 [(.int .i64 (.var 7)), (.int .i64 (.var 8)), (.int .i64 (.var 9)), (.int .i64 (.var 10))] 0 none))]) 11 50 (some (.cmp .le (.lit 0) (.var 2))) [(.ret, (.mk [.any, .any, .any, .any, (.cv (.one (.int .i64 (.var 0)))), (.cv (.one (.int .i64 (.var 1)))), (.cv (.one (.bool (.lit true)))), .any, .any, .any, .any, .any, .any, .any, .any, .any, .any, .any, .any, .any, .any, .any, .any, .any, .any, .any, .any, .any, .any, .any, .any, .any, .any, .any, .any, .any, .any, .any, .any, .any, .any, .any, .any, .any, .any, .any, .any, .any, .any, .any, .any, .any, .any, .any, .any, .any, .any, .any, .any, .any, .any, .any, .any, .any] [.dead, .dead]), 2, []), ((.exit 0), (.mk [.any, .any, .any, .any, .any, .any, .any, (.cv (.one (.int .i64 (.var 0)))), .any, .any, .any, .any, .any, .any, .any, .any, .any, .any, .any, .any, .any, .any, .any, .any, .any, .any, .any, .any, .any, .any, .any, .any, .any, .any, .any, .any, .any, .any, .any, .any, .any, .any, .any, .any, .any, .any, .any, .any, .any, .any, .any, .any, .any, .any, .any, .any, .any, .any, .any, .any, .any, .any, .any, .any] [.dead, .dead]), 1, [])])
def bt_sEsc : BTree := (.node (.cmp .le (.var 2) (.bin .imax .i64 (.lit 0) (.bin .imin .i64 (.lit 400) (.var 0)))) (.node (.cmp .lt (.var 1) (.lit 0)) (.node (.cmp .lt (.lit 1125899906842624) (.app 34 1 (.cons (.var 7) (.cons (.var 8) (.cons (.var 9) (.cons (.var 10) .nil)))))) (.node (.cmp .lt (.lit 1125899906842624) (.app 34 0 (.cons (.var 7) (.cons (.var 8) (.cons (.var 9) (.cons (.var 10) .nil)))))) (.out 0 [(.var 2), (.var 2)]) (.node (.app 6 0 (.cons (.var 7) (.cons (.var 8) (.cons (.var 9) (.cons (.var 10) .nil))))) (.node (.app 7 0 (.cons (.app 6 0 (.cons (.var 7) (.cons (.var 8) (.cons (.var 9) (.cons (.var 10) .nil))))) (.cons (.app 6 1 (.cons (.var 7) (.cons (.var 8) (.cons (.var 9) (.cons (.var 10) .nil))))) (.cons (.app 6 2 (.cons (.var 7) (.cons (.var 8) (.cons (.var 9) (.cons (.var 10) .nil))))) (.cons (.app 6 3 (.cons (.var 7) (.cons (.var 8) (.cons (.var 9) (.cons (.var 10) .nil))))) (.cons (.var 3) (.cons (.var 4) (.cons (.var 5) (.cons (.var 6) .nil))))))))) (.next [(.var 0), (.var 2), (.wrap .i64 (.bin .add .i64 (.var 2) (.lit 1))), (.var 3), (.var 4), (.var 5), (.var 6), (.app 7 0 (.cons (.app 6 0 (.cons (.var 7) (.cons (.var 8) (.cons (.var 9) (.cons (.var 10) .nil))))) (.cons (.app 6 1 (.cons (.var 7) (.cons (.var 8) (.cons (.var 9) (.cons (.var 10) .nil))))) (.cons (.app 6 2 (.cons (.var 7) (.cons (.var 8) (.cons (.var 9) (.cons (.var 10) .nil))))) (.cons (.app 6 3 (.cons (.var 7) (.cons (.var 8) (.cons (.var 9) (.cons (.var 10) .nil))))) (.cons (.var 3) (.cons (.var 4) (.cons (.var 5) (.cons (.var 6) .nil))))))))), (.app 7 1 (.cons (.app 6 0 (.cons (.var 7) (.cons (.var 8) (.cons (.var 9) (.cons (.var 10) .nil))))) (.cons (.app 6 1 (.cons (.var 7) (.cons (.var 8) (.cons (.var 9) (.cons (.var 10) .nil))))) (.cons (.app 6 2 (.cons (.var 7) (.cons (.var 8) (.cons (.var 9) (.cons (.var 10) .nil))))) (.cons (.app 6 3 (.cons (.var 7) (.cons (.var 8) (.cons (.var 9) (.cons (.var 10) .nil))))) (.cons (.var 3) (.cons (.var 4) (.cons (.var 5) (.cons (.var 6) .nil))))))))), (.app 7 2 (.cons (.app 6 0 (.cons (.var 7) (.cons (.var 8) (.cons (.var 9) (.cons (.var 10) .nil))))) (.cons (.app 6 1 (.cons (.var 7) (.cons (.var 8) (.cons (.var 9) (.cons (.var 10) .nil))))) (.cons (.app 6 2 (.cons (.var 7) (.cons (.var 8) (.cons (.var 9) (.cons (.var 10) .nil))))) (.cons (.app 6 3 (.cons (.var 7) (.cons (.var 8) (.cons (.var 9) (.cons (.var 10) .nil))))) (.cons (.var 3) (.cons (.var 4) (.cons (.var 5) (.cons (.var 6) .nil))))))))), (.app 7 3 (.cons (.app 6 0 (.cons (.var 7) (.cons (.var 8) (.cons (.var 9) (.cons (.var 10) .nil))))) (.cons (.app 6 1 (.cons (.var 7) (.cons (.var 8) (.cons (.var 9) (.cons (.var 10) .nil))))) (.cons (.app 6 2 (.cons (.var 7) (.cons (.var 8) (.cons (.var 9) (.cons (.var 10) .nil))))) (.cons (.app 6 3 (.cons (.var 7) (.cons (.var 8) (.cons (.var 9) (.cons (.var 10) .nil))))) (.cons (.var 3) (.cons (.var 4) (.cons (.var 5) (.cons (.var 6) .nil)))))))))]) (.out 0 [(.var 2), (.lit (-1))])) (.out 0 [(.var 2), (.lit (-1))]))) (.node (.cmp .lt (.lit 1125899906842624) (.app 34 0 (.cons (.var 7) (.cons (.var 8) (.cons (.var 9) (.cons (.var 10) .nil)))))) (.out 0 [(.var 1), (.var 2)]) (.node (.app 6 0 (.cons (.var 7) (.cons (.var 8) (.cons (.var 9) (.cons (.var 10) .nil))))) (.node (.app 7 0 (.cons (.app 6 0 (.cons (.var 7) (.cons (.var 8) (.cons (.var 9) (.cons (.var 10) .nil))))) (.cons (.app 6 1 (.cons (.var 7) (.cons (.var 8) (.cons (.var 9) (.cons (.var 10) .nil))))) (.cons (.app 6 2 (.cons (.var 7) (.cons (.var 8) (.cons (.var 9) (.cons (.var 10) .nil))))) (.cons (.app 6 3 (.cons (.var 7) (.cons (.var 8) (.cons (.var 9) (.cons (.var 10) .nil))))) (.cons (.var 3) (.cons (.var 4) (.cons (.var 5) (.cons (.var 6) .nil))))))))) (.next [(.var 0), (.var 1), (.wrap .i64 (.bin .add .i64 (.var 2) (.lit 1))), (.var 3), (.var 4), (.var 5), (.var 6), (.app 7 0 (.cons (.app 6 0 (.cons (.var 7) (.cons (.var 8) (.cons (.var 9) (.cons (.var 10) .nil))))) (.cons (.app 6 1 (.cons (.var 7) (.cons (.var 8) (.cons (.var 9) (.cons (.var 10) .nil))))) (.cons (.app 6 2 (.cons (.var 7) (.cons (.var 8) (.cons (.var 9) (.cons (.var 10) .nil))))) (.cons (.app 6 3 (.cons (.var 7) (.cons (.var 8) (.cons (.var 9) (.cons (.var 10) .nil))))) (.cons (.var 3) (.cons (.var 4) (.cons (.var 5) (.cons (.var 6) .nil))))))))), (.app 7 1 (.cons (.app 6 0 (.cons (.var 7) (.cons (.var 8) (.cons (.var 9) (.cons (.var 10) .nil))))) (.cons (.app 6 1 (.cons (.var 7) (.cons (.var 8) (.cons (.var 9) (.cons (.var 10) .nil))))) (.cons (.app 6 2 (.cons (.var 7) (.cons (.var 8) (.cons (.var 9) (.cons (.var 10) .nil))))) (.cons (.app 6 3 (.cons (.var 7) (.cons (.var 8) (.cons (.var 9) (.cons (.var 10) .nil))))) (.cons (.var 3) (.cons (.var 4) (.cons (.var 5) (.cons (.var 6) .nil))))))))), (.app 7 2 (.cons (.app 6 0 (.cons (.var 7) (.cons (.var 8) (.cons (.var 9) (.cons (.var 10) .nil))))) (.cons (.app 6 1 (.cons (.var 7) (.cons (.var 8) (.cons (.var 9) (.cons (.var 10) .nil))))) (.cons (.app 6 2 (.cons (.var 7) (.cons (.var 8) (.cons (.var 9) (.cons (.var 10) .nil))))) (.cons (.app 6 3 (.cons (.var 7) (.cons (.var 8) (.cons (.var 9) (.cons (.var 10) .nil))))) (.cons (.var 3) (.cons (.var 4) (.cons (.var 5) (.cons (.var 6) .nil))))))))), (.app 7 3 (.cons (.app 6 0 (.cons (.var 7) (.cons (.var 8) (.cons (.var 9) (.cons (.var 10) .nil))))) (.cons (.app 6 1 (.cons (.var 7) (.cons (.var 8) (.cons (.var 9) (.cons (.var 10) .nil))))) (.cons (.app 6 2 (.cons (.var 7) (.cons (.var 8) (.cons (.var 9) (.cons (.var 10) .nil))))) (.cons (.app 6 3 (.cons (.var 7) (.cons (.var 8) (.cons (.var 9) (.cons (.var 10) .nil))))) (.cons (.var 3) (.cons (.var 4) (.cons (.var 5) (.cons (.var 6) .nil)))))))))]) (.out 0 [(.var 1), (.lit (-1))])) (.out 0 [(.var 1), (.lit (-1))])))) (.node (.cmp .lt (.lit 1125899906842624) (.app 34 0 (.cons (.var 7) (.cons (.var 8) (.cons (.var 9) (.cons (.var 10) .nil)))))) (.out 0 [(.var 1), (.var 2)]) (.node (.app 6 0 (.cons (.var 7) (.cons (.var 8) (.cons (.var 9) (.cons (.var 10) .nil))))) (.node (.app 7 0 (.cons (.app 6 0 (.cons (.var 7) (.cons (.var 8) (.cons (.var 9) (.cons (.var 10) .nil))))) (.cons (.app 6 1 (.cons (.var 7) (.cons (.var 8) (.cons (.var 9) (.cons (.var 10) .nil))))) (.cons (.app 6 2 (.cons (.var 7) (.cons (.var 8) (.cons (.var 9) (.cons (.var 10) .nil))))) (.cons (.app 6 3 (.cons (.var 7) (.cons (.var 8) (.cons (.var 9) (.cons (.var 10) .nil))))) (.cons (.var 3) (.cons (.var 4) (.cons (.var 5) (.cons (.var 6) .nil))))))))) (.next [(.var 0), (.var 1), (.wrap .i64 (.bin .add .i64 (.var 2) (.lit 1))), (.var 3), (.var 4), (.var 5), (.var 6), (.app 7 0 (.cons (.app 6 0 (.cons (.var 7) (.cons (.var 8) (.cons (.var 9) (.cons (.var 10) .nil))))) (.cons (.app 6 1 (.cons (.var 7) (.cons (.var 8) (.cons (.var 9) (.cons (.var 10) .nil))))) (.cons (.app 6 2 (.cons (.var 7) (.cons (.var 8) (.cons (.var 9) (.cons (.var 10) .nil))))) (.cons (.app 6 3 (.cons (.var 7) (.cons (.var 8) (.cons (.var 9) (.cons (.var 10) .nil))))) (.cons (.var 3) (.cons (.var 4) (.cons (.var 5) (.cons (.var 6) .nil))))))))), (.app 7 1 (.cons (.app 6 0 (.cons (.var 7) (.cons (.var 8) (.cons (.var 9) (.cons (.var 10) .nil))))) (.cons (.app 6 1 (.cons (.var 7) (.cons (.var 8) (.cons (.var 9) (.cons (.var 10) .nil))))) (.cons (.app 6 2 (.cons (.var 7) (.cons (.var 8) (.cons (.var 9) (.cons (.var 10) .nil))))) (.cons (.app 6 3 (.cons (.var 7) (.cons (.var 8) (.cons (.var 9) (.cons (.var 10) .nil))))) (.cons (.var 3) (.cons (.var 4) (.cons (.var 5) (.cons (.var 6) .nil))))))))), (.app 7 2 (.cons (.app 6 0 (.cons (.var 7) (.cons (.var 8) (.cons (.var 9) (.cons (.var 10) .nil))))) (.cons (.app 6 1 (.cons (.var 7) (.cons (.var 8) (.cons (.var 9) (.cons (.var 10) .nil))))) (.cons (.app 6 2 (.cons (.var 7) (.cons (.var 8) (.cons (.var 9) (.cons (.var 10) .nil))))) (.cons (.app 6 3 (.cons (.var 7) (.cons (.var 8) (.cons (.var 9) (.cons (.var 10) .nil))))) (.cons (.var 3) (.cons (.var 4) (.cons (.var 5) (.cons (.var 6) .nil))))))))), (.app 7 3 (.cons (.app 6 0 (.cons (.var 7) (.cons (.var 8) (.cons (.var 9) (.cons (.var 10) .nil))))) (.cons (.app 6 1 (.cons (.var 7) (.cons (.var 8) (.cons (.var 9) (.cons (.var 10) .nil))))) (.cons (.app 6 2 (.cons (.var 7) (.cons (.var 8) (.cons (.var 9) (.cons (.var 10) .nil))))) (.cons (.app 6 3 (.cons (.var 7) (.cons (.var 8) (.cons (.var 9) (.cons (.var 10) .nil))))) (.cons (.var 3) (.cons (.var 4) (.cons (.var 5) (.cons (.var 6) .nil)))))))))]) (.out 0 [(.var 1), (.lit (-1))])) (.out 0 [(.var 1), (.lit (-1))])))) (.out 1 [(.var 1)]))
theorem bt_sEsc_eq : bodyTree XE l_sEsc 200 40 = bt_sEsc := by kernel_rfl
theorem lok_sEsc (w : World) : l_sEsc.ok Try.prog w (FI pv) FB := by
  refine LEnt.by_loop (X := XE) (fun zs => XE_ok w _ rfl rfl) mixed bt_sEsc_eq (fun zs hz hp => ?_)
  obtain ⟨m, f, k, c0, c1, c2, c3, z0, z1, z2, z3, rfl⟩ := len11 hz
  have hk : 0 ≤ k := by
    have := hp _ rfl
    simpa [SB.den, SE.den, COp.den, envOf] using this
  clear hz hp
  have key : ∀ (n : Nat) (f k z0 z1 z2 z3 : Int), 1 ≤ n → 0 ≤ k → 401 < n + k → loopF (FI pv) FB bt_sEsc n [m, f, k, c0, c1, c2, c3, z0, z1, z2, z3] = some ((esc m c0 c1 c2 c3 n f k z0 z1 z2 z3).1, if (esc m c0 c1 c2 c3 n f k z0 z1 z2 z3).1 = 0 then [(esc m c0 c1 c2 c3 n f k z0 z1 z2 z3).2.1, (esc m c0 c1 c2 c3 n f k z0 z1 z2 z3).2.2] else [(esc m c0 c1 c2 c3 n f k z0 z1 z2 z3).2.1]) := by
    intro n
    induction n with
    | zero => intro f k z0 z1 z2 z3 h; omega
    | succ n ih =>
      intro f k z0 z1 z2 z3 _ h1 h2
      have hw : k ≤ lst m → IntKind.i64.wrap (k + 1) = k + 1 := fun h => by
        have : lst m ≤ 400 := by unfold lst; omega
        exact wrap_in (by omega) (by omega)
      have hn : k ≤ lst m → 1 ≤ n := fun h => by
        have : lst m ≤ 400 := by unfold lst; omega
        omega
      unfold loopF esc
      simp only [bt_sEsc, BTree.den, SE.den, SB.den, SL.den, COp.den, IOp.den, envOf, List.map_cons, List.map_nil, List.getD_cons_zero, List.getD_cons_succ, ite_min, ite_max,
        show ∀ a b c d, FI pv 34 0 [a, b, c, d] = nlo a b c d from fun _ _ _ _ => rfl, show ∀ a b c d, FI pv 34 1 [a, b, c, d] = nhi a b c d from fun _ _ _ _ => rfl,
        show ∀ a b c d, FI pv 6 0 [a, b, c, d] = qq0 a b c d from fun _ _ _ _ => rfl, show ∀ a b c d, FI pv 6 1 [a, b, c, d] = qq1 a b c d from fun _ _ _ _ => rfl, show ∀ a b c d, FI pv 6 2 [a, b, c, d] = qq2 a b c d from fun _ _ _ _ => rfl, show ∀ a b c d, FI pv 6 3 [a, b, c, d] = qq3 a b c d from fun _ _ _ _ => rfl,
        show ∀ a b c d x y z u, FI pv 7 0 [a, b, c, d, x, y, z, u] = aa0 a b c d x y z u from fun _ _ _ _ _ _ _ _ => rfl, show ∀ a b c d x y z u, FI pv 7 1 [a, b, c, d, x, y, z, u] = aa1 a b c d x y z u from fun _ _ _ _ _ _ _ _ => rfl, show ∀ a b c d x y z u, FI pv 7 2 [a, b, c, d, x, y, z, u] = aa2 a b c d x y z u from fun _ _ _ _ _ _ _ _ => rfl, show ∀ a b c d x y z u, FI pv 7 3 [a, b, c, d, x, y, z, u] = aa3 a b c d x y z u from fun _ _ _ _ _ _ _ _ => rfl,
        show ∀ a b c d, FB 6 0 [a, b, c, d] = SQB a b c d from fun _ _ _ _ => rfl, show ∀ a b c d x y z u, FB 7 0 [a, b, c, d, x, y, z, u] = ADB a b c d x y z u from fun _ _ _ _ _ _ _ _ => rfl,
        show max 0 (min 400 m) = lst m from rfl]
      by_cases g1 : k ≤ lst m
      · rw [hw g1]
        have hn' := hn g1
        simp only [g1, decide_true, cond_true, if_true]
        by_cases g2 : f < 0 <;> by_cases g3 : 1125899906842624 < nhi z0 z1 z2 z3 <;> by_cases g4 : 1125899906842624 < nlo z0 z1 z2 z3 <;> cases g5 : SQB z0 z1 z2 z3 <;> cases g6 : ADB (qq0 z0 z1 z2 z3) (qq1 z0 z1 z2 z3) (qq2 z0 z1 z2 z3) (qq3 z0 z1 z2 z3) c0 c1 c2 c3 <;>
          simp only [g2, g3, g4, decide_true, decide_false, cond_true, cond_false, if_true, if_false, and_self, and_true, and_false, false_and, true_and, Bool.and_true, Bool.and_false, Bool.false_and, Bool.false_eq_true, ↓reduceIte] <;>
          first | rfl | exact ih _ _ _ _ _ _ hn' (by omega) (by omega)
      · simp only [g1, decide_false, cond_false, if_false, ↓reduceIte]
        rfl
  have h0 := key 402 f k z0 z1 z2 z3 (by omega) hk (by omega)
  have hle := esc_le m c0 c1 c2 c3 402 f k z0 z1 z2 z3
  have hc : (esc m c0 c1 c2 c3 402 f k z0 z1 z2 z3).1 = 0 ∨ (esc m c0 c1 c2 c3 402 f k z0 z1 z2 z3).1 = 1 := by omega
  rcases hc with hc | hc
  · rw [hc] at h0
    refine ⟨402, 0, _, _, _, _, _, h0, rfl, Or.inr ?_, rfl⟩
    show ((esc m c0 c1 c2 c3 402 f k z0 z1 z2 z3).1 : Int) = _
    rw [hc]
  · rw [hc] at h0
    refine ⟨402, 1, _, _, _, _, _, h0, rfl, Or.inr ?_, rfl⟩
    show ((esc m c0 c1 c2 c3 402 f k z0 z1 z2 z3).1 : Int) = _
    rw [hc]
end Go.Proofs.Ythggppjdapmgdaa
/- The context in which the reference's orbits of boxes are known. -/
namespace Go.Proofs.Ythggppjdapmgdaa
set_option linter.unusedSimpArgs false
set_option linter.unusedVariables false
variable {pv : Int → Int → Int}
open Go.RowKit Eng
def LE : List LEnt := [l_sEsc]
theorem LE_ok : ∀ e ∈ LE, ∀ w, e.ok Try.prog w (FI pv) FB := by
  intro e he w
  simp only [LE, List.mem_cons, List.not_mem_nil, or_false] at he
  rcases he with rfl
  · exact lok_sEsc w
def XE2c (P : Program) : Cx := { P := P, G := G3, en := enE, call := nil0, L := LE }
noncomputable def XE2 : Cx := XE2c Try.prog
theorem XE2_ok (w : World) (E : Env) (hi : E.fi = FI pv) (hb : E.fb = FB) : XOk XE2 w E := xokL G3_ok enE_ok LE_ok w E hi hb
end Go.Proofs.Ythggppjdapmgdaa
/- The contracts of the functions on orbits of boxes, in the reference. -/
namespace Go.Proofs.Ythggppjdapmgdaa
set_option linter.unusedSimpArgs false
set_option linter.unusedVariables false
variable {pv : Int → Int → Int}
open Go.RowKit Eng
def e_sBoxEscape : CEnt := ⟨27, [4, 0], none, .tup [.one (ai (.app 51 0 (vs 5))), .one (ai (.app 51 1 (vs 5))), .one (.bool (.app 2 0 (vs 4)))]⟩
def t_sBoxEscape : Tree := (.node (.app 2 0 (.cons (.var 0) (.cons (.var 1) (.cons (.var 2) (.cons (.var 3) .nil))))) (.node (.cmp .eq (.app 50 99 (.cons (.var 4) (.cons (.lit (-1)) (.cons (.lit 0) (.cons (.var 0) (.cons (.var 1) (.cons (.var 2) (.cons (.var 3) (.cons (.lit 0) (.cons (.lit 0) (.cons (.lit 0) (.cons (.lit 0) .nil)))))))))))) (.lit 0)) (.leaf (.tup [(.one (.int .i64 (.app 50 0 (.cons (.var 4) (.cons (.lit (-1)) (.cons (.lit 0) (.cons (.var 0) (.cons (.var 1) (.cons (.var 2) (.cons (.var 3) (.cons (.lit 0) (.cons (.lit 0) (.cons (.lit 0) (.cons (.lit 0) .nil)))))))))))))), (.one (.int .i64 (.app 50 1 (.cons (.var 4) (.cons (.lit (-1)) (.cons (.lit 0) (.cons (.var 0) (.cons (.var 1) (.cons (.var 2) (.cons (.var 3) (.cons (.lit 0) (.cons (.lit 0) (.cons (.lit 0) (.cons (.lit 0) .nil)))))))))))))), (.one (.bool (.lit true)))])) (.node (.cmp .eq (.app 50 99 (.cons (.var 4) (.cons (.lit (-1)) (.cons (.lit 0) (.cons (.var 0) (.cons (.var 1) (.cons (.var 2) (.cons (.var 3) (.cons (.lit 0) (.cons (.lit 0) (.cons (.lit 0) (.cons (.lit 0) .nil)))))))))))) (.lit 1)) (.leaf (.tup [(.one (.int .i64 (.app 50 10 (.cons (.var 4) (.cons (.lit (-1)) (.cons (.lit 0) (.cons (.var 0) (.cons (.var 1) (.cons (.var 2) (.cons (.var 3) (.cons (.lit 0) (.cons (.lit 0) (.cons (.lit 0) (.cons (.lit 0) .nil)))))))))))))), (.one (.int .i64 (.lit (-1)))), (.one (.bool (.lit true)))])) (.dead 11))) (.leaf (.tup [(.one (.int .i64 (.lit 0))), (.one (.int .i64 (.lit 0))), (.one (.bool (.lit false)))])))
theorem t_sBoxEscape_eq : explore XE2 200 27 (lettersFrom 0 [4, 0]) 40 [] = t_sBoxEscape := by kernel_rfl
theorem ok_sBoxEscape (w : World) : e_sBoxEscape.ok Try.prog w (FI pv) FB := by
  refine CEnt.by_tree (e := e_sBoxEscape) (fi := FI pv) (fb := FB) (X := XE2) (fuel := 200) (d := 40) (enters_of Try.func27 rfl (by kernel_rfl)) (fun w zs => XE2_ok w _ rfl rfl) mixed (fun zs hz hp => ?_) w
  obtain ⟨a, b, c, d, e, rfl⟩ := len5 hz
  show (explore XE2 200 27 (lettersFrom 0 [4, 0]) 40 []).den _ = _
  rw [t_sBoxEscape_eq]
  clear hz
  clear hp
  show Tree.den _ t_sBoxEscape = some (.tuple #[.int .i64 (FI pv 51 0 [a, b, c, d, e]), .int .i64 (FI pv 51 1 [a, b, c, d, e]), .bool (BV a b c d)])
  simp only [t_sBoxEscape, Tree.den, SVal.den, CV.den, At.den, SE.den, SB.den, SL.den, IOp.den, COp.den, envOf, List.map_cons, List.map_nil, List.getD_cons_zero, List.getD_cons_succ]
  simp only [show ∀ a b c d, FB 2 0 [a, b, c, d] = BV a b c d from fun _ _ _ _ => rfl]
  cases h : BV a b c d
  · have e0 : FI pv 51 0 [a, b, c, d, e] = 0 := show FI0 51 0 [a, b, c, d, e] = 0 from if_neg (show ¬ BV a b c d = true by rw [h]; decide)
    have e1 : FI pv 51 1 [a, b, c, d, e] = 0 := show FI0 51 1 [a, b, c, d, e] = 0 from if_neg (show ¬ BV a b c d = true by rw [h]; decide)
    rw [e0, e1]; rfl
  · have e0 : FI pv 51 0 [a, b, c, d, e] = (esc e a b c d 402 (-1) 0 0 0 0 0).2.1 := show FI0 51 0 [a, b, c, d, e] = _ from if_pos h
    have e1 : FI pv 51 1 [a, b, c, d, e] = (esc e a b c d 402 (-1) 0 0 0 0 0).2.2 := show FI0 51 1 [a, b, c, d, e] = _ from if_pos h
    rw [e0, e1]
    have hle := esc_le e a b c d 402 (-1) 0 0 0 0 0
    have hc : (esc e a b c d 402 (-1) 0 0 0 0 0).1 = 0 ∨ (esc e a b c d 402 (-1) 0 0 0 0 0).1 = 1 := by omega
    have g9 : FI pv 50 99 [e, -1, 0, a, b, c, d, 0, 0, 0, 0] = ((esc e a b c d 402 (-1) 0 0 0 0 0).1 : Int) := rfl
    have g0 : FI pv 50 0 [e, -1, 0, a, b, c, d, 0, 0, 0, 0] = (esc e a b c d 402 (-1) 0 0 0 0 0).2.1 := rfl
    have g1 : FI pv 50 1 [e, -1, 0, a, b, c, d, 0, 0, 0, 0] = (esc e a b c d 402 (-1) 0 0 0 0 0).2.2 := rfl
    have g2 : FI pv 50 10 [e, -1, 0, a, b, c, d, 0, 0, 0, 0] = (esc e a b c d 402 (-1) 0 0 0 0 0).2.1 := rfl
    rw [g9]
    rcases hc with hc | hc
    · rw [hc, g0, g1]; rfl
    · have := esc_end e a b c d 402 (-1) 0 0 0 0 0 hc
      rw [hc, g2, this]; rfl
end Go.Proofs.Ythggppjdapmgdaa
/- Where the boxes of an orbit escape, in the program: a range over a function. -/
namespace Go.Proofs.Ythggppjdapmgdaa
set_option linter.unusedSimpArgs false
set_option linter.unusedVariables false
open Go.RowKit Eng
def il_iEsc : ILoop := (.mk (.mk [(.cv (.one (.yld 6))), (.cv (.one (.ptr 4 0))), .any, (.cv (.one (.ptr 7 0))), (.cv (.one (.int .i64 (.var 0)))), .any, .any, .any, .any, (.cv (.agg [(.int .i64 (.lit 0)), (.int .i64 (.lit 0)), (.int .i64 (.lit 0)), (.int .i64 (.lit 0))])), .any, .any, .any, .any, .any, .any, .any, .any, .any, .any, .any, .any, .any, .any, .any, .any, .any, .any, .any, .any, .any, .any] [(.blk (.mk 35 [(.int .i64 (.var 1)), (.int .i64 (.var 2)), (.int .i64 (.var 3)), (.int .i64 (.var 4))] 0 none)), (.blk (.mk 3 [(.int .i64 (.var 5))] 0 none)), (.blk (.mk 3 [(.int .i64 (.var 6))] 0 none)), (.blk (.mk 3 [(.int .i64 (.lit (-1)))] 0 none)), (.blk (.mk 35 [(.int .i64 (.var 7)), (.int .i64 (.var 8)), (.int .i64 (.var 9)), (.int .i64 (.var 10))] 0 none)), (.blk (.mk 0 [] 0 (some (.obj 1)))), (.blk (.mk 0 [] 0 (some (.obj 0)))), (.blk (.mk 35 [(.int .i64 (.var 11)), (.int .i64 (.var 12)), (.int .i64 (.var 13)), (.int .i64 (.var 14))] 0 none))]) 15 [((.exit 0), (.exit 0), (.mk [.any, .any, .any, .any, .any, .any, .any, .any, .any, .any, .any, .any, .any, .any, .any, .any, .any, .any, .any, .any, .any, .any, .any, .any, .any, .any, .any, .any, .any, .any, .any, .any] [(.blk (.mk 35 [(.int .i64 (.var 0)), (.int .i64 (.var 1)), (.int .i64 (.var 2)), (.int .i64 (.var 3))] 0 none)), (.blk (.mk 3 [(.int .i64 (.var 4))] 0 none)), (.blk (.mk 3 [(.int .i64 (.var 5))] 0 none)), (.blk (.mk 3 [(.int .i64 (.var 6))] 0 none)), (.blk (.mk 35 [(.int .i64 (.var 7)), (.int .i64 (.var 8)), (.int .i64 (.var 9)), (.int .i64 (.var 10))] 0 none)), (.blk (.mk 0 [] 0 (some (.obj 1)))), (.blk (.mk 0 [] 0 (some (.obj 0)))), (.blk (.mk 35 [(.int .i64 (.var 11)), (.int .i64 (.var 12)), (.int .i64 (.var 13)), (.int .i64 (.var 14))] 0 none))]), 15), (.normal, .ret, (.mk [.any, .any, .any, .any, .any, .any, .any, .any, .any, .any, .any, .any, .any, .any, .any, .any, .any, .any, .any, .any, .any, .any, .any, .any, .any, .any, .any, .any, .any, .any, .any, .any] [(.blk (.mk 35 [(.int .i64 (.var 0)), (.int .i64 (.var 1)), (.int .i64 (.var 2)), (.int .i64 (.var 3))] 0 none)), (.blk (.mk 3 [(.int .i64 (.var 4))] 0 none)), (.blk (.mk 3 [(.int .i64 (.var 5))] 0 none)), (.blk (.mk 3 [(.int .i64 (.lit (-1)))] 0 none)), (.blk (.mk 35 [(.int .i64 (.var 6)), (.int .i64 (.var 7)), (.int .i64 (.var 8)), (.int .i64 (.var 9))] 0 none)), (.blk (.mk 0 [] 0 (some (.obj 1)))), (.blk (.mk 0 [] 0 (some (.obj 0)))), (.blk (.mk 35 [(.int .i64 (.var 10)), (.int .i64 (.var 11)), (.int .i64 (.var 12)), (.int .i64 (.var 13))] 0 none))]), 14)])
def bt_iEsc : BTree := (.node (.cmp .lt (.var 5) (.var 0)) (.out 0 [(.var 1), (.var 2), (.var 3), (.var 4), (.var 5), (.var 6), (.lit (-1)), (.var 7), (.var 8), (.var 9), (.var 10), (.var 11), (.var 12), (.var 13), (.var 14)]) (.node (.app 100 0 (.cons (.var 11) (.cons (.var 12) .nil))) (.node (.app 100 0 (.cons (.var 13) (.cons (.var 14) .nil))) (.node (.app 101 0 (.cons (.app 31 0 (.cons (.var 11) (.cons (.var 12) .nil))) (.cons (.app 31 1 (.cons (.var 11) (.cons (.var 12) .nil))) (.cons (.app 31 0 (.cons (.var 13) (.cons (.var 14) .nil))) (.cons (.app 31 1 (.cons (.var 13) (.cons (.var 14) .nil))) .nil))))) (.node (.cmp .lt (.var 6) (.lit 0)) (.node (.cmp .lt (.lit 1125899906842624) (.bin .add .i64 (.app 31 1 (.cons (.var 11) (.cons (.var 12) .nil))) (.app 31 1 (.cons (.var 13) (.cons (.var 14) .nil))))) (.node (.cmp .lt (.lit 1125899906842624) (.bin .add .i64 (.app 31 0 (.cons (.var 11) (.cons (.var 12) .nil))) (.app 31 0 (.cons (.var 13) (.cons (.var 14) .nil))))) (.out 0 [(.var 1), (.var 2), (.var 3), (.var 4), (.var 5), (.var 0), (.var 0), (.var 7), (.var 8), (.var 9), (.var 10), (.var 11), (.var 12), (.var 13), (.var 14)]) (.node (.app 6 0 (.cons (.var 11) (.cons (.var 12) (.cons (.var 13) (.cons (.var 14) .nil))))) (.node (.app 7 0 (.cons (.app 6 0 (.cons (.var 11) (.cons (.var 12) (.cons (.var 13) (.cons (.var 14) .nil))))) (.cons (.app 6 1 (.cons (.var 11) (.cons (.var 12) (.cons (.var 13) (.cons (.var 14) .nil))))) (.cons (.app 6 2 (.cons (.var 11) (.cons (.var 12) (.cons (.var 13) (.cons (.var 14) .nil))))) (.cons (.app 6 3 (.cons (.var 11) (.cons (.var 12) (.cons (.var 13) (.cons (.var 14) .nil))))) (.cons (.var 7) (.cons (.var 8) (.cons (.var 9) (.cons (.var 10) .nil))))))))) (.next [(.wrap .i64 (.bin .add .i64 (.var 0) (.lit 1))), (.var 1), (.var 2), (.var 3), (.var 4), (.var 5), (.var 0), (.var 7), (.var 8), (.var 9), (.var 10), (.app 7 0 (.cons (.app 6 0 (.cons (.var 11) (.cons (.var 12) (.cons (.var 13) (.cons (.var 14) .nil))))) (.cons (.app 6 1 (.cons (.var 11) (.cons (.var 12) (.cons (.var 13) (.cons (.var 14) .nil))))) (.cons (.app 6 2 (.cons (.var 11) (.cons (.var 12) (.cons (.var 13) (.cons (.var 14) .nil))))) (.cons (.app 6 3 (.cons (.var 11) (.cons (.var 12) (.cons (.var 13) (.cons (.var 14) .nil))))) (.cons (.var 7) (.cons (.var 8) (.cons (.var 9) (.cons (.var 10) .nil))))))))), (.app 7 1 (.cons (.app 6 0 (.cons (.var 11) (.cons (.var 12) (.cons (.var 13) (.cons (.var 14) .nil))))) (.cons (.app 6 1 (.cons (.var 11) (.cons (.var 12) (.cons (.var 13) (.cons (.var 14) .nil))))) (.cons (.app 6 2 (.cons (.var 11) (.cons (.var 12) (.cons (.var 13) (.cons (.var 14) .nil))))) (.cons (.app 6 3 (.cons (.var 11) (.cons (.var 12) (.cons (.var 13) (.cons (.var 14) .nil))))) (.cons (.var 7) (.cons (.var 8) (.cons (.var 9) (.cons (.var 10) .nil))))))))), (.app 7 2 (.cons (.app 6 0 (.cons (.var 11) (.cons (.var 12) (.cons (.var 13) (.cons (.var 14) .nil))))) (.cons (.app 6 1 (.cons (.var 11) (.cons (.var 12) (.cons (.var 13) (.cons (.var 14) .nil))))) (.cons (.app 6 2 (.cons (.var 11) (.cons (.var 12) (.cons (.var 13) (.cons (.var 14) .nil))))) (.cons (.app 6 3 (.cons (.var 11) (.cons (.var 12) (.cons (.var 13) (.cons (.var 14) .nil))))) (.cons (.var 7) (.cons (.var 8) (.cons (.var 9) (.cons (.var 10) .nil))))))))), (.app 7 3 (.cons (.app 6 0 (.cons (.var 11) (.cons (.var 12) (.cons (.var 13) (.cons (.var 14) .nil))))) (.cons (.app 6 1 (.cons (.var 11) (.cons (.var 12) (.cons (.var 13) (.cons (.var 14) .nil))))) (.cons (.app 6 2 (.cons (.var 11) (.cons (.var 12) (.cons (.var 13) (.cons (.var 14) .nil))))) (.cons (.app 6 3 (.cons (.var 11) (.cons (.var 12) (.cons (.var 13) (.cons (.var 14) .nil))))) (.cons (.var 7) (.cons (.var 8) (.cons (.var 9) (.cons (.var 10) .nil)))))))))]) (.out 1 [(.var 1), (.var 2), (.var 3), (.var 4), (.var 5), (.var 0), (.var 7), (.var 8), (.var 9), (.var 10), (.var 11), (.var 12), (.var 13), (.var 14)])) (.out 1 [(.var 1), (.var 2), (.var 3), (.var 4), (.var 5), (.var 0), (.var 7), (.var 8), (.var 9), (.var 10), (.var 11), (.var 12), (.var 13), (.var 14)]))) (.node (.cmp .lt (.lit 1125899906842624) (.bin .add .i64 (.app 31 0 (.cons (.var 11) (.cons (.var 12) .nil))) (.app 31 0 (.cons (.var 13) (.cons (.var 14) .nil))))) (.out 0 [(.var 1), (.var 2), (.var 3), (.var 4), (.var 5), (.var 6), (.var 0), (.var 7), (.var 8), (.var 9), (.var 10), (.var 11), (.var 12), (.var 13), (.var 14)]) (.node (.app 6 0 (.cons (.var 11) (.cons (.var 12) (.cons (.var 13) (.cons (.var 14) .nil))))) (.node (.app 7 0 (.cons (.app 6 0 (.cons (.var 11) (.cons (.var 12) (.cons (.var 13) (.cons (.var 14) .nil))))) (.cons (.app 6 1 (.cons (.var 11) (.cons (.var 12) (.cons (.var 13) (.cons (.var 14) .nil))))) (.cons (.app 6 2 (.cons (.var 11) (.cons (.var 12) (.cons (.var 13) (.cons (.var 14) .nil))))) (.cons (.app 6 3 (.cons (.var 11) (.cons (.var 12) (.cons (.var 13) (.cons (.var 14) .nil))))) (.cons (.var 7) (.cons (.var 8) (.cons (.var 9) (.cons (.var 10) .nil))))))))) (.next [(.wrap .i64 (.bin .add .i64 (.var 0) (.lit 1))), (.var 1), (.var 2), (.var 3), (.var 4), (.var 5), (.var 6), (.var 7), (.var 8), (.var 9), (.var 10), (.app 7 0 (.cons (.app 6 0 (.cons (.var 11) (.cons (.var 12) (.cons (.var 13) (.cons (.var 14) .nil))))) (.cons (.app 6 1 (.cons (.var 11) (.cons (.var 12) (.cons (.var 13) (.cons (.var 14) .nil))))) (.cons (.app 6 2 (.cons (.var 11) (.cons (.var 12) (.cons (.var 13) (.cons (.var 14) .nil))))) (.cons (.app 6 3 (.cons (.var 11) (.cons (.var 12) (.cons (.var 13) (.cons (.var 14) .nil))))) (.cons (.var 7) (.cons (.var 8) (.cons (.var 9) (.cons (.var 10) .nil))))))))), (.app 7 1 (.cons (.app 6 0 (.cons (.var 11) (.cons (.var 12) (.cons (.var 13) (.cons (.var 14) .nil))))) (.cons (.app 6 1 (.cons (.var 11) (.cons (.var 12) (.cons (.var 13) (.cons (.var 14) .nil))))) (.cons (.app 6 2 (.cons (.var 11) (.cons (.var 12) (.cons (.var 13) (.cons (.var 14) .nil))))) (.cons (.app 6 3 (.cons (.var 11) (.cons (.var 12) (.cons (.var 13) (.cons (.var 14) .nil))))) (.cons (.var 7) (.cons (.var 8) (.cons (.var 9) (.cons (.var 10) .nil))))))))), (.app 7 2 (.cons (.app 6 0 (.cons (.var 11) (.cons (.var 12) (.cons (.var 13) (.cons (.var 14) .nil))))) (.cons (.app 6 1 (.cons (.var 11) (.cons (.var 12) (.cons (.var 13) (.cons (.var 14) .nil))))) (.cons (.app 6 2 (.cons (.var 11) (.cons (.var 12) (.cons (.var 13) (.cons (.var 14) .nil))))) (.cons (.app 6 3 (.cons (.var 11) (.cons (.var 12) (.cons (.var 13) (.cons (.var 14) .nil))))) (.cons (.var 7) (.cons (.var 8) (.cons (.var 9) (.cons (.var 10) .nil))))))))), (.app 7 3 (.cons (.app 6 0 (.cons (.var 11) (.cons (.var 12) (.cons (.var 13) (.cons (.var 14) .nil))))) (.cons (.app 6 1 (.cons (.var 11) (.cons (.var 12) (.cons (.var 13) (.cons (.var 14) .nil))))) (.cons (.app 6 2 (.cons (.var 11) (.cons (.var 12) (.cons (.var 13) (.cons (.var 14) .nil))))) (.cons (.app 6 3 (.cons (.var 11) (.cons (.var 12) (.cons (.var 13) (.cons (.var 14) .nil))))) (.cons (.var 7) (.cons (.var 8) (.cons (.var 9) (.cons (.var 10) .nil)))))))))]) (.out 1 [(.var 1), (.var 2), (.var 3), (.var 4), (.var 5), (.var 6), (.var 7), (.var 8), (.var 9), (.var 10), (.var 11), (.var 12), (.var 13), (.var 14)])) (.out 1 [(.var 1), (.var 2), (.var 3), (.var 4), (.var 5), (.var 6), (.var 7), (.var 8), (.var 9), (.var 10), (.var 11), (.var 12), (.var 13), (.var 14)])))) (.node (.cmp .lt (.lit 1125899906842624) (.bin .add .i64 (.app 31 0 (.cons (.var 11) (.cons (.var 12) .nil))) (.app 31 0 (.cons (.var 13) (.cons (.var 14) .nil))))) (.out 0 [(.var 1), (.var 2), (.var 3), (.var 4), (.var 5), (.var 6), (.var 0), (.var 7), (.var 8), (.var 9), (.var 10), (.var 11), (.var 12), (.var 13), (.var 14)]) (.node (.app 6 0 (.cons (.var 11) (.cons (.var 12) (.cons (.var 13) (.cons (.var 14) .nil))))) (.node (.app 7 0 (.cons (.app 6 0 (.cons (.var 11) (.cons (.var 12) (.cons (.var 13) (.cons (.var 14) .nil))))) (.cons (.app 6 1 (.cons (.var 11) (.cons (.var 12) (.cons (.var 13) (.cons (.var 14) .nil))))) (.cons (.app 6 2 (.cons (.var 11) (.cons (.var 12) (.cons (.var 13) (.cons (.var 14) .nil))))) (.cons (.app 6 3 (.cons (.var 11) (.cons (.var 12) (.cons (.var 13) (.cons (.var 14) .nil))))) (.cons (.var 7) (.cons (.var 8) (.cons (.var 9) (.cons (.var 10) .nil))))))))) (.next [(.wrap .i64 (.bin .add .i64 (.var 0) (.lit 1))), (.var 1), (.var 2), (.var 3), (.var 4), (.var 5), (.var 6), (.var 7), (.var 8), (.var 9), (.var 10), (.app 7 0 (.cons (.app 6 0 (.cons (.var 11) (.cons (.var 12) (.cons (.var 13) (.cons (.var 14) .nil))))) (.cons (.app 6 1 (.cons (.var 11) (.cons (.var 12) (.cons (.var 13) (.cons (.var 14) .nil))))) (.cons (.app 6 2 (.cons (.var 11) (.cons (.var 12) (.cons (.var 13) (.cons (.var 14) .nil))))) (.cons (.app 6 3 (.cons (.var 11) (.cons (.var 12) (.cons (.var 13) (.cons (.var 14) .nil))))) (.cons (.var 7) (.cons (.var 8) (.cons (.var 9) (.cons (.var 10) .nil))))))))), (.app 7 1 (.cons (.app 6 0 (.cons (.var 11) (.cons (.var 12) (.cons (.var 13) (.cons (.var 14) .nil))))) (.cons (.app 6 1 (.cons (.var 11) (.cons (.var 12) (.cons (.var 13) (.cons (.var 14) .nil))))) (.cons (.app 6 2 (.cons (.var 11) (.cons (.var 12) (.cons (.var 13) (.cons (.var 14) .nil))))) (.cons (.app 6 3 (.cons (.var 11) (.cons (.var 12) (.cons (.var 13) (.cons (.var 14) .nil))))) (.cons (.var 7) (.cons (.var 8) (.cons (.var 9) (.cons (.var 10) .nil))))))))), (.app 7 2 (.cons (.app 6 0 (.cons (.var 11) (.cons (.var 12) (.cons (.var 13) (.cons (.var 14) .nil))))) (.cons (.app 6 1 (.cons (.var 11) (.cons (.var 12) (.cons (.var 13) (.cons (.var 14) .nil))))) (.cons (.app 6 2 (.cons (.var 11) (.cons (.var 12) (.cons (.var 13) (.cons (.var 14) .nil))))) (.cons (.app 6 3 (.cons (.var 11) (.cons (.var 12) (.cons (.var 13) (.cons (.var 14) .nil))))) (.cons (.var 7) (.cons (.var 8) (.cons (.var 9) (.cons (.var 10) .nil))))))))), (.app 7 3 (.cons (.app 6 0 (.cons (.var 11) (.cons (.var 12) (.cons (.var 13) (.cons (.var 14) .nil))))) (.cons (.app 6 1 (.cons (.var 11) (.cons (.var 12) (.cons (.var 13) (.cons (.var 14) .nil))))) (.cons (.app 6 2 (.cons (.var 11) (.cons (.var 12) (.cons (.var 13) (.cons (.var 14) .nil))))) (.cons (.app 6 3 (.cons (.var 11) (.cons (.var 12) (.cons (.var 13) (.cons (.var 14) .nil))))) (.cons (.var 7) (.cons (.var 8) (.cons (.var 9) (.cons (.var 10) .nil)))))))))]) (.out 1 [(.var 1), (.var 2), (.var 3), (.var 4), (.var 5), (.var 6), (.var 7), (.var 8), (.var 9), (.var 10), (.var 11), (.var 12), (.var 13), (.var 14)])) (.out 1 [(.var 1), (.var 2), (.var 3), (.var 4), (.var 5), (.var 6), (.var 7), (.var 8), (.var 9), (.var 10), (.var 11), (.var 12), (.var 13), (.var 14)])))) (.dead 1047)) (.dead 1047)) (.dead 1047)))
def sg_iEsc : List SE := [(.lit 0), (.var 0), (.var 1), (.var 2), (.var 3), (.bin .imin .i64 (.bin .imax .i64 (.var 4) (.lit 0)) (.lit 400)), (.lit (-1)), (.var 0), (.var 1), (.var 2), (.var 3), (.lit 0), (.lit 0), (.lit 0), (.lit 0)]
def vs_iEsc : List (Option (List CV)) := [(some [(.one (.int .i64 (.var 5))), (.one (.int .i64 (.var 6))), (.one (.bool (.lit true)))]), (some [(.one (.int .i64 (.var 5))), (.one (.int .i64 (.lit (-1)))), (.one (.bool (.lit true)))])]
def kn_iEsc : Kn := [(.app 2 0 (vs 4), true)]
theorem rng_iEsc : rngAll XE2 kn_iEsc 200 40 [true, true, true, true, false, true, false] 29 101 (lettersFrom 0 [4, 0]) il_iEsc = some (bt_iEsc, sg_iEsc, vs_iEsc) := by kernel_rfl
def gf_iEsc : Nat := 101
end Go.Proofs.Ythggppjdapmgdaa
/- Where the boxes of an orbit escape, in the program: the contract. -/
namespace Go.Proofs.Ythggppjdapmgdaa
set_option linter.unusedSimpArgs false
set_option linter.unusedVariables false
variable {pv : Int → Int → Int}
open Go.RowKit Eng
theorem esc_box {z0 z1 z2 z3 : Int} (h : BV z0 z1 z2 z3 = true) : FB 100 0 [z0, z1] = true ∧ FB 100 0 [z2, z3] = true ∧ FB 101 0 [sqLo z0 z1, sqHi z0 z1, sqLo z2 z3, sqHi z2 z3] = true ∧ nlo z0 z1 z2 z3 = sqLo z0 z1 + sqLo z2 z3 ∧ nhi z0 z1 z2 z3 = sqHi z0 z1 + sqHi z2 z3 := by
  obtain ⟨a1, a2, a3, a4, a5, a6⟩ := (BV_iff _ _ _ _).1 h
  have s1 := sq_bd 134217728 (l := z0) (h := z1) (by omega) (by omega) (by omega) (by omega)
  have s2 := sq_bd 134217728 (l := z2) (h := z3) (by omega) (by omega) (by omega) (by omega)
  exact ⟨t30_2 (by omega) (by omega) (by omega) (by omega), t30_2 (by omega) (by omega) (by omega) (by omega), t60_4 (by omega) (by omega) (by omega) (by omega), if_pos h, if_pos h⟩
theorem esc_next {a b c d x y z u : Int} (h : ADB a b c d x y z u = true) : BV (aa0 a b c d x y z u) (aa1 a b c d x y z u) (aa2 a b c d x y z u) (aa3 a b c d x y z u) = true := by
  unfold aa0 aa1 aa2 aa3
  rw [if_pos h, if_pos h, if_pos h, if_pos h]
  unfold ADB at h
  simp only [Bool.and_eq_true] at h
  exact h.2
theorem iEsc_key (m a1 a2 a3 a4 c0 c1 c2 c3 : Int) : ∀ (n : Nat) (f k z0 z1 z2 z3 : Int), 1 ≤ n → 0 ≤ k → 401 < n + k → BV z0 z1 z2 z3 = true → ∃ κ ys cs, loopF (FI pv) FB bt_iEsc n [k, a1, a2, a3, a4, lst m, f, c0, c1, c2, c3, z0, z1, z2, z3] = some (κ, ys) ∧ vs_iEsc[κ]? = some (some cs) ∧ (SVal.ofRes cs).flat = true ∧
    (SVal.ofRes cs).den (envOf ys (FI pv) FB) Pl.no = .tuple #[.int .i64 (esc m c0 c1 c2 c3 n f k z0 z1 z2 z3).2.1, .int .i64 (esc m c0 c1 c2 c3 n f k z0 z1 z2 z3).2.2, .bool true] := by
  intro n
  induction n with
  | zero => intro f k z0 z1 z2 z3 h; omega
  | succ n ih =>
    intro f k z0 z1 z2 z3 _ h1 h2 hz
    have hl : lst m ≤ 400 := by unfold lst; omega
    have hw : k ≤ lst m → IntKind.i64.wrap (k + 1) = k + 1 := fun h => wrap_in (by omega) (by omega)
    have hn : k ≤ lst m → 1 ≤ n := fun h => by omega
    obtain ⟨e1, e2, e3, e4, e5⟩ := esc_box hz
    unfold loopF esc
    simp only [bt_iEsc, BTree.den, SE.den, SB.den, SL.den, COp.den, IOp.den, envOf, List.map_cons, List.map_nil, List.getD_cons_zero, List.getD_cons_succ,
      show ∀ l h, FI pv 31 0 [l, h] = sqLo l h from fun _ _ => rfl, show ∀ l h, FI pv 31 1 [l, h] = sqHi l h from fun _ _ => rfl,
      show ∀ a b c d, FI pv 6 0 [a, b, c, d] = qq0 a b c d from fun _ _ _ _ => rfl, show ∀ a b c d, FI pv 6 1 [a, b, c, d] = qq1 a b c d from fun _ _ _ _ => rfl, show ∀ a b c d, FI pv 6 2 [a, b, c, d] = qq2 a b c d from fun _ _ _ _ => rfl, show ∀ a b c d, FI pv 6 3 [a, b, c, d] = qq3 a b c d from fun _ _ _ _ => rfl,
      show ∀ a b c d x y z u, FI pv 7 0 [a, b, c, d, x, y, z, u] = aa0 a b c d x y z u from fun _ _ _ _ _ _ _ _ => rfl, show ∀ a b c d x y z u, FI pv 7 1 [a, b, c, d, x, y, z, u] = aa1 a b c d x y z u from fun _ _ _ _ _ _ _ _ => rfl, show ∀ a b c d x y z u, FI pv 7 2 [a, b, c, d, x, y, z, u] = aa2 a b c d x y z u from fun _ _ _ _ _ _ _ _ => rfl, show ∀ a b c d x y z u, FI pv 7 3 [a, b, c, d, x, y, z, u] = aa3 a b c d x y z u from fun _ _ _ _ _ _ _ _ => rfl,
      show ∀ a b c d, FB 6 0 [a, b, c, d] = SQB a b c d from fun _ _ _ _ => rfl, show ∀ a b c d x y z u, FB 7 0 [a, b, c, d, x, y, z, u] = ADB a b c d x y z u from fun _ _ _ _ _ _ _ _ => rfl, e1, e2, e3, ← e4, ← e5, cond_true]
    by_cases g1 : k ≤ lst m
    · rw [hw g1]
      have hn' := hn g1
      have g1' : ¬ lst m < k := by omega
      simp only [g1, g1', decide_true, decide_false, cond_true, cond_false, if_true]
      by_cases g2 : f < 0 <;> by_cases g3 : 1125899906842624 < nhi z0 z1 z2 z3 <;> by_cases g4 : 1125899906842624 < nlo z0 z1 z2 z3 <;> cases g5 : SQB z0 z1 z2 z3 <;> cases g6 : ADB (qq0 z0 z1 z2 z3) (qq1 z0 z1 z2 z3) (qq2 z0 z1 z2 z3) (qq3 z0 z1 z2 z3) c0 c1 c2 c3 <;>
        simp only [g2, g3, g4, decide_true, decide_false, cond_true, cond_false, if_true, if_false, and_self, and_true, and_false, false_and, true_and, Bool.and_true, Bool.and_false, Bool.false_and, Bool.false_eq_true, ↓reduceIte] <;>
        first | exact ⟨_, _, _, rfl, rfl, rfl, rfl⟩ | exact ih _ _ _ _ _ _ hn' (by omega) (by omega) (esc_next g6)
    · have g1' : lst m < k := by omega
      simp only [g1, g1', decide_true, decide_false, cond_true, cond_false, if_false, ↓reduceIte]
      exact ⟨_, _, _, rfl, rfl, rfl, rfl⟩
def e_iBoxEscape : CEnt := ⟨29, [4, 0], none, .tup [.one (ai (.app 51 0 (vs 5))), .one (ai (.app 51 1 (vs 5))), .one (.bool (.app 2 0 (vs 4)))]⟩
def kn0_iEsc : Kn := [(.app 2 0 (vs 4), false)]
theorem run0_iEsc : runFn XE2 kn0_iEsc 200 29 (lettersFrom 0 [4, 0]) = .ok (.tup [.one (.int .i64 (.lit 0)), .one (.int .i64 (.lit 0)), .one (.bool (.lit false))]) := by kernel_rfl
theorem ok_iBoxEscape (w : World) : e_iBoxEscape.ok Try.prog w (FI pv) FB := by
  refine ⟨enters_of Try.func29 rfl (by kernel_rfl), fun zs hz _ w' hb => ?_⟩
  obtain ⟨a, b, c, d, e, rfl⟩ := len5 hz
  have ho : e_iBoxEscape.out.den (envOf [a, b, c, d, e] (FI pv) FB) Pl.no = .tuple #[.int .i64 (FI pv 51 0 [a, b, c, d, e]), .int .i64 (FI pv 51 1 [a, b, c, d, e]), .bool (BV a b c d)] := rfl
  have ha : (lettersFrom 0 [4, 0]).map (SVal.den (envOf [a, b, c, d, e] (FI pv) FB) Pl.no) = inDen [4, 0] [a, b, c, d, e] := rfl
  rw [ho, show e_iBoxEscape.ins = [4, 0] from rfl, ← ha]
  cases h : BV a b c d
  · have e0 : FI pv 51 0 [a, b, c, d, e] = 0 := show FI0 51 0 [a, b, c, d, e] = 0 from if_neg (show ¬ BV a b c d = true by rw [h]; decide)
    have e1 : FI pv 51 1 [a, b, c, d, e] = 0 := show FI0 51 1 [a, b, c, d, e] = 0 from if_neg (show ¬ BV a b c d = true by rw [h]; decide)
    rw [e0, e1]
    exact runFn_ok (kn := kn0_iEsc) (fun p hp => by
      simp only [kn0_iEsc, List.mem_singleton] at hp; subst hp; exact h) (XE2_ok w' _ rfl rfl) mixed run0_iEsc
  · have e0 : FI pv 51 0 [a, b, c, d, e] = (esc e a b c d 402 (-1) 0 0 0 0 0).2.1 := show FI0 51 0 [a, b, c, d, e] = _ from if_pos h
    have e1 : FI pv 51 1 [a, b, c, d, e] = (esc e a b c d 402 (-1) 0 0 0 0 0).2.2 := show FI0 51 1 [a, b, c, d, e] = _ from if_pos h
    rw [e0, e1]
    obtain ⟨κ, ys, cs, k1, k2, k3, k4⟩ := iEsc_key (pv := pv) e a b c d a b c d 402 (-1) 0 0 0 0 0 (by omega) (by omega) (by omega) (by decide)
    rw [← k4]
    refine rngAll_ok (fun E' h1 h2 => XE2_ok w' E' h1 h2) mixed rng_iEsc (enters_of Try.func101 rfl (by kernel_rfl)) (kn := kn_iEsc) (fun p hp => by
      simp only [kn_iEsc, List.mem_singleton] at hp; subst hp; exact h) (N := 402) (κ := κ) (ys := ys) ?_ k2 k3
    rw [← k1]
    congr 1
    simp only [sg_iEsc, List.map_cons, List.map_nil, SE.den, IOp.den, envOf, List.getD_cons_zero, List.getD_cons_succ]
    have : (if (400 : Int) < (if (0 : Int) > e then 0 else e) then (400 : Int) else (if (0 : Int) > e then 0 else e)) = lst e := by unfold lst; split <;> split <;> omega
    rw [this]
end Go.Proofs.Ythggppjdapmgdaa
