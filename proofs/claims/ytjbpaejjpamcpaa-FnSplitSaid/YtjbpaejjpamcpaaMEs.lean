import Derived.Test.YtjbpaejjpamcpaaBoG
import Derived.Test.YtjbpaejjpamcpaaLoop
/- The context of walks over the boxes of an orbit. -/
namespace Go.Proofs.Ytjbpaejjpamcpaa
set_option linter.unusedSimpArgs false
set_option linter.unusedVariables false
variable {pv : Int → Int → Int}
open Go.RowKit Eng
def enE : List Nat := [63, 60, 57, 78, 67, 56, 58]
theorem enE_63 : Enters Try.prog 63 := enters_of Try.func63 rfl (by kernel_rfl)
theorem enE_60 : Enters Try.prog 60 := enters_of Try.func60 rfl (by kernel_rfl)
theorem enE_57 : Enters Try.prog 57 := enters_of Try.func57 rfl (by kernel_rfl)
theorem enE_78 : Enters Try.prog 78 := enters_of Try.func78 rfl (by kernel_rfl)
theorem enE_67 : Enters Try.prog 67 := enters_of Try.func67 rfl (by kernel_rfl)
theorem enE_56 : Enters Try.prog 56 := enters_of Try.func56 rfl (by kernel_rfl)
theorem enE_58 : Enters Try.prog 58 := enters_of Try.func58 rfl (by kernel_rfl)
theorem enE_ok : ∀ f ∈ enE, Enters Try.prog f := by
  intro f hf
  simp only [enE, List.mem_cons, List.not_mem_nil, or_false] at hf
  rcases hf with rfl | rfl | rfl | rfl | rfl | rfl | rfl
  · exact enE_63
  · exact enE_60
  · exact enE_57
  · exact enE_78
  · exact enE_67
  · exact enE_56
  · exact enE_58
def XEc (P : Program) : Cx := { P := P, G := G3, en := enE, call := nil0 }
noncomputable def XE : Cx := XEc Try.prog
theorem XE_ok (w : World) (E : Env) (hi : E.fi = FI pv) (hb : E.fb = FB) : XOk XE w E := xok G3_ok enE_ok w E hi hb
end Go.Proofs.Ytjbpaejjpamcpaa
/- Where the boxes of an orbit escape, in the reference: its loop and its contract. -/
namespace Go.Proofs.Ytjbpaejjpamcpaa
set_option linter.unusedSimpArgs false
set_option linter.unusedVariables false
variable {pv : Int → Int → Int}
open Go.RowKit Eng
theorem len5 {zs : List Int} (h : zs.length = 5) : ∃ a b c d e, zs = [a, b, c, d, e] := by
  match zs, h with
  | [a, b, c, d, e], _ => exact ⟨a, b, c, d, e, rfl⟩
theorem len11 {zs : List Int} (h : zs.length = 11) : ∃ a b c d e f g i j k l, zs = [a, b, c, d, e, f, g, i, j, k, l] := by
  match zs, h with
  | [a, b, c, d, e, f, g, i, j, k, l], _ => exact ⟨a, b, c, d, e, f, g, i, j, k, l, rfl⟩
theorem esc_le (m c0 c1 c2 c3 : Int) : ∀ (n : Nat) (f k z0 z1 z2 z3 : Int), (esc m c0 c1 c2 c3 n f k z0 z1 z2 z3).1 ≤ 1
  | 0, _, _, _, _, _, _ => by simp [esc]
  | n + 1, f, k, z0, z1, z2, z3 => by
    unfold esc
    split
    · split
      · simp
      · split
        · exact esc_le m c0 c1 c2 c3 n _ _ _ _ _ _
        · simp
    · simp
/-- Where the walk comes to its end nothing has wholly escaped. -/
theorem esc_end (m c0 c1 c2 c3 : Int) : ∀ (n : Nat) (f k z0 z1 z2 z3 : Int), (esc m c0 c1 c2 c3 n f k z0 z1 z2 z3).1 = 1 → (esc m c0 c1 c2 c3 n f k z0 z1 z2 z3).2.2 = -1
  | 0, _, _, _, _, _, _, _ => by simp [esc]
  | n + 1, f, k, z0, z1, z2, z3, h => by
    unfold esc at h ⊢
    split at h
    · rename_i h1
      rw [if_pos h1]
      split at h
      · simp at h
      · rename_i h2
        rw [if_neg h2]
        split at h
        · rename_i h3
          rw [if_pos h3]
          exact esc_end m c0 c1 c2 c3 n _ _ _ _ _ _ h
        · simp at h
    · rename_i h1
      rw [if_neg h1]
def l_sEsc : LEnt := (.mk 29 [false, true, false, true, true, true, true] (.mk [.any, (.cv (.one (.int .i64 (.var 0)))), (.cv (.one (.ptr 0 0))), .any, .any, .any, .any, (.cv (.one (.int .i64 (.var 1)))), (.cv (.one (.ptr 1 0))), (.cv (.one (.int .i64 (.var 2)))), .any, .any, .any, .any, .any, .any, .any, .any, .any, .any, .any, .any, .any, .any, .any, .any, .any, .any, .any, .any, .any, .any, .any, .any, .any, .any, .any, .any, .any, .any, .any, .any, .any, .any, .any, .any, .any, .any, .any, .any, .any, .any, .any, .any, .any, .any, .any, .any, .any, .any, .any, .any, .any, .any] [(.blk (.mk 27 [(.int .i64 (.var 3)), (.int .i64 (.var 4)), (.int .i64 (.var 5)), (.int .i64 (.var 6))] 0 none)), (.blk (.mk 27 [(.int .i64 (.var 7)), (.int .i64 (.var 8)), (.int .i64 (.var 9)), (.int .i64 (.var 10))] 0 none))]) 11 50 (some (.cmp .le (.lit 0) (.var 2))) [(.ret, (.mk [.any, .any, .any, .any, (.cv (.one (.int .i64 (.var 0)))), (.cv (.one (.int .i64 (.var 1)))), (.cv (.one (.bool (.lit true)))), .any, .any, .any, .any, .any, .any, .any, .any, .any, .any, .any, .any, .any, .any, .any, .any, .any, .any, .any, .any, .any, .any, .any, .any, .any, .any, .any, .any, .any, .any, .any, .any, .any, .any, .any, .any, .any, .any, .any, .any, .any, .any, .any, .any, .any, .any, .any, .any, .any, .any, .any, .any, .any, .any, .any, .any, .any] [.dead, .dead]), 2, []), ((.exit 0), (.mk [.any, .any, .any, .any, .any, .any, .any, (.cv (.one (.int .i64 (.var 0)))), .any, .any, .any, .any, .any, .any, .any, .any, .any, .any, .any, .any, .any, .any, .any, .any, .any, .any, .any, .any, .any, .any, .any, .any, .any, .any, .any, .any, .any, .any, .any, .any, .any, .any, .any, .any, .any, .any, .any, .any, .any, .any, .any, .any, .any, .any, .any, .any, .any, .any, .any, .any, .any, .any, .any, .any] [.dead, .dead]), 1, [])])
def bt_sEsc : BTree := (.node (.cmp .le (.var 2) (.bin .imax .i64 (.lit 0) (.bin .imin .i64 (.lit 400) (.var 0)))) (.node (.cmp .lt (.var 1) (.lit 0)) (.node (.cmp .lt (.lit 1125899906842624) (.app 34 1 (.cons (.var 7) (.cons (.var 8) (.cons (.var 9) (.cons (.var 10) .nil)))))) (.node (.cmp .lt (.lit 1125899906842624) (.app 34 0 (.cons (.var 7) (.cons (.var 8) (.cons (.var 9) (.cons (.var 10) .nil)))))) (.out 0 [(.var 2), (.var 2)]) (.node (.app 6 0 (.cons (.var 7) (.cons (.var 8) (.cons (.var 9) (.cons (.var 10) .nil))))) (.node (.app 7 0 (.cons (.app 6 0 (.cons (.var 7) (.cons (.var 8) (.cons (.var 9) (.cons (.var 10) .nil))))) (.cons (.app 6 1 (.cons (.var 7) (.cons (.var 8) (.cons (.var 9) (.cons (.var 10) .nil))))) (.cons (.app 6 2 (.cons (.var 7) (.cons (.var 8) (.cons (.var 9) (.cons (.var 10) .nil))))) (.cons (.app 6 3 (.cons (.var 7) (.cons (.var 8) (.cons (.var 9) (.cons (.var 10) .nil))))) (.cons (.var 3) (.cons (.var 4) (.cons (.var 5) (.cons (.var 6) .nil))))))))) (.next [(.var 0), (.var 2), (.wrap .i64 (.bin .add .i64 (.var 2) (.lit 1))), (.var 3), (.var 4), (.var 5), (.var 6), (.app 7 0 (.cons (.app 6 0 (.cons (.var 7) (.cons (.var 8) (.cons (.var 9) (.cons (.var 10) .nil))))) (.cons (.app 6 1 (.cons (.var 7) (.cons (.var 8) (.cons (.var 9) (.cons (.var 10) .nil))))) (.cons (.app 6 2 (.cons (.var 7) (.cons (.var 8) (.cons (.var 9) (.cons (.var 10) .nil))))) (.cons (.app 6 3 (.cons (.var 7) (.cons (.var 8) (.cons (.var 9) (.cons (.var 10) .nil))))) (.cons (.var 3) (.cons (.var 4) (.cons (.var 5) (.cons (.var 6) .nil))))))))), (.app 7 1 (.cons (.app 6 0 (.cons (.var 7) (.cons (.var 8) (.cons (.var 9) (.cons (.var 10) .nil))))) (.cons (.app 6 1 (.cons (.var 7) (.cons (.var 8) (.cons (.var 9) (.cons (.var 10) .nil))))) (.cons (.app 6 2 (.cons (.var 7) (.cons (.var 8) (.cons (.var 9) (.cons (.var 10) .nil))))) (.cons (.app 6 3 (.cons (.var 7) (.cons (.var 8) (.cons (.var 9) (.cons (.var 10) .nil))))) (.cons (.var 3) (.cons (.var 4) (.cons (.var 5) (.cons (.var 6) .nil))))))))), (.app 7 2 (.cons (.app 6 0 (.cons (.var 7) (.cons (.var 8) (.cons (.var 9) (.cons (.var 10) .nil))))) (.cons (.app 6 1 (.cons (.var 7) (.cons (.var 8) (.cons (.var 9) (.cons (.var 10) .nil))))) (.cons (.app 6 2 (.cons (.var 7) (.cons (.var 8) (.cons (.var 9) (.cons (.var 10) .nil))))) (.cons (.app 6 3 (.cons (.var 7) (.cons (.var 8) (.cons (.var 9) (.cons (.var 10) .nil))))) (.cons (.var 3) (.cons (.var 4) (.cons (.var 5) (.cons (.var 6) .nil))))))))), (.app 7 3 (.cons (.app 6 0 (.cons (.var 7) (.cons (.var 8) (.cons (.var 9) (.cons (.var 10) .nil))))) (.cons (.app 6 1 (.cons (.var 7) (.cons (.var 8) (.cons (.var 9) (.cons (.var 10) .nil))))) (.cons (.app 6 2 (.cons (.var 7) (.cons (.var 8) (.cons (.var 9) (.cons (.var 10) .nil))))) (.cons (.app 6 3 (.cons (.var 7) (.cons (.var 8) (.cons (.var 9) (.cons (.var 10) .nil))))) (.cons (.var 3) (.cons (.var 4) (.cons (.var 5) (.cons (.var 6) .nil)))))))))]) (.out 0 [(.var 2), (.lit (-1))])) (.out 0 [(.var 2), (.lit (-1))]))) (.node (.cmp .lt (.lit 1125899906842624) (.app 34 0 (.cons (.var 7) (.cons (.var 8) (.cons (.var 9) (.cons (.var 10) .nil)))))) (.out 0 [(.var 1), (.var 2)]) (.node (.app 6 0 (.cons (.var 7) (.cons (.var 8) (.cons (.var 9) (.cons (.var 10) .nil))))) (.node (.app 7 0 (.cons (.app 6 0 (.cons (.var 7) (.cons (.var 8) (.cons (.var 9) (.cons (.var 10) .nil))))) (.cons (.app 6 1 (.cons (.var 7) (.cons (.var 8) (.cons (.var 9) (.cons (.var 10) .nil))))) (.cons (.app 6 2 (.cons (.var 7) (.cons (.var 8) (.cons (.var 9) (.cons (.var 10) .nil))))) (.cons (.app 6 3 (.cons (.var 7) (.cons (.var 8) (.cons (.var 9) (.cons (.var 10) .nil))))) (.cons (.var 3) (.cons (.var 4) (.cons (.var 5) (.cons (.var 6) .nil))))))))) (.next [(.var 0), (.var 1), (.wrap .i64 (.bin .add .i64 (.var 2) (.lit 1))), (.var 3), (.var 4), (.var 5), (.var 6), (.app 7 0 (.cons (.app 6 0 (.cons (.var 7) (.cons (.var 8) (.cons (.var 9) (.cons (.var 10) .nil))))) (.cons (.app 6 1 (.cons (.var 7) (.cons (.var 8) (.cons (.var 9) (.cons (.var 10) .nil))))) (.cons (.app 6 2 (.cons (.var 7) (.cons (.var 8) (.cons (.var 9) (.cons (.var 10) .nil))))) (.cons (.app 6 3 (.cons (.var 7) (.cons (.var 8) (.cons (.var 9) (.cons (.var 10) .nil))))) (.cons (.var 3) (.cons (.var 4) (.cons (.var 5) (.cons (.var 6) .nil))))))))), (.app 7 1 (.cons (.app 6 0 (.cons (.var 7) (.cons (.var 8) (.cons (.var 9) (.cons (.var 10) .nil))))) (.cons (.app 6 1 (.cons (.var 7) (.cons (.var 8) (.cons (.var 9) (.cons (.var 10) .nil))))) (.cons (.app 6 2 (.cons (.var 7) (.cons (.var 8) (.cons (.var 9) (.cons (.var 10) .nil))))) (.cons (.app 6 3 (.cons (.var 7) (.cons (.var 8) (.cons (.var 9) (.cons (.var 10) .nil))))) (.cons (.var 3) (.cons (.var 4) (.cons (.var 5) (.cons (.var 6) .nil))))))))), (.app 7 2 (.cons (.app 6 0 (.cons (.var 7) (.cons (.var 8) (.cons (.var 9) (.cons (.var 10) .nil))))) (.cons (.app 6 1 (.cons (.var 7) (.cons (.var 8) (.cons (.var 9) (.cons (.var 10) .nil))))) (.cons (.app 6 2 (.cons (.var 7) (.cons (.var 8) (.cons (.var 9) (.cons (.var 10) .nil))))) (.cons (.app 6 3 (.cons (.var 7) (.cons (.var 8) (.cons (.var 9) (.cons (.var 10) .nil))))) (.cons (.var 3) (.cons (.var 4) (.cons (.var 5) (.cons (.var 6) .nil))))))))), (.app 7 3 (.cons (.app 6 0 (.cons (.var 7) (.cons (.var 8) (.cons (.var 9) (.cons (.var 10) .nil))))) (.cons (.app 6 1 (.cons (.var 7) (.cons (.var 8) (.cons (.var 9) (.cons (.var 10) .nil))))) (.cons (.app 6 2 (.cons (.var 7) (.cons (.var 8) (.cons (.var 9) (.cons (.var 10) .nil))))) (.cons (.app 6 3 (.cons (.var 7) (.cons (.var 8) (.cons (.var 9) (.cons (.var 10) .nil))))) (.cons (.var 3) (.cons (.var 4) (.cons (.var 5) (.cons (.var 6) .nil)))))))))]) (.out 0 [(.var 1), (.lit (-1))])) (.out 0 [(.var 1), (.lit (-1))])))) (.node (.cmp .lt (.lit 1125899906842624) (.app 34 0 (.cons (.var 7) (.cons (.var 8) (.cons (.var 9) (.cons (.var 10) .nil)))))) (.out 0 [(.var 1), (.var 2)]) (.node (.app 6 0 (.cons (.var 7) (.cons (.var 8) (.cons (.var 9) (.cons (.var 10) .nil))))) (.node (.app 7 0 (.cons (.app 6 0 (.cons (.var 7) (.cons (.var 8) (.cons (.var 9) (.cons (.var 10) .nil))))) (.cons (.app 6 1 (.cons (.var 7) (.cons (.var 8) (.cons (.var 9) (.cons (.var 10) .nil))))) (.cons (.app 6 2 (.cons (.var 7) (.cons (.var 8) (.cons (.var 9) (.cons (.var 10) .nil))))) (.cons (.app 6 3 (.cons (.var 7) (.cons (.var 8) (.cons (.var 9) (.cons (.var 10) .nil))))) (.cons (.var 3) (.cons (.var 4) (.cons (.var 5) (.cons (.var 6) .nil))))))))) (.next [(.var 0), (.var 1), (.wrap .i64 (.bin .add .i64 (.var 2) (.lit 1))), (.var 3), (.var 4), (.var 5), (.var 6), (.app 7 0 (.cons (.app 6 0 (.cons (.var 7) (.cons (.var 8) (.cons (.var 9) (.cons (.var 10) .nil))))) (.cons (.app 6 1 (.cons (.var 7) (.cons (.var 8) (.cons (.var 9) (.cons (.var 10) .nil))))) (.cons (.app 6 2 (.cons (.var 7) (.cons (.var 8) (.cons (.var 9) (.cons (.var 10) .nil))))) (.cons (.app 6 3 (.cons (.var 7) (.cons (.var 8) (.cons (.var 9) (.cons (.var 10) .nil))))) (.cons (.var 3) (.cons (.var 4) (.cons (.var 5) (.cons (.var 6) .nil))))))))), (.app 7 1 (.cons (.app 6 0 (.cons (.var 7) (.cons (.var 8) (.cons (.var 9) (.cons (.var 10) .nil))))) (.cons (.app 6 1 (.cons (.var 7) (.cons (.var 8) (.cons (.var 9) (.cons (.var 10) .nil))))) (.cons (.app 6 2 (.cons (.var 7) (.cons (.var 8) (.cons (.var 9) (.cons (.var 10) .nil))))) (.cons (.app 6 3 (.cons (.var 7) (.cons (.var 8) (.cons (.var 9) (.cons (.var 10) .nil))))) (.cons (.var 3) (.cons (.var 4) (.cons (.var 5) (.cons (.var 6) .nil))))))))), (.app 7 2 (.cons (.app 6 0 (.cons (.var 7) (.cons (.var 8) (.cons (.var 9) (.cons (.var 10) .nil))))) (.cons (.app 6 1 (.cons (.var 7) (.cons (.var 8) (.cons (.var 9) (.cons (.var 10) .nil))))) (.cons (.app 6 2 (.cons (.var 7) (.cons (.var 8) (.cons (.var 9) (.cons (.var 10) .nil))))) (.cons (.app 6 3 (.cons (.var 7) (.cons (.var 8) (.cons (.var 9) (.cons (.var 10) .nil))))) (.cons (.var 3) (.cons (.var 4) (.cons (.var 5) (.cons (.var 6) .nil))))))))), (.app 7 3 (.cons (.app 6 0 (.cons (.var 7) (.cons (.var 8) (.cons (.var 9) (.cons (.var 10) .nil))))) (.cons (.app 6 1 (.cons (.var 7) (.cons (.var 8) (.cons (.var 9) (.cons (.var 10) .nil))))) (.cons (.app 6 2 (.cons (.var 7) (.cons (.var 8) (.cons (.var 9) (.cons (.var 10) .nil))))) (.cons (.app 6 3 (.cons (.var 7) (.cons (.var 8) (.cons (.var 9) (.cons (.var 10) .nil))))) (.cons (.var 3) (.cons (.var 4) (.cons (.var 5) (.cons (.var 6) .nil)))))))))]) (.out 0 [(.var 1), (.lit (-1))])) (.out 0 [(.var 1), (.lit (-1))])))) (.out 1 [(.var 1)]))
theorem bt_sEsc_eq : bodyTree XE l_sEsc 200 40 = bt_sEsc := by kernel_rfl
theorem lok_sEsc (w : World) : l_sEsc.ok Try.prog w (FI pv) FB := by
  refine LEnt.by_loop (X := XE) (fun zs => XE_ok w _ rfl rfl) mixed bt_sEsc_eq (fun zs hz hp => ?_)
  obtain ⟨m, f, k, c0, c1, c2, c3, z0, z1, z2, z3, rfl⟩ := len11 hz
  have hk : 0 ≤ k := by
    have := hp _ rfl
    simpa [SB.den, SE.den, COp.den, envOf] using this
  clear hz hp
  have key : ∀ (n : Nat) (f k z0 z1 z2 z3 : Int), 1 ≤ n → 0 ≤ k → 401 < n + k → loopF (FI pv) FB bt_sEsc n [m, f, k, c0, c1, c2, c3, z0, z1, z2, z3] = some ((esc m c0 c1 c2 c3 n f k z0 z1 z2 z3).1, if (esc m c0 c1 c2 c3 n f k z0 z1 z2 z3).1 = 0 then [(esc m c0 c1 c2 c3 n f k z0 z1 z2 z3).2.1, (esc m c0 c1 c2 c3 n f k z0 z1 z2 z3).2.2] else [(esc m c0 c1 c2 c3 n f k z0 z1 z2 z3).2.1]) := by
    intro n
    induction n with
    | zero => intro f k z0 z1 z2 z3 h; omega
    | succ n ih =>
      intro f k z0 z1 z2 z3 _ h1 h2
      have hw : k ≤ lst m → IntKind.i64.wrap (k + 1) = k + 1 := fun h => by
        have : lst m ≤ 400 := by unfold lst; omega
        exact wrap_in (by omega) (by omega)
      have hn : k ≤ lst m → 1 ≤ n := fun h => by
        have : lst m ≤ 400 := by unfold lst; omega
        omega
      unfold loopF esc
      simp only [bt_sEsc, BTree.den, SE.den, SB.den, SL.den, COp.den, IOp.den, envOf, List.map_cons, List.map_nil, List.getD_cons_zero, List.getD_cons_succ, ite_min, ite_max,
        show ∀ a b c d, FI pv 34 0 [a, b, c, d] = nlo a b c d from fun _ _ _ _ => rfl, show ∀ a b c d, FI pv 34 1 [a, b, c, d] = nhi a b c d from fun _ _ _ _ => rfl,
        show ∀ a b c d, FI pv 6 0 [a, b, c, d] = qq0 a b c d from fun _ _ _ _ => rfl, show ∀ a b c d, FI pv 6 1 [a, b, c, d] = qq1 a b c d from fun _ _ _ _ => rfl, show ∀ a b c d, FI pv 6 2 [a, b, c, d] = qq2 a b c d from fun _ _ _ _ => rfl, show ∀ a b c d, FI pv 6 3 [a, b, c, d] = qq3 a b c d from fun _ _ _ _ => rfl,
        show ∀ a b c d x y z u, FI pv 7 0 [a, b, c, d, x, y, z, u] = aa0 a b c d x y z u from fun _ _ _ _ _ _ _ _ => rfl, show ∀ a b c d x y z u, FI pv 7 1 [a, b, c, d, x, y, z, u] = aa1 a b c d x y z u from fun _ _ _ _ _ _ _ _ => rfl, show ∀ a b c d x y z u, FI pv 7 2 [a, b, c, d, x, y, z, u] = aa2 a b c d x y z u from fun _ _ _ _ _ _ _ _ => rfl, show ∀ a b c d x y z u, FI pv 7 3 [a, b, c, d, x, y, z, u] = aa3 a b c d x y z u from fun _ _ _ _ _ _ _ _ => rfl,
        show ∀ a b c d, FB 6 0 [a, b, c, d] = SQB a b c d from fun _ _ _ _ => rfl, show ∀ a b c d x y z u, FB 7 0 [a, b, c, d, x, y, z, u] = ADB a b c d x y z u from fun _ _ _ _ _ _ _ _ => rfl,
        show max 0 (min 400 m) = lst m from rfl]
      by_cases g1 : k ≤ lst m
      · rw [hw g1]
        have hn' := hn g1
        simp only [g1, decide_true, cond_true, if_true]
        by_cases g2 : f < 0 <;> by_cases g3 : 1125899906842624 < nhi z0 z1 z2 z3 <;> by_cases g4 : 1125899906842624 < nlo z0 z1 z2 z3 <;> cases g5 : SQB z0 z1 z2 z3 <;> cases g6 : ADB (qq0 z0 z1 z2 z3) (qq1 z0 z1 z2 z3) (qq2 z0 z1 z2 z3) (qq3 z0 z1 z2 z3) c0 c1 c2 c3 <;>
          simp only [g2, g3, g4, decide_true, decide_false, cond_true, cond_false, if_true, if_false, and_self, and_true, and_false, false_and, true_and, Bool.and_true, Bool.and_false, Bool.false_and, Bool.false_eq_true, ↓reduceIte] <;>
          first | rfl | exact ih _ _ _ _ _ _ hn' (by omega) (by omega)
      · simp only [g1, decide_false, cond_false, if_false, ↓reduceIte]
        rfl
  have h0 := key 402 f k z0 z1 z2 z3 (by omega) hk (by omega)
  have hle := esc_le m c0 c1 c2 c3 402 f k z0 z1 z2 z3
  have hc : (esc m c0 c1 c2 c3 402 f k z0 z1 z2 z3).1 = 0 ∨ (esc m c0 c1 c2 c3 402 f k z0 z1 z2 z3).1 = 1 := by omega
  rcases hc with hc | hc
  · rw [hc] at h0
    refine ⟨402, 0, _, _, _, _, _, h0, rfl, Or.inr ?_, rfl⟩
    show ((esc m c0 c1 c2 c3 402 f k z0 z1 z2 z3).1 : Int) = _
    rw [hc]
  · rw [hc] at h0
    refine ⟨402, 1, _, _, _, _, _, h0, rfl, Or.inr ?_, rfl⟩
    show ((esc m c0 c1 c2 c3 402 f k z0 z1 z2 z3).1 : Int) = _
    rw [hc]
end Go.Proofs.Ytjbpaejjpamcpaa
/- The context in which the reference's orbits of boxes are known. -/
namespace Go.Proofs.Ytjbpaejjpamcpaa
set_option linter.unusedSimpArgs false
set_option linter.unusedVariables false
variable {pv : Int → Int → Int}
open Go.RowKit Eng
def LE : List LEnt := [l_sEsc]
theorem LE_ok : ∀ e ∈ LE, ∀ w : World, e.ok Try.prog w (FI pv) FB := by
  intro e he w
  simp only [LE, List.mem_cons, List.not_mem_nil, or_false] at he
  rcases he with rfl
  · exact lok_sEsc w
def XE2c (P : Program) : Cx := { P := P, G := G3, en := enE, call := nil0, L := LE }
noncomputable def XE2 : Cx := XE2c Try.prog
theorem XE2_ok (w : World) (E : Env) (hi : E.fi = FI pv) (hb : E.fb = FB) : XOk XE2 w E := xokL G3_ok enE_ok LE_ok w E hi hb
end Go.Proofs.Ytjbpaejjpamcpaa
/- The contracts of the functions on orbits of boxes, in the reference. -/
namespace Go.Proofs.Ytjbpaejjpamcpaa
set_option linter.unusedSimpArgs false
set_option linter.unusedVariables false
variable {pv : Int → Int → Int}
open Go.RowKit Eng
def e_sBoxEscape : CEnt := ⟨29, [4, 0], none, .tup [.one (ai (.app 51 0 (vs 5))), .one (ai (.app 51 1 (vs 5))), .one (.bool (.app 2 0 (vs 4)))]⟩
def t_sBoxEscape : Tree := (.node (.app 2 0 (.cons (.var 0) (.cons (.var 1) (.cons (.var 2) (.cons (.var 3) .nil))))) (.node (.cmp .eq (.app 50 99 (.cons (.var 4) (.cons (.lit (-1)) (.cons (.lit 0) (.cons (.var 0) (.cons (.var 1) (.cons (.var 2) (.cons (.var 3) (.cons (.lit 0) (.cons (.lit 0) (.cons (.lit 0) (.cons (.lit 0) .nil)))))))))))) (.lit 0)) (.leaf (.tup [(.one (.int .i64 (.app 50 0 (.cons (.var 4) (.cons (.lit (-1)) (.cons (.lit 0) (.cons (.var 0) (.cons (.var 1) (.cons (.var 2) (.cons (.var 3) (.cons (.lit 0) (.cons (.lit 0) (.cons (.lit 0) (.cons (.lit 0) .nil)))))))))))))), (.one (.int .i64 (.app 50 1 (.cons (.var 4) (.cons (.lit (-1)) (.cons (.lit 0) (.cons (.var 0) (.cons (.var 1) (.cons (.var 2) (.cons (.var 3) (.cons (.lit 0) (.cons (.lit 0) (.cons (.lit 0) (.cons (.lit 0) .nil)))))))))))))), (.one (.bool (.lit true)))])) (.node (.cmp .eq (.app 50 99 (.cons (.var 4) (.cons (.lit (-1)) (.cons (.lit 0) (.cons (.var 0) (.cons (.var 1) (.cons (.var 2) (.cons (.var 3) (.cons (.lit 0) (.cons (.lit 0) (.cons (.lit 0) (.cons (.lit 0) .nil)))))))))))) (.lit 1)) (.leaf (.tup [(.one (.int .i64 (.app 50 10 (.cons (.var 4) (.cons (.lit (-1)) (.cons (.lit 0) (.cons (.var 0) (.cons (.var 1) (.cons (.var 2) (.cons (.var 3) (.cons (.lit 0) (.cons (.lit 0) (.cons (.lit 0) (.cons (.lit 0) .nil)))))))))))))), (.one (.int .i64 (.lit (-1)))), (.one (.bool (.lit true)))])) (.dead 11))) (.leaf (.tup [(.one (.int .i64 (.lit 0))), (.one (.int .i64 (.lit 0))), (.one (.bool (.lit false)))])))
theorem t_sBoxEscape_eq : explore XE2 200 29 (lettersFrom 0 [4, 0]) 40 [] = t_sBoxEscape := by kernel_rfl
theorem ok_sBoxEscape (w : World) : e_sBoxEscape.ok Try.prog w (FI pv) FB := by
  refine CEnt.by_tree (e := e_sBoxEscape) (fi := FI pv) (fb := FB) (X := XE2) (fuel := 200) (d := 40) (enters_of Try.func29 rfl (by kernel_rfl)) (fun w zs => XE2_ok w _ rfl rfl) mixed (fun zs hz hp => ?_) w
  obtain ⟨a, b, c, d, e, rfl⟩ := len5 hz
  show (explore XE2 200 29 (lettersFrom 0 [4, 0]) 40 []).den _ = _
  rw [t_sBoxEscape_eq]
  clear hz
  clear hp
  show Tree.den _ t_sBoxEscape = some (.tuple #[.int .i64 (FI pv 51 0 [a, b, c, d, e]), .int .i64 (FI pv 51 1 [a, b, c, d, e]), .bool (BV a b c d)])
  simp only [t_sBoxEscape, Tree.den, SVal.den, CV.den, At.den, SE.den, SB.den, SL.den, IOp.den, COp.den, envOf, List.map_cons, List.map_nil, List.getD_cons_zero, List.getD_cons_succ]
  simp only [show ∀ a b c d, FB 2 0 [a, b, c, d] = BV a b c d from fun _ _ _ _ => rfl]
  cases h : BV a b c d
  · have e0 : FI pv 51 0 [a, b, c, d, e] = 0 := show FI0 51 0 [a, b, c, d, e] = 0 from if_neg (show ¬ BV a b c d = true by rw [h]; decide)
    have e1 : FI pv 51 1 [a, b, c, d, e] = 0 := show FI0 51 1 [a, b, c, d, e] = 0 from if_neg (show ¬ BV a b c d = true by rw [h]; decide)
    rw [e0, e1]; rfl
  · have e0 : FI pv 51 0 [a, b, c, d, e] = (esc e a b c d 402 (-1) 0 0 0 0 0).2.1 := show FI0 51 0 [a, b, c, d, e] = _ from if_pos h
    have e1 : FI pv 51 1 [a, b, c, d, e] = (esc e a b c d 402 (-1) 0 0 0 0 0).2.2 := show FI0 51 1 [a, b, c, d, e] = _ from if_pos h
    rw [e0, e1]
    have hle := esc_le e a b c d 402 (-1) 0 0 0 0 0
    have hc : (esc e a b c d 402 (-1) 0 0 0 0 0).1 = 0 ∨ (esc e a b c d 402 (-1) 0 0 0 0 0).1 = 1 := by omega
    have g9 : FI pv 50 99 [e, -1, 0, a, b, c, d, 0, 0, 0, 0] = ((esc e a b c d 402 (-1) 0 0 0 0 0).1 : Int) := rfl
    have g0 : FI pv 50 0 [e, -1, 0, a, b, c, d, 0, 0, 0, 0] = (esc e a b c d 402 (-1) 0 0 0 0 0).2.1 := rfl
    have g1 : FI pv 50 1 [e, -1, 0, a, b, c, d, 0, 0, 0, 0] = (esc e a b c d 402 (-1) 0 0 0 0 0).2.2 := rfl
    have g2 : FI pv 50 10 [e, -1, 0, a, b, c, d, 0, 0, 0, 0] = (esc e a b c d 402 (-1) 0 0 0 0 0).2.1 := rfl
    rw [g9]
    rcases hc with hc | hc
    · rw [hc, g0, g1]; rfl
    · have := esc_end e a b c d 402 (-1) 0 0 0 0 0 hc
      rw [hc, g2, this]; rfl
end Go.Proofs.Ytjbpaejjpamcpaa
