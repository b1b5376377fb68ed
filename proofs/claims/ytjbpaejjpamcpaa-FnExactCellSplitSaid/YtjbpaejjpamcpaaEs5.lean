/- Where the boxes of an orbit escape, in the program: the contract. -/
import Derived.Test.YtjbpaejjpamcpaaEs4
namespace Go.Proofs.Ytjbpaejjpamcpaa
set_option linter.unusedSimpArgs false
set_option linter.unusedVariables false
variable {pv : Int → Int → Int}
open Go.RowKit Eng
theorem esc_box {z0 z1 z2 z3 : Int} (h : BV z0 z1 z2 z3 = true) : FB 100 0 [z0, z1] = true ∧ FB 100 0 [z2, z3] = true ∧ FB 101 0 [sqLo z0 z1, sqHi z0 z1, sqLo z2 z3, sqHi z2 z3] = true ∧ nlo z0 z1 z2 z3 = sqLo z0 z1 + sqLo z2 z3 ∧ nhi z0 z1 z2 z3 = sqHi z0 z1 + sqHi z2 z3 := by
  obtain ⟨a1, a2, a3, a4, a5, a6⟩ := (BV_iff _ _ _ _).1 h
  have s1 := sq_bd 134217728 (l := z0) (h := z1) (by omega) (by omega) (by omega) (by omega)
  have s2 := sq_bd 134217728 (l := z2) (h := z3) (by omega) (by omega) (by omega) (by omega)
  exact ⟨t30_2 (by omega) (by omega) (by omega) (by omega), t30_2 (by omega) (by omega) (by omega) (by omega), t60_4 (by omega) (by omega) (by omega) (by omega), if_pos h, if_pos h⟩
theorem esc_next {a b c d x y z u : Int} (h : ADB a b c d x y z u = true) : BV (aa0 a b c d x y z u) (aa1 a b c d x y z u) (aa2 a b c d x y z u) (aa3 a b c d x y z u) = true := by
  unfold aa0 aa1 aa2 aa3
  rw [if_pos h, if_pos h, if_pos h, if_pos h]
  unfold ADB at h
  simp only [Bool.and_eq_true] at h
  exact h.2
theorem iEsc_key (m a1 a2 a3 a4 c0 c1 c2 c3 : Int) : ∀ (n : Nat) (f k z0 z1 z2 z3 : Int), 1 ≤ n → 0 ≤ k → 401 < n + k → BV z0 z1 z2 z3 = true → ∃ κ ys cs, loopF (FI pv) FB bt_iEsc n [k, a1, a2, a3, a4, lst m, f, c0, c1, c2, c3, z0, z1, z2, z3] = some (κ, ys) ∧ vs_iEsc[κ]? = some (some cs) ∧ (SVal.ofRes cs).flat = true ∧
    (SVal.ofRes cs).den (envOf ys (FI pv) FB) Pl.no = .tuple #[.int .i64 (esc m c0 c1 c2 c3 n f k z0 z1 z2 z3).2.1, .int .i64 (esc m c0 c1 c2 c3 n f k z0 z1 z2 z3).2.2, .bool true] := by
  intro n
  induction n with
  | zero => intro f k z0 z1 z2 z3 h; omega
  | succ n ih =>
    intro f k z0 z1 z2 z3 _ h1 h2 hz
    have hl : lst m ≤ 400 := by unfold lst; omega
    have hw : k ≤ lst m → IntKind.i64.wrap (k + 1) = k + 1 := fun h => wrap_in (by omega) (by omega)
    have hn : k ≤ lst m → 1 ≤ n := fun h => by omega
    obtain ⟨e1, e2, e3, e4, e5⟩ := esc_box hz
    unfold loopF esc
    simp only [bt_iEsc, BTree.den, SE.den, SB.den, SL.den, COp.den, IOp.den, envOf, List.map_cons, List.map_nil, List.getD_cons_zero, List.getD_cons_succ,
      show ∀ l h, FI pv 31 0 [l, h] = sqLo l h from fun _ _ => rfl, show ∀ l h, FI pv 31 1 [l, h] = sqHi l h from fun _ _ => rfl,
      show ∀ a b c d, FI pv 6 0 [a, b, c, d] = qq0 a b c d from fun _ _ _ _ => rfl, show ∀ a b c d, FI pv 6 1 [a, b, c, d] = qq1 a b c d from fun _ _ _ _ => rfl, show ∀ a b c d, FI pv 6 2 [a, b, c, d] = qq2 a b c d from fun _ _ _ _ => rfl, show ∀ a b c d, FI pv 6 3 [a, b, c, d] = qq3 a b c d from fun _ _ _ _ => rfl,
      show ∀ a b c d x y z u, FI pv 7 0 [a, b, c, d, x, y, z, u] = aa0 a b c d x y z u from fun _ _ _ _ _ _ _ _ => rfl, show ∀ a b c d x y z u, FI pv 7 1 [a, b, c, d, x, y, z, u] = aa1 a b c d x y z u from fun _ _ _ _ _ _ _ _ => rfl, show ∀ a b c d x y z u, FI pv 7 2 [a, b, c, d, x, y, z, u] = aa2 a b c d x y z u from fun _ _ _ _ _ _ _ _ => rfl, show ∀ a b c d x y z u, FI pv 7 3 [a, b, c, d, x, y, z, u] = aa3 a b c d x y z u from fun _ _ _ _ _ _ _ _ => rfl,
      show ∀ a b c d, FB 6 0 [a, b, c, d] = SQB a b c d from fun _ _ _ _ => rfl, show ∀ a b c d x y z u, FB 7 0 [a, b, c, d, x, y, z, u] = ADB a b c d x y z u from fun _ _ _ _ _ _ _ _ => rfl, e1, e2, e3, ← e4, ← e5, cond_true]
    by_cases g1 : k ≤ lst m
    · rw [hw g1]
      have hn' := hn g1
      have g1' : ¬ lst m < k := by omega
      simp only [g1, g1', decide_true, decide_false, cond_true, cond_false, if_true]
      by_cases g2 : f < 0 <;> by_cases g3 : 1125899906842624 < nhi z0 z1 z2 z3 <;> by_cases g4 : 1125899906842624 < nlo z0 z1 z2 z3 <;> cases g5 : SQB z0 z1 z2 z3 <;> cases g6 : ADB (qq0 z0 z1 z2 z3) (qq1 z0 z1 z2 z3) (qq2 z0 z1 z2 z3) (qq3 z0 z1 z2 z3) c0 c1 c2 c3 <;>
        simp only [g2, g3, g4, decide_true, decide_false, cond_true, cond_false, if_true, if_false, and_self, and_true, and_false, false_and, true_and, Bool.and_true, Bool.and_false, Bool.false_and, Bool.false_eq_true, ↓reduceIte] <;>
        first | exact ⟨_, _, _, rfl, rfl, rfl, rfl⟩ | exact ih _ _ _ _ _ _ hn' (by omega) (by omega) (esc_next g6)
    · have g1' : lst m < k := by omega
      simp only [g1, g1', decide_true, decide_false, cond_true, cond_false, if_false, ↓reduceIte]
      exact ⟨_, _, _, rfl, rfl, rfl, rfl⟩
def e_iBoxEscape : CEnt := ⟨24, [4, 0], none, .tup [.one (ai (.app 51 0 (vs 5))), .one (ai (.app 51 1 (vs 5))), .one (.bool (.app 2 0 (vs 4)))]⟩
def kn0_iEsc : Kn := [(.app 2 0 (vs 4), false)]
theorem run0_iEsc : runFn XE2 kn0_iEsc 200 24 (lettersFrom 0 [4, 0]) = .ok (.tup [.one (.int .i64 (.lit 0)), .one (.int .i64 (.lit 0)), .one (.bool (.lit false))]) := by kernel_rfl
theorem ok_iBoxEscape (w : World) : e_iBoxEscape.ok Try.prog w (FI pv) FB := by
  refine ⟨enters_of Try.func24 rfl (by kernel_rfl), fun zs hz _ w' hb => ?_⟩
  obtain ⟨a, b, c, d, e, rfl⟩ := len5 hz
  have ho : e_iBoxEscape.out.den (envOf [a, b, c, d, e] (FI pv) FB) Pl.no = .tuple #[.int .i64 (FI pv 51 0 [a, b, c, d, e]), .int .i64 (FI pv 51 1 [a, b, c, d, e]), .bool (BV a b c d)] := rfl
  have ha : (lettersFrom 0 [4, 0]).map (SVal.den (envOf [a, b, c, d, e] (FI pv) FB) Pl.no) = inDen [4, 0] [a, b, c, d, e] := rfl
  rw [ho, show e_iBoxEscape.ins = [4, 0] from rfl, ← ha]
  cases h : BV a b c d
  · have e0 : FI pv 51 0 [a, b, c, d, e] = 0 := show FI0 51 0 [a, b, c, d, e] = 0 from if_neg (show ¬ BV a b c d = true by rw [h]; decide)
    have e1 : FI pv 51 1 [a, b, c, d, e] = 0 := show FI0 51 1 [a, b, c, d, e] = 0 from if_neg (show ¬ BV a b c d = true by rw [h]; decide)
    rw [e0, e1]
    exact runFn_ok (kn := kn0_iEsc) (fun p hp => by
      simp only [kn0_iEsc, List.mem_singleton] at hp; subst hp; exact h) (XE2_ok w' _ rfl rfl) mixed run0_iEsc
  · have e0 : FI pv 51 0 [a, b, c, d, e] = (esc e a b c d 402 (-1) 0 0 0 0 0).2.1 := show FI0 51 0 [a, b, c, d, e] = _ from if_pos h
    have e1 : FI pv 51 1 [a, b, c, d, e] = (esc e a b c d 402 (-1) 0 0 0 0 0).2.2 := show FI0 51 1 [a, b, c, d, e] = _ from if_pos h
    rw [e0, e1]
    obtain ⟨κ, ys, cs, k1, k2, k3, k4⟩ := iEsc_key (pv := pv) e a b c d a b c d 402 (-1) 0 0 0 0 0 (by omega) (by omega) (by omega) (by decide)
    rw [← k4]
    refine rngAll_ok (fun E' h1 h2 => XE2_ok w' E' h1 h2) mixed rng_iEsc (enters_of Try.func75 rfl (by kernel_rfl)) (kn := kn_iEsc) (fun p hp => by
      simp only [kn_iEsc, List.mem_singleton] at hp; subst hp; exact h) (N := 402) (κ := κ) (ys := ys) ?_ k2 k3
    rw [← k1]
    congr 1
    simp only [sg_iEsc, List.map_cons, List.map_nil, SE.den, IOp.den, envOf, List.getD_cons_zero, List.getD_cons_succ]
    have : (if (400 : Int) < (if (0 : Int) > e then 0 else e) then (400 : Int) else (if (0 : Int) > e then 0 else e)) = lst e := by unfold lst; split <;> split <;> omega
    rw [this]
end Go.Proofs.Ytjbpaejjpamcpaa
