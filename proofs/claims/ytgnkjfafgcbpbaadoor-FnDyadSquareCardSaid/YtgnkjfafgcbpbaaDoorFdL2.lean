/- The law FnDyadSquare: exact squares are squares of wide numbers: its walk, its row and its card. -/
import Derived.Test.YtgnkjfafgcbpbaaDoorFd3
import Derived.Test.YtgnkjfafgcbpbaaDoorRowT
import Derived.Test.YtgnkjfafgcbpbaaDoorRowB
namespace Go.Proofs.YtgnkjfafgcbpbaaDoor
set_option linter.unusedSimpArgs false
set_option linter.unusedVariables false
variable {pv : Int → Int → Int}
open Go.ChangeShapes Go.WideShapes Go.ChangeAt Go.RowKit Go.Joins Eng
def t_FnDyadSquare_c0 : SB := (.cmp .lt (.lit 1048576) (.var 0))
def t_FnDyadSquare_k0 : Kn := (t_FnDyadSquare_c0, true) :: []
def t_FnDyadSquare_k1 : Kn := (t_FnDyadSquare_c0, false) :: []
theorem t_FnDyadSquare_r2 : runFn (drawn XD1) t_FnDyadSquare_k0 200 5 [.cv (.one (.opq 0))] = .ok (.cv (.one (.bool (.lit true)))) := by kernel_rfl
def t_FnDyadSquare_c1 : SB := (.app 11 0 (.cons (.app 1002 0 (.cons (.lit 0) .nil)) (.cons (.app 1002 1 (.cons (.lit 0) .nil)) (.cons (.app 1002 2 (.cons (.lit 0) .nil)) .nil))))
def t_FnDyadSquare_k3 : Kn := (t_FnDyadSquare_c1, true) :: t_FnDyadSquare_k1
def t_FnDyadSquare_k4 : Kn := (t_FnDyadSquare_c1, false) :: t_FnDyadSquare_k1
def t_FnDyadSquare_c2 : SB := (.app 3 0 (.cons (.app 1002 0 (.cons (.lit 0) .nil)) (.cons (.app 1002 1 (.cons (.lit 0) .nil)) (.cons (.app 1002 2 (.cons (.lit 0) .nil)) .nil))))
def t_FnDyadSquare_k5 : Kn := (t_FnDyadSquare_c2, true) :: t_FnDyadSquare_k3
def t_FnDyadSquare_k6 : Kn := (t_FnDyadSquare_c2, false) :: t_FnDyadSquare_k3
def t_FnDyadSquare_c3 : SB := (.app 3 0 (.cons (.app 11 0 (.cons (.app 1002 0 (.cons (.lit 0) .nil)) (.cons (.app 1002 1 (.cons (.lit 0) .nil)) (.cons (.app 1002 2 (.cons (.lit 0) .nil)) .nil)))) (.cons (.app 11 1 (.cons (.app 1002 0 (.cons (.lit 0) .nil)) (.cons (.app 1002 1 (.cons (.lit 0) .nil)) (.cons (.app 1002 2 (.cons (.lit 0) .nil)) .nil)))) (.cons (.app 11 2 (.cons (.app 1002 0 (.cons (.lit 0) .nil)) (.cons (.app 1002 1 (.cons (.lit 0) .nil)) (.cons (.app 1002 2 (.cons (.lit 0) .nil)) .nil)))) .nil))))
def t_FnDyadSquare_k7 : Kn := (t_FnDyadSquare_c3, true) :: t_FnDyadSquare_k5
def t_FnDyadSquare_k8 : Kn := (t_FnDyadSquare_c3, false) :: t_FnDyadSquare_k5
def t_FnDyadSquare_c4 : SB := (.app 11 0 (.cons (.wrap .i64 (.bin .sub .i64 (.lit 0) (.app 1002 0 (.cons (.lit 0) .nil)))) (.cons (.wrap .i64 (.bin .sub .i64 (.lit 0) (.app 1002 1 (.cons (.lit 0) .nil)))) (.cons (.app 1002 2 (.cons (.lit 0) .nil)) .nil))))
def t_FnDyadSquare_k9 : Kn := (t_FnDyadSquare_c4, true) :: t_FnDyadSquare_k7
def t_FnDyadSquare_k10 : Kn := (t_FnDyadSquare_c4, false) :: t_FnDyadSquare_k7
def t_FnDyadSquare_c5 : SB := (.and (.cmp .eq (.app 11 0 (.cons (.wrap .i64 (.bin .sub .i64 (.lit 0) (.app 1002 0 (.cons (.lit 0) .nil)))) (.cons (.wrap .i64 (.bin .sub .i64 (.lit 0) (.app 1002 1 (.cons (.lit 0) .nil)))) (.cons (.app 1002 2 (.cons (.lit 0) .nil)) .nil)))) (.app 11 0 (.cons (.app 1002 0 (.cons (.lit 0) .nil)) (.cons (.app 1002 1 (.cons (.lit 0) .nil)) (.cons (.app 1002 2 (.cons (.lit 0) .nil)) .nil))))) (.and (.cmp .eq (.app 11 1 (.cons (.wrap .i64 (.bin .sub .i64 (.lit 0) (.app 1002 0 (.cons (.lit 0) .nil)))) (.cons (.wrap .i64 (.bin .sub .i64 (.lit 0) (.app 1002 1 (.cons (.lit 0) .nil)))) (.cons (.app 1002 2 (.cons (.lit 0) .nil)) .nil)))) (.app 11 1 (.cons (.app 1002 0 (.cons (.lit 0) .nil)) (.cons (.app 1002 1 (.cons (.lit 0) .nil)) (.cons (.app 1002 2 (.cons (.lit 0) .nil)) .nil))))) (.cmp .eq (.app 11 2 (.cons (.wrap .i64 (.bin .sub .i64 (.lit 0) (.app 1002 0 (.cons (.lit 0) .nil)))) (.cons (.wrap .i64 (.bin .sub .i64 (.lit 0) (.app 1002 1 (.cons (.lit 0) .nil)))) (.cons (.app 1002 2 (.cons (.lit 0) .nil)) .nil)))) (.app 11 2 (.cons (.app 1002 0 (.cons (.lit 0) .nil)) (.cons (.app 1002 1 (.cons (.lit 0) .nil)) (.cons (.app 1002 2 (.cons (.lit 0) .nil)) .nil)))))))
def t_FnDyadSquare_k11 : Kn := (t_FnDyadSquare_c5, true) :: t_FnDyadSquare_k9
def t_FnDyadSquare_k12 : Kn := (t_FnDyadSquare_c5, false) :: t_FnDyadSquare_k9
def t_FnDyadSquare_c6 : SB := (.cmp .lt (.lit 26) (.app 93 0 (.cons (.app 1002 0 (.cons (.lit 0) .nil)) (.cons (.app 1002 1 (.cons (.lit 0) .nil)) (.cons (.app 1002 2 (.cons (.lit 0) .nil)) .nil)))))
def t_FnDyadSquare_k13 : Kn := (t_FnDyadSquare_c6, true) :: t_FnDyadSquare_k11
def t_FnDyadSquare_k14 : Kn := (t_FnDyadSquare_c6, false) :: t_FnDyadSquare_k11
theorem t_FnDyadSquare_r15 : runFn (drawn XD1) t_FnDyadSquare_k13 200 5 [.cv (.one (.opq 0))] = .ok (.cv (.one (.bool (.lit true)))) := by kernel_rfl
def t_FnDyadSquare_c7 : SB := (.cmp .le (.lit 0) (.bin .fmul .u64 (.app 112 0 (.cons (.app 1002 0 (.cons (.lit 0) .nil)) (.cons (.app 1002 1 (.cons (.lit 0) .nil)) (.cons (.app 1002 2 (.cons (.lit 0) .nil)) .nil)))) (.app 112 0 (.cons (.app 1002 0 (.cons (.lit 0) .nil)) (.cons (.app 1002 1 (.cons (.lit 0) .nil)) (.cons (.app 1002 2 (.cons (.lit 0) .nil)) .nil))))))
def t_FnDyadSquare_k16 : Kn := (t_FnDyadSquare_c7, true) :: t_FnDyadSquare_k14
def t_FnDyadSquare_k17 : Kn := (t_FnDyadSquare_c7, false) :: t_FnDyadSquare_k14
def t_FnDyadSquare_c8 : SB := (.cmp .le (.lit 0) (.bin .fmul .u64 (.app 112 1 (.cons (.app 1002 0 (.cons (.lit 0) .nil)) (.cons (.app 1002 1 (.cons (.lit 0) .nil)) (.cons (.app 1002 2 (.cons (.lit 0) .nil)) .nil)))) (.app 112 1 (.cons (.app 1002 0 (.cons (.lit 0) .nil)) (.cons (.app 1002 1 (.cons (.lit 0) .nil)) (.cons (.app 1002 2 (.cons (.lit 0) .nil)) .nil))))))
def t_FnDyadSquare_k18 : Kn := (t_FnDyadSquare_c8, true) :: t_FnDyadSquare_k16
def t_FnDyadSquare_k19 : Kn := (t_FnDyadSquare_c8, false) :: t_FnDyadSquare_k16
def t_FnDyadSquare_c9 : SB := (.cmp .le (.lit 0) (.bin .fsub .u64 (.bin .fmul .u64 (.app 112 0 (.cons (.app 1002 0 (.cons (.lit 0) .nil)) (.cons (.app 1002 1 (.cons (.lit 0) .nil)) (.cons (.app 1002 2 (.cons (.lit 0) .nil)) .nil)))) (.app 112 0 (.cons (.app 1002 0 (.cons (.lit 0) .nil)) (.cons (.app 1002 1 (.cons (.lit 0) .nil)) (.cons (.app 1002 2 (.cons (.lit 0) .nil)) .nil))))) (.bin .fmul .u64 (.app 112 1 (.cons (.app 1002 0 (.cons (.lit 0) .nil)) (.cons (.app 1002 1 (.cons (.lit 0) .nil)) (.cons (.app 1002 2 (.cons (.lit 0) .nil)) .nil)))) (.app 112 1 (.cons (.app 1002 0 (.cons (.lit 0) .nil)) (.cons (.app 1002 1 (.cons (.lit 0) .nil)) (.cons (.app 1002 2 (.cons (.lit 0) .nil)) .nil)))))))
def t_FnDyadSquare_k20 : Kn := (t_FnDyadSquare_c9, true) :: t_FnDyadSquare_k18
def t_FnDyadSquare_k21 : Kn := (t_FnDyadSquare_c9, false) :: t_FnDyadSquare_k18
def t_FnDyadSquare_c10 : SB := (.cmp .le (.lit 0) (.bin .fmul .u64 (.app 112 0 (.cons (.app 1002 0 (.cons (.lit 0) .nil)) (.cons (.app 1002 1 (.cons (.lit 0) .nil)) (.cons (.app 1002 2 (.cons (.lit 0) .nil)) .nil)))) (.app 112 1 (.cons (.app 1002 0 (.cons (.lit 0) .nil)) (.cons (.app 1002 1 (.cons (.lit 0) .nil)) (.cons (.app 1002 2 (.cons (.lit 0) .nil)) .nil))))))
def t_FnDyadSquare_k22 : Kn := (t_FnDyadSquare_c10, true) :: t_FnDyadSquare_k20
def t_FnDyadSquare_k23 : Kn := (t_FnDyadSquare_c10, false) :: t_FnDyadSquare_k20
def t_FnDyadSquare_c11 : SB := (.cmp .le (.lit 0) (.bin .fmul .u64 (.lit 4611686018427387904) (.bin .fmul .u64 (.app 112 0 (.cons (.app 1002 0 (.cons (.lit 0) .nil)) (.cons (.app 1002 1 (.cons (.lit 0) .nil)) (.cons (.app 1002 2 (.cons (.lit 0) .nil)) .nil)))) (.app 112 1 (.cons (.app 1002 0 (.cons (.lit 0) .nil)) (.cons (.app 1002 1 (.cons (.lit 0) .nil)) (.cons (.app 1002 2 (.cons (.lit 0) .nil)) .nil)))))))
def t_FnDyadSquare_k24 : Kn := (t_FnDyadSquare_c11, true) :: t_FnDyadSquare_k22
def t_FnDyadSquare_k25 : Kn := (t_FnDyadSquare_c11, false) :: t_FnDyadSquare_k22
theorem t_FnDyadSquare_r26 : runFn (drawn XD1) t_FnDyadSquare_k24 200 5 [.cv (.one (.opq 0))] = .ok (.cv (.one (.bool (.and (.cmp .eq (.bin .ford .u64 (.app 112 0 (.cons (.app 11 0 (.cons (.app 1002 0 (.cons (.lit 0) .nil)) (.cons (.app 1002 1 (.cons (.lit 0) .nil)) (.cons (.app 1002 2 (.cons (.lit 0) .nil)) .nil)))) (.cons (.app 11 1 (.cons (.app 1002 0 (.cons (.lit 0) .nil)) (.cons (.app 1002 1 (.cons (.lit 0) .nil)) (.cons (.app 1002 2 (.cons (.lit 0) .nil)) .nil)))) (.cons (.app 11 2 (.cons (.app 1002 0 (.cons (.lit 0) .nil)) (.cons (.app 1002 1 (.cons (.lit 0) .nil)) (.cons (.app 1002 2 (.cons (.lit 0) .nil)) .nil)))) .nil)))) (.bin .fsub .u64 (.bin .fmul .u64 (.app 112 0 (.cons (.app 1002 0 (.cons (.lit 0) .nil)) (.cons (.app 1002 1 (.cons (.lit 0) .nil)) (.cons (.app 1002 2 (.cons (.lit 0) .nil)) .nil)))) (.app 112 0 (.cons (.app 1002 0 (.cons (.lit 0) .nil)) (.cons (.app 1002 1 (.cons (.lit 0) .nil)) (.cons (.app 1002 2 (.cons (.lit 0) .nil)) .nil))))) (.bin .fmul .u64 (.app 112 1 (.cons (.app 1002 0 (.cons (.lit 0) .nil)) (.cons (.app 1002 1 (.cons (.lit 0) .nil)) (.cons (.app 1002 2 (.cons (.lit 0) .nil)) .nil)))) (.app 112 1 (.cons (.app 1002 0 (.cons (.lit 0) .nil)) (.cons (.app 1002 1 (.cons (.lit 0) .nil)) (.cons (.app 1002 2 (.cons (.lit 0) .nil)) .nil))))))) (.lit 0)) (.cmp .eq (.bin .ford .u64 (.app 112 1 (.cons (.app 11 0 (.cons (.app 1002 0 (.cons (.lit 0) .nil)) (.cons (.app 1002 1 (.cons (.lit 0) .nil)) (.cons (.app 1002 2 (.cons (.lit 0) .nil)) .nil)))) (.cons (.app 11 1 (.cons (.app 1002 0 (.cons (.lit 0) .nil)) (.cons (.app 1002 1 (.cons (.lit 0) .nil)) (.cons (.app 1002 2 (.cons (.lit 0) .nil)) .nil)))) (.cons (.app 11 2 (.cons (.app 1002 0 (.cons (.lit 0) .nil)) (.cons (.app 1002 1 (.cons (.lit 0) .nil)) (.cons (.app 1002 2 (.cons (.lit 0) .nil)) .nil)))) .nil)))) (.bin .fmul .u64 (.lit 4611686018427387904) (.bin .fmul .u64 (.app 112 0 (.cons (.app 1002 0 (.cons (.lit 0) .nil)) (.cons (.app 1002 1 (.cons (.lit 0) .nil)) (.cons (.app 1002 2 (.cons (.lit 0) .nil)) .nil)))) (.app 112 1 (.cons (.app 1002 0 (.cons (.lit 0) .nil)) (.cons (.app 1002 1 (.cons (.lit 0) .nil)) (.cons (.app 1002 2 (.cons (.lit 0) .nil)) .nil))))))) (.lit 0)))))) := by kernel_rfl
theorem t_FnDyadSquare_r27 : runFn (drawn XD1) t_FnDyadSquare_k4 200 5 [.cv (.one (.opq 0))] = .ok (.cv (.one (.bool (.lit true)))) := by kernel_rfl
def t_FnDyadSquare : Tree := (.node t_FnDyadSquare_c0 (.leaf (.cv (.one (.bool (.lit true))))) (.node t_FnDyadSquare_c1 (.node t_FnDyadSquare_c2 (.node t_FnDyadSquare_c3 (.node t_FnDyadSquare_c4 (.node t_FnDyadSquare_c5 (.node t_FnDyadSquare_c6 (.leaf (.cv (.one (.bool (.lit true))))) (.node t_FnDyadSquare_c7 (.node t_FnDyadSquare_c8 (.node t_FnDyadSquare_c9 (.node t_FnDyadSquare_c10 (.node t_FnDyadSquare_c11 (.leaf (.cv (.one (.bool (.and (.cmp .eq (.bin .ford .u64 (.app 112 0 (.cons (.app 11 0 (.cons (.app 1002 0 (.cons (.lit 0) .nil)) (.cons (.app 1002 1 (.cons (.lit 0) .nil)) (.cons (.app 1002 2 (.cons (.lit 0) .nil)) .nil)))) (.cons (.app 11 1 (.cons (.app 1002 0 (.cons (.lit 0) .nil)) (.cons (.app 1002 1 (.cons (.lit 0) .nil)) (.cons (.app 1002 2 (.cons (.lit 0) .nil)) .nil)))) (.cons (.app 11 2 (.cons (.app 1002 0 (.cons (.lit 0) .nil)) (.cons (.app 1002 1 (.cons (.lit 0) .nil)) (.cons (.app 1002 2 (.cons (.lit 0) .nil)) .nil)))) .nil)))) (.bin .fsub .u64 (.bin .fmul .u64 (.app 112 0 (.cons (.app 1002 0 (.cons (.lit 0) .nil)) (.cons (.app 1002 1 (.cons (.lit 0) .nil)) (.cons (.app 1002 2 (.cons (.lit 0) .nil)) .nil)))) (.app 112 0 (.cons (.app 1002 0 (.cons (.lit 0) .nil)) (.cons (.app 1002 1 (.cons (.lit 0) .nil)) (.cons (.app 1002 2 (.cons (.lit 0) .nil)) .nil))))) (.bin .fmul .u64 (.app 112 1 (.cons (.app 1002 0 (.cons (.lit 0) .nil)) (.cons (.app 1002 1 (.cons (.lit 0) .nil)) (.cons (.app 1002 2 (.cons (.lit 0) .nil)) .nil)))) (.app 112 1 (.cons (.app 1002 0 (.cons (.lit 0) .nil)) (.cons (.app 1002 1 (.cons (.lit 0) .nil)) (.cons (.app 1002 2 (.cons (.lit 0) .nil)) .nil))))))) (.lit 0)) (.cmp .eq (.bin .ford .u64 (.app 112 1 (.cons (.app 11 0 (.cons (.app 1002 0 (.cons (.lit 0) .nil)) (.cons (.app 1002 1 (.cons (.lit 0) .nil)) (.cons (.app 1002 2 (.cons (.lit 0) .nil)) .nil)))) (.cons (.app 11 1 (.cons (.app 1002 0 (.cons (.lit 0) .nil)) (.cons (.app 1002 1 (.cons (.lit 0) .nil)) (.cons (.app 1002 2 (.cons (.lit 0) .nil)) .nil)))) (.cons (.app 11 2 (.cons (.app 1002 0 (.cons (.lit 0) .nil)) (.cons (.app 1002 1 (.cons (.lit 0) .nil)) (.cons (.app 1002 2 (.cons (.lit 0) .nil)) .nil)))) .nil)))) (.bin .fmul .u64 (.lit 4611686018427387904) (.bin .fmul .u64 (.app 112 0 (.cons (.app 1002 0 (.cons (.lit 0) .nil)) (.cons (.app 1002 1 (.cons (.lit 0) .nil)) (.cons (.app 1002 2 (.cons (.lit 0) .nil)) .nil)))) (.app 112 1 (.cons (.app 1002 0 (.cons (.lit 0) .nil)) (.cons (.app 1002 1 (.cons (.lit 0) .nil)) (.cons (.app 1002 2 (.cons (.lit 0) .nil)) .nil))))))) (.lit 0))))))) (.dead 9)) (.dead 9)) (.dead 9)) (.dead 9)) (.dead 9))) (.dead 7)) (.dead 7)) (.dead 7)) (.dead 7)) (.leaf (.cv (.one (.bool (.lit true)))))))
theorem t_FnDyadSquare_runs : Runs (drawn XD1) 200 5 [.cv (.one (.opq 0))] t_FnDyadSquare [] := ⟨t_FnDyadSquare_r2, ⟨⟨⟨⟨⟨⟨t_FnDyadSquare_r15, ⟨⟨⟨⟨⟨t_FnDyadSquare_r26, trivial⟩, trivial⟩, trivial⟩, trivial⟩, trivial⟩⟩, trivial⟩, trivial⟩, trivial⟩, trivial⟩, t_FnDyadSquare_r27⟩⟩
theorem fnDyadSquare_walk (v : Value) (w : World) (hv : BytesOk w w.heap.size v) (hT : Tb w) : Calls Tryd.prog 5 #[v] w (Gives (.bool true) w) := by
  refine dlawRW (X := XD1) rfl (fun pv E h1 h2 => XD1_ok w hT E h1 h2) (fuel := 200) (L := 5) t_FnDyadSquare_runs (fun pv p len cap hpv => ?_) v hv
  clear hv
  simp only [t_FnDyadSquare, t_FnDyadSquare_c0, t_FnDyadSquare_c1, t_FnDyadSquare_c2, t_FnDyadSquare_c3, t_FnDyadSquare_c4, t_FnDyadSquare_c5, t_FnDyadSquare_c6, t_FnDyadSquare_c7, t_FnDyadSquare_c8, t_FnDyadSquare_c9, t_FnDyadSquare_c10, t_FnDyadSquare_c11, Tree.den, SVal.den, CV.den, At.den, SE.den, SB.den, SL.den, IOp.den, COp.den, envD, List.map_cons, List.map_nil, List.getD_cons_zero, List.getD_cons_succ, ↓reduceIte, show ∀ q, FI pv 1001 0 [q] = bxA pv q from fun _ => rfl, show ∀ q, FI pv 1001 1 [q] = bxB pv q from fun _ => rfl, show ∀ q, FI pv 1001 2 [q] = bxC pv q from fun _ => rfl, show ∀ q, FI pv 1001 3 [q] = bxD pv q from fun _ => rfl, show ∀ q, FI pv 1001 100 [q] = bxP pv q from fun _ => rfl, show ∀ q, FI pv 1002 0 [q] = dyR pv q from fun _ => rfl, show ∀ q, FI pv 1002 1 [q] = dyI pv q from fun _ => rfl, show ∀ q, FI pv 1002 2 [q] = dyS pv q from fun _ => rfl, show ∀ q, FI pv 1002 100 [q] = q + 4 from fun _ => rfl, show ∀ q n, FI pv 1000 0 [q, n] = pv q n from fun _ _ => rfl, show ∀ q, FI pv 1000 100 [q] = q + 1 from fun _ => rfl]
  generalize dyR pv 0 = r
  generalize dyI pv 0 = i
  generalize dyS pv 0 = s
  cases hA : SQ r i s
  · have q1 : FB 11 0 [r, i, s] = false := hA
    rw [q1]; simp
  · obtain ⟨hd, hf⟩ := sq_parts hA
    obtain ⟨h1, h2, h3⟩ := dv_rngF hd
    have w1 : IntKind.i64.wrap (0 - r) = -r := by rw [wrap_in (by omega) (by omega)]; omega
    have w2 : IntKind.i64.wrap (0 - i) = -i := by rw [wrap_in (by omega) (by omega)]; omega
    rw [w1, w2]
    have hB : SQ (-r) (-i) s = true := by rw [SQ_neg]; exact hA
    have q1 : FB 11 0 [r, i, s] = true := hA
    have q2 : FB 11 0 [-r, -i, s] = true := hB
    have q3 : FB 3 0 [r, i, s] = true := hd
    have q4 : FI pv 93 0 [r, i, s] = max (BT r) (BT i) := by rw [f93, if_pos hd]
    have a0 : FI pv 11 0 [r, i, s] = lR (SR r i) (SI r i) (2 * s) := if_pos hA
    have a1 : FI pv 11 1 [r, i, s] = lI (SR r i) (SI r i) (2 * s) := if_pos hA
    have a2 : FI pv 11 2 [r, i, s] = lS (SR r i) (SI r i) (2 * s) := if_pos hA
    have b0 : FI pv 11 0 [-r, -i, s] = lR (SR r i) (SI r i) (2 * s) := by rw [← SR_neg, ← SI_neg]; exact if_pos hB
    have b1 : FI pv 11 1 [-r, -i, s] = lI (SR r i) (SI r i) (2 * s) := by rw [← SR_neg, ← SI_neg]; exact if_pos hB
    have b2 : FI pv 11 2 [-r, -i, s] = lS (SR r i) (SI r i) (2 * s) := by rw [← SR_neg, ← SI_neg]; exact if_pos hB
    rw [a0, a1, a2, b0, b1, b2]
    obtain ⟨m, e1, e2, e3, -⟩ := l_spec (SR r i) (SI r i) (2 * s) (by omega)
    obtain ⟨f1, f2, f3⟩ := dv_rngF hf
    generalize lR (SR r i) (SI r i) (2 * s) = R at *
    generalize lI (SR r i) (SI r i) (2 * s) = I at *
    generalize lS (SR r i) (SI r i) (2 * s) = S at *
    have q5 : FB 3 0 [R, I, S] = true := hf
    rw [q1, q2, q3, q4, q5, f112a hd, f112b hd, f112a hf, f112b hf, show (fkOf IntKind.u64).format = Ieee.double from rfl, show Int.toNat 4611686018427387904 = 4611686018427387904 from rfl, beq_self_eq_true, beq_self_eq_true, beq_self_eq_true]
    by_cases hb : 26 < max (BT r) (BT i)
    · rw [decide_eq_true hb]; simp
    · obtain ⟨a, b, c, d, e, k1, k2, k3, k4, k5, k6, k7⟩ := square_word (r := r) (i := i) (s := s) (R := R) (I := I) (S := S) (m := m) (by omega) (by omega) (by omega) (by omega) h3 f3 (by omega) (by omega) e1 e2 e3
      have t : ∀ x : Nat, (oInt (some x)).toNat = x := fun _ => rfl
      have o : ∀ x : Nat, decide (0 ≤ oInt (some x)) = true := fun x => decide_eq_true (by show (0 : Int) ≤ (x : Int); omega)
      rw [decide_eq_false hb, k1, k2, k4, t, t, t, k3, k5, t, t, k6, k7, o, o, o, o, o]
      simp
theorem fnDyadSquare_laid (os : Os) : laidMet Tryd.prog Rows.fnDyadSquareRow.laid ((laidWorld os).forCall (fun _ _ => 0) ⟨#[], #[.slice none 0 0], []⟩).memory := laidMet_of_run' 8 (by kernel_rfl) (by kernel_rfl)
theorem fnDyadSquare_reads (os : Os) {H : Type} (enc : TypeId × Value → H) : ∃ places, DataW.whole enc Tryd.prog ((laidWorld os).forCall (fun _ _ => 0) ⟨#[], #[.slice none 0 0], []⟩).memory Tryd.f5.params.toList Rows.fnDyadSquareSpec.vars false #[Value.slice none 0 0].toList 8 = some ([.nil], [], places) := ⟨[], by kernel_rfl⟩
set_option maxRecDepth 100000 in
theorem fnDyadSquare_lifted (os : Os) (started : os.Started) (H : Type) (enc : TypeId × Value → H) (F : Stop.Interp) :
    ReturnsInHanded {} Tryd.checked os 5 .any ((OpenSpec.ofChange Rows.fnDyadSquareSpec).preRow enc Tryd.prog Tryd.f5 Rows.fnDyadSquareRow.domain false Rows.fnDyadSquareRow.laid) (((OpenSpec.ofChange Rows.fnDyadSquareSpec).at F).post enc Tryd.prog Tryd.f5 false true false false) := by
  obtain ⟨places, hx⟩ := fnDyadSquare_reads os enc
  refine returnsInHanded_of_row (C := Tryd.checked) (s := OpenSpec.ofChange Rows.fnDyadSquareSpec) Tryd.own started (by kernel_rfl) Tryd.func5
    (witness_row_at (enc := enc) (C := Tryd.checked) false (laidWorld os) #[.slice none 0 0] rfl (by kernel_rfl) (by kernel_rfl) (by kernel_rfl)
      (OpenSpec.preRow_of_cond 8 hx (by kernel_rfl) (fun k hk => by cases hk) (by kernel_rfl) (fnDyadSquare_laid os))) ?_
  intro W base args ds gs before hval0 hW _ _ _ hL _ _
  have hT : Tb W := tb_of hL
  have hval : ∀ (j : Nat) t v, Tryd.f5.params[j]? = some t → args[j]? = some v → Value.okWide Tryd.prog W .any base t v := hval0
  have hW' := hW
  obtain ⟨p, q, hA0, hV, rfl, hfz, hnd⟩ := hW
  have hA : DataW.TrodAll enc Tryd.prog W 0 (fun _ => true) true Tryd.f5.params.toList args.toList ds p := hA0
  rw [Tryd.params5] at hA hval
  obtain ⟨v0, vs0, d0, ds0, p0, q0, hargs, rfl, rfl, h0, r0⟩ := trodAll_cons hA
  obtain ⟨rfl, rfl, rfl⟩ := trodAll_nil r0
  obtain rfl : args = #[v0] := by cases args; simp_all
  obtain ⟨rfl, rfl⟩ := trodVars_none hV
  have k0 := h0
  have lt0 : ∀ x ∈ p0, x.block < W.heap.size := by obtain ⟨m, hm⟩ := k0; exact DataW.trod_lt m _ _ _ hm
  obtain ⟨a0, len0, cap0, rfl⟩ := okWide_slice Tryd.underlying22 (hval 0 22 v0 rfl rfl)
  have hb0 : BytesOk W W.heap.size (.slice a0 len0 cap0) := by
    obtain ⟨fuel, hf⟩ := h0
    exact bytes_of_ints (open_ints Tryd.underlying22 Tryd.underlying5 (by kernel_rfl) hf)
  clear hA0 hval0
  refine (fnDyadSquare_walk (.slice a0 len0 cap0) W hb0 hT).mono fun e W' ⟨he, bel⟩ => ?_
  subst he
  exact ⟨_, rfl, _, _, _, [], _, [], hW', trodAll_mk1 (shut_bool Tryd.underlying4 _), (trodAll_cons_mk (Below.trod Tryd.laidOut (by kernel_rfl) (of_decide_eq_true (by kernel_rfl)) k0 bel lt0) trodAll_mk0), rfl, bel.frame _, fun h => by cases h⟩

theorem fnDyadSquare_holds : Rows.FnDyadSquareSaid :=
  OpenClaim.holds_of_cond 5 Tryd.f5 rfl rfl rfl rfl rfl rfl rfl ⟨rfl, rfl, rfl, rfl, rfl⟩ rfl rfl rfl rfl rfl (by kernel_rfl) Tryd.func5 (by kernel_rfl)
    (of_decide_eq_true (by kernel_rfl)) (by unfold Func.isWrapper; first | (rw [if_pos (by decide +kernel)]; kernel_rfl) | (rw [if_neg (by decide +kernel)]; exact ⟨rfl, rfl⟩))
    (fun os started H enc _ F => by rw [OpenClaim.pre_eq_preRow]; exact fnDyadSquare_lifted os started H enc F)
theorem fnDyadSquare_plain (f : FuncId) (fn : Func) (hf : Tryd.pinned.checked.prog.funcNamed Rows.fnDyadSquareRow.func = some f) (hfn : Tryd.pinned.checked.prog.funcs[f]? = some fn) :
    false = Tryd.pinned.checked.prog.looks [] ∧ ∀ (j : Nat) t, fn.params[j]? = some t → Tryd.pinned.checked.prog.wantsStandIn t = false := by
  obtain rfl : f = 5 := Option.some.inj ((show Tryd.prog.funcNamed Rows.fnDyadSquareRow.func = some 5 by kernel_rfl).symm.trans hf) |>.symm
  obtain rfl : fn = Tryd.f5 := (Option.some.inj (Tryd.func5.symm.trans hfn)).symm
  refine ⟨by kernel_rfl, fun j t ht => ?_⟩
  rw [Tryd.params5] at ht
  have hm : t ∈ [22] := by simpa using Array.mem_of_getElem? ht
  have hall : ([22].all fun u => !Tryd.prog.wantsStandIn u) = true := by kernel_rfl
  exact (show Tryd.prog.wantsStandIn t = false by simpa using List.all_eq_true.1 hall t hm)
/-- The card. -/
theorem fnDyadSquare_card : Rows.FnDyadSquareCardSaid :=
  Claim7.holds_tied_plain_at .later [] _ _ _ _ fnDyadSquare_holds (fun _ h => by cases h) (by kernel_rfl) (fun _ h => by cases h) fnDyadSquare_row_tie rfl ⟨rfl, rfl⟩ (by kernel_rfl) rfl fnDyadSquare_plain (by kernel_rfl)
end Go.Proofs.YtgnkjfafgcbpbaaDoor
