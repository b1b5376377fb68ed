/- The law FnDyadAdd: exact sums are sums of wide numbers: its walk and row. -/
import Derived.Test.YtgnkjfafgcbpbaaFa1
import Derived.Test.YtgnkjfafgcbpbaaRow
import Derived.Test.YtgnkjfafgcbpbaaRowB
namespace Go.Proofs.Ytgnkjfafgcbpbaa
set_option linter.unusedSimpArgs false
set_option linter.unusedVariables false
variable {pv : Int → Int → Int}
open Go.ChangeShapes Go.WideShapes Go.ChangeAt Go.RowKit Go.Joins Eng
def t_FnDyadAdd_c0 : SB := (.cmp .lt (.lit 1048576) (.var 0))
def t_FnDyadAdd_k0 : Kn := (t_FnDyadAdd_c0, true) :: []
def t_FnDyadAdd_k1 : Kn := (t_FnDyadAdd_c0, false) :: []
theorem t_FnDyadAdd_r2 : runFn (drawn XA1) t_FnDyadAdd_k0 200 4 [.cv (.one (.opq 0))] = .ok (.cv (.one (.bool (.lit true)))) := by kernel_rfl
def t_FnDyadAdd_c1 : SB := (.app 5 0 (.cons (.app 1002 0 (.cons (.lit 0) .nil)) (.cons (.app 1002 1 (.cons (.lit 0) .nil)) (.cons (.app 1002 2 (.cons (.lit 0) .nil)) (.cons (.app 1002 0 (.cons (.app 1002 100 (.cons (.lit 0) .nil)) .nil)) (.cons (.app 1002 1 (.cons (.app 1002 100 (.cons (.lit 0) .nil)) .nil)) (.cons (.app 1002 2 (.cons (.app 1002 100 (.cons (.lit 0) .nil)) .nil)) .nil)))))))
def t_FnDyadAdd_k3 : Kn := (t_FnDyadAdd_c1, true) :: t_FnDyadAdd_k1
def t_FnDyadAdd_k4 : Kn := (t_FnDyadAdd_c1, false) :: t_FnDyadAdd_k1
def t_FnDyadAdd_c2 : SB := (.app 5 0 (.cons (.app 1002 0 (.cons (.app 1002 100 (.cons (.lit 0) .nil)) .nil)) (.cons (.app 1002 1 (.cons (.app 1002 100 (.cons (.lit 0) .nil)) .nil)) (.cons (.app 1002 2 (.cons (.app 1002 100 (.cons (.lit 0) .nil)) .nil)) (.cons (.app 1002 0 (.cons (.lit 0) .nil)) (.cons (.app 1002 1 (.cons (.lit 0) .nil)) (.cons (.app 1002 2 (.cons (.lit 0) .nil)) .nil)))))))
def t_FnDyadAdd_k5 : Kn := (t_FnDyadAdd_c2, true) :: t_FnDyadAdd_k3
def t_FnDyadAdd_k6 : Kn := (t_FnDyadAdd_c2, false) :: t_FnDyadAdd_k3
def t_FnDyadAdd_c3 : SB := (.app 3 0 (.cons (.app 1002 0 (.cons (.lit 0) .nil)) (.cons (.app 1002 1 (.cons (.lit 0) .nil)) (.cons (.app 1002 2 (.cons (.lit 0) .nil)) .nil))))
def t_FnDyadAdd_k7 : Kn := (t_FnDyadAdd_c3, true) :: t_FnDyadAdd_k5
def t_FnDyadAdd_k8 : Kn := (t_FnDyadAdd_c3, false) :: t_FnDyadAdd_k5
def t_FnDyadAdd_c4 : SB := (.app 3 0 (.cons (.app 1002 0 (.cons (.app 1002 100 (.cons (.lit 0) .nil)) .nil)) (.cons (.app 1002 1 (.cons (.app 1002 100 (.cons (.lit 0) .nil)) .nil)) (.cons (.app 1002 2 (.cons (.app 1002 100 (.cons (.lit 0) .nil)) .nil)) .nil))))
def t_FnDyadAdd_k9 : Kn := (t_FnDyadAdd_c4, true) :: t_FnDyadAdd_k7
def t_FnDyadAdd_k10 : Kn := (t_FnDyadAdd_c4, false) :: t_FnDyadAdd_k7
def t_FnDyadAdd_c5 : SB := (.app 3 0 (.cons (.app 5 0 (.cons (.app 1002 0 (.cons (.lit 0) .nil)) (.cons (.app 1002 1 (.cons (.lit 0) .nil)) (.cons (.app 1002 2 (.cons (.lit 0) .nil)) (.cons (.app 1002 0 (.cons (.app 1002 100 (.cons (.lit 0) .nil)) .nil)) (.cons (.app 1002 1 (.cons (.app 1002 100 (.cons (.lit 0) .nil)) .nil)) (.cons (.app 1002 2 (.cons (.app 1002 100 (.cons (.lit 0) .nil)) .nil)) .nil))))))) (.cons (.app 5 1 (.cons (.app 1002 0 (.cons (.lit 0) .nil)) (.cons (.app 1002 1 (.cons (.lit 0) .nil)) (.cons (.app 1002 2 (.cons (.lit 0) .nil)) (.cons (.app 1002 0 (.cons (.app 1002 100 (.cons (.lit 0) .nil)) .nil)) (.cons (.app 1002 1 (.cons (.app 1002 100 (.cons (.lit 0) .nil)) .nil)) (.cons (.app 1002 2 (.cons (.app 1002 100 (.cons (.lit 0) .nil)) .nil)) .nil))))))) (.cons (.app 5 2 (.cons (.app 1002 0 (.cons (.lit 0) .nil)) (.cons (.app 1002 1 (.cons (.lit 0) .nil)) (.cons (.app 1002 2 (.cons (.lit 0) .nil)) (.cons (.app 1002 0 (.cons (.app 1002 100 (.cons (.lit 0) .nil)) .nil)) (.cons (.app 1002 1 (.cons (.app 1002 100 (.cons (.lit 0) .nil)) .nil)) (.cons (.app 1002 2 (.cons (.app 1002 100 (.cons (.lit 0) .nil)) .nil)) .nil))))))) .nil))))
def t_FnDyadAdd_k11 : Kn := (t_FnDyadAdd_c5, true) :: t_FnDyadAdd_k9
def t_FnDyadAdd_k12 : Kn := (t_FnDyadAdd_c5, false) :: t_FnDyadAdd_k9
def t_FnDyadAdd_c6 : SB := (.and (.cmp .eq (.app 5 0 (.cons (.app 1002 0 (.cons (.app 1002 100 (.cons (.lit 0) .nil)) .nil)) (.cons (.app 1002 1 (.cons (.app 1002 100 (.cons (.lit 0) .nil)) .nil)) (.cons (.app 1002 2 (.cons (.app 1002 100 (.cons (.lit 0) .nil)) .nil)) (.cons (.app 1002 0 (.cons (.lit 0) .nil)) (.cons (.app 1002 1 (.cons (.lit 0) .nil)) (.cons (.app 1002 2 (.cons (.lit 0) .nil)) .nil))))))) (.app 5 0 (.cons (.app 1002 0 (.cons (.lit 0) .nil)) (.cons (.app 1002 1 (.cons (.lit 0) .nil)) (.cons (.app 1002 2 (.cons (.lit 0) .nil)) (.cons (.app 1002 0 (.cons (.app 1002 100 (.cons (.lit 0) .nil)) .nil)) (.cons (.app 1002 1 (.cons (.app 1002 100 (.cons (.lit 0) .nil)) .nil)) (.cons (.app 1002 2 (.cons (.app 1002 100 (.cons (.lit 0) .nil)) .nil)) .nil)))))))) (.and (.cmp .eq (.app 5 1 (.cons (.app 1002 0 (.cons (.app 1002 100 (.cons (.lit 0) .nil)) .nil)) (.cons (.app 1002 1 (.cons (.app 1002 100 (.cons (.lit 0) .nil)) .nil)) (.cons (.app 1002 2 (.cons (.app 1002 100 (.cons (.lit 0) .nil)) .nil)) (.cons (.app 1002 0 (.cons (.lit 0) .nil)) (.cons (.app 1002 1 (.cons (.lit 0) .nil)) (.cons (.app 1002 2 (.cons (.lit 0) .nil)) .nil))))))) (.app 5 1 (.cons (.app 1002 0 (.cons (.lit 0) .nil)) (.cons (.app 1002 1 (.cons (.lit 0) .nil)) (.cons (.app 1002 2 (.cons (.lit 0) .nil)) (.cons (.app 1002 0 (.cons (.app 1002 100 (.cons (.lit 0) .nil)) .nil)) (.cons (.app 1002 1 (.cons (.app 1002 100 (.cons (.lit 0) .nil)) .nil)) (.cons (.app 1002 2 (.cons (.app 1002 100 (.cons (.lit 0) .nil)) .nil)) .nil)))))))) (.cmp .eq (.app 5 2 (.cons (.app 1002 0 (.cons (.app 1002 100 (.cons (.lit 0) .nil)) .nil)) (.cons (.app 1002 1 (.cons (.app 1002 100 (.cons (.lit 0) .nil)) .nil)) (.cons (.app 1002 2 (.cons (.app 1002 100 (.cons (.lit 0) .nil)) .nil)) (.cons (.app 1002 0 (.cons (.lit 0) .nil)) (.cons (.app 1002 1 (.cons (.lit 0) .nil)) (.cons (.app 1002 2 (.cons (.lit 0) .nil)) .nil))))))) (.app 5 2 (.cons (.app 1002 0 (.cons (.lit 0) .nil)) (.cons (.app 1002 1 (.cons (.lit 0) .nil)) (.cons (.app 1002 2 (.cons (.lit 0) .nil)) (.cons (.app 1002 0 (.cons (.app 1002 100 (.cons (.lit 0) .nil)) .nil)) (.cons (.app 1002 1 (.cons (.app 1002 100 (.cons (.lit 0) .nil)) .nil)) (.cons (.app 1002 2 (.cons (.app 1002 100 (.cons (.lit 0) .nil)) .nil)) .nil))))))))))
def t_FnDyadAdd_k13 : Kn := (t_FnDyadAdd_c6, true) :: t_FnDyadAdd_k11
def t_FnDyadAdd_k14 : Kn := (t_FnDyadAdd_c6, false) :: t_FnDyadAdd_k11
def t_FnDyadAdd_c7 : SB := (.cmp .le (.lit 0) (.bin .fadd .u64 (.app 112 0 (.cons (.app 1002 0 (.cons (.lit 0) .nil)) (.cons (.app 1002 1 (.cons (.lit 0) .nil)) (.cons (.app 1002 2 (.cons (.lit 0) .nil)) .nil)))) (.app 112 0 (.cons (.app 1002 0 (.cons (.app 1002 100 (.cons (.lit 0) .nil)) .nil)) (.cons (.app 1002 1 (.cons (.app 1002 100 (.cons (.lit 0) .nil)) .nil)) (.cons (.app 1002 2 (.cons (.app 1002 100 (.cons (.lit 0) .nil)) .nil)) .nil))))))
def t_FnDyadAdd_k15 : Kn := (t_FnDyadAdd_c7, true) :: t_FnDyadAdd_k13
def t_FnDyadAdd_k16 : Kn := (t_FnDyadAdd_c7, false) :: t_FnDyadAdd_k13
def t_FnDyadAdd_c8 : SB := (.cmp .le (.lit 0) (.bin .fadd .u64 (.app 112 1 (.cons (.app 1002 0 (.cons (.lit 0) .nil)) (.cons (.app 1002 1 (.cons (.lit 0) .nil)) (.cons (.app 1002 2 (.cons (.lit 0) .nil)) .nil)))) (.app 112 1 (.cons (.app 1002 0 (.cons (.app 1002 100 (.cons (.lit 0) .nil)) .nil)) (.cons (.app 1002 1 (.cons (.app 1002 100 (.cons (.lit 0) .nil)) .nil)) (.cons (.app 1002 2 (.cons (.app 1002 100 (.cons (.lit 0) .nil)) .nil)) .nil))))))
def t_FnDyadAdd_k17 : Kn := (t_FnDyadAdd_c8, true) :: t_FnDyadAdd_k15
def t_FnDyadAdd_k18 : Kn := (t_FnDyadAdd_c8, false) :: t_FnDyadAdd_k15
theorem t_FnDyadAdd_r19 : runFn (drawn XA1) t_FnDyadAdd_k17 200 4 [.cv (.one (.opq 0))] = .ok (.cv (.one (.bool (.and (.cmp .eq (.bin .ford .u64 (.app 112 0 (.cons (.app 5 0 (.cons (.app 1002 0 (.cons (.lit 0) .nil)) (.cons (.app 1002 1 (.cons (.lit 0) .nil)) (.cons (.app 1002 2 (.cons (.lit 0) .nil)) (.cons (.app 1002 0 (.cons (.app 1002 100 (.cons (.lit 0) .nil)) .nil)) (.cons (.app 1002 1 (.cons (.app 1002 100 (.cons (.lit 0) .nil)) .nil)) (.cons (.app 1002 2 (.cons (.app 1002 100 (.cons (.lit 0) .nil)) .nil)) .nil))))))) (.cons (.app 5 1 (.cons (.app 1002 0 (.cons (.lit 0) .nil)) (.cons (.app 1002 1 (.cons (.lit 0) .nil)) (.cons (.app 1002 2 (.cons (.lit 0) .nil)) (.cons (.app 1002 0 (.cons (.app 1002 100 (.cons (.lit 0) .nil)) .nil)) (.cons (.app 1002 1 (.cons (.app 1002 100 (.cons (.lit 0) .nil)) .nil)) (.cons (.app 1002 2 (.cons (.app 1002 100 (.cons (.lit 0) .nil)) .nil)) .nil))))))) (.cons (.app 5 2 (.cons (.app 1002 0 (.cons (.lit 0) .nil)) (.cons (.app 1002 1 (.cons (.lit 0) .nil)) (.cons (.app 1002 2 (.cons (.lit 0) .nil)) (.cons (.app 1002 0 (.cons (.app 1002 100 (.cons (.lit 0) .nil)) .nil)) (.cons (.app 1002 1 (.cons (.app 1002 100 (.cons (.lit 0) .nil)) .nil)) (.cons (.app 1002 2 (.cons (.app 1002 100 (.cons (.lit 0) .nil)) .nil)) .nil))))))) .nil)))) (.bin .fadd .u64 (.app 112 0 (.cons (.app 1002 0 (.cons (.lit 0) .nil)) (.cons (.app 1002 1 (.cons (.lit 0) .nil)) (.cons (.app 1002 2 (.cons (.lit 0) .nil)) .nil)))) (.app 112 0 (.cons (.app 1002 0 (.cons (.app 1002 100 (.cons (.lit 0) .nil)) .nil)) (.cons (.app 1002 1 (.cons (.app 1002 100 (.cons (.lit 0) .nil)) .nil)) (.cons (.app 1002 2 (.cons (.app 1002 100 (.cons (.lit 0) .nil)) .nil)) .nil)))))) (.lit 0)) (.cmp .eq (.bin .ford .u64 (.app 112 1 (.cons (.app 5 0 (.cons (.app 1002 0 (.cons (.lit 0) .nil)) (.cons (.app 1002 1 (.cons (.lit 0) .nil)) (.cons (.app 1002 2 (.cons (.lit 0) .nil)) (.cons (.app 1002 0 (.cons (.app 1002 100 (.cons (.lit 0) .nil)) .nil)) (.cons (.app 1002 1 (.cons (.app 1002 100 (.cons (.lit 0) .nil)) .nil)) (.cons (.app 1002 2 (.cons (.app 1002 100 (.cons (.lit 0) .nil)) .nil)) .nil))))))) (.cons (.app 5 1 (.cons (.app 1002 0 (.cons (.lit 0) .nil)) (.cons (.app 1002 1 (.cons (.lit 0) .nil)) (.cons (.app 1002 2 (.cons (.lit 0) .nil)) (.cons (.app 1002 0 (.cons (.app 1002 100 (.cons (.lit 0) .nil)) .nil)) (.cons (.app 1002 1 (.cons (.app 1002 100 (.cons (.lit 0) .nil)) .nil)) (.cons (.app 1002 2 (.cons (.app 1002 100 (.cons (.lit 0) .nil)) .nil)) .nil))))))) (.cons (.app 5 2 (.cons (.app 1002 0 (.cons (.lit 0) .nil)) (.cons (.app 1002 1 (.cons (.lit 0) .nil)) (.cons (.app 1002 2 (.cons (.lit 0) .nil)) (.cons (.app 1002 0 (.cons (.app 1002 100 (.cons (.lit 0) .nil)) .nil)) (.cons (.app 1002 1 (.cons (.app 1002 100 (.cons (.lit 0) .nil)) .nil)) (.cons (.app 1002 2 (.cons (.app 1002 100 (.cons (.lit 0) .nil)) .nil)) .nil))))))) .nil)))) (.bin .fadd .u64 (.app 112 1 (.cons (.app 1002 0 (.cons (.lit 0) .nil)) (.cons (.app 1002 1 (.cons (.lit 0) .nil)) (.cons (.app 1002 2 (.cons (.lit 0) .nil)) .nil)))) (.app 112 1 (.cons (.app 1002 0 (.cons (.app 1002 100 (.cons (.lit 0) .nil)) .nil)) (.cons (.app 1002 1 (.cons (.app 1002 100 (.cons (.lit 0) .nil)) .nil)) (.cons (.app 1002 2 (.cons (.app 1002 100 (.cons (.lit 0) .nil)) .nil)) .nil)))))) (.lit 0)))))) := by kernel_rfl
theorem t_FnDyadAdd_r20 : runFn (drawn XA1) t_FnDyadAdd_k4 200 4 [.cv (.one (.opq 0))] = .ok (.cv (.one (.bool (.lit true)))) := by kernel_rfl
def t_FnDyadAdd : Tree := (.node t_FnDyadAdd_c0 (.leaf (.cv (.one (.bool (.lit true))))) (.node t_FnDyadAdd_c1 (.node t_FnDyadAdd_c2 (.node t_FnDyadAdd_c3 (.node t_FnDyadAdd_c4 (.node t_FnDyadAdd_c5 (.node t_FnDyadAdd_c6 (.node t_FnDyadAdd_c7 (.node t_FnDyadAdd_c8 (.leaf (.cv (.one (.bool (.and (.cmp .eq (.bin .ford .u64 (.app 112 0 (.cons (.app 5 0 (.cons (.app 1002 0 (.cons (.lit 0) .nil)) (.cons (.app 1002 1 (.cons (.lit 0) .nil)) (.cons (.app 1002 2 (.cons (.lit 0) .nil)) (.cons (.app 1002 0 (.cons (.app 1002 100 (.cons (.lit 0) .nil)) .nil)) (.cons (.app 1002 1 (.cons (.app 1002 100 (.cons (.lit 0) .nil)) .nil)) (.cons (.app 1002 2 (.cons (.app 1002 100 (.cons (.lit 0) .nil)) .nil)) .nil))))))) (.cons (.app 5 1 (.cons (.app 1002 0 (.cons (.lit 0) .nil)) (.cons (.app 1002 1 (.cons (.lit 0) .nil)) (.cons (.app 1002 2 (.cons (.lit 0) .nil)) (.cons (.app 1002 0 (.cons (.app 1002 100 (.cons (.lit 0) .nil)) .nil)) (.cons (.app 1002 1 (.cons (.app 1002 100 (.cons (.lit 0) .nil)) .nil)) (.cons (.app 1002 2 (.cons (.app 1002 100 (.cons (.lit 0) .nil)) .nil)) .nil))))))) (.cons (.app 5 2 (.cons (.app 1002 0 (.cons (.lit 0) .nil)) (.cons (.app 1002 1 (.cons (.lit 0) .nil)) (.cons (.app 1002 2 (.cons (.lit 0) .nil)) (.cons (.app 1002 0 (.cons (.app 1002 100 (.cons (.lit 0) .nil)) .nil)) (.cons (.app 1002 1 (.cons (.app 1002 100 (.cons (.lit 0) .nil)) .nil)) (.cons (.app 1002 2 (.cons (.app 1002 100 (.cons (.lit 0) .nil)) .nil)) .nil))))))) .nil)))) (.bin .fadd .u64 (.app 112 0 (.cons (.app 1002 0 (.cons (.lit 0) .nil)) (.cons (.app 1002 1 (.cons (.lit 0) .nil)) (.cons (.app 1002 2 (.cons (.lit 0) .nil)) .nil)))) (.app 112 0 (.cons (.app 1002 0 (.cons (.app 1002 100 (.cons (.lit 0) .nil)) .nil)) (.cons (.app 1002 1 (.cons (.app 1002 100 (.cons (.lit 0) .nil)) .nil)) (.cons (.app 1002 2 (.cons (.app 1002 100 (.cons (.lit 0) .nil)) .nil)) .nil)))))) (.lit 0)) (.cmp .eq (.bin .ford .u64 (.app 112 1 (.cons (.app 5 0 (.cons (.app 1002 0 (.cons (.lit 0) .nil)) (.cons (.app 1002 1 (.cons (.lit 0) .nil)) (.cons (.app 1002 2 (.cons (.lit 0) .nil)) (.cons (.app 1002 0 (.cons (.app 1002 100 (.cons (.lit 0) .nil)) .nil)) (.cons (.app 1002 1 (.cons (.app 1002 100 (.cons (.lit 0) .nil)) .nil)) (.cons (.app 1002 2 (.cons (.app 1002 100 (.cons (.lit 0) .nil)) .nil)) .nil))))))) (.cons (.app 5 1 (.cons (.app 1002 0 (.cons (.lit 0) .nil)) (.cons (.app 1002 1 (.cons (.lit 0) .nil)) (.cons (.app 1002 2 (.cons (.lit 0) .nil)) (.cons (.app 1002 0 (.cons (.app 1002 100 (.cons (.lit 0) .nil)) .nil)) (.cons (.app 1002 1 (.cons (.app 1002 100 (.cons (.lit 0) .nil)) .nil)) (.cons (.app 1002 2 (.cons (.app 1002 100 (.cons (.lit 0) .nil)) .nil)) .nil))))))) (.cons (.app 5 2 (.cons (.app 1002 0 (.cons (.lit 0) .nil)) (.cons (.app 1002 1 (.cons (.lit 0) .nil)) (.cons (.app 1002 2 (.cons (.lit 0) .nil)) (.cons (.app 1002 0 (.cons (.app 1002 100 (.cons (.lit 0) .nil)) .nil)) (.cons (.app 1002 1 (.cons (.app 1002 100 (.cons (.lit 0) .nil)) .nil)) (.cons (.app 1002 2 (.cons (.app 1002 100 (.cons (.lit 0) .nil)) .nil)) .nil))))))) .nil)))) (.bin .fadd .u64 (.app 112 1 (.cons (.app 1002 0 (.cons (.lit 0) .nil)) (.cons (.app 1002 1 (.cons (.lit 0) .nil)) (.cons (.app 1002 2 (.cons (.lit 0) .nil)) .nil)))) (.app 112 1 (.cons (.app 1002 0 (.cons (.app 1002 100 (.cons (.lit 0) .nil)) .nil)) (.cons (.app 1002 1 (.cons (.app 1002 100 (.cons (.lit 0) .nil)) .nil)) (.cons (.app 1002 2 (.cons (.app 1002 100 (.cons (.lit 0) .nil)) .nil)) .nil)))))) (.lit 0))))))) (.dead 9)) (.dead 9)) (.dead 7)) (.dead 7)) (.dead 7)) (.dead 7)) (.dead 7)) (.leaf (.cv (.one (.bool (.lit true)))))))
theorem t_FnDyadAdd_runs : Runs (drawn XA1) 200 4 [.cv (.one (.opq 0))] t_FnDyadAdd [] := ⟨t_FnDyadAdd_r2, ⟨⟨⟨⟨⟨⟨⟨⟨t_FnDyadAdd_r19, trivial⟩, trivial⟩, trivial⟩, trivial⟩, trivial⟩, trivial⟩, trivial⟩, t_FnDyadAdd_r20⟩⟩
theorem fnDyadAdd_walk (v : Value) (w : World) (hv : BytesOk w w.heap.size v) : Calls Try.prog 4 #[v] w (Gives (.bool true) w) := by
  refine dlawR (X := XA1) rfl (fun pv w E h1 h2 => XA1_ok w E h1 h2) (fuel := 200) (L := 4) t_FnDyadAdd_runs (fun pv p len cap hpv => ?_) v w hv
  clear hv
  simp only [t_FnDyadAdd, t_FnDyadAdd_c0, t_FnDyadAdd_c1, t_FnDyadAdd_c2, t_FnDyadAdd_c3, t_FnDyadAdd_c4, t_FnDyadAdd_c5, t_FnDyadAdd_c6, t_FnDyadAdd_c7, t_FnDyadAdd_c8, Tree.den, SVal.den, CV.den, At.den, SE.den, SB.den, SL.den, IOp.den, COp.den, envD, List.map_cons, List.map_nil, List.getD_cons_zero, List.getD_cons_succ, ↓reduceIte, show ∀ q, FI pv 1001 0 [q] = bxA pv q from fun _ => rfl, show ∀ q, FI pv 1001 1 [q] = bxB pv q from fun _ => rfl, show ∀ q, FI pv 1001 2 [q] = bxC pv q from fun _ => rfl, show ∀ q, FI pv 1001 3 [q] = bxD pv q from fun _ => rfl, show ∀ q, FI pv 1001 100 [q] = bxP pv q from fun _ => rfl, show ∀ q, FI pv 1002 0 [q] = dyR pv q from fun _ => rfl, show ∀ q, FI pv 1002 1 [q] = dyI pv q from fun _ => rfl, show ∀ q, FI pv 1002 2 [q] = dyS pv q from fun _ => rfl, show ∀ q, FI pv 1002 100 [q] = q + 4 from fun _ => rfl, show ∀ q n, FI pv 1000 0 [q, n] = pv q n from fun _ _ => rfl, show ∀ q, FI pv 1000 100 [q] = q + 1 from fun _ => rfl]
  generalize dyR pv 0 = r
  generalize dyI pv 0 = i
  generalize dyS pv 0 = s
  generalize dyR pv (0 + 4) = x
  generalize dyI pv (0 + 4) = y
  generalize dyS pv (0 + 4) = t
  cases hA : ADD r i s x y t
  · have q1 : FB 5 0 [r, i, s, x, y, t] = false := hA
    rw [q1]; simp
  · obtain ⟨hd, he, hf⟩ := add_parts hA
    have q1 : FB 5 0 [r, i, s, x, y, t] = true := hA
    have q2 : FB 5 0 [x, y, t, r, i, s] = true := by show ADD x y t r i s = true; rw [ADD_comm]; exact hA
    have q3 : FB 3 0 [r, i, s] = true := hd
    have q4 : FB 3 0 [x, y, t] = true := he
    have a0 : FI pv 5 0 [r, i, s, x, y, t] = lR (AP r s x t) (AP i s y t) (max s t) := if_pos hA
    have a1 : FI pv 5 1 [r, i, s, x, y, t] = lI (AP r s x t) (AP i s y t) (max s t) := if_pos hA
    have a2 : FI pv 5 2 [r, i, s, x, y, t] = lS (AP r s x t) (AP i s y t) (max s t) := if_pos hA
    have b0 : FI pv 5 0 [x, y, t, r, i, s] = lR (AP r s x t) (AP i s y t) (max s t) := by rw [AP_comm r, AP_comm i, Int.max_comm s]; exact if_pos q2
    have b1 : FI pv 5 1 [x, y, t, r, i, s] = lI (AP r s x t) (AP i s y t) (max s t) := by rw [AP_comm r, AP_comm i, Int.max_comm s]; exact if_pos q2
    have b2 : FI pv 5 2 [x, y, t, r, i, s] = lS (AP r s x t) (AP i s y t) (max s t) := by rw [AP_comm r, AP_comm i, Int.max_comm s]; exact if_pos q2
    rw [a0, a1, a2, b0, b1, b2]
    obtain ⟨c1, c2, c3, c4⟩ := dv_rngF hd
    obtain ⟨d1, d2, d3, d4⟩ := dv_rngF he
    obtain ⟨m, e1, e2, e3, -⟩ := l_spec (AP r s x t) (AP i s y t) (max s t) (by omega)
    obtain ⟨f1, f2, f3, f4⟩ := dv_rngF hf
    generalize lR (AP r s x t) (AP i s y t) (max s t) = R at *
    generalize lI (AP r s x t) (AP i s y t) (max s t) = I at *
    generalize lS (AP r s x t) (AP i s y t) (max s t) = S at *
    have q5 : FB 3 0 [R, I, S] = true := hf
    rw [q1, q2, q3, q4, q5, f112a hd, f112b hd, f112a he, f112b he, f112a hf, f112b hf, show (fkOf IntKind.u64).format = Ieee.double from rfl]
    obtain ⟨g1, g2⟩ := dwi_add (r := r) (s := s) (x := x) (t := t) (R := R) (S := S) (m := m) (by omega) (by omega) (by omega) ⟨c3, c4⟩ ⟨d3, d4⟩ f3 e1 e2
    obtain ⟨k1, k2⟩ := dwi_add (r := i) (s := s) (x := y) (t := t) (R := I) (S := S) (m := m) (by omega) (by omega) (by omega) ⟨c3, c4⟩ ⟨d3, d4⟩ f3 e1 e3
    rw [g2, k2, decide_eq_true g1, decide_eq_true k1, beq_self_eq_true, beq_self_eq_true, beq_self_eq_true]
    simp
set_option maxRecDepth 100000 in
theorem fnDyadAdd_lifted (os : Os) (started : os.Started) (H : Type) (enc : TypeId × Value → H) :
    ReturnsInHanded {} Try.checked os 4 .any (Rows.fnDyadAddSpec.pre6 enc Try.prog Try.f4 Rows.fnDyadAddRow.domain false) (Rows.fnDyadAddSpec.post enc Try.prog Try.f4 false true false false) := by
  refine returnsInHanded_of_change (C := Try.checked) Try.own started (by kernel_rfl) Try.func4
    (ChangeSpec.witness6 (enc := enc) (C := Try.checked) false ⟨#[], #[.slice none 0 0], []⟩ 8 (by kernel_rfl) (by kernel_rfl) (by kernel_rfl) (by kernel_rfl)) ?_
  intro W base args ds gs before hval0 hW hcnd _
  have hval : ∀ (j : Nat) t v, Try.f4.params[j]? = some t → args[j]? = some v → Value.okWide Try.prog W .any base t v := hval0
  have hW' := hW
  obtain ⟨p, q, hA0, hV, rfl, hfz, hnd⟩ := hW
  have hA : DataW.TrodAll enc Try.prog W 0 (fun _ => true) true Try.f4.params.toList args.toList ds p := hA0
  rw [Try.params4] at hA hval
  obtain ⟨v0, vs0, d0, ds0, p0, q0, hargs, rfl, rfl, h0, r0⟩ := trodAll_cons hA
  obtain ⟨rfl, rfl, rfl⟩ := trodAll_nil r0
  obtain rfl : args = #[v0] := by cases args; simp_all
  obtain ⟨rfl, rfl⟩ := trodVars_none hV
  have k0 := h0
  have lt0 : ∀ x ∈ p0, x.block < W.heap.size := by obtain ⟨m, hm⟩ := k0; exact DataW.trod_lt m _ _ _ hm
  obtain ⟨a0, len0, cap0, rfl⟩ := okWide_slice Try.underlying31 (hval 0 31 v0 rfl rfl)
  have hb0 : BytesOk W W.heap.size (.slice a0 len0 cap0) := by
    obtain ⟨fuel, hf⟩ := h0
    exact bytes_of_ints (open_ints Try.underlying31 Try.underlying5 (by kernel_rfl) hf)
  clear hA0 hval0
  refine (fnDyadAdd_walk (.slice a0 len0 cap0) W hb0).mono fun e W' ⟨he, bel⟩ => ?_
  subst he
  exact ⟨_, rfl, _, _, _, [], _, [], hW', trodAll_mk1 (shut_bool Try.underlying4 _), (trodAll_cons_mk (Below.trod Try.laidOut (by kernel_rfl) (of_decide_eq_true (by kernel_rfl)) k0 bel lt0) trodAll_mk0), rfl, bel.frame _, fun h => by cases h⟩

theorem fnDyadAdd_holds : Rows.FnDyadAddSaid :=
  OpenClaim.holds_of_wide 4 Try.f4 rfl rfl rfl rfl rfl rfl rfl ⟨rfl, rfl, rfl, rfl, rfl⟩ rfl rfl rfl rfl rfl (by kernel_rfl) Try.func4 (by kernel_rfl)
    (of_decide_eq_true (by kernel_rfl)) (by unfold Func.isWrapper; first | (rw [if_pos (by decide +kernel)]; kernel_rfl) | (rw [if_neg (by decide +kernel)]; exact ⟨rfl, rfl⟩))
    (fun os started H enc _ => fnDyadAdd_lifted os started H enc)
end Go.Proofs.Ytgnkjfafgcbpbaa
