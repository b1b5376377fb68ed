/- The law FnDyadNorm: norms are compared exactly: its walk, its row and its card. -/
import Derived.Test.YtgnkjfafgcbpbaaDoorFd3
import Derived.Test.YtgnkjfafgcbpbaaDoorRowT
import Derived.Test.YtgnkjfafgcbpbaaDoorRowB
namespace Go.Proofs.YtgnkjfafgcbpbaaDoor
set_option linter.unusedSimpArgs false
set_option linter.unusedVariables false
variable {pv : Int → Int → Int}
open Go.ChangeShapes Go.WideShapes Go.ChangeAt Go.RowKit Go.Joins Eng
def t_FnDyadNorm_c0 : SB := (.cmp .lt (.lit 1048576) (.var 0))
def t_FnDyadNorm_k0 : Kn := (t_FnDyadNorm_c0, true) :: []
def t_FnDyadNorm_k1 : Kn := (t_FnDyadNorm_c0, false) :: []
theorem t_FnDyadNorm_r2 : runFn (drawn XD1) t_FnDyadNorm_k0 200 6 [.cv (.one (.opq 0))] = .ok (.cv (.one (.bool (.lit true)))) := by kernel_rfl
def t_FnDyadNorm_c1 : SB := (.cmp .eq (.app 1000 0 (.cons (.lit 0) (.cons (.lit 4) .nil))) (.lit 0))
def t_FnDyadNorm_k3 : Kn := (t_FnDyadNorm_c1, true) :: t_FnDyadNorm_k1
def t_FnDyadNorm_k4 : Kn := (t_FnDyadNorm_c1, false) :: t_FnDyadNorm_k1
def t_FnDyadNorm_c2 : SB := (.cmp .eq (.app 1000 0 (.cons (.app 1000 100 (.cons (.lit 0) .nil)) (.cons (.lit 4) .nil))) (.lit 0))
def t_FnDyadNorm_k5 : Kn := (t_FnDyadNorm_c2, true) :: t_FnDyadNorm_k3
def t_FnDyadNorm_k6 : Kn := (t_FnDyadNorm_c2, false) :: t_FnDyadNorm_k3
def t_FnDyadNorm_c3 : SB := (.app 3 0 (.cons (.lit 2) (.cons (.lit 0) (.cons (.lit 0) .nil))))
def t_FnDyadNorm_k7 : Kn := (t_FnDyadNorm_c3, true) :: t_FnDyadNorm_k5
def t_FnDyadNorm_k8 : Kn := (t_FnDyadNorm_c3, false) :: t_FnDyadNorm_k5
def t_FnDyadNorm_c4 : SB := (.cmp .le (.lit 0) (.bin .fmul .u64 (.app 112 0 (.cons (.lit 2) (.cons (.lit 0) (.cons (.lit 0) .nil)))) (.app 112 0 (.cons (.lit 2) (.cons (.lit 0) (.cons (.lit 0) .nil))))))
def t_FnDyadNorm_k9 : Kn := (t_FnDyadNorm_c4, true) :: t_FnDyadNorm_k7
def t_FnDyadNorm_k10 : Kn := (t_FnDyadNorm_c4, false) :: t_FnDyadNorm_k7
def t_FnDyadNorm_c5 : SB := (.cmp .le (.lit 0) (.bin .fmul .u64 (.app 112 1 (.cons (.lit 2) (.cons (.lit 0) (.cons (.lit 0) .nil)))) (.app 112 1 (.cons (.lit 2) (.cons (.lit 0) (.cons (.lit 0) .nil))))))
def t_FnDyadNorm_k11 : Kn := (t_FnDyadNorm_c5, true) :: t_FnDyadNorm_k9
def t_FnDyadNorm_k12 : Kn := (t_FnDyadNorm_c5, false) :: t_FnDyadNorm_k9
def t_FnDyadNorm_c6 : SB := (.cmp .le (.lit 0) (.bin .fadd .u64 (.bin .fmul .u64 (.app 112 0 (.cons (.lit 2) (.cons (.lit 0) (.cons (.lit 0) .nil)))) (.app 112 0 (.cons (.lit 2) (.cons (.lit 0) (.cons (.lit 0) .nil))))) (.bin .fmul .u64 (.app 112 1 (.cons (.lit 2) (.cons (.lit 0) (.cons (.lit 0) .nil)))) (.app 112 1 (.cons (.lit 2) (.cons (.lit 0) (.cons (.lit 0) .nil)))))))
def t_FnDyadNorm_k13 : Kn := (t_FnDyadNorm_c6, true) :: t_FnDyadNorm_k11
def t_FnDyadNorm_k14 : Kn := (t_FnDyadNorm_c6, false) :: t_FnDyadNorm_k11
def t_FnDyadNorm_c7 : SB := (.cmp .eq (.bin .ford .u64 (.bin .fadd .u64 (.bin .fmul .u64 (.app 112 0 (.cons (.lit 2) (.cons (.lit 0) (.cons (.lit 0) .nil)))) (.app 112 0 (.cons (.lit 2) (.cons (.lit 0) (.cons (.lit 0) .nil))))) (.bin .fmul .u64 (.app 112 1 (.cons (.lit 2) (.cons (.lit 0) (.cons (.lit 0) .nil)))) (.app 112 1 (.cons (.lit 2) (.cons (.lit 0) (.cons (.lit 0) .nil)))))) (.lit 4616189618054758400)) (.lit (-1)))
def t_FnDyadNorm_k15 : Kn := (t_FnDyadNorm_c7, true) :: t_FnDyadNorm_k13
def t_FnDyadNorm_k16 : Kn := (t_FnDyadNorm_c7, false) :: t_FnDyadNorm_k13
def t_FnDyadNorm_c8 : SB := (.cmp .eq (.bin .ford .u64 (.bin .fadd .u64 (.bin .fmul .u64 (.app 112 0 (.cons (.lit 2) (.cons (.lit 0) (.cons (.lit 0) .nil)))) (.app 112 0 (.cons (.lit 2) (.cons (.lit 0) (.cons (.lit 0) .nil))))) (.bin .fmul .u64 (.app 112 1 (.cons (.lit 2) (.cons (.lit 0) (.cons (.lit 0) .nil)))) (.app 112 1 (.cons (.lit 2) (.cons (.lit 0) (.cons (.lit 0) .nil)))))) (.lit 4616189618054758400)) (.lit 1))
def t_FnDyadNorm_k17 : Kn := (t_FnDyadNorm_c8, true) :: t_FnDyadNorm_k15
def t_FnDyadNorm_k18 : Kn := (t_FnDyadNorm_c8, false) :: t_FnDyadNorm_k15
def t_FnDyadNorm_c9 : SB := (.cmp .lt (.lit 26) (.app 93 0 (.cons (.lit 2) (.cons (.lit 0) (.cons (.lit 0) .nil)))))
def t_FnDyadNorm_k19 : Kn := (t_FnDyadNorm_c9, true) :: t_FnDyadNorm_k17
def t_FnDyadNorm_k20 : Kn := (t_FnDyadNorm_c9, false) :: t_FnDyadNorm_k17
theorem t_FnDyadNorm_r21 : runFn (drawn XD1) t_FnDyadNorm_k19 200 6 [.cv (.one (.opq 0))] = .ok (.cv (.one (.bool (.lit true)))) := by kernel_rfl
theorem t_FnDyadNorm_r22 : runFn (drawn XD1) t_FnDyadNorm_k20 200 6 [.cv (.one (.opq 0))] = .ok (.cv (.one (.bool (.cmp .eq (.app 12 0 (.cons (.lit 2) (.cons (.lit 0) (.cons (.lit 0) .nil)))) (.lit 1))))) := by kernel_rfl
def t_FnDyadNorm_k23 : Kn := (t_FnDyadNorm_c9, true) :: t_FnDyadNorm_k18
def t_FnDyadNorm_k24 : Kn := (t_FnDyadNorm_c9, false) :: t_FnDyadNorm_k18
theorem t_FnDyadNorm_r25 : runFn (drawn XD1) t_FnDyadNorm_k23 200 6 [.cv (.one (.opq 0))] = .ok (.cv (.one (.bool (.lit true)))) := by kernel_rfl
theorem t_FnDyadNorm_r26 : runFn (drawn XD1) t_FnDyadNorm_k24 200 6 [.cv (.one (.opq 0))] = .ok (.cv (.one (.bool (.cmp .eq (.app 12 0 (.cons (.lit 2) (.cons (.lit 0) (.cons (.lit 0) .nil)))) (.lit (-1)))))) := by kernel_rfl
def t_FnDyadNorm_k27 : Kn := (t_FnDyadNorm_c8, true) :: t_FnDyadNorm_k16
def t_FnDyadNorm_k28 : Kn := (t_FnDyadNorm_c8, false) :: t_FnDyadNorm_k16
def t_FnDyadNorm_k29 : Kn := (t_FnDyadNorm_c9, true) :: t_FnDyadNorm_k27
def t_FnDyadNorm_k30 : Kn := (t_FnDyadNorm_c9, false) :: t_FnDyadNorm_k27
theorem t_FnDyadNorm_r31 : runFn (drawn XD1) t_FnDyadNorm_k29 200 6 [.cv (.one (.opq 0))] = .ok (.cv (.one (.bool (.lit true)))) := by kernel_rfl
theorem t_FnDyadNorm_r32 : runFn (drawn XD1) t_FnDyadNorm_k30 200 6 [.cv (.one (.opq 0))] = .ok (.cv (.one (.bool (.cmp .eq (.app 12 0 (.cons (.lit 2) (.cons (.lit 0) (.cons (.lit 0) .nil)))) (.lit 1))))) := by kernel_rfl
def t_FnDyadNorm_k33 : Kn := (t_FnDyadNorm_c9, true) :: t_FnDyadNorm_k28
def t_FnDyadNorm_k34 : Kn := (t_FnDyadNorm_c9, false) :: t_FnDyadNorm_k28
theorem t_FnDyadNorm_r35 : runFn (drawn XD1) t_FnDyadNorm_k33 200 6 [.cv (.one (.opq 0))] = .ok (.cv (.one (.bool (.lit true)))) := by kernel_rfl
theorem t_FnDyadNorm_r36 : runFn (drawn XD1) t_FnDyadNorm_k34 200 6 [.cv (.one (.opq 0))] = .ok (.cv (.one (.bool (.cmp .eq (.app 12 0 (.cons (.lit 2) (.cons (.lit 0) (.cons (.lit 0) .nil)))) (.lit 0))))) := by kernel_rfl
theorem t_FnDyadNorm_r37 : runFn (drawn XD1) t_FnDyadNorm_k8 200 6 [.cv (.one (.opq 0))] = .ok (.cv (.one (.bool (.lit true)))) := by kernel_rfl
def t_FnDyadNorm_c10 : SB := (.cmp .eq (.app 1000 0 (.cons (.app 1000 100 (.cons (.lit 0) .nil)) (.cons (.lit 4) .nil))) (.lit 1))
def t_FnDyadNorm_k38 : Kn := (t_FnDyadNorm_c10, true) :: t_FnDyadNorm_k6
def t_FnDyadNorm_k39 : Kn := (t_FnDyadNorm_c10, false) :: t_FnDyadNorm_k6
def t_FnDyadNorm_c11 : SB := (.app 3 0 (.cons (.lit 0) (.cons (.lit (-2)) (.cons (.lit 0) .nil))))
def t_FnDyadNorm_k40 : Kn := (t_FnDyadNorm_c11, true) :: t_FnDyadNorm_k38
def t_FnDyadNorm_k41 : Kn := (t_FnDyadNorm_c11, false) :: t_FnDyadNorm_k38
def t_FnDyadNorm_c12 : SB := (.cmp .le (.lit 0) (.bin .fmul .u64 (.app 112 0 (.cons (.lit 0) (.cons (.lit (-2)) (.cons (.lit 0) .nil)))) (.app 112 0 (.cons (.lit 0) (.cons (.lit (-2)) (.cons (.lit 0) .nil))))))
def t_FnDyadNorm_k42 : Kn := (t_FnDyadNorm_c12, true) :: t_FnDyadNorm_k40
def t_FnDyadNorm_k43 : Kn := (t_FnDyadNorm_c12, false) :: t_FnDyadNorm_k40
def t_FnDyadNorm_c13 : SB := (.cmp .le (.lit 0) (.bin .fmul .u64 (.app 112 1 (.cons (.lit 0) (.cons (.lit (-2)) (.cons (.lit 0) .nil)))) (.app 112 1 (.cons (.lit 0) (.cons (.lit (-2)) (.cons (.lit 0) .nil))))))
def t_FnDyadNorm_k44 : Kn := (t_FnDyadNorm_c13, true) :: t_FnDyadNorm_k42
def t_FnDyadNorm_k45 : Kn := (t_FnDyadNorm_c13, false) :: t_FnDyadNorm_k42
def t_FnDyadNorm_c14 : SB := (.cmp .le (.lit 0) (.bin .fadd .u64 (.bin .fmul .u64 (.app 112 0 (.cons (.lit 0) (.cons (.lit (-2)) (.cons (.lit 0) .nil)))) (.app 112 0 (.cons (.lit 0) (.cons (.lit (-2)) (.cons (.lit 0) .nil))))) (.bin .fmul .u64 (.app 112 1 (.cons (.lit 0) (.cons (.lit (-2)) (.cons (.lit 0) .nil)))) (.app 112 1 (.cons (.lit 0) (.cons (.lit (-2)) (.cons (.lit 0) .nil)))))))
def t_FnDyadNorm_k46 : Kn := (t_FnDyadNorm_c14, true) :: t_FnDyadNorm_k44
def t_FnDyadNorm_k47 : Kn := (t_FnDyadNorm_c14, false) :: t_FnDyadNorm_k44
def t_FnDyadNorm_c15 : SB := (.cmp .eq (.bin .ford .u64 (.bin .fadd .u64 (.bin .fmul .u64 (.app 112 0 (.cons (.lit 0) (.cons (.lit (-2)) (.cons (.lit 0) .nil)))) (.app 112 0 (.cons (.lit 0) (.cons (.lit (-2)) (.cons (.lit 0) .nil))))) (.bin .fmul .u64 (.app 112 1 (.cons (.lit 0) (.cons (.lit (-2)) (.cons (.lit 0) .nil)))) (.app 112 1 (.cons (.lit 0) (.cons (.lit (-2)) (.cons (.lit 0) .nil)))))) (.lit 4616189618054758400)) (.lit (-1)))
def t_FnDyadNorm_k48 : Kn := (t_FnDyadNorm_c15, true) :: t_FnDyadNorm_k46
def t_FnDyadNorm_k49 : Kn := (t_FnDyadNorm_c15, false) :: t_FnDyadNorm_k46
def t_FnDyadNorm_c16 : SB := (.cmp .eq (.bin .ford .u64 (.bin .fadd .u64 (.bin .fmul .u64 (.app 112 0 (.cons (.lit 0) (.cons (.lit (-2)) (.cons (.lit 0) .nil)))) (.app 112 0 (.cons (.lit 0) (.cons (.lit (-2)) (.cons (.lit 0) .nil))))) (.bin .fmul .u64 (.app 112 1 (.cons (.lit 0) (.cons (.lit (-2)) (.cons (.lit 0) .nil)))) (.app 112 1 (.cons (.lit 0) (.cons (.lit (-2)) (.cons (.lit 0) .nil)))))) (.lit 4616189618054758400)) (.lit 1))
def t_FnDyadNorm_k50 : Kn := (t_FnDyadNorm_c16, true) :: t_FnDyadNorm_k48
def t_FnDyadNorm_k51 : Kn := (t_FnDyadNorm_c16, false) :: t_FnDyadNorm_k48
def t_FnDyadNorm_c17 : SB := (.cmp .lt (.lit 26) (.app 93 0 (.cons (.lit 0) (.cons (.lit (-2)) (.cons (.lit 0) .nil)))))
def t_FnDyadNorm_k52 : Kn := (t_FnDyadNorm_c17, true) :: t_FnDyadNorm_k50
def t_FnDyadNorm_k53 : Kn := (t_FnDyadNorm_c17, false) :: t_FnDyadNorm_k50
theorem t_FnDyadNorm_r54 : runFn (drawn XD1) t_FnDyadNorm_k52 200 6 [.cv (.one (.opq 0))] = .ok (.cv (.one (.bool (.lit true)))) := by kernel_rfl
theorem t_FnDyadNorm_r55 : runFn (drawn XD1) t_FnDyadNorm_k53 200 6 [.cv (.one (.opq 0))] = .ok (.cv (.one (.bool (.cmp .eq (.app 12 0 (.cons (.lit 0) (.cons (.lit (-2)) (.cons (.lit 0) .nil)))) (.lit 1))))) := by kernel_rfl
def t_FnDyadNorm_k56 : Kn := (t_FnDyadNorm_c17, true) :: t_FnDyadNorm_k51
def t_FnDyadNorm_k57 : Kn := (t_FnDyadNorm_c17, false) :: t_FnDyadNorm_k51
theorem t_FnDyadNorm_r58 : runFn (drawn XD1) t_FnDyadNorm_k56 200 6 [.cv (.one (.opq 0))] = .ok (.cv (.one (.bool (.lit true)))) := by kernel_rfl
theorem t_FnDyadNorm_r59 : runFn (drawn XD1) t_FnDyadNorm_k57 200 6 [.cv (.one (.opq 0))] = .ok (.cv (.one (.bool (.cmp .eq (.app 12 0 (.cons (.lit 0) (.cons (.lit (-2)) (.cons (.lit 0) .nil)))) (.lit (-1)))))) := by kernel_rfl
def t_FnDyadNorm_k60 : Kn := (t_FnDyadNorm_c16, true) :: t_FnDyadNorm_k49
def t_FnDyadNorm_k61 : Kn := (t_FnDyadNorm_c16, false) :: t_FnDyadNorm_k49
def t_FnDyadNorm_k62 : Kn := (t_FnDyadNorm_c17, true) :: t_FnDyadNorm_k60
def t_FnDyadNorm_k63 : Kn := (t_FnDyadNorm_c17, false) :: t_FnDyadNorm_k60
theorem t_FnDyadNorm_r64 : runFn (drawn XD1) t_FnDyadNorm_k62 200 6 [.cv (.one (.opq 0))] = .ok (.cv (.one (.bool (.lit true)))) := by kernel_rfl
theorem t_FnDyadNorm_r65 : runFn (drawn XD1) t_FnDyadNorm_k63 200 6 [.cv (.one (.opq 0))] = .ok (.cv (.one (.bool (.cmp .eq (.app 12 0 (.cons (.lit 0) (.cons (.lit (-2)) (.cons (.lit 0) .nil)))) (.lit 1))))) := by kernel_rfl
def t_FnDyadNorm_k66 : Kn := (t_FnDyadNorm_c17, true) :: t_FnDyadNorm_k61
def t_FnDyadNorm_k67 : Kn := (t_FnDyadNorm_c17, false) :: t_FnDyadNorm_k61
theorem t_FnDyadNorm_r68 : runFn (drawn XD1) t_FnDyadNorm_k66 200 6 [.cv (.one (.opq 0))] = .ok (.cv (.one (.bool (.lit true)))) := by kernel_rfl
theorem t_FnDyadNorm_r69 : runFn (drawn XD1) t_FnDyadNorm_k67 200 6 [.cv (.one (.opq 0))] = .ok (.cv (.one (.bool (.cmp .eq (.app 12 0 (.cons (.lit 0) (.cons (.lit (-2)) (.cons (.lit 0) .nil)))) (.lit 0))))) := by kernel_rfl
theorem t_FnDyadNorm_r70 : runFn (drawn XD1) t_FnDyadNorm_k41 200 6 [.cv (.one (.opq 0))] = .ok (.cv (.one (.bool (.lit true)))) := by kernel_rfl
def t_FnDyadNorm_c18 : SB := (.cmp .eq (.app 1000 0 (.cons (.app 1000 100 (.cons (.lit 0) .nil)) (.cons (.lit 4) .nil))) (.lit 2))
def t_FnDyadNorm_k71 : Kn := (t_FnDyadNorm_c18, true) :: t_FnDyadNorm_k39
def t_FnDyadNorm_k72 : Kn := (t_FnDyadNorm_c18, false) :: t_FnDyadNorm_k39
def t_FnDyadNorm_c19 : SB := (.app 3 0 (.cons (.lit 6) (.cons (.lit 8) (.cons (.lit 2) .nil))))
def t_FnDyadNorm_k73 : Kn := (t_FnDyadNorm_c19, true) :: t_FnDyadNorm_k71
def t_FnDyadNorm_k74 : Kn := (t_FnDyadNorm_c19, false) :: t_FnDyadNorm_k71
def t_FnDyadNorm_c20 : SB := (.cmp .le (.lit 0) (.bin .fmul .u64 (.app 112 0 (.cons (.lit 6) (.cons (.lit 8) (.cons (.lit 2) .nil)))) (.app 112 0 (.cons (.lit 6) (.cons (.lit 8) (.cons (.lit 2) .nil))))))
def t_FnDyadNorm_k75 : Kn := (t_FnDyadNorm_c20, true) :: t_FnDyadNorm_k73
def t_FnDyadNorm_k76 : Kn := (t_FnDyadNorm_c20, false) :: t_FnDyadNorm_k73
def t_FnDyadNorm_c21 : SB := (.cmp .le (.lit 0) (.bin .fmul .u64 (.app 112 1 (.cons (.lit 6) (.cons (.lit 8) (.cons (.lit 2) .nil)))) (.app 112 1 (.cons (.lit 6) (.cons (.lit 8) (.cons (.lit 2) .nil))))))
def t_FnDyadNorm_k77 : Kn := (t_FnDyadNorm_c21, true) :: t_FnDyadNorm_k75
def t_FnDyadNorm_k78 : Kn := (t_FnDyadNorm_c21, false) :: t_FnDyadNorm_k75
def t_FnDyadNorm_c22 : SB := (.cmp .le (.lit 0) (.bin .fadd .u64 (.bin .fmul .u64 (.app 112 0 (.cons (.lit 6) (.cons (.lit 8) (.cons (.lit 2) .nil)))) (.app 112 0 (.cons (.lit 6) (.cons (.lit 8) (.cons (.lit 2) .nil))))) (.bin .fmul .u64 (.app 112 1 (.cons (.lit 6) (.cons (.lit 8) (.cons (.lit 2) .nil)))) (.app 112 1 (.cons (.lit 6) (.cons (.lit 8) (.cons (.lit 2) .nil)))))))
def t_FnDyadNorm_k79 : Kn := (t_FnDyadNorm_c22, true) :: t_FnDyadNorm_k77
def t_FnDyadNorm_k80 : Kn := (t_FnDyadNorm_c22, false) :: t_FnDyadNorm_k77
def t_FnDyadNorm_c23 : SB := (.cmp .eq (.bin .ford .u64 (.bin .fadd .u64 (.bin .fmul .u64 (.app 112 0 (.cons (.lit 6) (.cons (.lit 8) (.cons (.lit 2) .nil)))) (.app 112 0 (.cons (.lit 6) (.cons (.lit 8) (.cons (.lit 2) .nil))))) (.bin .fmul .u64 (.app 112 1 (.cons (.lit 6) (.cons (.lit 8) (.cons (.lit 2) .nil)))) (.app 112 1 (.cons (.lit 6) (.cons (.lit 8) (.cons (.lit 2) .nil)))))) (.lit 4616189618054758400)) (.lit (-1)))
def t_FnDyadNorm_k81 : Kn := (t_FnDyadNorm_c23, true) :: t_FnDyadNorm_k79
def t_FnDyadNorm_k82 : Kn := (t_FnDyadNorm_c23, false) :: t_FnDyadNorm_k79
def t_FnDyadNorm_c24 : SB := (.cmp .eq (.bin .ford .u64 (.bin .fadd .u64 (.bin .fmul .u64 (.app 112 0 (.cons (.lit 6) (.cons (.lit 8) (.cons (.lit 2) .nil)))) (.app 112 0 (.cons (.lit 6) (.cons (.lit 8) (.cons (.lit 2) .nil))))) (.bin .fmul .u64 (.app 112 1 (.cons (.lit 6) (.cons (.lit 8) (.cons (.lit 2) .nil)))) (.app 112 1 (.cons (.lit 6) (.cons (.lit 8) (.cons (.lit 2) .nil)))))) (.lit 4616189618054758400)) (.lit 1))
def t_FnDyadNorm_k83 : Kn := (t_FnDyadNorm_c24, true) :: t_FnDyadNorm_k81
def t_FnDyadNorm_k84 : Kn := (t_FnDyadNorm_c24, false) :: t_FnDyadNorm_k81
def t_FnDyadNorm_c25 : SB := (.cmp .lt (.lit 26) (.app 93 0 (.cons (.lit 6) (.cons (.lit 8) (.cons (.lit 2) .nil)))))
def t_FnDyadNorm_k85 : Kn := (t_FnDyadNorm_c25, true) :: t_FnDyadNorm_k83
def t_FnDyadNorm_k86 : Kn := (t_FnDyadNorm_c25, false) :: t_FnDyadNorm_k83
theorem t_FnDyadNorm_r87 : runFn (drawn XD1) t_FnDyadNorm_k85 200 6 [.cv (.one (.opq 0))] = .ok (.cv (.one (.bool (.lit true)))) := by kernel_rfl
theorem t_FnDyadNorm_r88 : runFn (drawn XD1) t_FnDyadNorm_k86 200 6 [.cv (.one (.opq 0))] = .ok (.cv (.one (.bool (.cmp .eq (.app 12 0 (.cons (.lit 6) (.cons (.lit 8) (.cons (.lit 2) .nil)))) (.lit 1))))) := by kernel_rfl
def t_FnDyadNorm_k89 : Kn := (t_FnDyadNorm_c25, true) :: t_FnDyadNorm_k84
def t_FnDyadNorm_k90 : Kn := (t_FnDyadNorm_c25, false) :: t_FnDyadNorm_k84
theorem t_FnDyadNorm_r91 : runFn (drawn XD1) t_FnDyadNorm_k89 200 6 [.cv (.one (.opq 0))] = .ok (.cv (.one (.bool (.lit true)))) := by kernel_rfl
theorem t_FnDyadNorm_r92 : runFn (drawn XD1) t_FnDyadNorm_k90 200 6 [.cv (.one (.opq 0))] = .ok (.cv (.one (.bool (.cmp .eq (.app 12 0 (.cons (.lit 6) (.cons (.lit 8) (.cons (.lit 2) .nil)))) (.lit (-1)))))) := by kernel_rfl
def t_FnDyadNorm_k93 : Kn := (t_FnDyadNorm_c24, true) :: t_FnDyadNorm_k82
def t_FnDyadNorm_k94 : Kn := (t_FnDyadNorm_c24, false) :: t_FnDyadNorm_k82
def t_FnDyadNorm_k95 : Kn := (t_FnDyadNorm_c25, true) :: t_FnDyadNorm_k93
def t_FnDyadNorm_k96 : Kn := (t_FnDyadNorm_c25, false) :: t_FnDyadNorm_k93
theorem t_FnDyadNorm_r97 : runFn (drawn XD1) t_FnDyadNorm_k95 200 6 [.cv (.one (.opq 0))] = .ok (.cv (.one (.bool (.lit true)))) := by kernel_rfl
theorem t_FnDyadNorm_r98 : runFn (drawn XD1) t_FnDyadNorm_k96 200 6 [.cv (.one (.opq 0))] = .ok (.cv (.one (.bool (.cmp .eq (.app 12 0 (.cons (.lit 6) (.cons (.lit 8) (.cons (.lit 2) .nil)))) (.lit 1))))) := by kernel_rfl
def t_FnDyadNorm_k99 : Kn := (t_FnDyadNorm_c25, true) :: t_FnDyadNorm_k94
def t_FnDyadNorm_k100 : Kn := (t_FnDyadNorm_c25, false) :: t_FnDyadNorm_k94
theorem t_FnDyadNorm_r101 : runFn (drawn XD1) t_FnDyadNorm_k99 200 6 [.cv (.one (.opq 0))] = .ok (.cv (.one (.bool (.lit true)))) := by kernel_rfl
theorem t_FnDyadNorm_r102 : runFn (drawn XD1) t_FnDyadNorm_k100 200 6 [.cv (.one (.opq 0))] = .ok (.cv (.one (.bool (.cmp .eq (.app 12 0 (.cons (.lit 6) (.cons (.lit 8) (.cons (.lit 2) .nil)))) (.lit 0))))) := by kernel_rfl
theorem t_FnDyadNorm_r103 : runFn (drawn XD1) t_FnDyadNorm_k74 200 6 [.cv (.one (.opq 0))] = .ok (.cv (.one (.bool (.lit true)))) := by kernel_rfl
def t_FnDyadNorm_c26 : SB := (.cmp .eq (.app 1000 0 (.cons (.app 1000 100 (.cons (.lit 0) .nil)) (.cons (.lit 4) .nil))) (.lit 3))
def t_FnDyadNorm_k104 : Kn := (t_FnDyadNorm_c26, true) :: t_FnDyadNorm_k72
def t_FnDyadNorm_k105 : Kn := (t_FnDyadNorm_c26, false) :: t_FnDyadNorm_k72
def t_FnDyadNorm_c27 : SB := (.app 3 0 (.cons (.lit 3) (.cons (.lit 5) (.cons (.lit 1) .nil))))
def t_FnDyadNorm_k106 : Kn := (t_FnDyadNorm_c27, true) :: t_FnDyadNorm_k104
def t_FnDyadNorm_k107 : Kn := (t_FnDyadNorm_c27, false) :: t_FnDyadNorm_k104
def t_FnDyadNorm_c28 : SB := (.cmp .le (.lit 0) (.bin .fmul .u64 (.app 112 0 (.cons (.lit 3) (.cons (.lit 5) (.cons (.lit 1) .nil)))) (.app 112 0 (.cons (.lit 3) (.cons (.lit 5) (.cons (.lit 1) .nil))))))
def t_FnDyadNorm_k108 : Kn := (t_FnDyadNorm_c28, true) :: t_FnDyadNorm_k106
def t_FnDyadNorm_k109 : Kn := (t_FnDyadNorm_c28, false) :: t_FnDyadNorm_k106
def t_FnDyadNorm_c29 : SB := (.cmp .le (.lit 0) (.bin .fmul .u64 (.app 112 1 (.cons (.lit 3) (.cons (.lit 5) (.cons (.lit 1) .nil)))) (.app 112 1 (.cons (.lit 3) (.cons (.lit 5) (.cons (.lit 1) .nil))))))
def t_FnDyadNorm_k110 : Kn := (t_FnDyadNorm_c29, true) :: t_FnDyadNorm_k108
def t_FnDyadNorm_k111 : Kn := (t_FnDyadNorm_c29, false) :: t_FnDyadNorm_k108
def t_FnDyadNorm_c30 : SB := (.cmp .le (.lit 0) (.bin .fadd .u64 (.bin .fmul .u64 (.app 112 0 (.cons (.lit 3) (.cons (.lit 5) (.cons (.lit 1) .nil)))) (.app 112 0 (.cons (.lit 3) (.cons (.lit 5) (.cons (.lit 1) .nil))))) (.bin .fmul .u64 (.app 112 1 (.cons (.lit 3) (.cons (.lit 5) (.cons (.lit 1) .nil)))) (.app 112 1 (.cons (.lit 3) (.cons (.lit 5) (.cons (.lit 1) .nil)))))))
def t_FnDyadNorm_k112 : Kn := (t_FnDyadNorm_c30, true) :: t_FnDyadNorm_k110
def t_FnDyadNorm_k113 : Kn := (t_FnDyadNorm_c30, false) :: t_FnDyadNorm_k110
def t_FnDyadNorm_c31 : SB := (.cmp .eq (.bin .ford .u64 (.bin .fadd .u64 (.bin .fmul .u64 (.app 112 0 (.cons (.lit 3) (.cons (.lit 5) (.cons (.lit 1) .nil)))) (.app 112 0 (.cons (.lit 3) (.cons (.lit 5) (.cons (.lit 1) .nil))))) (.bin .fmul .u64 (.app 112 1 (.cons (.lit 3) (.cons (.lit 5) (.cons (.lit 1) .nil)))) (.app 112 1 (.cons (.lit 3) (.cons (.lit 5) (.cons (.lit 1) .nil)))))) (.lit 4616189618054758400)) (.lit (-1)))
def t_FnDyadNorm_k114 : Kn := (t_FnDyadNorm_c31, true) :: t_FnDyadNorm_k112
def t_FnDyadNorm_k115 : Kn := (t_FnDyadNorm_c31, false) :: t_FnDyadNorm_k112
def t_FnDyadNorm_c32 : SB := (.cmp .eq (.bin .ford .u64 (.bin .fadd .u64 (.bin .fmul .u64 (.app 112 0 (.cons (.lit 3) (.cons (.lit 5) (.cons (.lit 1) .nil)))) (.app 112 0 (.cons (.lit 3) (.cons (.lit 5) (.cons (.lit 1) .nil))))) (.bin .fmul .u64 (.app 112 1 (.cons (.lit 3) (.cons (.lit 5) (.cons (.lit 1) .nil)))) (.app 112 1 (.cons (.lit 3) (.cons (.lit 5) (.cons (.lit 1) .nil)))))) (.lit 4616189618054758400)) (.lit 1))
def t_FnDyadNorm_k116 : Kn := (t_FnDyadNorm_c32, true) :: t_FnDyadNorm_k114
def t_FnDyadNorm_k117 : Kn := (t_FnDyadNorm_c32, false) :: t_FnDyadNorm_k114
def t_FnDyadNorm_c33 : SB := (.cmp .lt (.lit 26) (.app 93 0 (.cons (.lit 3) (.cons (.lit 5) (.cons (.lit 1) .nil)))))
def t_FnDyadNorm_k118 : Kn := (t_FnDyadNorm_c33, true) :: t_FnDyadNorm_k116
def t_FnDyadNorm_k119 : Kn := (t_FnDyadNorm_c33, false) :: t_FnDyadNorm_k116
theorem t_FnDyadNorm_r120 : runFn (drawn XD1) t_FnDyadNorm_k118 200 6 [.cv (.one (.opq 0))] = .ok (.cv (.one (.bool (.lit true)))) := by kernel_rfl
theorem t_FnDyadNorm_r121 : runFn (drawn XD1) t_FnDyadNorm_k119 200 6 [.cv (.one (.opq 0))] = .ok (.cv (.one (.bool (.cmp .eq (.app 12 0 (.cons (.lit 3) (.cons (.lit 5) (.cons (.lit 1) .nil)))) (.lit 1))))) := by kernel_rfl
def t_FnDyadNorm_k122 : Kn := (t_FnDyadNorm_c33, true) :: t_FnDyadNorm_k117
def t_FnDyadNorm_k123 : Kn := (t_FnDyadNorm_c33, false) :: t_FnDyadNorm_k117
theorem t_FnDyadNorm_r124 : runFn (drawn XD1) t_FnDyadNorm_k122 200 6 [.cv (.one (.opq 0))] = .ok (.cv (.one (.bool (.lit true)))) := by kernel_rfl
theorem t_FnDyadNorm_r125 : runFn (drawn XD1) t_FnDyadNorm_k123 200 6 [.cv (.one (.opq 0))] = .ok (.cv (.one (.bool (.cmp .eq (.app 12 0 (.cons (.lit 3) (.cons (.lit 5) (.cons (.lit 1) .nil)))) (.lit (-1)))))) := by kernel_rfl
def t_FnDyadNorm_k126 : Kn := (t_FnDyadNorm_c32, true) :: t_FnDyadNorm_k115
def t_FnDyadNorm_k127 : Kn := (t_FnDyadNorm_c32, false) :: t_FnDyadNorm_k115
def t_FnDyadNorm_k128 : Kn := (t_FnDyadNorm_c33, true) :: t_FnDyadNorm_k126
def t_FnDyadNorm_k129 : Kn := (t_FnDyadNorm_c33, false) :: t_FnDyadNorm_k126
theorem t_FnDyadNorm_r130 : runFn (drawn XD1) t_FnDyadNorm_k128 200 6 [.cv (.one (.opq 0))] = .ok (.cv (.one (.bool (.lit true)))) := by kernel_rfl
theorem t_FnDyadNorm_r131 : runFn (drawn XD1) t_FnDyadNorm_k129 200 6 [.cv (.one (.opq 0))] = .ok (.cv (.one (.bool (.cmp .eq (.app 12 0 (.cons (.lit 3) (.cons (.lit 5) (.cons (.lit 1) .nil)))) (.lit 1))))) := by kernel_rfl
def t_FnDyadNorm_k132 : Kn := (t_FnDyadNorm_c33, true) :: t_FnDyadNorm_k127
def t_FnDyadNorm_k133 : Kn := (t_FnDyadNorm_c33, false) :: t_FnDyadNorm_k127
theorem t_FnDyadNorm_r134 : runFn (drawn XD1) t_FnDyadNorm_k132 200 6 [.cv (.one (.opq 0))] = .ok (.cv (.one (.bool (.lit true)))) := by kernel_rfl
theorem t_FnDyadNorm_r135 : runFn (drawn XD1) t_FnDyadNorm_k133 200 6 [.cv (.one (.opq 0))] = .ok (.cv (.one (.bool (.cmp .eq (.app 12 0 (.cons (.lit 3) (.cons (.lit 5) (.cons (.lit 1) .nil)))) (.lit 0))))) := by kernel_rfl
theorem t_FnDyadNorm_r136 : runFn (drawn XD1) t_FnDyadNorm_k107 200 6 [.cv (.one (.opq 0))] = .ok (.cv (.one (.bool (.lit true)))) := by kernel_rfl
def t_FnDyadNorm_c34 : SB := (.app 3 0 (.cons (.app 1002 0 (.cons (.app 1000 100 (.cons (.lit 0) .nil)) .nil)) (.cons (.app 1002 1 (.cons (.app 1000 100 (.cons (.lit 0) .nil)) .nil)) (.cons (.app 1002 2 (.cons (.app 1000 100 (.cons (.lit 0) .nil)) .nil)) .nil))))
def t_FnDyadNorm_k137 : Kn := (t_FnDyadNorm_c34, true) :: t_FnDyadNorm_k4
def t_FnDyadNorm_k138 : Kn := (t_FnDyadNorm_c34, false) :: t_FnDyadNorm_k4
def t_FnDyadNorm_c35 : SB := (.cmp .le (.lit 0) (.bin .fmul .u64 (.app 112 0 (.cons (.app 1002 0 (.cons (.app 1000 100 (.cons (.lit 0) .nil)) .nil)) (.cons (.app 1002 1 (.cons (.app 1000 100 (.cons (.lit 0) .nil)) .nil)) (.cons (.app 1002 2 (.cons (.app 1000 100 (.cons (.lit 0) .nil)) .nil)) .nil)))) (.app 112 0 (.cons (.app 1002 0 (.cons (.app 1000 100 (.cons (.lit 0) .nil)) .nil)) (.cons (.app 1002 1 (.cons (.app 1000 100 (.cons (.lit 0) .nil)) .nil)) (.cons (.app 1002 2 (.cons (.app 1000 100 (.cons (.lit 0) .nil)) .nil)) .nil))))))
def t_FnDyadNorm_k139 : Kn := (t_FnDyadNorm_c35, true) :: t_FnDyadNorm_k137
def t_FnDyadNorm_k140 : Kn := (t_FnDyadNorm_c35, false) :: t_FnDyadNorm_k137
def t_FnDyadNorm_c36 : SB := (.cmp .le (.lit 0) (.bin .fmul .u64 (.app 112 1 (.cons (.app 1002 0 (.cons (.app 1000 100 (.cons (.lit 0) .nil)) .nil)) (.cons (.app 1002 1 (.cons (.app 1000 100 (.cons (.lit 0) .nil)) .nil)) (.cons (.app 1002 2 (.cons (.app 1000 100 (.cons (.lit 0) .nil)) .nil)) .nil)))) (.app 112 1 (.cons (.app 1002 0 (.cons (.app 1000 100 (.cons (.lit 0) .nil)) .nil)) (.cons (.app 1002 1 (.cons (.app 1000 100 (.cons (.lit 0) .nil)) .nil)) (.cons (.app 1002 2 (.cons (.app 1000 100 (.cons (.lit 0) .nil)) .nil)) .nil))))))
def t_FnDyadNorm_k141 : Kn := (t_FnDyadNorm_c36, true) :: t_FnDyadNorm_k139
def t_FnDyadNorm_k142 : Kn := (t_FnDyadNorm_c36, false) :: t_FnDyadNorm_k139
def t_FnDyadNorm_c37 : SB := (.cmp .le (.lit 0) (.bin .fadd .u64 (.bin .fmul .u64 (.app 112 0 (.cons (.app 1002 0 (.cons (.app 1000 100 (.cons (.lit 0) .nil)) .nil)) (.cons (.app 1002 1 (.cons (.app 1000 100 (.cons (.lit 0) .nil)) .nil)) (.cons (.app 1002 2 (.cons (.app 1000 100 (.cons (.lit 0) .nil)) .nil)) .nil)))) (.app 112 0 (.cons (.app 1002 0 (.cons (.app 1000 100 (.cons (.lit 0) .nil)) .nil)) (.cons (.app 1002 1 (.cons (.app 1000 100 (.cons (.lit 0) .nil)) .nil)) (.cons (.app 1002 2 (.cons (.app 1000 100 (.cons (.lit 0) .nil)) .nil)) .nil))))) (.bin .fmul .u64 (.app 112 1 (.cons (.app 1002 0 (.cons (.app 1000 100 (.cons (.lit 0) .nil)) .nil)) (.cons (.app 1002 1 (.cons (.app 1000 100 (.cons (.lit 0) .nil)) .nil)) (.cons (.app 1002 2 (.cons (.app 1000 100 (.cons (.lit 0) .nil)) .nil)) .nil)))) (.app 112 1 (.cons (.app 1002 0 (.cons (.app 1000 100 (.cons (.lit 0) .nil)) .nil)) (.cons (.app 1002 1 (.cons (.app 1000 100 (.cons (.lit 0) .nil)) .nil)) (.cons (.app 1002 2 (.cons (.app 1000 100 (.cons (.lit 0) .nil)) .nil)) .nil)))))))
def t_FnDyadNorm_k143 : Kn := (t_FnDyadNorm_c37, true) :: t_FnDyadNorm_k141
def t_FnDyadNorm_k144 : Kn := (t_FnDyadNorm_c37, false) :: t_FnDyadNorm_k141
def t_FnDyadNorm_c38 : SB := (.cmp .eq (.bin .ford .u64 (.bin .fadd .u64 (.bin .fmul .u64 (.app 112 0 (.cons (.app 1002 0 (.cons (.app 1000 100 (.cons (.lit 0) .nil)) .nil)) (.cons (.app 1002 1 (.cons (.app 1000 100 (.cons (.lit 0) .nil)) .nil)) (.cons (.app 1002 2 (.cons (.app 1000 100 (.cons (.lit 0) .nil)) .nil)) .nil)))) (.app 112 0 (.cons (.app 1002 0 (.cons (.app 1000 100 (.cons (.lit 0) .nil)) .nil)) (.cons (.app 1002 1 (.cons (.app 1000 100 (.cons (.lit 0) .nil)) .nil)) (.cons (.app 1002 2 (.cons (.app 1000 100 (.cons (.lit 0) .nil)) .nil)) .nil))))) (.bin .fmul .u64 (.app 112 1 (.cons (.app 1002 0 (.cons (.app 1000 100 (.cons (.lit 0) .nil)) .nil)) (.cons (.app 1002 1 (.cons (.app 1000 100 (.cons (.lit 0) .nil)) .nil)) (.cons (.app 1002 2 (.cons (.app 1000 100 (.cons (.lit 0) .nil)) .nil)) .nil)))) (.app 112 1 (.cons (.app 1002 0 (.cons (.app 1000 100 (.cons (.lit 0) .nil)) .nil)) (.cons (.app 1002 1 (.cons (.app 1000 100 (.cons (.lit 0) .nil)) .nil)) (.cons (.app 1002 2 (.cons (.app 1000 100 (.cons (.lit 0) .nil)) .nil)) .nil)))))) (.lit 4616189618054758400)) (.lit (-1)))
def t_FnDyadNorm_k145 : Kn := (t_FnDyadNorm_c38, true) :: t_FnDyadNorm_k143
def t_FnDyadNorm_k146 : Kn := (t_FnDyadNorm_c38, false) :: t_FnDyadNorm_k143
def t_FnDyadNorm_c39 : SB := (.cmp .eq (.bin .ford .u64 (.bin .fadd .u64 (.bin .fmul .u64 (.app 112 0 (.cons (.app 1002 0 (.cons (.app 1000 100 (.cons (.lit 0) .nil)) .nil)) (.cons (.app 1002 1 (.cons (.app 1000 100 (.cons (.lit 0) .nil)) .nil)) (.cons (.app 1002 2 (.cons (.app 1000 100 (.cons (.lit 0) .nil)) .nil)) .nil)))) (.app 112 0 (.cons (.app 1002 0 (.cons (.app 1000 100 (.cons (.lit 0) .nil)) .nil)) (.cons (.app 1002 1 (.cons (.app 1000 100 (.cons (.lit 0) .nil)) .nil)) (.cons (.app 1002 2 (.cons (.app 1000 100 (.cons (.lit 0) .nil)) .nil)) .nil))))) (.bin .fmul .u64 (.app 112 1 (.cons (.app 1002 0 (.cons (.app 1000 100 (.cons (.lit 0) .nil)) .nil)) (.cons (.app 1002 1 (.cons (.app 1000 100 (.cons (.lit 0) .nil)) .nil)) (.cons (.app 1002 2 (.cons (.app 1000 100 (.cons (.lit 0) .nil)) .nil)) .nil)))) (.app 112 1 (.cons (.app 1002 0 (.cons (.app 1000 100 (.cons (.lit 0) .nil)) .nil)) (.cons (.app 1002 1 (.cons (.app 1000 100 (.cons (.lit 0) .nil)) .nil)) (.cons (.app 1002 2 (.cons (.app 1000 100 (.cons (.lit 0) .nil)) .nil)) .nil)))))) (.lit 4616189618054758400)) (.lit 1))
def t_FnDyadNorm_k147 : Kn := (t_FnDyadNorm_c39, true) :: t_FnDyadNorm_k145
def t_FnDyadNorm_k148 : Kn := (t_FnDyadNorm_c39, false) :: t_FnDyadNorm_k145
def t_FnDyadNorm_c40 : SB := (.cmp .lt (.lit 26) (.app 93 0 (.cons (.app 1002 0 (.cons (.app 1000 100 (.cons (.lit 0) .nil)) .nil)) (.cons (.app 1002 1 (.cons (.app 1000 100 (.cons (.lit 0) .nil)) .nil)) (.cons (.app 1002 2 (.cons (.app 1000 100 (.cons (.lit 0) .nil)) .nil)) .nil)))))
def t_FnDyadNorm_k149 : Kn := (t_FnDyadNorm_c40, true) :: t_FnDyadNorm_k147
def t_FnDyadNorm_k150 : Kn := (t_FnDyadNorm_c40, false) :: t_FnDyadNorm_k147
theorem t_FnDyadNorm_r151 : runFn (drawn XD1) t_FnDyadNorm_k149 200 6 [.cv (.one (.opq 0))] = .ok (.cv (.one (.bool (.lit true)))) := by kernel_rfl
def t_FnDyadNorm_c41 : SB := (.cmp .lt (.lit 20) (.app 1002 2 (.cons (.app 1000 100 (.cons (.lit 0) .nil)) .nil)))
def t_FnDyadNorm_k152 : Kn := (t_FnDyadNorm_c41, true) :: t_FnDyadNorm_k150
def t_FnDyadNorm_k153 : Kn := (t_FnDyadNorm_c41, false) :: t_FnDyadNorm_k150
theorem t_FnDyadNorm_r154 : runFn (drawn XD1) t_FnDyadNorm_k152 200 6 [.cv (.one (.opq 0))] = .ok (.cv (.one (.bool (.lit true)))) := by kernel_rfl
def t_FnDyadNorm_c42 : SB := (.cmp .lt (.lit 33554432) (.app 1002 0 (.cons (.app 1000 100 (.cons (.lit 0) .nil)) .nil)))
def t_FnDyadNorm_k155 : Kn := (t_FnDyadNorm_c42, true) :: t_FnDyadNorm_k153
def t_FnDyadNorm_k156 : Kn := (t_FnDyadNorm_c42, false) :: t_FnDyadNorm_k153
theorem t_FnDyadNorm_r157 : runFn (drawn XD1) t_FnDyadNorm_k155 200 6 [.cv (.one (.opq 0))] = .ok (.cv (.one (.bool (.lit true)))) := by kernel_rfl
def t_FnDyadNorm_c43 : SB := (.cmp .lt (.app 1002 0 (.cons (.app 1000 100 (.cons (.lit 0) .nil)) .nil)) (.lit (-33554432)))
def t_FnDyadNorm_k158 : Kn := (t_FnDyadNorm_c43, true) :: t_FnDyadNorm_k156
def t_FnDyadNorm_k159 : Kn := (t_FnDyadNorm_c43, false) :: t_FnDyadNorm_k156
theorem t_FnDyadNorm_r160 : runFn (drawn XD1) t_FnDyadNorm_k158 200 6 [.cv (.one (.opq 0))] = .ok (.cv (.one (.bool (.lit true)))) := by kernel_rfl
def t_FnDyadNorm_c44 : SB := (.cmp .lt (.lit 33554432) (.app 1002 1 (.cons (.app 1000 100 (.cons (.lit 0) .nil)) .nil)))
def t_FnDyadNorm_k161 : Kn := (t_FnDyadNorm_c44, true) :: t_FnDyadNorm_k159
def t_FnDyadNorm_k162 : Kn := (t_FnDyadNorm_c44, false) :: t_FnDyadNorm_k159
theorem t_FnDyadNorm_r163 : runFn (drawn XD1) t_FnDyadNorm_k161 200 6 [.cv (.one (.opq 0))] = .ok (.cv (.one (.bool (.lit true)))) := by kernel_rfl
def t_FnDyadNorm_c45 : SB := (.cmp .lt (.app 1002 1 (.cons (.app 1000 100 (.cons (.lit 0) .nil)) .nil)) (.lit (-33554432)))
def t_FnDyadNorm_k164 : Kn := (t_FnDyadNorm_c45, true) :: t_FnDyadNorm_k162
def t_FnDyadNorm_k165 : Kn := (t_FnDyadNorm_c45, false) :: t_FnDyadNorm_k162
theorem t_FnDyadNorm_r166 : runFn (drawn XD1) t_FnDyadNorm_k164 200 6 [.cv (.one (.opq 0))] = .ok (.cv (.one (.bool (.lit true)))) := by kernel_rfl
theorem t_FnDyadNorm_r167 : runFn (drawn XD1) t_FnDyadNorm_k165 200 6 [.cv (.one (.opq 0))] = .ok (.cv (.one (.bool (.cmp .eq (.app 12 0 (.cons (.app 1002 0 (.cons (.app 1000 100 (.cons (.lit 0) .nil)) .nil)) (.cons (.app 1002 1 (.cons (.app 1000 100 (.cons (.lit 0) .nil)) .nil)) (.cons (.app 1002 2 (.cons (.app 1000 100 (.cons (.lit 0) .nil)) .nil)) .nil)))) (.lit 1))))) := by kernel_rfl
def t_FnDyadNorm_k168 : Kn := (t_FnDyadNorm_c40, true) :: t_FnDyadNorm_k148
def t_FnDyadNorm_k169 : Kn := (t_FnDyadNorm_c40, false) :: t_FnDyadNorm_k148
theorem t_FnDyadNorm_r170 : runFn (drawn XD1) t_FnDyadNorm_k168 200 6 [.cv (.one (.opq 0))] = .ok (.cv (.one (.bool (.lit true)))) := by kernel_rfl
def t_FnDyadNorm_k171 : Kn := (t_FnDyadNorm_c41, true) :: t_FnDyadNorm_k169
def t_FnDyadNorm_k172 : Kn := (t_FnDyadNorm_c41, false) :: t_FnDyadNorm_k169
theorem t_FnDyadNorm_r173 : runFn (drawn XD1) t_FnDyadNorm_k171 200 6 [.cv (.one (.opq 0))] = .ok (.cv (.one (.bool (.lit true)))) := by kernel_rfl
def t_FnDyadNorm_k174 : Kn := (t_FnDyadNorm_c42, true) :: t_FnDyadNorm_k172
def t_FnDyadNorm_k175 : Kn := (t_FnDyadNorm_c42, false) :: t_FnDyadNorm_k172
theorem t_FnDyadNorm_r176 : runFn (drawn XD1) t_FnDyadNorm_k174 200 6 [.cv (.one (.opq 0))] = .ok (.cv (.one (.bool (.lit true)))) := by kernel_rfl
def t_FnDyadNorm_k177 : Kn := (t_FnDyadNorm_c43, true) :: t_FnDyadNorm_k175
def t_FnDyadNorm_k178 : Kn := (t_FnDyadNorm_c43, false) :: t_FnDyadNorm_k175
theorem t_FnDyadNorm_r179 : runFn (drawn XD1) t_FnDyadNorm_k177 200 6 [.cv (.one (.opq 0))] = .ok (.cv (.one (.bool (.lit true)))) := by kernel_rfl
def t_FnDyadNorm_k180 : Kn := (t_FnDyadNorm_c44, true) :: t_FnDyadNorm_k178
def t_FnDyadNorm_k181 : Kn := (t_FnDyadNorm_c44, false) :: t_FnDyadNorm_k178
theorem t_FnDyadNorm_r182 : runFn (drawn XD1) t_FnDyadNorm_k180 200 6 [.cv (.one (.opq 0))] = .ok (.cv (.one (.bool (.lit true)))) := by kernel_rfl
def t_FnDyadNorm_k183 : Kn := (t_FnDyadNorm_c45, true) :: t_FnDyadNorm_k181
def t_FnDyadNorm_k184 : Kn := (t_FnDyadNorm_c45, false) :: t_FnDyadNorm_k181
theorem t_FnDyadNorm_r185 : runFn (drawn XD1) t_FnDyadNorm_k183 200 6 [.cv (.one (.opq 0))] = .ok (.cv (.one (.bool (.lit true)))) := by kernel_rfl
theorem t_FnDyadNorm_r186 : runFn (drawn XD1) t_FnDyadNorm_k184 200 6 [.cv (.one (.opq 0))] = .ok (.cv (.one (.bool (.cmp .eq (.app 12 0 (.cons (.app 1002 0 (.cons (.app 1000 100 (.cons (.lit 0) .nil)) .nil)) (.cons (.app 1002 1 (.cons (.app 1000 100 (.cons (.lit 0) .nil)) .nil)) (.cons (.app 1002 2 (.cons (.app 1000 100 (.cons (.lit 0) .nil)) .nil)) .nil)))) (.lit (-1)))))) := by kernel_rfl
def t_FnDyadNorm_k187 : Kn := (t_FnDyadNorm_c39, true) :: t_FnDyadNorm_k146
def t_FnDyadNorm_k188 : Kn := (t_FnDyadNorm_c39, false) :: t_FnDyadNorm_k146
def t_FnDyadNorm_k189 : Kn := (t_FnDyadNorm_c40, true) :: t_FnDyadNorm_k187
def t_FnDyadNorm_k190 : Kn := (t_FnDyadNorm_c40, false) :: t_FnDyadNorm_k187
theorem t_FnDyadNorm_r191 : runFn (drawn XD1) t_FnDyadNorm_k189 200 6 [.cv (.one (.opq 0))] = .ok (.cv (.one (.bool (.lit true)))) := by kernel_rfl
def t_FnDyadNorm_k192 : Kn := (t_FnDyadNorm_c41, true) :: t_FnDyadNorm_k190
def t_FnDyadNorm_k193 : Kn := (t_FnDyadNorm_c41, false) :: t_FnDyadNorm_k190
theorem t_FnDyadNorm_r194 : runFn (drawn XD1) t_FnDyadNorm_k192 200 6 [.cv (.one (.opq 0))] = .ok (.cv (.one (.bool (.lit true)))) := by kernel_rfl
def t_FnDyadNorm_k195 : Kn := (t_FnDyadNorm_c42, true) :: t_FnDyadNorm_k193
def t_FnDyadNorm_k196 : Kn := (t_FnDyadNorm_c42, false) :: t_FnDyadNorm_k193
theorem t_FnDyadNorm_r197 : runFn (drawn XD1) t_FnDyadNorm_k195 200 6 [.cv (.one (.opq 0))] = .ok (.cv (.one (.bool (.lit true)))) := by kernel_rfl
def t_FnDyadNorm_k198 : Kn := (t_FnDyadNorm_c43, true) :: t_FnDyadNorm_k196
def t_FnDyadNorm_k199 : Kn := (t_FnDyadNorm_c43, false) :: t_FnDyadNorm_k196
theorem t_FnDyadNorm_r200 : runFn (drawn XD1) t_FnDyadNorm_k198 200 6 [.cv (.one (.opq 0))] = .ok (.cv (.one (.bool (.lit true)))) := by kernel_rfl
def t_FnDyadNorm_k201 : Kn := (t_FnDyadNorm_c44, true) :: t_FnDyadNorm_k199
def t_FnDyadNorm_k202 : Kn := (t_FnDyadNorm_c44, false) :: t_FnDyadNorm_k199
theorem t_FnDyadNorm_r203 : runFn (drawn XD1) t_FnDyadNorm_k201 200 6 [.cv (.one (.opq 0))] = .ok (.cv (.one (.bool (.lit true)))) := by kernel_rfl
def t_FnDyadNorm_k204 : Kn := (t_FnDyadNorm_c45, true) :: t_FnDyadNorm_k202
def t_FnDyadNorm_k205 : Kn := (t_FnDyadNorm_c45, false) :: t_FnDyadNorm_k202
theorem t_FnDyadNorm_r206 : runFn (drawn XD1) t_FnDyadNorm_k204 200 6 [.cv (.one (.opq 0))] = .ok (.cv (.one (.bool (.lit true)))) := by kernel_rfl
theorem t_FnDyadNorm_r207 : runFn (drawn XD1) t_FnDyadNorm_k205 200 6 [.cv (.one (.opq 0))] = .ok (.cv (.one (.bool (.cmp .eq (.app 12 0 (.cons (.app 1002 0 (.cons (.app 1000 100 (.cons (.lit 0) .nil)) .nil)) (.cons (.app 1002 1 (.cons (.app 1000 100 (.cons (.lit 0) .nil)) .nil)) (.cons (.app 1002 2 (.cons (.app 1000 100 (.cons (.lit 0) .nil)) .nil)) .nil)))) (.lit 1))))) := by kernel_rfl
def t_FnDyadNorm_k208 : Kn := (t_FnDyadNorm_c40, true) :: t_FnDyadNorm_k188
def t_FnDyadNorm_k209 : Kn := (t_FnDyadNorm_c40, false) :: t_FnDyadNorm_k188
theorem t_FnDyadNorm_r210 : runFn (drawn XD1) t_FnDyadNorm_k208 200 6 [.cv (.one (.opq 0))] = .ok (.cv (.one (.bool (.lit true)))) := by kernel_rfl
def t_FnDyadNorm_k211 : Kn := (t_FnDyadNorm_c41, true) :: t_FnDyadNorm_k209
def t_FnDyadNorm_k212 : Kn := (t_FnDyadNorm_c41, false) :: t_FnDyadNorm_k209
theorem t_FnDyadNorm_r213 : runFn (drawn XD1) t_FnDyadNorm_k211 200 6 [.cv (.one (.opq 0))] = .ok (.cv (.one (.bool (.lit true)))) := by kernel_rfl
def t_FnDyadNorm_k214 : Kn := (t_FnDyadNorm_c42, true) :: t_FnDyadNorm_k212
def t_FnDyadNorm_k215 : Kn := (t_FnDyadNorm_c42, false) :: t_FnDyadNorm_k212
theorem t_FnDyadNorm_r216 : runFn (drawn XD1) t_FnDyadNorm_k214 200 6 [.cv (.one (.opq 0))] = .ok (.cv (.one (.bool (.lit true)))) := by kernel_rfl
def t_FnDyadNorm_k217 : Kn := (t_FnDyadNorm_c43, true) :: t_FnDyadNorm_k215
def t_FnDyadNorm_k218 : Kn := (t_FnDyadNorm_c43, false) :: t_FnDyadNorm_k215
theorem t_FnDyadNorm_r219 : runFn (drawn XD1) t_FnDyadNorm_k217 200 6 [.cv (.one (.opq 0))] = .ok (.cv (.one (.bool (.lit true)))) := by kernel_rfl
def t_FnDyadNorm_k220 : Kn := (t_FnDyadNorm_c44, true) :: t_FnDyadNorm_k218
def t_FnDyadNorm_k221 : Kn := (t_FnDyadNorm_c44, false) :: t_FnDyadNorm_k218
theorem t_FnDyadNorm_r222 : runFn (drawn XD1) t_FnDyadNorm_k220 200 6 [.cv (.one (.opq 0))] = .ok (.cv (.one (.bool (.lit true)))) := by kernel_rfl
def t_FnDyadNorm_k223 : Kn := (t_FnDyadNorm_c45, true) :: t_FnDyadNorm_k221
def t_FnDyadNorm_k224 : Kn := (t_FnDyadNorm_c45, false) :: t_FnDyadNorm_k221
theorem t_FnDyadNorm_r225 : runFn (drawn XD1) t_FnDyadNorm_k223 200 6 [.cv (.one (.opq 0))] = .ok (.cv (.one (.bool (.lit true)))) := by kernel_rfl
theorem t_FnDyadNorm_r226 : runFn (drawn XD1) t_FnDyadNorm_k224 200 6 [.cv (.one (.opq 0))] = .ok (.cv (.one (.bool (.cmp .eq (.app 12 0 (.cons (.app 1002 0 (.cons (.app 1000 100 (.cons (.lit 0) .nil)) .nil)) (.cons (.app 1002 1 (.cons (.app 1000 100 (.cons (.lit 0) .nil)) .nil)) (.cons (.app 1002 2 (.cons (.app 1000 100 (.cons (.lit 0) .nil)) .nil)) .nil)))) (.lit 0))))) := by kernel_rfl
theorem t_FnDyadNorm_r227 : runFn (drawn XD1) t_FnDyadNorm_k138 200 6 [.cv (.one (.opq 0))] = .ok (.cv (.one (.bool (.lit true)))) := by kernel_rfl
def t_FnDyadNorm : Tree := (.node t_FnDyadNorm_c0 (.leaf (.cv (.one (.bool (.lit true))))) (.node t_FnDyadNorm_c1 (.node t_FnDyadNorm_c2 (.node t_FnDyadNorm_c3 (.node t_FnDyadNorm_c4 (.node t_FnDyadNorm_c5 (.node t_FnDyadNorm_c6 (.node t_FnDyadNorm_c7 (.node t_FnDyadNorm_c8 (.node t_FnDyadNorm_c9 (.leaf (.cv (.one (.bool (.lit true))))) (.leaf (.cv (.one (.bool (.cmp .eq (.app 12 0 (.cons (.lit 2) (.cons (.lit 0) (.cons (.lit 0) .nil)))) (.lit 1))))))) (.node t_FnDyadNorm_c9 (.leaf (.cv (.one (.bool (.lit true))))) (.leaf (.cv (.one (.bool (.cmp .eq (.app 12 0 (.cons (.lit 2) (.cons (.lit 0) (.cons (.lit 0) .nil)))) (.lit (-1))))))))) (.node t_FnDyadNorm_c8 (.node t_FnDyadNorm_c9 (.leaf (.cv (.one (.bool (.lit true))))) (.leaf (.cv (.one (.bool (.cmp .eq (.app 12 0 (.cons (.lit 2) (.cons (.lit 0) (.cons (.lit 0) .nil)))) (.lit 1))))))) (.node t_FnDyadNorm_c9 (.leaf (.cv (.one (.bool (.lit true))))) (.leaf (.cv (.one (.bool (.cmp .eq (.app 12 0 (.cons (.lit 2) (.cons (.lit 0) (.cons (.lit 0) .nil)))) (.lit 0))))))))) (.dead 9)) (.dead 9)) (.dead 9)) (.leaf (.cv (.one (.bool (.lit true)))))) (.node t_FnDyadNorm_c10 (.node t_FnDyadNorm_c11 (.node t_FnDyadNorm_c12 (.node t_FnDyadNorm_c13 (.node t_FnDyadNorm_c14 (.node t_FnDyadNorm_c15 (.node t_FnDyadNorm_c16 (.node t_FnDyadNorm_c17 (.leaf (.cv (.one (.bool (.lit true))))) (.leaf (.cv (.one (.bool (.cmp .eq (.app 12 0 (.cons (.lit 0) (.cons (.lit (-2)) (.cons (.lit 0) .nil)))) (.lit 1))))))) (.node t_FnDyadNorm_c17 (.leaf (.cv (.one (.bool (.lit true))))) (.leaf (.cv (.one (.bool (.cmp .eq (.app 12 0 (.cons (.lit 0) (.cons (.lit (-2)) (.cons (.lit 0) .nil)))) (.lit (-1))))))))) (.node t_FnDyadNorm_c16 (.node t_FnDyadNorm_c17 (.leaf (.cv (.one (.bool (.lit true))))) (.leaf (.cv (.one (.bool (.cmp .eq (.app 12 0 (.cons (.lit 0) (.cons (.lit (-2)) (.cons (.lit 0) .nil)))) (.lit 1))))))) (.node t_FnDyadNorm_c17 (.leaf (.cv (.one (.bool (.lit true))))) (.leaf (.cv (.one (.bool (.cmp .eq (.app 12 0 (.cons (.lit 0) (.cons (.lit (-2)) (.cons (.lit 0) .nil)))) (.lit 0))))))))) (.dead 9)) (.dead 9)) (.dead 9)) (.leaf (.cv (.one (.bool (.lit true)))))) (.node t_FnDyadNorm_c18 (.node t_FnDyadNorm_c19 (.node t_FnDyadNorm_c20 (.node t_FnDyadNorm_c21 (.node t_FnDyadNorm_c22 (.node t_FnDyadNorm_c23 (.node t_FnDyadNorm_c24 (.node t_FnDyadNorm_c25 (.leaf (.cv (.one (.bool (.lit true))))) (.leaf (.cv (.one (.bool (.cmp .eq (.app 12 0 (.cons (.lit 6) (.cons (.lit 8) (.cons (.lit 2) .nil)))) (.lit 1))))))) (.node t_FnDyadNorm_c25 (.leaf (.cv (.one (.bool (.lit true))))) (.leaf (.cv (.one (.bool (.cmp .eq (.app 12 0 (.cons (.lit 6) (.cons (.lit 8) (.cons (.lit 2) .nil)))) (.lit (-1))))))))) (.node t_FnDyadNorm_c24 (.node t_FnDyadNorm_c25 (.leaf (.cv (.one (.bool (.lit true))))) (.leaf (.cv (.one (.bool (.cmp .eq (.app 12 0 (.cons (.lit 6) (.cons (.lit 8) (.cons (.lit 2) .nil)))) (.lit 1))))))) (.node t_FnDyadNorm_c25 (.leaf (.cv (.one (.bool (.lit true))))) (.leaf (.cv (.one (.bool (.cmp .eq (.app 12 0 (.cons (.lit 6) (.cons (.lit 8) (.cons (.lit 2) .nil)))) (.lit 0))))))))) (.dead 9)) (.dead 9)) (.dead 9)) (.leaf (.cv (.one (.bool (.lit true)))))) (.node t_FnDyadNorm_c26 (.node t_FnDyadNorm_c27 (.node t_FnDyadNorm_c28 (.node t_FnDyadNorm_c29 (.node t_FnDyadNorm_c30 (.node t_FnDyadNorm_c31 (.node t_FnDyadNorm_c32 (.node t_FnDyadNorm_c33 (.leaf (.cv (.one (.bool (.lit true))))) (.leaf (.cv (.one (.bool (.cmp .eq (.app 12 0 (.cons (.lit 3) (.cons (.lit 5) (.cons (.lit 1) .nil)))) (.lit 1))))))) (.node t_FnDyadNorm_c33 (.leaf (.cv (.one (.bool (.lit true))))) (.leaf (.cv (.one (.bool (.cmp .eq (.app 12 0 (.cons (.lit 3) (.cons (.lit 5) (.cons (.lit 1) .nil)))) (.lit (-1))))))))) (.node t_FnDyadNorm_c32 (.node t_FnDyadNorm_c33 (.leaf (.cv (.one (.bool (.lit true))))) (.leaf (.cv (.one (.bool (.cmp .eq (.app 12 0 (.cons (.lit 3) (.cons (.lit 5) (.cons (.lit 1) .nil)))) (.lit 1))))))) (.node t_FnDyadNorm_c33 (.leaf (.cv (.one (.bool (.lit true))))) (.leaf (.cv (.one (.bool (.cmp .eq (.app 12 0 (.cons (.lit 3) (.cons (.lit 5) (.cons (.lit 1) .nil)))) (.lit 0))))))))) (.dead 9)) (.dead 9)) (.dead 9)) (.leaf (.cv (.one (.bool (.lit true)))))) (.dead 11))))) (.node t_FnDyadNorm_c34 (.node t_FnDyadNorm_c35 (.node t_FnDyadNorm_c36 (.node t_FnDyadNorm_c37 (.node t_FnDyadNorm_c38 (.node t_FnDyadNorm_c39 (.node t_FnDyadNorm_c40 (.leaf (.cv (.one (.bool (.lit true))))) (.node t_FnDyadNorm_c41 (.leaf (.cv (.one (.bool (.lit true))))) (.node t_FnDyadNorm_c42 (.leaf (.cv (.one (.bool (.lit true))))) (.node t_FnDyadNorm_c43 (.leaf (.cv (.one (.bool (.lit true))))) (.node t_FnDyadNorm_c44 (.leaf (.cv (.one (.bool (.lit true))))) (.node t_FnDyadNorm_c45 (.leaf (.cv (.one (.bool (.lit true))))) (.leaf (.cv (.one (.bool (.cmp .eq (.app 12 0 (.cons (.app 1002 0 (.cons (.app 1000 100 (.cons (.lit 0) .nil)) .nil)) (.cons (.app 1002 1 (.cons (.app 1000 100 (.cons (.lit 0) .nil)) .nil)) (.cons (.app 1002 2 (.cons (.app 1000 100 (.cons (.lit 0) .nil)) .nil)) .nil)))) (.lit 1)))))))))))) (.node t_FnDyadNorm_c40 (.leaf (.cv (.one (.bool (.lit true))))) (.node t_FnDyadNorm_c41 (.leaf (.cv (.one (.bool (.lit true))))) (.node t_FnDyadNorm_c42 (.leaf (.cv (.one (.bool (.lit true))))) (.node t_FnDyadNorm_c43 (.leaf (.cv (.one (.bool (.lit true))))) (.node t_FnDyadNorm_c44 (.leaf (.cv (.one (.bool (.lit true))))) (.node t_FnDyadNorm_c45 (.leaf (.cv (.one (.bool (.lit true))))) (.leaf (.cv (.one (.bool (.cmp .eq (.app 12 0 (.cons (.app 1002 0 (.cons (.app 1000 100 (.cons (.lit 0) .nil)) .nil)) (.cons (.app 1002 1 (.cons (.app 1000 100 (.cons (.lit 0) .nil)) .nil)) (.cons (.app 1002 2 (.cons (.app 1000 100 (.cons (.lit 0) .nil)) .nil)) .nil)))) (.lit (-1)))))))))))))) (.node t_FnDyadNorm_c39 (.node t_FnDyadNorm_c40 (.leaf (.cv (.one (.bool (.lit true))))) (.node t_FnDyadNorm_c41 (.leaf (.cv (.one (.bool (.lit true))))) (.node t_FnDyadNorm_c42 (.leaf (.cv (.one (.bool (.lit true))))) (.node t_FnDyadNorm_c43 (.leaf (.cv (.one (.bool (.lit true))))) (.node t_FnDyadNorm_c44 (.leaf (.cv (.one (.bool (.lit true))))) (.node t_FnDyadNorm_c45 (.leaf (.cv (.one (.bool (.lit true))))) (.leaf (.cv (.one (.bool (.cmp .eq (.app 12 0 (.cons (.app 1002 0 (.cons (.app 1000 100 (.cons (.lit 0) .nil)) .nil)) (.cons (.app 1002 1 (.cons (.app 1000 100 (.cons (.lit 0) .nil)) .nil)) (.cons (.app 1002 2 (.cons (.app 1000 100 (.cons (.lit 0) .nil)) .nil)) .nil)))) (.lit 1)))))))))))) (.node t_FnDyadNorm_c40 (.leaf (.cv (.one (.bool (.lit true))))) (.node t_FnDyadNorm_c41 (.leaf (.cv (.one (.bool (.lit true))))) (.node t_FnDyadNorm_c42 (.leaf (.cv (.one (.bool (.lit true))))) (.node t_FnDyadNorm_c43 (.leaf (.cv (.one (.bool (.lit true))))) (.node t_FnDyadNorm_c44 (.leaf (.cv (.one (.bool (.lit true))))) (.node t_FnDyadNorm_c45 (.leaf (.cv (.one (.bool (.lit true))))) (.leaf (.cv (.one (.bool (.cmp .eq (.app 12 0 (.cons (.app 1002 0 (.cons (.app 1000 100 (.cons (.lit 0) .nil)) .nil)) (.cons (.app 1002 1 (.cons (.app 1000 100 (.cons (.lit 0) .nil)) .nil)) (.cons (.app 1002 2 (.cons (.app 1000 100 (.cons (.lit 0) .nil)) .nil)) .nil)))) (.lit 0)))))))))))))) (.dead 9)) (.dead 9)) (.dead 9)) (.leaf (.cv (.one (.bool (.lit true))))))))
theorem t_FnDyadNorm_runs : Runs (drawn XD1) 200 6 [.cv (.one (.opq 0))] t_FnDyadNorm [] := ⟨t_FnDyadNorm_r2, ⟨⟨⟨⟨⟨⟨⟨⟨⟨t_FnDyadNorm_r21, t_FnDyadNorm_r22⟩, ⟨t_FnDyadNorm_r25, t_FnDyadNorm_r26⟩⟩, ⟨⟨t_FnDyadNorm_r31, t_FnDyadNorm_r32⟩, ⟨t_FnDyadNorm_r35, t_FnDyadNorm_r36⟩⟩⟩, trivial⟩, trivial⟩, trivial⟩, t_FnDyadNorm_r37⟩, ⟨⟨⟨⟨⟨⟨⟨⟨t_FnDyadNorm_r54, t_FnDyadNorm_r55⟩, ⟨t_FnDyadNorm_r58, t_FnDyadNorm_r59⟩⟩, ⟨⟨t_FnDyadNorm_r64, t_FnDyadNorm_r65⟩, ⟨t_FnDyadNorm_r68, t_FnDyadNorm_r69⟩⟩⟩, trivial⟩, trivial⟩, trivial⟩, t_FnDyadNorm_r70⟩, ⟨⟨⟨⟨⟨⟨⟨⟨t_FnDyadNorm_r87, t_FnDyadNorm_r88⟩, ⟨t_FnDyadNorm_r91, t_FnDyadNorm_r92⟩⟩, ⟨⟨t_FnDyadNorm_r97, t_FnDyadNorm_r98⟩, ⟨t_FnDyadNorm_r101, t_FnDyadNorm_r102⟩⟩⟩, trivial⟩, trivial⟩, trivial⟩, t_FnDyadNorm_r103⟩, ⟨⟨⟨⟨⟨⟨⟨⟨t_FnDyadNorm_r120, t_FnDyadNorm_r121⟩, ⟨t_FnDyadNorm_r124, t_FnDyadNorm_r125⟩⟩, ⟨⟨t_FnDyadNorm_r130, t_FnDyadNorm_r131⟩, ⟨t_FnDyadNorm_r134, t_FnDyadNorm_r135⟩⟩⟩, trivial⟩, trivial⟩, trivial⟩, t_FnDyadNorm_r136⟩, trivial⟩⟩⟩⟩, ⟨⟨⟨⟨⟨⟨⟨t_FnDyadNorm_r151, ⟨t_FnDyadNorm_r154, ⟨t_FnDyadNorm_r157, ⟨t_FnDyadNorm_r160, ⟨t_FnDyadNorm_r163, ⟨t_FnDyadNorm_r166, t_FnDyadNorm_r167⟩⟩⟩⟩⟩⟩, ⟨t_FnDyadNorm_r170, ⟨t_FnDyadNorm_r173, ⟨t_FnDyadNorm_r176, ⟨t_FnDyadNorm_r179, ⟨t_FnDyadNorm_r182, ⟨t_FnDyadNorm_r185, t_FnDyadNorm_r186⟩⟩⟩⟩⟩⟩⟩, ⟨⟨t_FnDyadNorm_r191, ⟨t_FnDyadNorm_r194, ⟨t_FnDyadNorm_r197, ⟨t_FnDyadNorm_r200, ⟨t_FnDyadNorm_r203, ⟨t_FnDyadNorm_r206, t_FnDyadNorm_r207⟩⟩⟩⟩⟩⟩, ⟨t_FnDyadNorm_r210, ⟨t_FnDyadNorm_r213, ⟨t_FnDyadNorm_r216, ⟨t_FnDyadNorm_r219, ⟨t_FnDyadNorm_r222, ⟨t_FnDyadNorm_r225, t_FnDyadNorm_r226⟩⟩⟩⟩⟩⟩⟩⟩, trivial⟩, trivial⟩, trivial⟩, t_FnDyadNorm_r227⟩⟩⟩
theorem fnDyadNorm_walk (v : Value) (w : World) (hv : BytesOk w w.heap.size v) (hT : Tb w) : Calls Tryd.prog 6 #[v] w (Gives (.bool true) w) := by
  refine dlawRW (X := XD1) rfl (fun pv E h1 h2 => XD1_ok w hT E h1 h2) (fuel := 200) (L := 6) t_FnDyadNorm_runs (fun pv p len cap hpv => ?_) v hv
  clear hv
  simp only [t_FnDyadNorm, t_FnDyadNorm_c0, t_FnDyadNorm_c1, t_FnDyadNorm_c2, t_FnDyadNorm_c3, t_FnDyadNorm_c4, t_FnDyadNorm_c5, t_FnDyadNorm_c6, t_FnDyadNorm_c7, t_FnDyadNorm_c8, t_FnDyadNorm_c9, t_FnDyadNorm_c10, t_FnDyadNorm_c11, t_FnDyadNorm_c12, t_FnDyadNorm_c13, t_FnDyadNorm_c14, t_FnDyadNorm_c15, t_FnDyadNorm_c16, t_FnDyadNorm_c17, t_FnDyadNorm_c18, t_FnDyadNorm_c19, t_FnDyadNorm_c20, t_FnDyadNorm_c21, t_FnDyadNorm_c22, t_FnDyadNorm_c23, t_FnDyadNorm_c24, t_FnDyadNorm_c25, t_FnDyadNorm_c26, t_FnDyadNorm_c27, t_FnDyadNorm_c28, t_FnDyadNorm_c29, t_FnDyadNorm_c30, t_FnDyadNorm_c31, t_FnDyadNorm_c32, t_FnDyadNorm_c33, t_FnDyadNorm_c34, t_FnDyadNorm_c35, t_FnDyadNorm_c36, t_FnDyadNorm_c37, t_FnDyadNorm_c38, t_FnDyadNorm_c39, t_FnDyadNorm_c40, t_FnDyadNorm_c41, t_FnDyadNorm_c42, t_FnDyadNorm_c43, t_FnDyadNorm_c44, t_FnDyadNorm_c45, Tree.den, SVal.den, CV.den, At.den, SE.den, SB.den, SL.den, IOp.den, COp.den, envD, List.map_cons, List.map_nil, List.getD_cons_zero, List.getD_cons_succ, ↓reduceIte, show ∀ q, FI pv 1001 0 [q] = bxA pv q from fun _ => rfl, show ∀ q, FI pv 1001 1 [q] = bxB pv q from fun _ => rfl, show ∀ q, FI pv 1001 2 [q] = bxC pv q from fun _ => rfl, show ∀ q, FI pv 1001 3 [q] = bxD pv q from fun _ => rfl, show ∀ q, FI pv 1001 100 [q] = bxP pv q from fun _ => rfl, show ∀ q, FI pv 1002 0 [q] = dyR pv q from fun _ => rfl, show ∀ q, FI pv 1002 1 [q] = dyI pv q from fun _ => rfl, show ∀ q, FI pv 1002 2 [q] = dyS pv q from fun _ => rfl, show ∀ q, FI pv 1002 100 [q] = q + 4 from fun _ => rfl, show ∀ q n, FI pv 1000 0 [q, n] = pv q n from fun _ _ => rfl, show ∀ q, FI pv 1000 100 [q] = q + 1 from fun _ => rfl]
  have hk := hpv (0 + 1) 4 (by decide) (by decide) (by decide)
  by_cases hl : 1048576 < (len : Int)
  · rw [decide_eq_true hl]; rfl
  rw [decide_eq_false hl]
  by_cases hz : pv 0 4 = 0
  · rw [hz]
    generalize pv (0 + 1) 4 = k at hk ⊢
    have h4 : k = 0 ∨ k = 1 ∨ k = 2 ∨ k = 3 := by omega
    rcases h4 with rfl | rfl | rfl | rfl
    all_goals (show _ = some (Value.bool true))
    all_goals kernel_rfl
  · rw [beq_eq_false_iff_ne.2 hz]
    simp only [cond_false]
    generalize dyR pv (0 + 1) = r
    generalize dyI pv (0 + 1) = i
    generalize dyS pv (0 + 1) = s
    cases hd : DV r i s
    · have q1 : FB 3 0 [r, i, s] = false := hd
      rw [q1]; rfl
    · have q1 : FB 3 0 [r, i, s] = true := hd
      have q2 : FI pv 93 0 [r, i, s] = max (BT r) (BT i) := by rw [f93, if_pos hd]
      have q3 : FI pv 12 0 [r, i, s] = NM r i s := if_pos hd
      obtain ⟨h1, h2, h3⟩ := dv_rngF hd
      obtain ⟨a, b, c, k1, k2, k3, k4⟩ := norm_word (r := r) (i := i) (s := s) (by omega) (by omega) h3
      have t : ∀ x : Nat, (oInt (some x)).toNat = x := fun _ => rfl
      have o : ∀ x : Nat, decide (0 ≤ oInt (some x)) = true := fun x => decide_eq_true (by show (0 : Int) ≤ (x : Int); omega)
      rw [q1, q2, q3, f112a hd, f112b hd, show (fkOf IntKind.u64).format = Ieee.double from rfl, show Int.toNat 4616189618054758400 = 4616189618054758400 from rfl, k1, k2, t, t, k3, t, o, o, o]
      simp only [cond_true]
      by_cases g1 : 26 < max (BT r) (BT i)
      · rw [decide_eq_true g1]; simp
      by_cases g2 : 20 < s
      · rw [decide_eq_true g2]; simp
      by_cases g3 : 33554432 < r
      · rw [decide_eq_true g3]; simp
      by_cases g4 : r < -33554432
      · rw [decide_eq_true g4]; simp
      by_cases g5 : 33554432 < i
      · rw [decide_eq_true g5]; simp
      by_cases g6 : i < -33554432
      · rw [decide_eq_true g6]; simp
      rw [k4 (by omega) (by omega) (by omega) (by omega) (by omega), decide_eq_false g1, decide_eq_false g2, decide_eq_false g3, decide_eq_false g4, decide_eq_false g5, decide_eq_false g6]
      rcases NM_three r i s with e | e | e <;> rw [e] <;> rfl
theorem fnDyadNorm_laid (os : Os) : laidMet Tryd.prog Rows.fnDyadNormRow.laid ((laidWorld os).forCall (fun _ _ => 0) ⟨#[], #[.slice none 0 0], []⟩).memory := laidMet_of_run' 8 (by kernel_rfl) (by kernel_rfl)
theorem fnDyadNorm_reads (os : Os) {H : Type} (enc : TypeId × Value → H) : ∃ places, DataW.whole enc Tryd.prog ((laidWorld os).forCall (fun _ _ => 0) ⟨#[], #[.slice none 0 0], []⟩).memory Tryd.f6.params.toList Rows.fnDyadNormSpec.vars false #[Value.slice none 0 0].toList 8 = some ([.nil], [], places) := ⟨[], by kernel_rfl⟩
set_option maxRecDepth 100000 in
theorem fnDyadNorm_lifted (os : Os) (started : os.Started) (H : Type) (enc : TypeId × Value → H) (F : Stop.Interp) :
    ReturnsInHanded {} Tryd.checked os 6 .any ((OpenSpec.ofChange Rows.fnDyadNormSpec).preRow enc Tryd.prog Tryd.f6 Rows.fnDyadNormRow.domain false Rows.fnDyadNormRow.laid) (((OpenSpec.ofChange Rows.fnDyadNormSpec).at F).post enc Tryd.prog Tryd.f6 false true false false) := by
  obtain ⟨places, hx⟩ := fnDyadNorm_reads os enc
  refine returnsInHanded_of_row (C := Tryd.checked) (s := OpenSpec.ofChange Rows.fnDyadNormSpec) Tryd.own started (by kernel_rfl) Tryd.func6
    (witness_row_at (enc := enc) (C := Tryd.checked) false (laidWorld os) #[.slice none 0 0] rfl (by kernel_rfl) (by kernel_rfl) (by kernel_rfl)
      (OpenSpec.preRow_of_cond 8 hx (by kernel_rfl) (fun k hk => by cases hk) (by kernel_rfl) (fnDyadNorm_laid os))) ?_
  intro W base args ds gs before hval0 hW _ _ _ hL _ _
  have hT : Tb W := tb_of hL
  have hval : ∀ (j : Nat) t v, Tryd.f6.params[j]? = some t → args[j]? = some v → Value.okWide Tryd.prog W .any base t v := hval0
  have hW' := hW
  obtain ⟨p, q, hA0, hV, rfl, hfz, hnd⟩ := hW
  have hA : DataW.TrodAll enc Tryd.prog W 0 (fun _ => true) true Tryd.f6.params.toList args.toList ds p := hA0
  rw [Tryd.params6] at hA hval
  obtain ⟨v0, vs0, d0, ds0, p0, q0, hargs, rfl, rfl, h0, r0⟩ := trodAll_cons hA
  obtain ⟨rfl, rfl, rfl⟩ := trodAll_nil r0
  obtain rfl : args = #[v0] := by cases args; simp_all
  obtain ⟨rfl, rfl⟩ := trodVars_none hV
  have k0 := h0
  have lt0 : ∀ x ∈ p0, x.block < W.heap.size := by obtain ⟨m, hm⟩ := k0; exact DataW.trod_lt m _ _ _ hm
  obtain ⟨a0, len0, cap0, rfl⟩ := okWide_slice Tryd.underlying22 (hval 0 22 v0 rfl rfl)
  have hb0 : BytesOk W W.heap.size (.slice a0 len0 cap0) := by
    obtain ⟨fuel, hf⟩ := h0
    exact bytes_of_ints (open_ints Tryd.underlying22 Tryd.underlying5 (by kernel_rfl) hf)
  clear hA0 hval0
  refine (fnDyadNorm_walk (.slice a0 len0 cap0) W hb0 hT).mono fun e W' ⟨he, bel⟩ => ?_
  subst he
  exact ⟨_, rfl, _, _, _, [], _, [], hW', trodAll_mk1 (shut_bool Tryd.underlying4 _), (trodAll_cons_mk (Below.trod Tryd.laidOut (by kernel_rfl) (of_decide_eq_true (by kernel_rfl)) k0 bel lt0) trodAll_mk0), rfl, bel.frame _, fun h => by cases h⟩

theorem fnDyadNorm_holds : Rows.FnDyadNormSaid :=
  OpenClaim.holds_of_cond 6 Tryd.f6 rfl rfl rfl rfl rfl rfl rfl ⟨rfl, rfl, rfl, rfl, rfl⟩ rfl rfl rfl rfl rfl (by kernel_rfl) Tryd.func6 (by kernel_rfl)
    (of_decide_eq_true (by kernel_rfl)) (by unfold Func.isWrapper; first | (rw [if_pos (by decide +kernel)]; kernel_rfl) | (rw [if_neg (by decide +kernel)]; exact ⟨rfl, rfl⟩))
    (fun os started H enc _ F => by rw [OpenClaim.pre_eq_preRow]; exact fnDyadNorm_lifted os started H enc F)
theorem fnDyadNorm_plain (f : FuncId) (fn : Func) (hf : Tryd.pinned.checked.prog.funcNamed Rows.fnDyadNormRow.func = some f) (hfn : Tryd.pinned.checked.prog.funcs[f]? = some fn) :
    false = Tryd.pinned.checked.prog.looks [] ∧ ∀ (j : Nat) t, fn.params[j]? = some t → Tryd.pinned.checked.prog.wantsStandIn t = false := by
  obtain rfl : f = 6 := Option.some.inj ((show Tryd.prog.funcNamed Rows.fnDyadNormRow.func = some 6 by kernel_rfl).symm.trans hf) |>.symm
  obtain rfl : fn = Tryd.f6 := (Option.some.inj (Tryd.func6.symm.trans hfn)).symm
  refine ⟨by kernel_rfl, fun j t ht => ?_⟩
  rw [Tryd.params6] at ht
  have hm : t ∈ [22] := by simpa using Array.mem_of_getElem? ht
  have hall : ([22].all fun u => !Tryd.prog.wantsStandIn u) = true := by kernel_rfl
  exact (show Tryd.prog.wantsStandIn t = false by simpa using List.all_eq_true.1 hall t hm)
/-- The card. -/
theorem fnDyadNorm_card : Rows.FnDyadNormCardSaid :=
  Claim7.holds_tied_plain_at .later [] _ _ _ _ fnDyadNorm_holds (fun _ h => by cases h) (by kernel_rfl) (fun _ h => by cases h) fnDyadNorm_row_tie rfl ⟨rfl, rfl⟩ (by kernel_rfl) rfl fnDyadNorm_plain (by kernel_rfl)
end Go.Proofs.YtgnkjfafgcbpbaaDoor
