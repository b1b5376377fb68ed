/- The law FnDyadWide: few digits fit single numbers: its walk, its row and its card. -/
import Derived.Test.YtgnkjfafgcbpbaaDoorFd2
import Derived.Test.YtgnkjfafgcbpbaaDoorRowT
import Derived.Test.YtgnkjfafgcbpbaaDoorRowB
namespace Go.Proofs.YtgnkjfafgcbpbaaDoor
set_option linter.unusedSimpArgs false
set_option linter.unusedVariables false
variable {pv : Int → Int → Int}
open Go.ChangeShapes Go.WideShapes Go.ChangeAt Go.RowKit Go.Joins Eng
def t_FnDyadWide_c0 : SB := (.cmp .lt (.lit 1048576) (.var 0))
def t_FnDyadWide_k0 : Kn := (t_FnDyadWide_c0, true) :: []
def t_FnDyadWide_k1 : Kn := (t_FnDyadWide_c0, false) :: []
theorem t_FnDyadWide_r2 : runFn (drawn XD1) t_FnDyadWide_k0 200 4 [.cv (.one (.opq 0))] = .ok (.cv (.one (.bool (.lit true)))) := by kernel_rfl
def t_FnDyadWide_c1 : SB := (.app 112 0 (.cons (.app 112 0 (.cons (.app 1002 0 (.cons (.lit 0) .nil)) (.cons (.app 1002 1 (.cons (.lit 0) .nil)) (.cons (.app 1002 2 (.cons (.lit 0) .nil)) .nil)))) (.cons (.app 112 0 (.cons (.app 1002 0 (.cons (.lit 0) .nil)) (.cons (.app 1002 1 (.cons (.lit 0) .nil)) (.cons (.app 1002 2 (.cons (.lit 0) .nil)) .nil)))) .nil)))
def t_FnDyadWide_k3 : Kn := (t_FnDyadWide_c1, true) :: t_FnDyadWide_k1
def t_FnDyadWide_k4 : Kn := (t_FnDyadWide_c1, false) :: t_FnDyadWide_k1
def t_FnDyadWide_c2 : SB := (.app 112 0 (.cons (.app 112 1 (.cons (.app 1002 0 (.cons (.lit 0) .nil)) (.cons (.app 1002 1 (.cons (.lit 0) .nil)) (.cons (.app 1002 2 (.cons (.lit 0) .nil)) .nil)))) (.cons (.app 112 1 (.cons (.app 1002 0 (.cons (.lit 0) .nil)) (.cons (.app 1002 1 (.cons (.lit 0) .nil)) (.cons (.app 1002 2 (.cons (.lit 0) .nil)) .nil)))) .nil)))
def t_FnDyadWide_k5 : Kn := (t_FnDyadWide_c2, true) :: t_FnDyadWide_k3
def t_FnDyadWide_k6 : Kn := (t_FnDyadWide_c2, false) :: t_FnDyadWide_k3
def t_FnDyadWide_c3 : SB := (.app 3 0 (.cons (.app 1002 0 (.cons (.lit 0) .nil)) (.cons (.app 1002 1 (.cons (.lit 0) .nil)) (.cons (.app 1002 2 (.cons (.lit 0) .nil)) .nil))))
def t_FnDyadWide_k7 : Kn := (t_FnDyadWide_c3, true) :: t_FnDyadWide_k5
def t_FnDyadWide_k8 : Kn := (t_FnDyadWide_c3, false) :: t_FnDyadWide_k5
def t_FnDyadWide_c4 : SB := (.app 114 0 (.cons (.app 112 0 (.cons (.app 1002 0 (.cons (.lit 0) .nil)) (.cons (.app 1002 1 (.cons (.lit 0) .nil)) (.cons (.app 1002 2 (.cons (.lit 0) .nil)) .nil)))) (.cons (.app 112 1 (.cons (.app 1002 0 (.cons (.lit 0) .nil)) (.cons (.app 1002 1 (.cons (.lit 0) .nil)) (.cons (.app 1002 2 (.cons (.lit 0) .nil)) .nil)))) .nil)))
def t_FnDyadWide_k9 : Kn := (t_FnDyadWide_c4, true) :: t_FnDyadWide_k7
def t_FnDyadWide_k10 : Kn := (t_FnDyadWide_c4, false) :: t_FnDyadWide_k7
def t_FnDyadWide_c5 : SB := (.cmp .eq (.bin .ford .u64 (.app 112 0 (.cons (.app 1002 0 (.cons (.lit 0) .nil)) (.cons (.app 1002 1 (.cons (.lit 0) .nil)) (.cons (.app 1002 2 (.cons (.lit 0) .nil)) .nil)))) (.lit 0)) (.lit 0))
def t_FnDyadWide_k11 : Kn := (t_FnDyadWide_c5, true) :: t_FnDyadWide_k9
def t_FnDyadWide_k12 : Kn := (t_FnDyadWide_c5, false) :: t_FnDyadWide_k9
def t_FnDyadWide_c6 : SB := (.cmp .le (.lit 0) (.bin .fdiv .u64 (.lit 4607182418800017408) (.app 112 0 (.cons (.app 1002 0 (.cons (.lit 0) .nil)) (.cons (.app 1002 1 (.cons (.lit 0) .nil)) (.cons (.app 1002 2 (.cons (.lit 0) .nil)) .nil))))))
def t_FnDyadWide_k13 : Kn := (t_FnDyadWide_c6, true) :: t_FnDyadWide_k11
def t_FnDyadWide_k14 : Kn := (t_FnDyadWide_c6, false) :: t_FnDyadWide_k11
def t_FnDyadWide_c7 : SB := (.cmp .eq (.bin .ford .u64 (.bin .fdiv .u64 (.lit 4607182418800017408) (.app 112 0 (.cons (.app 1002 0 (.cons (.lit 0) .nil)) (.cons (.app 1002 1 (.cons (.lit 0) .nil)) (.cons (.app 1002 2 (.cons (.lit 0) .nil)) .nil))))) (.lit 0)) (.lit 1))
def t_FnDyadWide_k15 : Kn := (t_FnDyadWide_c7, true) :: t_FnDyadWide_k13
def t_FnDyadWide_k16 : Kn := (t_FnDyadWide_c7, false) :: t_FnDyadWide_k13
def t_FnDyadWide_c8 : SB := (.cmp .eq (.bin .ford .u64 (.app 112 1 (.cons (.app 1002 0 (.cons (.lit 0) .nil)) (.cons (.app 1002 1 (.cons (.lit 0) .nil)) (.cons (.app 1002 2 (.cons (.lit 0) .nil)) .nil)))) (.lit 0)) (.lit 0))
def t_FnDyadWide_k17 : Kn := (t_FnDyadWide_c8, true) :: t_FnDyadWide_k15
def t_FnDyadWide_k18 : Kn := (t_FnDyadWide_c8, false) :: t_FnDyadWide_k15
def t_FnDyadWide_c9 : SB := (.cmp .le (.lit 0) (.bin .fdiv .u64 (.lit 4607182418800017408) (.app 112 1 (.cons (.app 1002 0 (.cons (.lit 0) .nil)) (.cons (.app 1002 1 (.cons (.lit 0) .nil)) (.cons (.app 1002 2 (.cons (.lit 0) .nil)) .nil))))))
def t_FnDyadWide_k19 : Kn := (t_FnDyadWide_c9, true) :: t_FnDyadWide_k17
def t_FnDyadWide_k20 : Kn := (t_FnDyadWide_c9, false) :: t_FnDyadWide_k17
def t_FnDyadWide_c10 : SB := (.cmp .eq (.bin .ford .u64 (.bin .fdiv .u64 (.lit 4607182418800017408) (.app 112 1 (.cons (.app 1002 0 (.cons (.lit 0) .nil)) (.cons (.app 1002 1 (.cons (.lit 0) .nil)) (.cons (.app 1002 2 (.cons (.lit 0) .nil)) .nil))))) (.lit 0)) (.lit 1))
def t_FnDyadWide_k21 : Kn := (t_FnDyadWide_c10, true) :: t_FnDyadWide_k19
def t_FnDyadWide_k22 : Kn := (t_FnDyadWide_c10, false) :: t_FnDyadWide_k19
def t_FnDyadWide_c11 : SB := (.cmp .lt (.lit 24) (.app 93 0 (.cons (.app 1002 0 (.cons (.lit 0) .nil)) (.cons (.app 1002 1 (.cons (.lit 0) .nil)) (.cons (.app 1002 2 (.cons (.lit 0) .nil)) .nil)))))
def t_FnDyadWide_k23 : Kn := (t_FnDyadWide_c11, true) :: t_FnDyadWide_k21
def t_FnDyadWide_k24 : Kn := (t_FnDyadWide_c11, false) :: t_FnDyadWide_k21
theorem t_FnDyadWide_r25 : runFn (drawn XD1) t_FnDyadWide_k23 200 4 [.cv (.one (.opq 0))] = .ok (.cv (.one (.bool (.lit true)))) := by kernel_rfl
def t_FnDyadWide_c12 : SB := (.cmp .le (.lit 0) (.bin .fcv .u64 (.app 112 0 (.cons (.app 1002 0 (.cons (.lit 0) .nil)) (.cons (.app 1002 1 (.cons (.lit 0) .nil)) (.cons (.app 1002 2 (.cons (.lit 0) .nil)) .nil)))) (.lit 0)))
def t_FnDyadWide_k26 : Kn := (t_FnDyadWide_c12, true) :: t_FnDyadWide_k24
def t_FnDyadWide_k27 : Kn := (t_FnDyadWide_c12, false) :: t_FnDyadWide_k24
def t_FnDyadWide_c13 : SB := (.cmp .le (.lit 0) (.bin .fcv .u64 (.app 112 1 (.cons (.app 1002 0 (.cons (.lit 0) .nil)) (.cons (.app 1002 1 (.cons (.lit 0) .nil)) (.cons (.app 1002 2 (.cons (.lit 0) .nil)) .nil)))) (.lit 0)))
def t_FnDyadWide_k28 : Kn := (t_FnDyadWide_c13, true) :: t_FnDyadWide_k26
def t_FnDyadWide_k29 : Kn := (t_FnDyadWide_c13, false) :: t_FnDyadWide_k26
def t_FnDyadWide_c14 : SB := (.cmp .le (.lit 0) (.bin .fcv .u32 (.bin .fcv .u64 (.app 112 0 (.cons (.app 1002 0 (.cons (.lit 0) .nil)) (.cons (.app 1002 1 (.cons (.lit 0) .nil)) (.cons (.app 1002 2 (.cons (.lit 0) .nil)) .nil)))) (.lit 0)) (.lit 0)))
def t_FnDyadWide_k30 : Kn := (t_FnDyadWide_c14, true) :: t_FnDyadWide_k28
def t_FnDyadWide_k31 : Kn := (t_FnDyadWide_c14, false) :: t_FnDyadWide_k28
def t_FnDyadWide_c15 : SB := (.cmp .le (.lit 0) (.bin .fcv .u32 (.bin .fcv .u64 (.app 112 1 (.cons (.app 1002 0 (.cons (.lit 0) .nil)) (.cons (.app 1002 1 (.cons (.lit 0) .nil)) (.cons (.app 1002 2 (.cons (.lit 0) .nil)) .nil)))) (.lit 0)) (.lit 0)))
def t_FnDyadWide_k32 : Kn := (t_FnDyadWide_c15, true) :: t_FnDyadWide_k30
def t_FnDyadWide_k33 : Kn := (t_FnDyadWide_c15, false) :: t_FnDyadWide_k30
theorem t_FnDyadWide_r34 : runFn (drawn XD1) t_FnDyadWide_k32 200 4 [.cv (.one (.opq 0))] = .ok (.cv (.one (.bool (.and (.cmp .eq (.bin .ford .u64 (.app 112 0 (.cons (.app 1002 0 (.cons (.lit 0) .nil)) (.cons (.app 1002 1 (.cons (.lit 0) .nil)) (.cons (.app 1002 2 (.cons (.lit 0) .nil)) .nil)))) (.bin .fcv .u32 (.bin .fcv .u64 (.app 112 0 (.cons (.app 1002 0 (.cons (.lit 0) .nil)) (.cons (.app 1002 1 (.cons (.lit 0) .nil)) (.cons (.app 1002 2 (.cons (.lit 0) .nil)) .nil)))) (.lit 0)) (.lit 0))) (.lit 0)) (.cmp .eq (.bin .ford .u64 (.app 112 1 (.cons (.app 1002 0 (.cons (.lit 0) .nil)) (.cons (.app 1002 1 (.cons (.lit 0) .nil)) (.cons (.app 1002 2 (.cons (.lit 0) .nil)) .nil)))) (.bin .fcv .u32 (.bin .fcv .u64 (.app 112 1 (.cons (.app 1002 0 (.cons (.lit 0) .nil)) (.cons (.app 1002 1 (.cons (.lit 0) .nil)) (.cons (.app 1002 2 (.cons (.lit 0) .nil)) .nil)))) (.lit 0)) (.lit 0))) (.lit 0)))))) := by kernel_rfl
def t_FnDyadWide_k35 : Kn := (t_FnDyadWide_c11, true) :: t_FnDyadWide_k18
def t_FnDyadWide_k36 : Kn := (t_FnDyadWide_c11, false) :: t_FnDyadWide_k18
theorem t_FnDyadWide_r37 : runFn (drawn XD1) t_FnDyadWide_k35 200 4 [.cv (.one (.opq 0))] = .ok (.cv (.one (.bool (.lit true)))) := by kernel_rfl
def t_FnDyadWide_k38 : Kn := (t_FnDyadWide_c12, true) :: t_FnDyadWide_k36
def t_FnDyadWide_k39 : Kn := (t_FnDyadWide_c12, false) :: t_FnDyadWide_k36
def t_FnDyadWide_k40 : Kn := (t_FnDyadWide_c13, true) :: t_FnDyadWide_k38
def t_FnDyadWide_k41 : Kn := (t_FnDyadWide_c13, false) :: t_FnDyadWide_k38
def t_FnDyadWide_k42 : Kn := (t_FnDyadWide_c14, true) :: t_FnDyadWide_k40
def t_FnDyadWide_k43 : Kn := (t_FnDyadWide_c14, false) :: t_FnDyadWide_k40
def t_FnDyadWide_k44 : Kn := (t_FnDyadWide_c15, true) :: t_FnDyadWide_k42
def t_FnDyadWide_k45 : Kn := (t_FnDyadWide_c15, false) :: t_FnDyadWide_k42
theorem t_FnDyadWide_r46 : runFn (drawn XD1) t_FnDyadWide_k44 200 4 [.cv (.one (.opq 0))] = .ok (.cv (.one (.bool (.and (.cmp .eq (.bin .ford .u64 (.app 112 0 (.cons (.app 1002 0 (.cons (.lit 0) .nil)) (.cons (.app 1002 1 (.cons (.lit 0) .nil)) (.cons (.app 1002 2 (.cons (.lit 0) .nil)) .nil)))) (.bin .fcv .u32 (.bin .fcv .u64 (.app 112 0 (.cons (.app 1002 0 (.cons (.lit 0) .nil)) (.cons (.app 1002 1 (.cons (.lit 0) .nil)) (.cons (.app 1002 2 (.cons (.lit 0) .nil)) .nil)))) (.lit 0)) (.lit 0))) (.lit 0)) (.cmp .eq (.bin .ford .u64 (.app 112 1 (.cons (.app 1002 0 (.cons (.lit 0) .nil)) (.cons (.app 1002 1 (.cons (.lit 0) .nil)) (.cons (.app 1002 2 (.cons (.lit 0) .nil)) .nil)))) (.bin .fcv .u32 (.bin .fcv .u64 (.app 112 1 (.cons (.app 1002 0 (.cons (.lit 0) .nil)) (.cons (.app 1002 1 (.cons (.lit 0) .nil)) (.cons (.app 1002 2 (.cons (.lit 0) .nil)) .nil)))) (.lit 0)) (.lit 0))) (.lit 0)))))) := by kernel_rfl
def t_FnDyadWide_k47 : Kn := (t_FnDyadWide_c8, true) :: t_FnDyadWide_k12
def t_FnDyadWide_k48 : Kn := (t_FnDyadWide_c8, false) :: t_FnDyadWide_k12
def t_FnDyadWide_k49 : Kn := (t_FnDyadWide_c9, true) :: t_FnDyadWide_k47
def t_FnDyadWide_k50 : Kn := (t_FnDyadWide_c9, false) :: t_FnDyadWide_k47
def t_FnDyadWide_k51 : Kn := (t_FnDyadWide_c10, true) :: t_FnDyadWide_k49
def t_FnDyadWide_k52 : Kn := (t_FnDyadWide_c10, false) :: t_FnDyadWide_k49
def t_FnDyadWide_k53 : Kn := (t_FnDyadWide_c11, true) :: t_FnDyadWide_k51
def t_FnDyadWide_k54 : Kn := (t_FnDyadWide_c11, false) :: t_FnDyadWide_k51
theorem t_FnDyadWide_r55 : runFn (drawn XD1) t_FnDyadWide_k53 200 4 [.cv (.one (.opq 0))] = .ok (.cv (.one (.bool (.lit true)))) := by kernel_rfl
def t_FnDyadWide_k56 : Kn := (t_FnDyadWide_c12, true) :: t_FnDyadWide_k54
def t_FnDyadWide_k57 : Kn := (t_FnDyadWide_c12, false) :: t_FnDyadWide_k54
def t_FnDyadWide_k58 : Kn := (t_FnDyadWide_c13, true) :: t_FnDyadWide_k56
def t_FnDyadWide_k59 : Kn := (t_FnDyadWide_c13, false) :: t_FnDyadWide_k56
def t_FnDyadWide_k60 : Kn := (t_FnDyadWide_c14, true) :: t_FnDyadWide_k58
def t_FnDyadWide_k61 : Kn := (t_FnDyadWide_c14, false) :: t_FnDyadWide_k58
def t_FnDyadWide_k62 : Kn := (t_FnDyadWide_c15, true) :: t_FnDyadWide_k60
def t_FnDyadWide_k63 : Kn := (t_FnDyadWide_c15, false) :: t_FnDyadWide_k60
theorem t_FnDyadWide_r64 : runFn (drawn XD1) t_FnDyadWide_k62 200 4 [.cv (.one (.opq 0))] = .ok (.cv (.one (.bool (.and (.cmp .eq (.bin .ford .u64 (.app 112 0 (.cons (.app 1002 0 (.cons (.lit 0) .nil)) (.cons (.app 1002 1 (.cons (.lit 0) .nil)) (.cons (.app 1002 2 (.cons (.lit 0) .nil)) .nil)))) (.bin .fcv .u32 (.bin .fcv .u64 (.app 112 0 (.cons (.app 1002 0 (.cons (.lit 0) .nil)) (.cons (.app 1002 1 (.cons (.lit 0) .nil)) (.cons (.app 1002 2 (.cons (.lit 0) .nil)) .nil)))) (.lit 0)) (.lit 0))) (.lit 0)) (.cmp .eq (.bin .ford .u64 (.app 112 1 (.cons (.app 1002 0 (.cons (.lit 0) .nil)) (.cons (.app 1002 1 (.cons (.lit 0) .nil)) (.cons (.app 1002 2 (.cons (.lit 0) .nil)) .nil)))) (.bin .fcv .u32 (.bin .fcv .u64 (.app 112 1 (.cons (.app 1002 0 (.cons (.lit 0) .nil)) (.cons (.app 1002 1 (.cons (.lit 0) .nil)) (.cons (.app 1002 2 (.cons (.lit 0) .nil)) .nil)))) (.lit 0)) (.lit 0))) (.lit 0)))))) := by kernel_rfl
def t_FnDyadWide_k65 : Kn := (t_FnDyadWide_c11, true) :: t_FnDyadWide_k48
def t_FnDyadWide_k66 : Kn := (t_FnDyadWide_c11, false) :: t_FnDyadWide_k48
theorem t_FnDyadWide_r67 : runFn (drawn XD1) t_FnDyadWide_k65 200 4 [.cv (.one (.opq 0))] = .ok (.cv (.one (.bool (.lit true)))) := by kernel_rfl
def t_FnDyadWide_k68 : Kn := (t_FnDyadWide_c12, true) :: t_FnDyadWide_k66
def t_FnDyadWide_k69 : Kn := (t_FnDyadWide_c12, false) :: t_FnDyadWide_k66
def t_FnDyadWide_k70 : Kn := (t_FnDyadWide_c13, true) :: t_FnDyadWide_k68
def t_FnDyadWide_k71 : Kn := (t_FnDyadWide_c13, false) :: t_FnDyadWide_k68
def t_FnDyadWide_k72 : Kn := (t_FnDyadWide_c14, true) :: t_FnDyadWide_k70
def t_FnDyadWide_k73 : Kn := (t_FnDyadWide_c14, false) :: t_FnDyadWide_k70
def t_FnDyadWide_k74 : Kn := (t_FnDyadWide_c15, true) :: t_FnDyadWide_k72
def t_FnDyadWide_k75 : Kn := (t_FnDyadWide_c15, false) :: t_FnDyadWide_k72
theorem t_FnDyadWide_r76 : runFn (drawn XD1) t_FnDyadWide_k74 200 4 [.cv (.one (.opq 0))] = .ok (.cv (.one (.bool (.and (.cmp .eq (.bin .ford .u64 (.app 112 0 (.cons (.app 1002 0 (.cons (.lit 0) .nil)) (.cons (.app 1002 1 (.cons (.lit 0) .nil)) (.cons (.app 1002 2 (.cons (.lit 0) .nil)) .nil)))) (.bin .fcv .u32 (.bin .fcv .u64 (.app 112 0 (.cons (.app 1002 0 (.cons (.lit 0) .nil)) (.cons (.app 1002 1 (.cons (.lit 0) .nil)) (.cons (.app 1002 2 (.cons (.lit 0) .nil)) .nil)))) (.lit 0)) (.lit 0))) (.lit 0)) (.cmp .eq (.bin .ford .u64 (.app 112 1 (.cons (.app 1002 0 (.cons (.lit 0) .nil)) (.cons (.app 1002 1 (.cons (.lit 0) .nil)) (.cons (.app 1002 2 (.cons (.lit 0) .nil)) .nil)))) (.bin .fcv .u32 (.bin .fcv .u64 (.app 112 1 (.cons (.app 1002 0 (.cons (.lit 0) .nil)) (.cons (.app 1002 1 (.cons (.lit 0) .nil)) (.cons (.app 1002 2 (.cons (.lit 0) .nil)) .nil)))) (.lit 0)) (.lit 0))) (.lit 0)))))) := by kernel_rfl
theorem t_FnDyadWide_r77 : runFn (drawn XD1) t_FnDyadWide_k8 200 4 [.cv (.one (.opq 0))] = .ok (.cv (.one (.bool (.lit true)))) := by kernel_rfl
def t_FnDyadWide : Tree := (.node t_FnDyadWide_c0 (.leaf (.cv (.one (.bool (.lit true))))) (.node t_FnDyadWide_c1 (.node t_FnDyadWide_c2 (.node t_FnDyadWide_c3 (.node t_FnDyadWide_c4 (.node t_FnDyadWide_c5 (.node t_FnDyadWide_c6 (.node t_FnDyadWide_c7 (.node t_FnDyadWide_c8 (.node t_FnDyadWide_c9 (.node t_FnDyadWide_c10 (.node t_FnDyadWide_c11 (.leaf (.cv (.one (.bool (.lit true))))) (.node t_FnDyadWide_c12 (.node t_FnDyadWide_c13 (.node t_FnDyadWide_c14 (.node t_FnDyadWide_c15 (.leaf (.cv (.one (.bool (.and (.cmp .eq (.bin .ford .u64 (.app 112 0 (.cons (.app 1002 0 (.cons (.lit 0) .nil)) (.cons (.app 1002 1 (.cons (.lit 0) .nil)) (.cons (.app 1002 2 (.cons (.lit 0) .nil)) .nil)))) (.bin .fcv .u32 (.bin .fcv .u64 (.app 112 0 (.cons (.app 1002 0 (.cons (.lit 0) .nil)) (.cons (.app 1002 1 (.cons (.lit 0) .nil)) (.cons (.app 1002 2 (.cons (.lit 0) .nil)) .nil)))) (.lit 0)) (.lit 0))) (.lit 0)) (.cmp .eq (.bin .ford .u64 (.app 112 1 (.cons (.app 1002 0 (.cons (.lit 0) .nil)) (.cons (.app 1002 1 (.cons (.lit 0) .nil)) (.cons (.app 1002 2 (.cons (.lit 0) .nil)) .nil)))) (.bin .fcv .u32 (.bin .fcv .u64 (.app 112 1 (.cons (.app 1002 0 (.cons (.lit 0) .nil)) (.cons (.app 1002 1 (.cons (.lit 0) .nil)) (.cons (.app 1002 2 (.cons (.lit 0) .nil)) .nil)))) (.lit 0)) (.lit 0))) (.lit 0))))))) (.dead 9)) (.dead 9)) (.dead 9)) (.dead 9))) (.dead 7)) (.dead 9)) (.node t_FnDyadWide_c11 (.leaf (.cv (.one (.bool (.lit true))))) (.node t_FnDyadWide_c12 (.node t_FnDyadWide_c13 (.node t_FnDyadWide_c14 (.node t_FnDyadWide_c15 (.leaf (.cv (.one (.bool (.and (.cmp .eq (.bin .ford .u64 (.app 112 0 (.cons (.app 1002 0 (.cons (.lit 0) .nil)) (.cons (.app 1002 1 (.cons (.lit 0) .nil)) (.cons (.app 1002 2 (.cons (.lit 0) .nil)) .nil)))) (.bin .fcv .u32 (.bin .fcv .u64 (.app 112 0 (.cons (.app 1002 0 (.cons (.lit 0) .nil)) (.cons (.app 1002 1 (.cons (.lit 0) .nil)) (.cons (.app 1002 2 (.cons (.lit 0) .nil)) .nil)))) (.lit 0)) (.lit 0))) (.lit 0)) (.cmp .eq (.bin .ford .u64 (.app 112 1 (.cons (.app 1002 0 (.cons (.lit 0) .nil)) (.cons (.app 1002 1 (.cons (.lit 0) .nil)) (.cons (.app 1002 2 (.cons (.lit 0) .nil)) .nil)))) (.bin .fcv .u32 (.bin .fcv .u64 (.app 112 1 (.cons (.app 1002 0 (.cons (.lit 0) .nil)) (.cons (.app 1002 1 (.cons (.lit 0) .nil)) (.cons (.app 1002 2 (.cons (.lit 0) .nil)) .nil)))) (.lit 0)) (.lit 0))) (.lit 0))))))) (.dead 9)) (.dead 9)) (.dead 9)) (.dead 9)))) (.dead 7)) (.dead 9)) (.node t_FnDyadWide_c8 (.node t_FnDyadWide_c9 (.node t_FnDyadWide_c10 (.node t_FnDyadWide_c11 (.leaf (.cv (.one (.bool (.lit true))))) (.node t_FnDyadWide_c12 (.node t_FnDyadWide_c13 (.node t_FnDyadWide_c14 (.node t_FnDyadWide_c15 (.leaf (.cv (.one (.bool (.and (.cmp .eq (.bin .ford .u64 (.app 112 0 (.cons (.app 1002 0 (.cons (.lit 0) .nil)) (.cons (.app 1002 1 (.cons (.lit 0) .nil)) (.cons (.app 1002 2 (.cons (.lit 0) .nil)) .nil)))) (.bin .fcv .u32 (.bin .fcv .u64 (.app 112 0 (.cons (.app 1002 0 (.cons (.lit 0) .nil)) (.cons (.app 1002 1 (.cons (.lit 0) .nil)) (.cons (.app 1002 2 (.cons (.lit 0) .nil)) .nil)))) (.lit 0)) (.lit 0))) (.lit 0)) (.cmp .eq (.bin .ford .u64 (.app 112 1 (.cons (.app 1002 0 (.cons (.lit 0) .nil)) (.cons (.app 1002 1 (.cons (.lit 0) .nil)) (.cons (.app 1002 2 (.cons (.lit 0) .nil)) .nil)))) (.bin .fcv .u32 (.bin .fcv .u64 (.app 112 1 (.cons (.app 1002 0 (.cons (.lit 0) .nil)) (.cons (.app 1002 1 (.cons (.lit 0) .nil)) (.cons (.app 1002 2 (.cons (.lit 0) .nil)) .nil)))) (.lit 0)) (.lit 0))) (.lit 0))))))) (.dead 9)) (.dead 9)) (.dead 9)) (.dead 9))) (.dead 7)) (.dead 9)) (.node t_FnDyadWide_c11 (.leaf (.cv (.one (.bool (.lit true))))) (.node t_FnDyadWide_c12 (.node t_FnDyadWide_c13 (.node t_FnDyadWide_c14 (.node t_FnDyadWide_c15 (.leaf (.cv (.one (.bool (.and (.cmp .eq (.bin .ford .u64 (.app 112 0 (.cons (.app 1002 0 (.cons (.lit 0) .nil)) (.cons (.app 1002 1 (.cons (.lit 0) .nil)) (.cons (.app 1002 2 (.cons (.lit 0) .nil)) .nil)))) (.bin .fcv .u32 (.bin .fcv .u64 (.app 112 0 (.cons (.app 1002 0 (.cons (.lit 0) .nil)) (.cons (.app 1002 1 (.cons (.lit 0) .nil)) (.cons (.app 1002 2 (.cons (.lit 0) .nil)) .nil)))) (.lit 0)) (.lit 0))) (.lit 0)) (.cmp .eq (.bin .ford .u64 (.app 112 1 (.cons (.app 1002 0 (.cons (.lit 0) .nil)) (.cons (.app 1002 1 (.cons (.lit 0) .nil)) (.cons (.app 1002 2 (.cons (.lit 0) .nil)) .nil)))) (.bin .fcv .u32 (.bin .fcv .u64 (.app 112 1 (.cons (.app 1002 0 (.cons (.lit 0) .nil)) (.cons (.app 1002 1 (.cons (.lit 0) .nil)) (.cons (.app 1002 2 (.cons (.lit 0) .nil)) .nil)))) (.lit 0)) (.lit 0))) (.lit 0))))))) (.dead 9)) (.dead 9)) (.dead 9)) (.dead 9))))) (.dead 47)) (.leaf (.cv (.one (.bool (.lit true)))))) (.dead 47)) (.dead 47)))
theorem t_FnDyadWide_runs : Runs (drawn XD1) 200 4 [.cv (.one (.opq 0))] t_FnDyadWide [] := ⟨t_FnDyadWide_r2, ⟨⟨⟨⟨⟨⟨⟨⟨⟨⟨⟨t_FnDyadWide_r25, ⟨⟨⟨⟨t_FnDyadWide_r34, trivial⟩, trivial⟩, trivial⟩, trivial⟩⟩, trivial⟩, trivial⟩, ⟨t_FnDyadWide_r37, ⟨⟨⟨⟨t_FnDyadWide_r46, trivial⟩, trivial⟩, trivial⟩, trivial⟩⟩⟩, trivial⟩, trivial⟩, ⟨⟨⟨⟨t_FnDyadWide_r55, ⟨⟨⟨⟨t_FnDyadWide_r64, trivial⟩, trivial⟩, trivial⟩, trivial⟩⟩, trivial⟩, trivial⟩, ⟨t_FnDyadWide_r67, ⟨⟨⟨⟨t_FnDyadWide_r76, trivial⟩, trivial⟩, trivial⟩, trivial⟩⟩⟩⟩, trivial⟩, t_FnDyadWide_r77⟩, trivial⟩, trivial⟩⟩
theorem fnDyadWide_walk (v : Value) (w : World) (hv : BytesOk w w.heap.size v) (hT : Tb w) : Calls Tryd.prog 4 #[v] w (Gives (.bool true) w) := by
  refine dlawRW (X := XD1) rfl (fun pv E h1 h2 => XD1_ok w hT E h1 h2) (fuel := 200) (L := 4) t_FnDyadWide_runs (fun pv p len cap hpv => ?_) v hv
  clear hv
  simp only [t_FnDyadWide, t_FnDyadWide_c0, t_FnDyadWide_c1, t_FnDyadWide_c2, t_FnDyadWide_c3, t_FnDyadWide_c4, t_FnDyadWide_c5, t_FnDyadWide_c6, t_FnDyadWide_c7, t_FnDyadWide_c8, t_FnDyadWide_c9, t_FnDyadWide_c10, t_FnDyadWide_c11, t_FnDyadWide_c12, t_FnDyadWide_c13, t_FnDyadWide_c14, t_FnDyadWide_c15, Tree.den, SVal.den, CV.den, At.den, SE.den, SB.den, SL.den, IOp.den, COp.den, envD, List.map_cons, List.map_nil, List.getD_cons_zero, List.getD_cons_succ, ↓reduceIte, show ∀ q, FI pv 1001 0 [q] = bxA pv q from fun _ => rfl, show ∀ q, FI pv 1001 1 [q] = bxB pv q from fun _ => rfl, show ∀ q, FI pv 1001 2 [q] = bxC pv q from fun _ => rfl, show ∀ q, FI pv 1001 3 [q] = bxD pv q from fun _ => rfl, show ∀ q, FI pv 1001 100 [q] = bxP pv q from fun _ => rfl, show ∀ q, FI pv 1002 0 [q] = dyR pv q from fun _ => rfl, show ∀ q, FI pv 1002 1 [q] = dyI pv q from fun _ => rfl, show ∀ q, FI pv 1002 2 [q] = dyS pv q from fun _ => rfl, show ∀ q, FI pv 1002 100 [q] = q + 4 from fun _ => rfl, show ∀ q n, FI pv 1000 0 [q, n] = pv q n from fun _ _ => rfl, show ∀ q, FI pv 1000 100 [q] = q + 1 from fun _ => rfl]
  generalize dyR pv 0 = r
  generalize dyI pv 0 = i
  generalize dyS pv 0 = s
  obtain ⟨u1, u2⟩ := b112_self (pv := pv) r i s
  rw [u1, u2]
  cases hd : DV r i s
  · have q1 : FB 3 0 [r, i, s] = false := hd
    rw [q1]; simp
  · have q1 : FB 3 0 [r, i, s] = true := hd
    have q2 : FI pv 93 0 [r, i, s] = max (BT r) (BT i) := by rw [f93, if_pos hd]
    obtain ⟨h1, h2, h3⟩ := dv_rngF hd
    rw [q1, b114_dw, q2, f112a hd, f112b hd, show (fkOf IntKind.u64).format = Ieee.double from rfl, show Int.toNat 0 = 0 from rfl, show Int.toNat 4607182418800017408 = 4607182418800017408 from rfl, show fkOf IntKind.u64 = .f64 from rfl, show fkOf IntKind.u32 = .f32 from rfl]
    have z1 := zero_or (n := r) (s := s) (by omega) h3
    have z2 := zero_or (n := i) (s := s) (by omega) h3
    by_cases hb : 24 < max (BT r) (BT i)
    · rw [decide_eq_true hb]
      rcases z1 with ⟨a1, a2, a3⟩ | a1 <;> rcases z2 with ⟨b1, b2, b3⟩ | b1 <;> simp [*]
    · obtain ⟨x1, y1, c1, c2, c3⟩ := fits_dw (n := r) (s := s) (by omega) h3 (by omega)
      obtain ⟨x2, y2, d1, d2, d3⟩ := fits_dw (n := i) (s := s) (by omega) h3 (by omega)
      rw [decide_eq_false hb, c1, d1, show (oInt (some x1)).toNat = x1 from rfl, show (oInt (some x2)).toNat = x2 from rfl, c2, d2, show (oInt (some y1)).toNat = y1 from rfl, show (oInt (some y2)).toNat = y2 from rfl, c3, d3]
      have o : ∀ x : Nat, decide (0 ≤ oInt (some x)) = true := fun x => decide_eq_true (by show (0 : Int) ≤ (x : Int); omega)
      rw [o, o, o, o]
      rcases z1 with ⟨a1, a2, a3⟩ | a1 <;> rcases z2 with ⟨b1, b2, b3⟩ | b1 <;> simp [*]
theorem fnDyadWide_laid (os : Os) : laidMet Tryd.prog Rows.fnDyadWideRow.laid ((laidWorld os).forCall (fun _ _ => 0) ⟨#[], #[.slice none 0 0], []⟩).memory := laidMet_of_run' 8 (by kernel_rfl) (by kernel_rfl)
theorem fnDyadWide_reads (os : Os) {H : Type} (enc : TypeId × Value → H) : ∃ places, DataW.whole enc Tryd.prog ((laidWorld os).forCall (fun _ _ => 0) ⟨#[], #[.slice none 0 0], []⟩).memory Tryd.f4.params.toList Rows.fnDyadWideSpec.vars false #[Value.slice none 0 0].toList 8 = some ([.nil], [], places) := ⟨[], by kernel_rfl⟩
set_option maxRecDepth 100000 in
theorem fnDyadWide_lifted (os : Os) (started : os.Started) (H : Type) (enc : TypeId × Value → H) (F : Stop.Interp) :
    ReturnsInHanded {} Tryd.checked os 4 .any ((OpenSpec.ofChange Rows.fnDyadWideSpec).preRow enc Tryd.prog Tryd.f4 Rows.fnDyadWideRow.domain false Rows.fnDyadWideRow.laid) (((OpenSpec.ofChange Rows.fnDyadWideSpec).at F).post enc Tryd.prog Tryd.f4 false true false false) := by
  obtain ⟨places, hx⟩ := fnDyadWide_reads os enc
  refine returnsInHanded_of_row (C := Tryd.checked) (s := OpenSpec.ofChange Rows.fnDyadWideSpec) Tryd.own started (by kernel_rfl) Tryd.func4
    (witness_row_at (enc := enc) (C := Tryd.checked) false (laidWorld os) #[.slice none 0 0] rfl (by kernel_rfl) (by kernel_rfl) (by kernel_rfl)
      (OpenSpec.preRow_of_cond 8 hx (by kernel_rfl) (fun k hk => by cases hk) (by kernel_rfl) (fnDyadWide_laid os))) ?_
  intro W base args ds gs before hval0 hW _ _ _ hL _ _
  have hT : Tb W := tb_of hL
  have hval : ∀ (j : Nat) t v, Tryd.f4.params[j]? = some t → args[j]? = some v → Value.okWide Tryd.prog W .any base t v := hval0
  have hW' := hW
  obtain ⟨p, q, hA0, hV, rfl, hfz, hnd⟩ := hW
  have hA : DataW.TrodAll enc Tryd.prog W 0 (fun _ => true) true Tryd.f4.params.toList args.toList ds p := hA0
  rw [Tryd.params4] at hA hval
  obtain ⟨v0, vs0, d0, ds0, p0, q0, hargs, rfl, rfl, h0, r0⟩ := trodAll_cons hA
  obtain ⟨rfl, rfl, rfl⟩ := trodAll_nil r0
  obtain rfl : args = #[v0] := by cases args; simp_all
  obtain ⟨rfl, rfl⟩ := trodVars_none hV
  have k0 := h0
  have lt0 : ∀ x ∈ p0, x.block < W.heap.size := by obtain ⟨m, hm⟩ := k0; exact DataW.trod_lt m _ _ _ hm
  obtain ⟨a0, len0, cap0, rfl⟩ := okWide_slice Tryd.underlying22 (hval 0 22 v0 rfl rfl)
  have hb0 : BytesOk W W.heap.size (.slice a0 len0 cap0) := by
    obtain ⟨fuel, hf⟩ := h0
    exact bytes_of_ints (open_ints Tryd.underlying22 Tryd.underlying5 (by kernel_rfl) hf)
  clear hA0 hval0
  refine (fnDyadWide_walk (.slice a0 len0 cap0) W hb0 hT).mono fun e W' ⟨he, bel⟩ => ?_
  subst he
  exact ⟨_, rfl, _, _, _, [], _, [], hW', trodAll_mk1 (shut_bool Tryd.underlying4 _), (trodAll_cons_mk (Below.trod Tryd.laidOut (by kernel_rfl) (of_decide_eq_true (by kernel_rfl)) k0 bel lt0) trodAll_mk0), rfl, bel.frame _, fun h => by cases h⟩

theorem fnDyadWide_holds : Rows.FnDyadWideSaid :=
  OpenClaim.holds_of_cond 4 Tryd.f4 rfl rfl rfl rfl rfl rfl rfl ⟨rfl, rfl, rfl, rfl, rfl⟩ rfl rfl rfl rfl rfl (by kernel_rfl) Tryd.func4 (by kernel_rfl)
    (of_decide_eq_true (by kernel_rfl)) (by unfold Func.isWrapper; first | (rw [if_pos (by decide +kernel)]; kernel_rfl) | (rw [if_neg (by decide +kernel)]; exact ⟨rfl, rfl⟩))
    (fun os started H enc _ F => by rw [OpenClaim.pre_eq_preRow]; exact fnDyadWide_lifted os started H enc F)
theorem fnDyadWide_plain (f : FuncId) (fn : Func) (hf : Tryd.pinned.checked.prog.funcNamed Rows.fnDyadWideRow.func = some f) (hfn : Tryd.pinned.checked.prog.funcs[f]? = some fn) :
    false = Tryd.pinned.checked.prog.looks [] ∧ ∀ (j : Nat) t, fn.params[j]? = some t → Tryd.pinned.checked.prog.wantsStandIn t = false := by
  obtain rfl : f = 4 := Option.some.inj ((show Tryd.prog.funcNamed Rows.fnDyadWideRow.func = some 4 by kernel_rfl).symm.trans hf) |>.symm
  obtain rfl : fn = Tryd.f4 := (Option.some.inj (Tryd.func4.symm.trans hfn)).symm
  refine ⟨by kernel_rfl, fun j t ht => ?_⟩
  rw [Tryd.params4] at ht
  have hm : t ∈ [22] := by simpa using Array.mem_of_getElem? ht
  have hall : ([22].all fun u => !Tryd.prog.wantsStandIn u) = true := by kernel_rfl
  exact (show Tryd.prog.wantsStandIn t = false by simpa using List.all_eq_true.1 hall t hm)
/-- The card. -/
theorem fnDyadWide_card : Rows.FnDyadWideCardSaid :=
  Claim7.holds_tied_plain_at .later [] _ _ _ _ fnDyadWide_holds (fun _ h => by cases h) (by kernel_rfl) (fun _ h => by cases h) fnDyadWide_row_tie rfl ⟨rfl, rfl⟩ (by kernel_rfl) rfl fnDyadWide_plain (by kernel_rfl)
end Go.Proofs.YtgnkjfafgcbpbaaDoor
