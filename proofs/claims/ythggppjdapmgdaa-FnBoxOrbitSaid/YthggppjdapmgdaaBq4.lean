/- The law FnBoxOrbit: its ways. -/
import Derived.Test.YthggppjdapmgdaaBq3
namespace Go.Proofs.Ythggppjdapmgdaa
set_option linter.unusedSimpArgs false
set_option linter.unusedVariables false
open Go.RowKit Eng
def t_FnBoxOrbit_c0 : SB := (.cmp .lt (.lit 1048576) (.var 0))
def t_FnBoxOrbit_k0 : Kn := (t_FnBoxOrbit_c0, true) :: []
def t_FnBoxOrbit_k1 : Kn := (t_FnBoxOrbit_c0, false) :: []
theorem t_FnBoxOrbit_r2 : runFn (drawn XQ2) t_FnBoxOrbit_k0 300 9 [.cv (.one (.opq 0))] = .ok (.cv (.one (.bool (.lit true)))) := by kernel_rfl
def t_FnBoxOrbit_c1 : SB := (.cmp .le (.app 56 0 (.cons (.app 1001 0 (.cons (.lit 0) .nil)) (.cons (.app 1001 1 (.cons (.lit 0) .nil)) (.cons (.app 1001 2 (.cons (.lit 0) .nil)) (.cons (.app 1001 3 (.cons (.lit 0) .nil)) (.cons (.wrap .i64 (.bin .sub .i64 (.app 1000 0 (.cons (.app 1001 100 (.cons (.lit 0) .nil)) (.cons (.lit 20) .nil))) (.wrap .i64 (.bin .mul .i64 (.wrap .i64 (.bin .tdiv .i64 (.app 1000 0 (.cons (.app 1000 100 (.cons (.app 1001 100 (.cons (.lit 0) .nil)) .nil)) (.cons (.lit 20) .nil))) (.lit 19))) (.lit 21))))) .nil)))))) (.lit 400000))
def t_FnBoxOrbit_k3 : Kn := (t_FnBoxOrbit_c1, true) :: t_FnBoxOrbit_k1
def t_FnBoxOrbit_k4 : Kn := (t_FnBoxOrbit_c1, false) :: t_FnBoxOrbit_k1
def t_FnBoxOrbit_c2 : SB := (.app 56 0 (.cons (.app 1001 0 (.cons (.lit 0) .nil)) (.cons (.app 1001 1 (.cons (.lit 0) .nil)) (.cons (.app 1001 2 (.cons (.lit 0) .nil)) (.cons (.app 1001 3 (.cons (.lit 0) .nil)) (.cons (.wrap .i64 (.bin .sub .i64 (.app 1000 0 (.cons (.app 1001 100 (.cons (.lit 0) .nil)) (.cons (.lit 20) .nil))) (.wrap .i64 (.bin .mul .i64 (.wrap .i64 (.bin .tdiv .i64 (.app 1000 0 (.cons (.app 1000 100 (.cons (.app 1001 100 (.cons (.lit 0) .nil)) .nil)) (.cons (.lit 20) .nil))) (.lit 19))) (.lit 21))))) .nil))))))
def t_FnBoxOrbit_k5 : Kn := (t_FnBoxOrbit_c2, true) :: t_FnBoxOrbit_k3
def t_FnBoxOrbit_k6 : Kn := (t_FnBoxOrbit_c2, false) :: t_FnBoxOrbit_k3
def t_FnBoxOrbit_c3 : SB := (.app 2 0 (.cons (.app 1001 0 (.cons (.lit 0) .nil)) (.cons (.app 1001 1 (.cons (.lit 0) .nil)) (.cons (.app 1001 2 (.cons (.lit 0) .nil)) (.cons (.app 1001 3 (.cons (.lit 0) .nil)) .nil)))))
def t_FnBoxOrbit_k7 : Kn := (t_FnBoxOrbit_c3, true) :: t_FnBoxOrbit_k5
def t_FnBoxOrbit_k8 : Kn := (t_FnBoxOrbit_c3, false) :: t_FnBoxOrbit_k5
theorem t_FnBoxOrbit_r9 : runFn (drawn XQ2) t_FnBoxOrbit_k7 300 9 [.cv (.one (.opq 0))] = .ok (.cv (.one (.bool (.cmp .le (.bin .imax .i64 (.app 56 0 (.cons (.app 1001 0 (.cons (.lit 0) .nil)) (.cons (.app 1001 1 (.cons (.lit 0) .nil)) (.cons (.app 1001 2 (.cons (.lit 0) .nil)) (.cons (.app 1001 3 (.cons (.lit 0) .nil)) (.cons (.wrap .i64 (.bin .sub .i64 (.app 1000 0 (.cons (.app 1001 100 (.cons (.lit 0) .nil)) (.cons (.lit 20) .nil))) (.wrap .i64 (.bin .mul .i64 (.wrap .i64 (.bin .tdiv .i64 (.app 1000 0 (.cons (.app 1000 100 (.cons (.app 1001 100 (.cons (.lit 0) .nil)) .nil)) (.cons (.lit 20) .nil))) (.lit 19))) (.lit 21))))) .nil)))))) (.lit 0)) (.wrap .i64 (.bin .sub .i64 (.app 1000 0 (.cons (.app 1001 100 (.cons (.lit 0) .nil)) (.cons (.lit 20) .nil))) (.wrap .i64 (.bin .mul .i64 (.wrap .i64 (.bin .tdiv .i64 (.app 1000 0 (.cons (.app 1000 100 (.cons (.app 1001 100 (.cons (.lit 0) .nil)) .nil)) (.cons (.lit 20) .nil))) (.lit 19))) (.lit 21))))))))) := by kernel_rfl
theorem t_FnBoxOrbit_r10 : runFn (drawn XQ2) t_FnBoxOrbit_k6 300 9 [.cv (.one (.opq 0))] = .ok (.cv (.one (.bool (.lit true)))) := by kernel_rfl
def t_FnBoxOrbit : Tree := (.node t_FnBoxOrbit_c0 (.leaf (.cv (.one (.bool (.lit true))))) (.node t_FnBoxOrbit_c1 (.node t_FnBoxOrbit_c2 (.node t_FnBoxOrbit_c3 (.leaf (.cv (.one (.bool (.cmp .le (.bin .imax .i64 (.app 56 0 (.cons (.app 1001 0 (.cons (.lit 0) .nil)) (.cons (.app 1001 1 (.cons (.lit 0) .nil)) (.cons (.app 1001 2 (.cons (.lit 0) .nil)) (.cons (.app 1001 3 (.cons (.lit 0) .nil)) (.cons (.wrap .i64 (.bin .sub .i64 (.app 1000 0 (.cons (.app 1001 100 (.cons (.lit 0) .nil)) (.cons (.lit 20) .nil))) (.wrap .i64 (.bin .mul .i64 (.wrap .i64 (.bin .tdiv .i64 (.app 1000 0 (.cons (.app 1000 100 (.cons (.app 1001 100 (.cons (.lit 0) .nil)) .nil)) (.cons (.lit 20) .nil))) (.lit 19))) (.lit 21))))) .nil)))))) (.lit 0)) (.wrap .i64 (.bin .sub .i64 (.app 1000 0 (.cons (.app 1001 100 (.cons (.lit 0) .nil)) (.cons (.lit 20) .nil))) (.wrap .i64 (.bin .mul .i64 (.wrap .i64 (.bin .tdiv .i64 (.app 1000 0 (.cons (.app 1000 100 (.cons (.app 1001 100 (.cons (.lit 0) .nil)) .nil)) (.cons (.lit 20) .nil))) (.lit 19))) (.lit 21)))))))))) (.dead 47)) (.leaf (.cv (.one (.bool (.lit true)))))) (.dead 92)))
theorem t_FnBoxOrbit_runs : Runs (drawn XQ2) 300 9 [.cv (.one (.opq 0))] t_FnBoxOrbit [] := ⟨t_FnBoxOrbit_r2, ⟨⟨⟨t_FnBoxOrbit_r9, trivial⟩, t_FnBoxOrbit_r10⟩, trivial⟩⟩
end Go.Proofs.Ythggppjdapmgdaa
