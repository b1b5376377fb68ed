/- Cutting deeper: the contracts of the functions that count into a block, and their contexts. -/
import Derived.Test.YthggppjdapmgdaaWt
import Derived.Test.YthggppjdapmgdaaEs6
namespace Go.Proofs.Ythggppjdapmgdaa
set_option linter.unusedSimpArgs false
set_option linter.unusedVariables false
variable {pv : Int → Int → Int}
open Go.RowKit Eng
theorem xokW {G : List CEnt} {en : List Nat} {W : List WEnt} (hG : ∀ e ∈ G, ∀ w : World, e.ok Try.prog w (FI pv) FB) (hen : ∀ f ∈ en, Enters Try.prog f) (hW : ∀ e ∈ W, e.ok Try.prog (FI pv) FB) (w : Wb) (E : Env) (hi : E.fi = FI pv) (hb : E.fb = FB) : XOk { P := Try.prog, G := G, en := en, call := nil0, W := W } w E :=
  { g := (fun e he => by rw [hi, hb]; exact CEnt.any (hG e he) w), en := hen, call := (fun _ _ _ _ _ h => by cases h), l := (fun _ h => by cases h), d := (fun _ _ h => by cases h), w := (fun e he => by rw [hi, hb]; exact hW e he) }
/-- How deep at most. -/
def dpN : SE := .app 1000 0 (.cons (.lit 0) (.cons (.lit 0) .nil))
def dpBox : SL := SL.of ((List.range 6).map fun i => .var (i + 3))
def dpOut : List SE := (List.range 3).map fun j => .app 87 0 (.cons (.var j) (.cons (.app 86 j dpBox) .nil))
def dpPre (o : COp) : SB := ands [.app 2 0 (SL.of ((List.range 4).map fun i => .var (i + 3))), qLe (.lit 0) (vv 8), .cmp o (vv 8) dpN]
def wI (o : COp) : WEnt := ⟨92, 0, false, [4, 0, 0], 106, 3, 0, some (dpPre o), dpOut⟩
def wS (o : COp) : WEnt := ⟨91, 3, true, [4, 0, 0], 3, 3, 1, some (dpPre o), dpOut⟩
def GD : List CEnt := [e_iCellState, e_sCellState] ++ GE4
theorem GD_ok : ∀ e ∈ GD, ∀ w : World, e.ok Try.prog w (FI pv) FB := by
  intro e he w
  rcases List.mem_append.1 he with he | he
  case inr => exact GE4_ok e he w
  simp only [List.mem_cons, List.not_mem_nil, or_false] at he
  rcases he with rfl | rfl
  · exact ok_iCellState w
  · exact ok_sCellState w
def enDp : List Nat := [21, 22]
theorem enDp_21 : Enters Try.prog 21 := enters_of Try.func21 rfl (by kernel_rfl)
theorem enDp_22 : Enters Try.prog 22 := enters_of Try.func22 rfl (by kernel_rfl)
theorem enDp_ok : ∀ f ∈ enDp, Enters Try.prog f := by
  intro f hf
  simp only [enDp, List.mem_cons, List.not_mem_nil, or_false] at hf
  rcases hf with rfl | rfl
  · exact enDp_21
  · exact enDp_22
def XDpIc (P : Program) : Cx := { P := P, G := GD, en := enDp, call := nil0, W := [wI .lt] }
noncomputable def XDpI : Cx := XDpIc Try.prog
def XDpSc (P : Program) : Cx := { P := P, G := GD, en := enDp, call := nil0, W := [wS .lt] }
noncomputable def XDpS : Cx := XDpSc Try.prog
end Go.Proofs.Ythggppjdapmgdaa
