/- The context of the law of states of drawn numbers. -/
import Derived.Test.YthggppjdapmgdaaEs7
import Derived.Test.YthggppjdapmgdaaEb0
namespace Go.Proofs.Ythggppjdapmgdaa
set_option linter.unusedSimpArgs false
set_option linter.unusedVariables false
variable {pv : Int → Int → Int}
open Go.RowKit Eng
/-- Whether there is a state, as one sign. -/
def dst8 : SB := .app 8 0 (SL.of [.app 37 0 (SL.of [.var 0, .var 2]), .app 37 1 (SL.of [.var 0, .var 2]), .app 37 0 (SL.of [.var 1, .var 2]), .app 37 1 (SL.of [.var 1, .var 2]), .var 0, .var 1, .var 2])
def e_iDs8 : CEnt := ⟨16, [3, 0], none, .tup [.one (ai (.app 53 0 (vs 4))), .one (.bool dst8)]⟩
def e_sDs8 : CEnt := ⟨17, [3, 0], none, .tup [.one (ai (.app 53 0 (vs 4))), .one (.bool dst8)]⟩
theorem dst8_eq (r i s : Int) : BH (FLq r s) (CEq r s) (FLq i s) (CEq i s) r i s = (DV r i s && BV (FLq r s) (CEq r s) (FLq i s) (CEq i s)) := by
  unfold BH
  rw [(SW_iff _ _ _ _).2 ⟨Int.le_refl _, Int.le_refl _⟩, (SW_iff _ _ _ _).2 ⟨Int.le_refl _, Int.le_refl _⟩, Bool.and_true, Bool.and_true, Bool.and_comm]
theorem len4d {zs : List Int} (h : zs.length = 4) : ∃ a b c d, zs = [a, b, c, d] := by
  match zs, h with
  | [a, b, c, d], _ => exact ⟨a, b, c, d, rfl⟩
theorem ok_iDs8 (w : World) : e_iDs8.ok Try.prog w (FI pv) FB := by
  refine ⟨(ok_iDyadState (pv := pv) w).1, fun zs hz hp w' hb => ?_⟩
  have h := (ok_iDyadState (pv := pv) w).2 zs hz hp w' hb
  obtain ⟨a, b, c, d, rfl⟩ := len4d hz
  have e : e_iDs8.out.den (envOf [a, b, c, d] (FI pv) FB) Pl.no = e_iDyadState.out.den (envOf [a, b, c, d] (FI pv) FB) Pl.no := by
    show Value.tuple #[.int .i64 (FI pv 53 0 [a, b, c, d]), .bool (BH (FLq a c) (CEq a c) (FLq b c) (CEq b c) a b c)] = Value.tuple #[.int .i64 (FI pv 53 0 [a, b, c, d]), .bool (DV a b c && BV (FLq a c) (CEq a c) (FLq b c) (CEq b c))]
    rw [dst8_eq]
  rw [e]; exact h
theorem ok_sDs8 (w : World) : e_sDs8.ok Try.prog w (FI pv) FB := by
  refine ⟨(ok_sDyadState (pv := pv) w).1, fun zs hz hp w' hb => ?_⟩
  have h := (ok_sDyadState (pv := pv) w).2 zs hz hp w' hb
  obtain ⟨a, b, c, d, rfl⟩ := len4d hz
  have e : e_sDs8.out.den (envOf [a, b, c, d] (FI pv) FB) Pl.no = e_sDyadState.out.den (envOf [a, b, c, d] (FI pv) FB) Pl.no := by
    show Value.tuple #[.int .i64 (FI pv 53 0 [a, b, c, d]), .bool (BH (FLq a c) (CEq a c) (FLq b c) (CEq b c) a b c)] = Value.tuple #[.int .i64 (FI pv 53 0 [a, b, c, d]), .bool (DV a b c && BV (FLq a c) (CEq a c) (FLq b c) (CEq b c))]
    rw [dst8_eq]
  rw [e]; exact h
def GD : List CEnt := [e_iDs8, e_sDs8, e_iNrm] ++ G5
theorem GD_ok : ∀ e ∈ GD, ∀ w, e.ok Try.prog w (FI pv) FB := by
  intro e he w
  rcases List.mem_append.1 he with he | he
  case inr => exact G5_ok e he w
  simp only [List.mem_cons, List.not_mem_nil, or_false] at he
  rcases he with rfl | rfl | rfl
  · exact ok_iDs8 w
  · exact ok_sDs8 w
  · exact ok_iNrm w
def RD1 : List REnt := [r_iOrb]
theorem RD1_ok : ∀ e ∈ RD1, ∀ w, e.ok Try.prog w (FI pv) FB := by
  intro e he w
  simp only [RD1, List.mem_cons, List.not_mem_nil, or_false] at he
  rcases he with rfl
  · exact rok_iOrb w
def LD0 : List LEnt := []
theorem LD0_ok : ∀ e ∈ LD0, ∀ w, e.ok Try.prog w (FI pv) FB := by
  intro e he w
  simp only [LD0, List.mem_cons, List.not_mem_nil, or_false] at he
def enDs : List Nat := [56, 78, 15, 55]
theorem enDs_56 : Enters Try.prog 56 := enters_of Try.func56 rfl (by kernel_rfl)
theorem enDs_78 : Enters Try.prog 78 := enters_of Try.func78 rfl (by kernel_rfl)
theorem enDs_15 : Enters Try.prog 15 := enters_of Try.func15 rfl (by kernel_rfl)
theorem enDs_55 : Enters Try.prog 55 := enters_of Try.func55 rfl (by kernel_rfl)
theorem enDs_ok : ∀ f ∈ enDs, Enters Try.prog f := by
  intro f hf
  simp only [enDs, List.mem_cons, List.not_mem_nil, or_false] at hf
  rcases hf with rfl | rfl | rfl | rfl
  · exact enDs_56
  · exact enDs_78
  · exact enDs_15
  · exact enDs_55
def XD0c (P : Program) : Cx := { P := P, G := GD, en := enDs, call := nil0, L := LD0, R := RD1 }
noncomputable def XD0 : Cx := XD0c Try.prog
theorem XD0_ok (w : World) (E : Env) (hi : E.fi = FI pv) (hb : E.fb = FB) : XOk XD0 w E := xokR GD_ok enDs_ok LD0_ok RD1_ok w E hi hb
end Go.Proofs.Ythggppjdapmgdaa
