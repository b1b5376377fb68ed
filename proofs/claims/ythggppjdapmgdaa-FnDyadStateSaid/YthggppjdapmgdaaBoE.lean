/- DyadMake's contract, and the context of laws on numbers in boxes. -/
import Derived.Test.YthggppjdapmgdaaBoG
import Derived.Test.YthggppjdapmgdaaMDy
namespace Go.Proofs.Ythggppjdapmgdaa
set_option linter.unusedSimpArgs false
set_option linter.unusedVariables false
variable {pv : Int → Int → Int}
open Go.RowKit Eng
/-- DyadMake, asked only where it gives a number. -/
def e_iMake : CEnt := ⟨68, [0, 0, 0], some (.app 4 0 (vs 3)), .tup [og (oapps 4 3 (vs 3)), .one (.bool (.lit true))]⟩
theorem ok_iMake (w : World) : e_iMake.ok Try.prog w (FI pv) FB := by
  refine ⟨enters_of Try.func68 rfl (by kernel_rfl), fun zs hz hp w' hb => ?_⟩
  obtain ⟨r, i, s, rfl⟩ := len3 hz
  replace hp : MK r i s = true := hp _ rfl
  refine (impl_DyadMake_yes r i s w' hp).mono fun e w'' hg => ?_
  have e0 : (FI pv) 4 0 [r, i, s] = lR r i s := if_pos hp
  have e1 : (FI pv) 4 1 [r, i, s] = lI r i s := if_pos hp
  have e2 : (FI pv) 4 2 [r, i, s] = lS r i s := if_pos hp
  rw [← e0, ← e1, ← e2] at hg
  exact hg
def G4 : List CEnt := [e_iMake] ++ G3
theorem G4_ok : ∀ e ∈ G4, ∀ w, e.ok Try.prog w (FI pv) FB := by
  intro e he w
  rcases List.mem_append.1 he with he | he
  case inr => exact G3_ok e he w
  simp only [List.mem_cons, List.not_mem_nil, or_false] at he
  rcases he with rfl
  · exact ok_iMake w
def en4 : List Nat := [21, 22, 32, 33, 34, 56, 23, 24]
theorem en4_21 : Enters Try.prog 21 := enters_of Try.func21 rfl (by kernel_rfl)
theorem en4_22 : Enters Try.prog 22 := enters_of Try.func22 rfl (by kernel_rfl)
theorem en4_32 : Enters Try.prog 32 := enters_of Try.func32 rfl (by kernel_rfl)
theorem en4_33 : Enters Try.prog 33 := enters_of Try.func33 rfl (by kernel_rfl)
theorem en4_34 : Enters Try.prog 34 := enters_of Try.func34 rfl (by kernel_rfl)
theorem en4_56 : Enters Try.prog 56 := enters_of Try.func56 rfl (by kernel_rfl)
theorem en4_23 : Enters Try.prog 23 := enters_of Try.func23 rfl (by kernel_rfl)
theorem en4_24 : Enters Try.prog 24 := enters_of Try.func24 rfl (by kernel_rfl)
theorem en4_ok : ∀ f ∈ en4, Enters Try.prog f := by
  intro f hf
  simp only [en4, List.mem_cons, List.not_mem_nil, or_false] at hf
  rcases hf with rfl | rfl | rfl | rfl | rfl | rfl | rfl | rfl
  · exact en4_21
  · exact en4_22
  · exact en4_32
  · exact en4_33
  · exact en4_34
  · exact en4_56
  · exact en4_23
  · exact en4_24
def X4c (P : Program) : Cx := { P := P, G := G4, en := en4, call := nil0 }
noncomputable def X4 : Cx := X4c Try.prog
theorem X4_ok (w : World) (E : Env) (hi : E.fi = FI pv) (hb : E.fb = FB) : XOk X4 w E := xok G4_ok en4_ok w E hi hb
/-- A number whose parts lie in a box is there, and the box has it. -/
theorem BH_in {a b c d x y : Int} (h : BV a b c d = true) (hx : a ≤ x ∧ x ≤ b) (hy : c ≤ y ∧ y ≤ d) : MK x y 24 = true ∧ BH a b c d ((FI pv) 4 0 [x, y, 24]) ((FI pv) 4 1 [x, y, 24]) ((FI pv) 4 2 [x, y, 24]) = true := by
  obtain ⟨p1, p2, p3, p4, p5, p6⟩ := (BV_iff _ _ _ _).1 h
  obtain ⟨m, e1, e2, e3, e4⟩ := l_spec x y 24 (by decide)
  obtain ⟨g1, g2, g3⟩ := l_le x y 24 (by decide)
  have g4 := lS_nonneg x y 24
  have hd : DV (lR x y 24) (lI x y 24) (lS x y 24) = true := (DV_iff _ _ _).2 ⟨by omega, by omega, by omega, by omega, by omega, by omega, e4⟩
  have hm : MK x y 24 = true := Bool.and_eq_true_iff.2 ⟨(MKr_iff _ _ _).2 (by omega), hd⟩
  refine ⟨hm, ?_⟩
  have f0 : (FI pv) 4 0 [x, y, 24] = lR x y 24 := if_pos hm
  have f1 : (FI pv) 4 1 [x, y, 24] = lI x y 24 := if_pos hm
  have f2 : (FI pv) 4 2 [x, y, 24] = lS x y 24 := if_pos hm
  have hs : (24 - lS x y 24).toNat = m := by omega
  rw [f0, f1, f2]
  unfold BH
  rw [h, hd, FL_le _ (by omega) (by omega), CE_le _ (by omega) (by omega), FL_le _ (by omega) (by omega), CE_le _ (by omega) (by omega), hs, ← e2, ← e3, (SW_iff _ _ _ _).2 hx, (SW_iff _ _ _ _).2 hy]
  rfl
end Go.Proofs.Ythggppjdapmgdaa
