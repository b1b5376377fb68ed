/- Contracts of the functions that check boxes, by the reckoner. -/
import Derived.Test.YtjpmpjcenajmbaaDoorBo1
namespace Go.Proofs.YtjpmpjcenajmbaaDoor
set_option linter.unusedSimpArgs false
set_option linter.unusedVariables false
variable {pv : Int → Int → Int}
open Go.RowKit Eng

theorem cond_decide {α : Type} (p : Prop) [Decidable p] (x y : α) : (bif decide p then x else y) = if p then x else y := by
  by_cases h : p <;> simp [h]
theorem cond_beq {α : Type} (a b : Int) (x y : α) : (bif a == b then x else y) = if a = b then x else y := by
  by_cases h : a = b
  · subst h; simp
  · rw [beq_eq_false_iff_ne.2 h, if_neg h]; rfl
theorem and1 (x : Int) : IntKind.i64.wrap ((BitVec.ofInt IntKind.i64.bits x &&& BitVec.ofInt IntKind.i64.bits 1).toNat : Int) = x % 2 := by
  show IntKind.i64.wrap ((BitVec.ofInt 64 x &&& BitVec.ofInt 64 1).toNat : Int) = _
  have h1 : (BitVec.ofInt 64 1 : BitVec 64).toNat = 1 := by decide
  rw [BitVec.toNat_and, h1, Nat.and_one_is_mod, BitVec.toNat_ofInt]
  simp [IntKind.wrap, IntKind.bits, IntKind.signed]
  omega
theorem tmod_two (x : Int) : (x.tmod 2 == 0) = decide (x % 2 = 0) := by
  rw [Bool.eq_iff_iff, beq_iff_eq, decide_eq_true_iff]
  by_cases h : 0 ≤ x
  · rw [Int.tmod_eq_emod_of_nonneg h]
  · obtain ⟨m, rfl⟩ : ∃ m, x = -m := ⟨-x, by omega⟩
    rw [Int.neg_tmod, Int.tmod_eq_emod_of_nonneg (by omega)]; omega

def e_dvalid : CEnt := ⟨36, [3], none, ob (.app 3 0 (vs 3))⟩
def t_dvalid : Tree := (.node (.cmp .lt (.var 0) (.lit (-1073741824))) (.leaf (.cv (.one (.bool (.lit false))))) (.node (.cmp .lt (.lit 1073741824) (.var 0)) (.leaf (.cv (.one (.bool (.lit false))))) (.node (.cmp .lt (.var 1) (.lit (-1073741824))) (.leaf (.cv (.one (.bool (.lit false))))) (.node (.cmp .lt (.lit 1073741824) (.var 1)) (.leaf (.cv (.one (.bool (.lit false))))) (.node (.cmp .lt (.var 2) (.lit 0)) (.leaf (.cv (.one (.bool (.lit false))))) (.node (.cmp .lt (.lit 60) (.var 2)) (.leaf (.cv (.one (.bool (.lit false))))) (.node (.cmp .eq (.var 2) (.lit 0)) (.leaf (.cv (.one (.bool (.lit true))))) (.node (.cmp .eq (.wrap .i64 (.bin .band .i64 (.var 0) (.lit 1))) (.lit 0)) (.leaf (.cv (.one (.bool (.not (.cmp .eq (.wrap .i64 (.bin .band .i64 (.var 1) (.lit 1))) (.lit 0))))))) (.leaf (.cv (.one (.bool (.lit true)))))))))))))
theorem t_dvalid_eq : explore X1 200 36 (lettersFrom 0 [3]) 40 [] = t_dvalid := by kernel_rfl
theorem ok_dvalid (w : World) : e_dvalid.ok Tryd.prog w (FI pv) FB := by
  refine CEnt.by_tree (e := e_dvalid) (fi := FI pv) (fb := FB) (X := X1) (fuel := 200) (d := 40) (enters_of Tryd.func36 rfl (by kernel_rfl)) (fun w zs => X1_ok w _ rfl rfl) mixed (fun zs hz hp => ?_) w
  obtain ⟨a, b, c, rfl⟩ := len3 hz
  show (explore X1 200 36 (lettersFrom 0 [3]) 40 []).den _ = _
  rw [t_dvalid_eq]
  clear hz
  clear hp
  show Tree.den _ t_dvalid = some (.bool (DV a b c))
  simp only [t_dvalid, Tree.den, SVal.den, CV.den, At.den, SE.den, SB.den, SL.den, IOp.den, COp.den, envOf, List.map_cons, List.map_nil, List.getD_cons_zero, List.getD_cons_succ]
  rw [and1, and1]
  simp only [cond_decide, cond_beq]
  repeat' split
  all_goals (congr 2; symm)
  all_goals first | (rw [DV_iff]; omega) | (rw [DV_false]; omega) | (rw [Bool.eq_iff_iff, DV_iff]; simp; omega)
def e_sDyadValid : CEnt := ⟨42, [3], none, ob (.app 3 0 (vs 3))⟩
def t_sDyadValid : Tree := (.node (.and (.cmp .le (.lit (-1073741824)) (.var 0)) (.cmp .le (.var 0) (.lit 1073741824))) (.node (.and (.cmp .le (.lit (-1073741824)) (.var 1)) (.cmp .le (.var 1) (.lit 1073741824))) (.node (.and (.cmp .le (.lit 0) (.var 2)) (.cmp .le (.var 2) (.lit 60))) (.node (.cmp .eq (.var 2) (.lit 0)) (.leaf (.cv (.one (.bool (.lit true))))) (.node (.cmp .eq (.bin .tmod .i64 (.var 0) (.lit 2)) (.lit 0)) (.leaf (.cv (.one (.bool (.not (.cmp .eq (.bin .tmod .i64 (.var 1) (.lit 2)) (.lit 0))))))) (.leaf (.cv (.one (.bool (.lit true))))))) (.leaf (.cv (.one (.bool (.lit false)))))) (.leaf (.cv (.one (.bool (.lit false)))))) (.leaf (.cv (.one (.bool (.lit false))))))
theorem t_sDyadValid_eq : explore X1 200 42 (lettersFrom 0 [3]) 40 [] = t_sDyadValid := by kernel_rfl
theorem ok_sDyadValid (w : World) : e_sDyadValid.ok Tryd.prog w (FI pv) FB := by
  refine CEnt.by_tree (e := e_sDyadValid) (fi := FI pv) (fb := FB) (X := X1) (fuel := 200) (d := 40) (enters_of Tryd.func42 rfl (by kernel_rfl)) (fun w zs => X1_ok w _ rfl rfl) mixed (fun zs hz hp => ?_) w
  obtain ⟨a, b, c, rfl⟩ := len3 hz
  show (explore X1 200 42 (lettersFrom 0 [3]) 40 []).den _ = _
  rw [t_sDyadValid_eq]
  clear hz
  clear hp
  show Tree.den _ t_sDyadValid = some (.bool (DV a b c))
  simp only [t_sDyadValid, Tree.den, SVal.den, CV.den, At.den, SE.den, SB.den, SL.den, IOp.den, COp.den, envOf, List.map_cons, List.map_nil, List.getD_cons_zero, List.getD_cons_succ]
  have e1 := tmod_two a; have e2 := tmod_two b
  rw [e1, e2]
  simp only [cond_decide, cond_beq, ← Bool.decide_and]
  repeat' split
  all_goals (congr 2; symm)
  all_goals first | (rw [DV_iff]; omega) | (rw [DV_false]; omega) | (rw [Bool.eq_iff_iff, DV_iff]; simp; omega)
def G2 : List CEnt := [e_dvalid, e_sDyadValid] ++ G1
theorem G2_ok : ∀ e ∈ G2, ∀ w : World, e.ok Tryd.prog w (FI pv) FB := by
  intro e he w
  rcases List.mem_append.1 he with he | he
  case inr => exact G1_ok e he w
  simp only [List.mem_cons, List.not_mem_nil, or_false] at he
  rcases he with rfl | rfl
  · exact ok_dvalid w
  · exact ok_sDyadValid w
def en2 : List Nat := []
theorem en2_ok : ∀ f ∈ en2, Enters Tryd.prog f := by
  intro f hf
  simp only [en2, List.mem_cons, List.not_mem_nil, or_false] at hf
def X2c (P : Program) : Cx := { P := P, G := G2, en := en2, call := nil0 }
noncomputable def X2 : Cx := X2c Tryd.prog
theorem X2_ok (w : World) (E : Env) (hi : E.fi = FI pv) (hb : E.fb = FB) : XOk X2 w E := xok G2_ok en2_ok w E hi hb
end Go.Proofs.YtjpmpjcenajmbaaDoor
