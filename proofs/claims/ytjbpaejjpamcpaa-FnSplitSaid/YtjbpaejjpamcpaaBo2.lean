/- Contracts of the functions that check boxes, by the reckoner. -/
import Derived.Test.YtjbpaejjpamcpaaBo1
namespace Go.Proofs.Ytjbpaejjpamcpaa
set_option linter.unusedSimpArgs false
set_option linter.unusedVariables false
variable {pv : Int → Int → Int}
open Go.RowKit Eng

theorem cond_decide {α : Type} (p : Prop) [Decidable p] (x y : α) : (bif decide p then x else y) = if p then x else y := by
  by_cases h : p <;> simp [h]
theorem cond_beq {α : Type} (a b : Int) (x y : α) : (bif a == b then x else y) = if a = b then x else y := by
  by_cases h : a = b
  · subst h; simp
  · rw [beq_eq_false_iff_ne.2 h, if_neg h]; rfl
theorem and1 (x : Int) : IntKind.i64.wrap ((BitVec.ofInt IntKind.i64.bits x &&& BitVec.ofInt IntKind.i64.bits 1).toNat : Int) = x % 2 := by
  show IntKind.i64.wrap ((BitVec.ofInt 64 x &&& BitVec.ofInt 64 1).toNat : Int) = _
  have h1 : (BitVec.ofInt 64 1 : BitVec 64).toNat = 1 := by decide
  rw [BitVec.toNat_and, h1, Nat.and_one_is_mod, BitVec.toNat_ofInt]
  simp [IntKind.wrap, IntKind.bits, IntKind.signed]
  omega
theorem tmod_two (x : Int) : (x.tmod 2 == 0) = decide (x % 2 = 0) := by
  rw [Bool.eq_iff_iff, beq_iff_eq, decide_eq_true_iff]
  by_cases h : 0 ≤ x
  · rw [Int.tmod_eq_emod_of_nonneg h]
  · obtain ⟨m, rfl⟩ : ∃ m, x = -m := ⟨-x, by omega⟩
    rw [Int.neg_tmod, Int.tmod_eq_emod_of_nonneg (by omega)]; omega

def e_iBoxValid : CEnt := ⟨30, [4], none, ob (.app 2 0 (vs 4))⟩
def t_iBoxValid : Tree := (.node (.app 1 0 (.cons (.var 0) (.cons (.var 1) .nil))) (.node (.app 1 0 (.cons (.var 2) (.cons (.var 3) .nil))) (.leaf (.cv (.one (.bool (.lit true))))) (.leaf (.cv (.one (.bool (.lit false)))))) (.leaf (.cv (.one (.bool (.lit false))))))
theorem t_iBoxValid_eq : explore X1 200 30 (lettersFrom 0 [4]) 40 [] = t_iBoxValid := by kernel_rfl
theorem ok_iBoxValid (w : World) : e_iBoxValid.ok Try.prog w (FI pv) FB := by
  refine CEnt.by_tree (e := e_iBoxValid) (fi := FI pv) (fb := FB) (X := X1) (fuel := 200) (d := 40) (enters_of Try.func30 rfl (by kernel_rfl)) (fun w zs => X1_ok w _ rfl rfl) mixed (fun zs hz hp => ?_) w
  obtain ⟨a, b, c, d, rfl⟩ := len4 hz
  show (explore X1 200 30 (lettersFrom 0 [4]) 40 []).den _ = _
  rw [t_iBoxValid_eq]
  clear hz
  clear hp
  show Tree.den _ t_iBoxValid = some (.bool (BV a b c d))
  simp only [t_iBoxValid, Tree.den, SVal.den, CV.den, At.den, SE.den, SB.den, SL.den, IOp.den, COp.den, envOf, List.map_cons, List.map_nil, List.getD_cons_zero, List.getD_cons_succ]
  show (bif SV a b then bif SV c d then some (Value.bool true) else some (Value.bool false) else some (Value.bool false)) = some (Value.bool (SV a b && SV c d))
  cases SV a b <;> cases SV c d <;> rfl
def e_sBoxValid : CEnt := ⟨25, [4], none, ob (.app 2 0 (vs 4))⟩
def t_sBoxValid : Tree := (.node (.and (.cmp .le (.lit (-134217728)) (.var 0)) (.cmp .le (.var 0) (.var 1))) (.node (.and (.cmp .le (.var 0) (.var 1)) (.cmp .le (.var 1) (.lit 134217728))) (.node (.and (.cmp .le (.lit (-134217728)) (.var 2)) (.cmp .le (.var 2) (.var 3))) (.leaf (.cv (.one (.bool (.and (.cmp .le (.var 2) (.var 3)) (.cmp .le (.var 3) (.lit 134217728))))))) (.leaf (.cv (.one (.bool (.lit false)))))) (.leaf (.cv (.one (.bool (.lit false)))))) (.leaf (.cv (.one (.bool (.lit false))))))
theorem t_sBoxValid_eq : explore X1 200 25 (lettersFrom 0 [4]) 40 [] = t_sBoxValid := by kernel_rfl
theorem ok_sBoxValid (w : World) : e_sBoxValid.ok Try.prog w (FI pv) FB := by
  refine CEnt.by_tree (e := e_sBoxValid) (fi := FI pv) (fb := FB) (X := X1) (fuel := 200) (d := 40) (enters_of Try.func25 rfl (by kernel_rfl)) (fun w zs => X1_ok w _ rfl rfl) mixed (fun zs hz hp => ?_) w
  obtain ⟨a, b, c, d, rfl⟩ := len4 hz
  show (explore X1 200 25 (lettersFrom 0 [4]) 40 []).den _ = _
  rw [t_sBoxValid_eq]
  clear hz
  clear hp
  show Tree.den _ t_sBoxValid = some (.bool (BV a b c d))
  simp only [t_sBoxValid, Tree.den, SVal.den, CV.den, At.den, SE.den, SB.den, SL.den, IOp.den, COp.den, envOf, List.map_cons, List.map_nil, List.getD_cons_zero, List.getD_cons_succ]
  unfold BV SV
  cases decide (-134217728 ≤ a) <;> cases decide (a ≤ b) <;> cases decide (b ≤ 134217728) <;> cases decide (-134217728 ≤ c) <;> cases decide (c ≤ d) <;> cases decide (d ≤ 134217728) <;> rfl
def e_l4Ceil : CEnt := ⟨78, [0, 0], some (.app 102 0 (vs 2)), oi (.app 33 1 (vs 2))⟩
def t_l4Ceil : Tree := (.node (.app 102 0 (.cons (.wrap .i64 (.bin .sub .i64 (.lit 0) (.var 0))) (.cons (.var 1) .nil))) (.leaf (.cv (.one (.int .i64 (.wrap .i64 (.bin .sub .i64 (.lit 0) (.app 33 0 (.cons (.wrap .i64 (.bin .sub .i64 (.lit 0) (.var 0))) (.cons (.var 1) .nil))))))))) (.dead 47))
theorem t_l4Ceil_eq : explore X1 200 78 (lettersFrom 0 [0, 0]) 40 [] = t_l4Ceil := by kernel_rfl
theorem ok_l4Ceil (w : World) : e_l4Ceil.ok Try.prog w (FI pv) FB := by
  refine CEnt.by_tree (e := e_l4Ceil) (fi := FI pv) (fb := FB) (X := X1) (fuel := 200) (d := 40) (enters_of Try.func78 rfl (by kernel_rfl)) (fun w zs => X1_ok w _ rfl rfl) mixed (fun zs hz hp => ?_) w
  obtain ⟨a, b, rfl⟩ := len2 hz
  show (explore X1 200 78 (lettersFrom 0 [0, 0]) 40 []).den _ = _
  rw [t_l4Ceil_eq]
  clear hz
  replace hp : (le60 a && decide (1 ≤ b) && le60 b) = true := hp _ rfl
  show Tree.den _ t_l4Ceil = some (.int .i64 (ce a b))
  simp only [t_l4Ceil, Tree.den, SVal.den, CV.den, At.den, SE.den, SB.den, SL.den, IOp.den, COp.den, envOf, List.map_cons, List.map_nil, List.getD_cons_zero, List.getD_cons_succ]
  simp only [Bool.and_eq_true, le60_iff, decide_eq_true_eq] at hp
  obtain ⟨⟨h1, h2⟩, h3⟩ := hp
  have e0 : IntKind.i64.wrap (0 - a) = -a := by rw [wrap_in (by omega) (by omega)]; omega
  have hq : FB 102 0 [-a, b] = true := by
    show (le60 (-a) && decide (1 ≤ b) && le60 b) = true
    simp only [Bool.and_eq_true, le60_iff, decide_eq_true_eq]; omega
  have hd := div_bd (B := 1152921504606846976) h2 (show -1152921504606846976 ≤ -a by omega) (by omega)
  rw [e0, hq]
  show some (Value.int .i64 (IntKind.i64.wrap (0 - (-a) / b))) = some (Value.int .i64 (-(-a / b)))
  rw [wrap_in (by omega) (by omega), Int.zero_sub]
def G2 : List CEnt := [e_iBoxValid, e_sBoxValid, e_l4Ceil] ++ G1
theorem G2_ok : ∀ e ∈ G2, ∀ w : World, e.ok Try.prog w (FI pv) FB := by
  intro e he w
  rcases List.mem_append.1 he with he | he
  case inr => exact G1_ok e he w
  simp only [List.mem_cons, List.not_mem_nil, or_false] at he
  rcases he with rfl | rfl | rfl
  · exact ok_iBoxValid w
  · exact ok_sBoxValid w
  · exact ok_l4Ceil w
def en2 : List Nat := [67, 56, 79, 52, 61]
theorem en2_67 : Enters Try.prog 67 := enters_of Try.func67 rfl (by kernel_rfl)
theorem en2_56 : Enters Try.prog 56 := enters_of Try.func56 rfl (by kernel_rfl)
theorem en2_79 : Enters Try.prog 79 := enters_of Try.func79 rfl (by kernel_rfl)
theorem en2_52 : Enters Try.prog 52 := enters_of Try.func52 rfl (by kernel_rfl)
theorem en2_61 : Enters Try.prog 61 := enters_of Try.func61 rfl (by kernel_rfl)
theorem en2_ok : ∀ f ∈ en2, Enters Try.prog f := by
  intro f hf
  simp only [en2, List.mem_cons, List.not_mem_nil, or_false] at hf
  rcases hf with rfl | rfl | rfl | rfl | rfl
  · exact en2_67
  · exact en2_56
  · exact en2_79
  · exact en2_52
  · exact en2_61
def X2c (P : Program) : Cx := { P := P, G := G2, en := en2, call := nil0 }
noncomputable def X2 : Cx := X2c Try.prog
theorem X2_ok (w : World) (E : Env) (hi : E.fi = FI pv) (hb : E.fb = FB) : XOk X2 w E := xok G2_ok en2_ok w E hi hb
end Go.Proofs.Ytjbpaejjpamcpaa
