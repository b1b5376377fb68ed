/- The law FnExactBoxCut: the program's function gives what the reference's gives, for all arguments: its walk and row. -/
import Derived.Test.YtmkieigbekakbaaBoG
import Derived.Test.YtmkieigbekakbaaRow
namespace Go.Proofs.Ytmkieigbekakbaa
open Go.ChangeShapes Go.WideShapes Go.ChangeAt Go.RowKit Go.Joins Eng

theorem mid_eq (x : Int) : x.fdiv (2 ^ min (Int.toNat 1) IntKind.i64.bits) = FI 33 0 [x, 2] := by
  have e : (2 : Int) ^ min (Int.toNat 1) IntKind.i64.bits = 2 := by decide
  rw [e, Int.fdiv_eq_ediv_of_nonneg _ (by decide)]; rfl
def t_FnExactBoxCut : Tree := (.node (.app 2 0 (.cons (.var 0) (.cons (.var 1) (.cons (.var 2) (.cons (.var 3) .nil))))) (.node (.app 102 0 (.cons (.wrap .i64 (.bin .add .i64 (.var 0) (.var 1))) (.cons (.lit 2) .nil))) (.node (.app 102 0 (.cons (.wrap .i64 (.bin .add .i64 (.var 2) (.var 3))) (.cons (.lit 2) .nil))) (.node (.and (.cmp .eq (.bin .shr .i64 (.wrap .i64 (.bin .add .i64 (.var 0) (.var 1))) (.lit 1)) (.app 33 0 (.cons (.wrap .i64 (.bin .add .i64 (.var 0) (.var 1))) (.cons (.lit 2) .nil)))) (.cmp .eq (.bin .shr .i64 (.wrap .i64 (.bin .add .i64 (.var 2) (.var 3))) (.lit 1)) (.app 33 0 (.cons (.wrap .i64 (.bin .add .i64 (.var 2) (.var 3))) (.cons (.lit 2) .nil))))) (.leaf (.cv (.one (.bool (.lit true))))) (.leaf (.cv (.one (.bool (.lit false)))))) (.dead 47)) (.dead 47)) (.leaf (.cv (.one (.bool (.lit true))))))
theorem t_FnExactBoxCut_eq : explore X3 400 7 (lettersFrom 0 [4]) 40 [] = t_FnExactBoxCut := by kernel_rfl
theorem fnExactBoxCut_walk (x0_0 x0_1 x0_2 x0_3 : Int) (w : World) (_x0_0 : I64 x0_0) (_x0_1 : I64 x0_1) (_x0_2 : I64 x0_2) (_x0_3 : I64 x0_3) : Calls Try.prog 7 #[.agg #[.int .i64 x0_0, .int .i64 x0_1, .int .i64 x0_2, .int .i64 x0_3]] w (Gives (.bool true) w) := by
  refine explore_ok (X := X3) (v := .bool true) (E := envOf [x0_0, x0_1, x0_2, x0_3] FI FB) (w0 := w) (X3_ok w _ rfl rfl) mixed (fuel := 400) (f := 7) (args := lettersFrom 0 [4]) 40 [] (fun p hp => by cases hp) ?_
  rw [t_FnExactBoxCut_eq]
  simp only [t_FnExactBoxCut, Tree.den, SVal.den, CV.den, At.den, SE.den, SB.den, SL.den, IOp.den, COp.den, envOf, List.getD_cons_zero, List.getD_cons_succ]
  simp only [g2, mid_eq]
  cases h1 : BV x0_0 x0_1 x0_2 x0_3
  · rfl
  obtain ⟨a1, a2, a3, a4, a5, a6⟩ := (BV_iff _ _ _ _).1 h1
  rw [wrap_in (x := x0_0 + x0_1) (by omega) (by omega), wrap_in (x := x0_2 + x0_3) (by omega) (by omega), t102 (by omega) (by omega), t102 (by omega) (by omega), beq_self_eq_true, beq_self_eq_true]
  rfl
set_option maxRecDepth 100000 in
theorem fnExactBoxCut_lifted (os : Os) (started : os.Started) (H : Type) (enc : TypeId × Value → H) :
    ReturnsInHanded {} Try.checked os 7 .any (Rows.fnExactBoxCutSpec.pre6 enc Try.prog Try.f7 Rows.fnExactBoxCutRow.domain false) (Rows.fnExactBoxCutSpec.post enc Try.prog Try.f7 false true false false) := by
  refine returnsInHanded_of_change (C := Try.checked) Try.own started (by kernel_rfl) Try.func7
    (ChangeSpec.witness6 (enc := enc) (C := Try.checked) false ⟨#[], #[.agg #[.int .i64 0, .int .i64 0, .int .i64 0, .int .i64 0]], []⟩ 8 (by kernel_rfl) (by kernel_rfl) (by kernel_rfl) (by kernel_rfl)) ?_
  intro W base args ds gs before hval0 hW hcnd _
  have hval : ∀ (j : Nat) t v, Try.f7.params[j]? = some t → args[j]? = some v → Value.okWide Try.prog W .any base t v := hval0
  have hW' := hW
  obtain ⟨p, q, hA0, hV, rfl, hfz, hnd⟩ := hW
  have hA : DataW.TrodAll enc Try.prog W 0 (fun _ => true) true Try.f7.params.toList args.toList ds p := hA0
  rw [Try.params7] at hA hval
  obtain ⟨v0, vs0, d0, ds0, p0, q0, hargs, rfl, rfl, h0, r0⟩ := trodAll_cons hA
  obtain ⟨rfl, rfl, rfl⟩ := trodAll_nil r0
  obtain rfl : args = #[v0] := by cases args; simp_all
  obtain ⟨rfl, rfl⟩ := trodVars_none hV
  have k0 := h0
  have lt0 : ∀ x ∈ p0, x.block < W.heap.size := by obtain ⟨m, hm⟩ := k0; exact DataW.trod_lt m _ _ _ hm
  obtain ⟨c0_0, c0_1, c0_2, c0_3, y0_0, y0_1, y0_2, y0_3, m0, rfl, rfl, rfl, hy0_0, hy0_1, hy0_2, hy0_3⟩ := open_agg4 Try.underlying23 (by kernel_rfl) (show Try.prog.cellsOf 23 = 4 by kernel_rfl) (hval 0 23 v0 rfl rfl) h0
  obtain ⟨x0_0, ex0_0, rfl, wx0_0⟩ := DataW.trod_int Try.underlying3 hy0_0
  simp at ex0_0
  subst ex0_0
  obtain ⟨x0_1, ex0_1, rfl, wx0_1⟩ := DataW.trod_int Try.underlying3 hy0_1
  simp at ex0_1
  subst ex0_1
  obtain ⟨x0_2, ex0_2, rfl, wx0_2⟩ := DataW.trod_int Try.underlying3 hy0_2
  simp at ex0_2
  subst ex0_2
  obtain ⟨x0_3, ex0_3, rfl, wx0_3⟩ := DataW.trod_int Try.underlying3 hy0_3
  simp at ex0_3
  subst ex0_3
  clear hA0 hval0
  refine (fnExactBoxCut_walk x0_0 x0_1 x0_2 x0_3 W (i64_of_wf wx0_0) (i64_of_wf wx0_1) (i64_of_wf wx0_2) (i64_of_wf wx0_3)).mono fun e W' ⟨he, bel⟩ => ?_
  subst he
  exact ⟨_, rfl, _, _, _, [], _, [], hW', trodAll_mk1 (shut_bool Try.underlying4 _), (trodAll_cons_mk (Below.trod Try.laidOut (by kernel_rfl) (of_decide_eq_true (by kernel_rfl)) k0 bel lt0) trodAll_mk0), rfl, bel.frame _, fun h => by cases h⟩

theorem fnExactBoxCut_holds : Rows.FnExactBoxCutSaid :=
  OpenClaim.holds_of_wide 7 Try.f7 rfl rfl rfl rfl rfl rfl rfl ⟨rfl, rfl, rfl, rfl, rfl⟩ rfl rfl rfl rfl rfl (by kernel_rfl) Try.func7 (by kernel_rfl)
    (of_decide_eq_true (by kernel_rfl)) (by unfold Func.isWrapper; first | (rw [if_pos (by decide +kernel)]; kernel_rfl) | (rw [if_neg (by decide +kernel)]; exact ⟨rfl, rfl⟩))
    (fun os started H enc _ => fnExactBoxCut_lifted os started H enc)
end Go.Proofs.Ytmkieigbekakbaa
