/- The law FnExactCellDeep: the program's function gives what the reference's gives, for all arguments: its walk and row. -/
import Derived.Test.YthggppjdapmgdaaDp3
import Derived.Test.YthggppjdapmgdaaRow
namespace Go.Proofs.Ythggppjdapmgdaa
set_option linter.unusedSimpArgs false
set_option linter.unusedVariables false
open Go.ChangeShapes Go.WideShapes Go.ChangeAt Go.RowKit Go.Joins Eng

def t_FnExactCellDeep : Tree := (.node (.app 2 0 (.cons (.var 0) (.cons (.var 1) (.cons (.var 2) (.cons (.var 3) .nil))))) (.node (.and (.cmp .le (.lit 0) (.var 5)) (.cmp .le (.var 5) (.lit 4))) (.node (.and (.app 2 0 (.cons (.var 0) (.cons (.var 1) (.cons (.var 2) (.cons (.var 3) .nil))))) (.and (.cmp .le (.lit 0) (.var 5)) (.cmp .le (.var 5) (.lit 4)))) (.node (.cmp .lt (.var 5) (.lit 0)) (.leaf (.cv (.one (.bool (.lit false))))) (.node (.cmp .lt (.lit 4) (.var 5)) (.leaf (.cv (.one (.bool (.lit false))))) (.leaf (.cv (.one (.bool (.lit true))))))) (.dead 47)) (.node (.cmp .lt (.var 5) (.lit 0)) (.leaf (.cv (.one (.bool (.lit true))))) (.node (.cmp .lt (.lit 4) (.var 5)) (.leaf (.cv (.one (.bool (.lit true))))) (.node (.and (.app 2 0 (.cons (.var 0) (.cons (.var 1) (.cons (.var 2) (.cons (.var 3) .nil))))) (.and (.cmp .le (.lit 0) (.var 5)) (.cmp .le (.var 5) (.lit 4)))) (.leaf (.cv (.one (.bool (.lit false))))) (.dead 47))))) (.leaf (.cv (.one (.bool (.lit true))))))
theorem t_FnExactCellDeep_eq : explore XDq 400 12 (lettersFrom 0 [4, 0, 0]) 40 [] = t_FnExactCellDeep := by kernel_rfl
theorem fnExactCellDeep_walk (x0_0 x0_1 x0_2 x0_3 x1 x2 : Int) (w : World) (_x0_0 : I64 x0_0) (_x0_1 : I64 x0_1) (_x0_2 : I64 x0_2) (_x0_3 : I64 x0_3) (_x1 : I64 x1) (_x2 : I64 x2) : Calls Try.prog 12 #[.agg #[.int .i64 x0_0, .int .i64 x0_1, .int .i64 x0_2, .int .i64 x0_3], .int .i64 x1, .int .i64 x2] w (Gives (.bool true) w) := by
  refine explore_ok (X := XDq) (v := .bool true) (E := envOf [x0_0, x0_1, x0_2, x0_3, x1, x2] (FI fun _ _ => 0) FB) (w0 := w) (XDq_ok w _ rfl rfl) mixed (fuel := 400) (f := 12) (args := lettersFrom 0 [4, 0, 0]) 40 [] (fun p hp => by cases hp) ?_
  rw [t_FnExactCellDeep_eq]
  simp only [t_FnExactCellDeep, Tree.den, SVal.den, CV.den, At.den, SE.den, SB.den, SL.den, COp.den, envOf, List.getD_cons_zero, List.getD_cons_succ]
  generalize FB 2 0 [x0_0, x0_1, x0_2, x0_3] = q
  cases q
  · rfl
  · by_cases h0 : 0 ≤ x2 <;> by_cases h4 : x2 ≤ 4
    · simp [h0, h4, show ¬ x2 < 0 by omega, show ¬ 4 < x2 by omega]
    · simp [h0, h4, show ¬ x2 < 0 by omega, show 4 < x2 by omega]
    · simp [h0, h4, show x2 < 0 by omega]
    · simp [h0, h4, show x2 < 0 by omega]
set_option maxRecDepth 100000 in
theorem fnExactCellDeep_lifted (os : Os) (started : os.Started) (H : Type) (enc : TypeId × Value → H) :
    ReturnsInHanded {} Try.checked os 12 .any (Rows.fnExactCellDeepSpec.pre6 enc Try.prog Try.f12 Rows.fnExactCellDeepRow.domain false) (Rows.fnExactCellDeepSpec.post enc Try.prog Try.f12 false true false false) := by
  refine returnsInHanded_of_change (C := Try.checked) Try.own started (by kernel_rfl) Try.func12
    (ChangeSpec.witness6 (enc := enc) (C := Try.checked) false ⟨#[], #[.agg #[.int .i64 0, .int .i64 0, .int .i64 0, .int .i64 0], .int .i64 0, .int .i64 0], []⟩ 8 (by kernel_rfl) (by kernel_rfl) (by kernel_rfl) (by kernel_rfl)) ?_
  intro W base args ds gs before hval0 hW hcnd _
  have hval : ∀ (j : Nat) t v, Try.f12.params[j]? = some t → args[j]? = some v → Value.okWide Try.prog W .any base t v := hval0
  have hW' := hW
  obtain ⟨p, q, hA0, hV, rfl, hfz, hnd⟩ := hW
  have hA : DataW.TrodAll enc Try.prog W 0 (fun _ => true) true Try.f12.params.toList args.toList ds p := hA0
  rw [Try.params12] at hA hval
  obtain ⟨v0, vs0, d0, ds0, p0, q0, hargs, rfl, rfl, h0, r0⟩ := trodAll_cons hA
  obtain ⟨v1, vs1, d1, ds1, p1, q1, rfl, rfl, rfl, h1, r1⟩ := trodAll_cons r0
  obtain ⟨v2, vs2, d2, ds2, p2, q2, rfl, rfl, rfl, h2, r2⟩ := trodAll_cons r1
  obtain ⟨rfl, rfl, rfl⟩ := trodAll_nil r2
  obtain rfl : args = #[v0, v1, v2] := by cases args; simp_all
  obtain ⟨rfl, rfl⟩ := trodVars_none hV
  have k0 := h0
  have lt0 : ∀ x ∈ p0, x.block < W.heap.size := by obtain ⟨m, hm⟩ := k0; exact DataW.trod_lt m _ _ _ hm
  have k1 := h1
  have lt1 : ∀ x ∈ p1, x.block < W.heap.size := by obtain ⟨m, hm⟩ := k1; exact DataW.trod_lt m _ _ _ hm
  have k2 := h2
  have lt2 : ∀ x ∈ p2, x.block < W.heap.size := by obtain ⟨m, hm⟩ := k2; exact DataW.trod_lt m _ _ _ hm
  obtain ⟨c0_0, c0_1, c0_2, c0_3, y0_0, y0_1, y0_2, y0_3, m0, rfl, rfl, rfl, hy0_0, hy0_1, hy0_2, hy0_3⟩ := open_agg4 Try.underlying44 (by kernel_rfl) (show Try.prog.cellsOf 44 = 4 by kernel_rfl) (hval 0 44 v0 rfl rfl) h0
  obtain ⟨x0_0, ex0_0, rfl, wx0_0⟩ := DataW.trod_int Try.underlying3 hy0_0
  simp at ex0_0
  subst ex0_0
  obtain ⟨x0_1, ex0_1, rfl, wx0_1⟩ := DataW.trod_int Try.underlying3 hy0_1
  simp at ex0_1
  subst ex0_1
  obtain ⟨x0_2, ex0_2, rfl, wx0_2⟩ := DataW.trod_int Try.underlying3 hy0_2
  simp at ex0_2
  subst ex0_2
  obtain ⟨x0_3, ex0_3, rfl, wx0_3⟩ := DataW.trod_int Try.underlying3 hy0_3
  simp at ex0_3
  subst ex0_3
  obtain ⟨x1, rfl, rfl, rfl, wx1⟩ := open_int Try.underlying3 (hval 1 3 v1 rfl rfl) h1
  obtain ⟨x2, rfl, rfl, rfl, wx2⟩ := open_int Try.underlying3 (hval 2 3 v2 rfl rfl) h2
  clear hA0 hval0
  refine (fnExactCellDeep_walk x0_0 x0_1 x0_2 x0_3 x1 x2 W (i64_of_wf wx0_0) (i64_of_wf wx0_1) (i64_of_wf wx0_2) (i64_of_wf wx0_3) (i64_of_wf wx1) (i64_of_wf wx2)).mono fun e W' ⟨he, bel⟩ => ?_
  subst he
  exact ⟨_, rfl, _, _, _, [], _, [], hW', trodAll_mk1 (shut_bool Try.underlying4 _), (trodAll_cons_mk (Below.trod Try.laidOut (by kernel_rfl) (of_decide_eq_true (by kernel_rfl)) k0 bel lt0) (trodAll_cons_mk (Below.trod Try.laidOut (by kernel_rfl) (of_decide_eq_true (by kernel_rfl)) k1 bel lt1) (trodAll_cons_mk (Below.trod Try.laidOut (by kernel_rfl) (of_decide_eq_true (by kernel_rfl)) k2 bel lt2) trodAll_mk0))), rfl, bel.frame _, fun h => by cases h⟩

theorem fnExactCellDeep_holds : Rows.FnExactCellDeepSaid :=
  OpenClaim.holds_of_wide 12 Try.f12 rfl rfl rfl rfl rfl rfl rfl ⟨rfl, rfl, rfl, rfl, rfl⟩ rfl rfl rfl rfl rfl (by kernel_rfl) Try.func12 (by kernel_rfl)
    (of_decide_eq_true (by kernel_rfl)) (by unfold Func.isWrapper; first | (rw [if_pos (by decide +kernel)]; kernel_rfl) | (rw [if_neg (by decide +kernel)]; exact ⟨rfl, rfl⟩))
    (fun os started H enc _ => fnExactCellDeep_lifted os started H enc)
end Go.Proofs.Ythggppjdapmgdaa
