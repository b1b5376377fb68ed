/- The law FnExactDyadWide: the program's function gives what the reference's gives, for all arguments: its walk and row. -/
import Derived.Test.YtgnkjfafgcbpbaaFw4
import Derived.Test.YtgnkjfafgcbpbaaRow
namespace Go.Proofs.Ytgnkjfafgcbpbaa
set_option linter.unusedSimpArgs false
set_option linter.unusedVariables false
open Go.ChangeShapes Go.WideShapes Go.ChangeAt Go.RowKit Go.Joins Eng
def t_FnExactDyadWide : Tree := (.node (.app 112 0 (.cons (.app 112 0 (.cons (.var 0) (.cons (.var 1) (.cons (.var 2) .nil)))) (.cons (.app 112 0 (.cons (.var 0) (.cons (.var 1) (.cons (.var 2) .nil)))) .nil))) (.node (.app 112 0 (.cons (.app 112 1 (.cons (.var 0) (.cons (.var 1) (.cons (.var 2) .nil)))) (.cons (.app 112 1 (.cons (.var 0) (.cons (.var 1) (.cons (.var 2) .nil)))) .nil))) (.leaf (.cv (.one (.bool (.lit true))))) (.dead 47)) (.dead 47))
theorem t_FnExactDyadWide_eq : explore XF4 200 3 (lettersFrom 0 [3]) 40 [] = t_FnExactDyadWide := by kernel_rfl
theorem fnExactDyadWide_walk (x0_0 x0_1 x0_2 : Int) (w : World) (_x0_0 : I64 x0_0) (_x0_1 : I64 x0_1) (_x0_2 : I64 x0_2) : Calls Try.prog 3 #[.agg #[.int .i64 x0_0, .int .i64 x0_1, .int .i64 x0_2]] w (Gives (.bool true) w) := by
  refine explore_ok (X := XF4) (v := .bool true) (E := envOf [x0_0, x0_1, x0_2] (FI fun _ _ => 0) FB) (w0 := w) (XF4_ok w _ rfl rfl) mixed (fuel := 200) (f := 3) (args := lettersFrom 0 [3]) 40 [] (fun p hp => by cases hp) ?_
  rw [t_FnExactDyadWide_eq]
  simp only [t_FnExactDyadWide, Tree.den, SVal.den, CV.den, At.den, SE.den, SB.den, SL.den, IOp.den, COp.den, envOf, List.getD_cons_zero, List.getD_cons_succ]
  rw [(b112_self x0_0 x0_1 x0_2).1, (b112_self x0_0 x0_1 x0_2).2]; rfl
set_option maxRecDepth 100000 in
theorem fnExactDyadWide_lifted (os : Os) (started : os.Started) (H : Type) (enc : TypeId × Value → H) :
    ReturnsInHanded {} Try.checked os 3 .any (Rows.fnExactDyadWideSpec.pre6 enc Try.prog Try.f3 Rows.fnExactDyadWideRow.domain false) (Rows.fnExactDyadWideSpec.post enc Try.prog Try.f3 false true false false) := by
  refine returnsInHanded_of_change (C := Try.checked) Try.own started (by kernel_rfl) Try.func3
    (ChangeSpec.witness6 (enc := enc) (C := Try.checked) false ⟨#[], #[.agg #[.int .i64 0, .int .i64 0, .int .i64 0]], []⟩ 8 (by kernel_rfl) (by kernel_rfl) (by kernel_rfl) (by kernel_rfl)) ?_
  intro W base args ds gs before hval0 hW hcnd _
  have hval : ∀ (j : Nat) t v, Try.f3.params[j]? = some t → args[j]? = some v → Value.okWide Try.prog W .any base t v := hval0
  have hW' := hW
  obtain ⟨p, q, hA0, hV, rfl, hfz, hnd⟩ := hW
  have hA : DataW.TrodAll enc Try.prog W 0 (fun _ => true) true Try.f3.params.toList args.toList ds p := hA0
  rw [Try.params3] at hA hval
  obtain ⟨v0, vs0, d0, ds0, p0, q0, hargs, rfl, rfl, h0, r0⟩ := trodAll_cons hA
  obtain ⟨rfl, rfl, rfl⟩ := trodAll_nil r0
  obtain rfl : args = #[v0] := by cases args; simp_all
  obtain ⟨rfl, rfl⟩ := trodVars_none hV
  have k0 := h0
  have lt0 : ∀ x ∈ p0, x.block < W.heap.size := by obtain ⟨m, hm⟩ := k0; exact DataW.trod_lt m _ _ _ hm
  obtain ⟨c0_0, c0_1, c0_2, y0_0, y0_1, y0_2, m0, rfl, rfl, rfl, hy0_0, hy0_1, hy0_2⟩ := open_agg3 Try.underlying23 (by kernel_rfl) (show Try.prog.cellsOf 23 = 3 by kernel_rfl) (hval 0 23 v0 rfl rfl) h0
  obtain ⟨x0_0, ex0_0, rfl, wx0_0⟩ := DataW.trod_int Try.underlying3 hy0_0
  simp at ex0_0
  subst ex0_0
  obtain ⟨x0_1, ex0_1, rfl, wx0_1⟩ := DataW.trod_int Try.underlying3 hy0_1
  simp at ex0_1
  subst ex0_1
  obtain ⟨x0_2, ex0_2, rfl, wx0_2⟩ := DataW.trod_int Try.underlying3 hy0_2
  simp at ex0_2
  subst ex0_2
  clear hA0 hval0
  refine (fnExactDyadWide_walk x0_0 x0_1 x0_2 W (i64_of_wf wx0_0) (i64_of_wf wx0_1) (i64_of_wf wx0_2)).mono fun e W' ⟨he, bel⟩ => ?_
  subst he
  exact ⟨_, rfl, _, _, _, [], _, [], hW', trodAll_mk1 (shut_bool Try.underlying4 _), (trodAll_cons_mk (Below.trod Try.laidOut (by kernel_rfl) (of_decide_eq_true (by kernel_rfl)) k0 bel lt0) trodAll_mk0), rfl, bel.frame _, fun h => by cases h⟩

theorem fnExactDyadWide_holds : Rows.FnExactDyadWideSaid :=
  OpenClaim.holds_of_wide 3 Try.f3 rfl rfl rfl rfl rfl rfl rfl ⟨rfl, rfl, rfl, rfl, rfl⟩ rfl rfl rfl rfl rfl (by kernel_rfl) Try.func3 (by kernel_rfl)
    (of_decide_eq_true (by kernel_rfl)) (by unfold Func.isWrapper; first | (rw [if_pos (by decide +kernel)]; kernel_rfl) | (rw [if_neg (by decide +kernel)]; exact ⟨rfl, rfl⟩))
    (fun os started H enc _ => fnExactDyadWide_lifted os started H enc)
end Go.Proofs.Ytgnkjfafgcbpbaa
