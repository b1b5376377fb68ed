/- The law FnExactCellState: the program's function gives what the reference's gives, for all arguments: its walk and row. -/
import Derived.Test.YthggppjdapmgdaaEs7c
import Derived.Test.YthggppjdapmgdaaRow
namespace Go.Proofs.Ythggppjdapmgdaa
set_option linter.unusedSimpArgs false
set_option linter.unusedVariables false
open Go.ChangeShapes Go.WideShapes Go.ChangeAt Go.RowKit Go.Joins Eng

def t_FnExactCellState : Tree := (.leaf (.cv (.one (.bool (.lit true)))))
theorem t_FnExactCellState_eq : explore X5 300 8 (lettersFrom 0 [4, 0]) 40 [] = t_FnExactCellState := by kernel_rfl
theorem fnExactCellState_walk (x0_0 x0_1 x0_2 x0_3 x1 : Int) (w : World) (_x0_0 : I64 x0_0) (_x0_1 : I64 x0_1) (_x0_2 : I64 x0_2) (_x0_3 : I64 x0_3) (_x1 : I64 x1) : Calls Try.prog 8 #[.agg #[.int .i64 x0_0, .int .i64 x0_1, .int .i64 x0_2, .int .i64 x0_3], .int .i64 x1] w (Gives (.bool true) w) := by
  refine explore_ok (X := X5) (v := .bool true) (E := envOf [x0_0, x0_1, x0_2, x0_3, x1] (FI fun _ _ => 0) FB) (w0 := w) (X5_ok w _ rfl rfl) mixed (fuel := 300) (f := 8) (args := lettersFrom 0 [4, 0]) 40 [] (fun p hp => by cases hp) ?_
  rw [t_FnExactCellState_eq]
  rfl
set_option maxRecDepth 100000 in
theorem fnExactCellState_lifted (os : Os) (started : os.Started) (H : Type) (enc : TypeId × Value → H) :
    ReturnsInHanded {} Try.checked os 8 .any (Rows.fnExactCellStateSpec.pre6 enc Try.prog Try.f8 Rows.fnExactCellStateRow.domain false) (Rows.fnExactCellStateSpec.post enc Try.prog Try.f8 false true false false) := by
  refine returnsInHanded_of_change (C := Try.checked) Try.own started (by kernel_rfl) Try.func8
    (ChangeSpec.witness6 (enc := enc) (C := Try.checked) false ⟨#[], #[.agg #[.int .i64 0, .int .i64 0, .int .i64 0, .int .i64 0], .int .i64 0], []⟩ 8 (by kernel_rfl) (by kernel_rfl) (by kernel_rfl) (by kernel_rfl)) ?_
  intro W base args ds gs before hval0 hW hcnd _
  have hval : ∀ (j : Nat) t v, Try.f8.params[j]? = some t → args[j]? = some v → Value.okWide Try.prog W .any base t v := hval0
  have hW' := hW
  obtain ⟨p, q, hA0, hV, rfl, hfz, hnd⟩ := hW
  have hA : DataW.TrodAll enc Try.prog W 0 (fun _ => true) true Try.f8.params.toList args.toList ds p := hA0
  rw [Try.params8] at hA hval
  obtain ⟨v0, vs0, d0, ds0, p0, q0, hargs, rfl, rfl, h0, r0⟩ := trodAll_cons hA
  obtain ⟨v1, vs1, d1, ds1, p1, q1, rfl, rfl, rfl, h1, r1⟩ := trodAll_cons r0
  obtain ⟨rfl, rfl, rfl⟩ := trodAll_nil r1
  obtain rfl : args = #[v0, v1] := by cases args; simp_all
  obtain ⟨rfl, rfl⟩ := trodVars_none hV
  have k0 := h0
  have lt0 : ∀ x ∈ p0, x.block < W.heap.size := by obtain ⟨m, hm⟩ := k0; exact DataW.trod_lt m _ _ _ hm
  have k1 := h1
  have lt1 : ∀ x ∈ p1, x.block < W.heap.size := by obtain ⟨m, hm⟩ := k1; exact DataW.trod_lt m _ _ _ hm
  obtain ⟨c0_0, c0_1, c0_2, c0_3, y0_0, y0_1, y0_2, y0_3, m0, rfl, rfl, rfl, hy0_0, hy0_1, hy0_2, hy0_3⟩ := open_agg4 Try.underlying44 (by kernel_rfl) (show Try.prog.cellsOf 44 = 4 by kernel_rfl) (hval 0 44 v0 rfl rfl) h0
  obtain ⟨x0_0, ex0_0, rfl, wx0_0⟩ := DataW.trod_int Try.underlying3 hy0_0
  simp at ex0_0
  subst ex0_0
  obtain ⟨x0_1, ex0_1, rfl, wx0_1⟩ := DataW.trod_int Try.underlying3 hy0_1
  simp at ex0_1
  subst ex0_1
  obtain ⟨x0_2, ex0_2, rfl, wx0_2⟩ := DataW.trod_int Try.underlying3 hy0_2
  simp at ex0_2
  subst ex0_2
  obtain ⟨x0_3, ex0_3, rfl, wx0_3⟩ := DataW.trod_int Try.underlying3 hy0_3
  simp at ex0_3
  subst ex0_3
  obtain ⟨x1, rfl, rfl, rfl, wx1⟩ := open_int Try.underlying3 (hval 1 3 v1 rfl rfl) h1
  clear hA0 hval0
  refine (fnExactCellState_walk x0_0 x0_1 x0_2 x0_3 x1 W (i64_of_wf wx0_0) (i64_of_wf wx0_1) (i64_of_wf wx0_2) (i64_of_wf wx0_3) (i64_of_wf wx1)).mono fun e W' ⟨he, bel⟩ => ?_
  subst he
  exact ⟨_, rfl, _, _, _, [], _, [], hW', trodAll_mk1 (shut_bool Try.underlying4 _), (trodAll_cons_mk (Below.trod Try.laidOut (by kernel_rfl) (of_decide_eq_true (by kernel_rfl)) k0 bel lt0) (trodAll_cons_mk (Below.trod Try.laidOut (by kernel_rfl) (of_decide_eq_true (by kernel_rfl)) k1 bel lt1) trodAll_mk0)), rfl, bel.frame _, fun h => by cases h⟩

theorem fnExactCellState_holds : Rows.FnExactCellStateSaid :=
  OpenClaim.holds_of_wide 8 Try.f8 rfl rfl rfl rfl rfl rfl rfl ⟨rfl, rfl, rfl, rfl, rfl⟩ rfl rfl rfl rfl rfl (by kernel_rfl) Try.func8 (by kernel_rfl)
    (of_decide_eq_true (by kernel_rfl)) (by unfold Func.isWrapper; first | (rw [if_pos (by decide +kernel)]; kernel_rfl) | (rw [if_neg (by decide +kernel)]; exact ⟨rfl, rfl⟩))
    (fun os started H enc _ => fnExactCellState_lifted os started H enc)
end Go.Proofs.Ythggppjdapmgdaa
