/- The law FnExactDyadState: the program's function gives what the reference's gives, for all arguments: its walk and row. -/
import Derived.Test.YthggppjdapmgdaaEs8c
import Derived.Test.YthggppjdapmgdaaRow
namespace Go.Proofs.Ythggppjdapmgdaa
set_option linter.unusedSimpArgs false
set_option linter.unusedVariables false
open Go.ChangeShapes Go.WideShapes Go.ChangeAt Go.RowKit Go.Joins Eng

def t_FnExactDyadState : Tree := (.leaf (.cv (.one (.bool (.lit true)))))
theorem t_FnExactDyadState_eq : explore X6 300 10 (lettersFrom 0 [3, 0]) 40 [] = t_FnExactDyadState := by kernel_rfl
theorem fnExactDyadState_walk (x0_0 x0_1 x0_2 x1 : Int) (w : World) (_x0_0 : I64 x0_0) (_x0_1 : I64 x0_1) (_x0_2 : I64 x0_2) (_x1 : I64 x1) : Calls Try.prog 10 #[.agg #[.int .i64 x0_0, .int .i64 x0_1, .int .i64 x0_2], .int .i64 x1] w (Gives (.bool true) w) := by
  refine explore_ok (X := X6) (v := .bool true) (E := envOf [x0_0, x0_1, x0_2, x1] (FI fun _ _ => 0) FB) (w0 := w) (X6_ok w _ rfl rfl) mixed (fuel := 300) (f := 10) (args := lettersFrom 0 [3, 0]) 40 [] (fun p hp => by cases hp) ?_
  rw [t_FnExactDyadState_eq]
  rfl
set_option maxRecDepth 100000 in
theorem fnExactDyadState_lifted (os : Os) (started : os.Started) (H : Type) (enc : TypeId × Value → H) :
    ReturnsInHanded {} Try.checked os 10 .any (Rows.fnExactDyadStateSpec.pre6 enc Try.prog Try.f10 Rows.fnExactDyadStateRow.domain false) (Rows.fnExactDyadStateSpec.post enc Try.prog Try.f10 false true false false) := by
  refine returnsInHanded_of_change (C := Try.checked) Try.own started (by kernel_rfl) Try.func10
    (ChangeSpec.witness6 (enc := enc) (C := Try.checked) false ⟨#[], #[.agg #[.int .i64 0, .int .i64 0, .int .i64 0], .int .i64 0], []⟩ 8 (by kernel_rfl) (by kernel_rfl) (by kernel_rfl) (by kernel_rfl)) ?_
  intro W base args ds gs before hval0 hW hcnd _
  have hval : ∀ (j : Nat) t v, Try.f10.params[j]? = some t → args[j]? = some v → Value.okWide Try.prog W .any base t v := hval0
  have hW' := hW
  obtain ⟨p, q, hA0, hV, rfl, hfz, hnd⟩ := hW
  have hA : DataW.TrodAll enc Try.prog W 0 (fun _ => true) true Try.f10.params.toList args.toList ds p := hA0
  rw [Try.params10] at hA hval
  obtain ⟨v0, vs0, d0, ds0, p0, q0, hargs, rfl, rfl, h0, r0⟩ := trodAll_cons hA
  obtain ⟨v1, vs1, d1, ds1, p1, q1, rfl, rfl, rfl, h1, r1⟩ := trodAll_cons r0
  obtain ⟨rfl, rfl, rfl⟩ := trodAll_nil r1
  obtain rfl : args = #[v0, v1] := by cases args; simp_all
  obtain ⟨rfl, rfl⟩ := trodVars_none hV
  have k0 := h0
  have lt0 : ∀ x ∈ p0, x.block < W.heap.size := by obtain ⟨m, hm⟩ := k0; exact DataW.trod_lt m _ _ _ hm
  have k1 := h1
  have lt1 : ∀ x ∈ p1, x.block < W.heap.size := by obtain ⟨m, hm⟩ := k1; exact DataW.trod_lt m _ _ _ hm
  obtain ⟨c0_0, c0_1, c0_2, y0_0, y0_1, y0_2, m0, rfl, rfl, rfl, hy0_0, hy0_1, hy0_2⟩ := open_agg3 Try.underlying61 (by kernel_rfl) (show Try.prog.cellsOf 61 = 3 by kernel_rfl) (hval 0 61 v0 rfl rfl) h0
  obtain ⟨x0_0, ex0_0, rfl, wx0_0⟩ := DataW.trod_int Try.underlying3 hy0_0
  simp at ex0_0
  subst ex0_0
  obtain ⟨x0_1, ex0_1, rfl, wx0_1⟩ := DataW.trod_int Try.underlying3 hy0_1
  simp at ex0_1
  subst ex0_1
  obtain ⟨x0_2, ex0_2, rfl, wx0_2⟩ := DataW.trod_int Try.underlying3 hy0_2
  simp at ex0_2
  subst ex0_2
  obtain ⟨x1, rfl, rfl, rfl, wx1⟩ := open_int Try.underlying3 (hval 1 3 v1 rfl rfl) h1
  clear hA0 hval0
  refine (fnExactDyadState_walk x0_0 x0_1 x0_2 x1 W (i64_of_wf wx0_0) (i64_of_wf wx0_1) (i64_of_wf wx0_2) (i64_of_wf wx1)).mono fun e W' ⟨he, bel⟩ => ?_
  subst he
  exact ⟨_, rfl, _, _, _, [], _, [], hW', trodAll_mk1 (shut_bool Try.underlying4 _), (trodAll_cons_mk (Below.trod Try.laidOut (by kernel_rfl) (of_decide_eq_true (by kernel_rfl)) k0 bel lt0) (trodAll_cons_mk (Below.trod Try.laidOut (by kernel_rfl) (of_decide_eq_true (by kernel_rfl)) k1 bel lt1) trodAll_mk0)), rfl, bel.frame _, fun h => by cases h⟩

theorem fnExactDyadState_holds : Rows.FnExactDyadStateSaid :=
  OpenClaim.holds_of_wide 10 Try.f10 rfl rfl rfl rfl rfl rfl rfl ⟨rfl, rfl, rfl, rfl, rfl⟩ rfl rfl rfl rfl rfl (by kernel_rfl) Try.func10 (by kernel_rfl)
    (of_decide_eq_true (by kernel_rfl)) (by unfold Func.isWrapper; first | (rw [if_pos (by decide +kernel)]; kernel_rfl) | (rw [if_neg (by decide +kernel)]; exact ⟨rfl, rfl⟩))
    (fun os started H enc _ => fnExactDyadState_lifted os started H enc)
end Go.Proofs.Ythggppjdapmgdaa
