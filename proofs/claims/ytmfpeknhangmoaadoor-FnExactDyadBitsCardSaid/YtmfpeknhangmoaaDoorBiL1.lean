/- The law FnExactDyadBits: the program's function gives what the reference's gives, for all arguments, where the library's table lies as its text lays it: its walk and row; and its card. -/
import Derived.Test.YtmfpeknhangmoaaDoorBi5
import Derived.Test.YtmfpeknhangmoaaDoorRowT
namespace Go.Proofs.YtmfpeknhangmoaaDoor
set_option linter.unusedSimpArgs false
set_option linter.unusedVariables false
open Go.ChangeShapes Go.WideShapes Go.ChangeAt Go.RowKit Go.Joins Eng
def t_FnExactDyadBits : Tree := (.leaf (.cv (.one (.bool (.lit true)))))
theorem t_FnExactDyadBits_eq : explore XT3 200 3 (lettersFrom 0 [3]) 40 [] = t_FnExactDyadBits := by kernel_rfl
theorem fnExactDyadBits_walk (x0_0 x0_1 x0_2 : Int) (w : World) (_x0_0 : I64 x0_0) (_x0_1 : I64 x0_1) (_x0_2 : I64 x0_2) (hT : Tb w) : Calls Tryd.prog 3 #[.agg #[.int .i64 x0_0, .int .i64 x0_1, .int .i64 x0_2]] w (Gives (.bool true) w) := by
  refine explore_ok (X := XT3) (v := .bool true) (E := envOf [x0_0, x0_1, x0_2] (FI fun _ _ => 0) FB) (w0 := w) (XT3_ok w hT _ rfl rfl) mixed (fuel := 200) (f := 3) (args := lettersFrom 0 [3]) 40 [] (fun p hp => by cases hp) ?_
  rw [t_FnExactDyadBits_eq]
  simp only [t_FnExactDyadBits, Tree.den, SVal.den, CV.den, At.den, SE.den, SB.den, SL.den, IOp.den, COp.den, envOf, List.getD_cons_zero, List.getD_cons_succ]
theorem fnExactDyadBits_laid (os : Os) : laidMet Tryd.prog Rows.fnExactDyadBitsRow.laid ((laidWorld os).forCall (fun _ _ => 0) ⟨#[], #[.agg #[.int .i64 0, .int .i64 0, .int .i64 0]], []⟩).memory := laidMet_of_run' 8 (by kernel_rfl) (by kernel_rfl)
theorem fnExactDyadBits_reads (os : Os) {H : Type} (enc : TypeId × Value → H) : ∃ places, DataW.whole enc Tryd.prog ((laidWorld os).forCall (fun _ _ => 0) ⟨#[], #[.agg #[.int .i64 0, .int .i64 0, .int .i64 0]], []⟩).memory Tryd.f3.params.toList Rows.fnExactDyadBitsSpec.vars false #[Value.agg #[.int .i64 0, .int .i64 0, .int .i64 0]].toList 8 = some ([.agg [.lit (.int .i64 0), .lit (.int .i64 0), .lit (.int .i64 0)]], [], places) := ⟨[], by kernel_rfl⟩
set_option maxRecDepth 100000 in
theorem fnExactDyadBits_lifted (os : Os) (started : os.Started) (H : Type) (enc : TypeId × Value → H) (F : Stop.Interp) :
    ReturnsInHanded {} Tryd.checked os 3 .any ((OpenSpec.ofChange Rows.fnExactDyadBitsSpec).preRow enc Tryd.prog Tryd.f3 Rows.fnExactDyadBitsRow.domain false Rows.fnExactDyadBitsRow.laid) (((OpenSpec.ofChange Rows.fnExactDyadBitsSpec).at F).post enc Tryd.prog Tryd.f3 false true false false) := by
  obtain ⟨places, hx⟩ := fnExactDyadBits_reads os enc
  refine returnsInHanded_of_row (C := Tryd.checked) (s := OpenSpec.ofChange Rows.fnExactDyadBitsSpec) Tryd.own started (by kernel_rfl) Tryd.func3
    (witness_row_at (enc := enc) (C := Tryd.checked) false (laidWorld os) #[.agg #[.int .i64 0, .int .i64 0, .int .i64 0]] rfl (by kernel_rfl) (by kernel_rfl) (by kernel_rfl)
      (OpenSpec.preRow_of_cond 8 hx (by kernel_rfl) (fun k hk => by cases hk) (by kernel_rfl) (fnExactDyadBits_laid os))) ?_
  intro W base args ds gs before hval0 hW _ _ _ hL _ _
  have hT : Tb W := tb_of hL
  have hval : ∀ (j : Nat) t v, Tryd.f3.params[j]? = some t → args[j]? = some v → Value.okWide Tryd.prog W .any base t v := hval0
  have hW' := hW
  obtain ⟨p, q, hA0, hV, rfl, hfz, hnd⟩ := hW
  have hA : DataW.TrodAll enc Tryd.prog W 0 (fun _ => true) true Tryd.f3.params.toList args.toList ds p := hA0
  rw [Tryd.params3] at hA hval
  obtain ⟨v0, vs0, d0, ds0, p0, q0, hargs, rfl, rfl, h0, r0⟩ := trodAll_cons hA
  obtain ⟨rfl, rfl, rfl⟩ := trodAll_nil r0
  obtain rfl : args = #[v0] := by cases args; simp_all
  obtain ⟨rfl, rfl⟩ := trodVars_none hV
  have k0 := h0
  have lt0 : ∀ x ∈ p0, x.block < W.heap.size := by obtain ⟨m, hm⟩ := k0; exact DataW.trod_lt m _ _ _ hm
  obtain ⟨c0_0, c0_1, c0_2, y0_0, y0_1, y0_2, m0, rfl, rfl, rfl, hy0_0, hy0_1, hy0_2⟩ := open_agg3 Tryd.underlying23 (by kernel_rfl) (show Tryd.prog.cellsOf 23 = 3 by kernel_rfl) (hval 0 23 v0 rfl rfl) h0
  obtain ⟨x0_0, ex0_0, rfl, wx0_0⟩ := DataW.trod_int Tryd.underlying3 hy0_0
  simp at ex0_0
  subst ex0_0
  obtain ⟨x0_1, ex0_1, rfl, wx0_1⟩ := DataW.trod_int Tryd.underlying3 hy0_1
  simp at ex0_1
  subst ex0_1
  obtain ⟨x0_2, ex0_2, rfl, wx0_2⟩ := DataW.trod_int Tryd.underlying3 hy0_2
  simp at ex0_2
  subst ex0_2
  clear hA0 hval0
  refine (fnExactDyadBits_walk x0_0 x0_1 x0_2 W (i64_of_wf wx0_0) (i64_of_wf wx0_1) (i64_of_wf wx0_2) hT).mono fun e W' ⟨he, bel⟩ => ?_
  subst he
  exact ⟨_, rfl, _, _, _, [], _, [], hW', trodAll_mk1 (shut_bool Tryd.underlying4 _), (trodAll_cons_mk (Below.trod Tryd.laidOut (by kernel_rfl) (of_decide_eq_true (by kernel_rfl)) k0 bel lt0) trodAll_mk0), rfl, bel.frame _, fun h => by cases h⟩

theorem fnExactDyadBits_holds : Rows.FnExactDyadBitsSaid :=
  OpenClaim.holds_of_cond 3 Tryd.f3 rfl rfl rfl rfl rfl rfl rfl ⟨rfl, rfl, rfl, rfl, rfl⟩ rfl rfl rfl rfl rfl (by kernel_rfl) Tryd.func3 (by kernel_rfl)
    (of_decide_eq_true (by kernel_rfl)) (by unfold Func.isWrapper; first | (rw [if_pos (by decide +kernel)]; kernel_rfl) | (rw [if_neg (by decide +kernel)]; exact ⟨rfl, rfl⟩))
    (fun os started H enc _ F => by rw [OpenClaim.pre_eq_preRow]; exact fnExactDyadBits_lifted os started H enc F)
theorem fnExactDyadBits_plain (f : FuncId) (fn : Func) (hf : Tryd.pinned.checked.prog.funcNamed Rows.fnExactDyadBitsRow.func = some f) (hfn : Tryd.pinned.checked.prog.funcs[f]? = some fn) :
    false = Tryd.pinned.checked.prog.looks [] ∧ ∀ (j : Nat) t, fn.params[j]? = some t → Tryd.pinned.checked.prog.wantsStandIn t = false := by
  obtain rfl : f = 3 := Option.some.inj ((show Tryd.prog.funcNamed Rows.fnExactDyadBitsRow.func = some 3 by kernel_rfl).symm.trans hf) |>.symm
  obtain rfl : fn = Tryd.f3 := (Option.some.inj (Tryd.func3.symm.trans hfn)).symm
  refine ⟨by kernel_rfl, fun j t ht => ?_⟩
  rw [Tryd.params3] at ht
  have hm : t ∈ [23] := by simpa using Array.mem_of_getElem? ht
  have hall : ([23].all fun u => !Tryd.prog.wantsStandIn u) = true := by kernel_rfl
  exact (show Tryd.prog.wantsStandIn t = false by simpa using List.all_eq_true.1 hall t hm)
/-- The card. -/
theorem fnExactDyadBits_card : Rows.FnExactDyadBitsCardSaid :=
  Claim7.holds_tied_plain_at .later [] _ _ _ _ fnExactDyadBits_holds (fun _ h => by cases h) (by kernel_rfl) (fun _ h => by cases h) fnExactDyadBits_row_tie rfl ⟨rfl, rfl⟩ (by kernel_rfl) rfl fnExactDyadBits_plain (by kernel_rfl)
#print axioms fnExactDyadBits_card
end Go.Proofs.YtmfpeknhangmoaaDoor
