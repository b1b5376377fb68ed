/- THE ROW OF FnExactCellSplit. -/
import Derived.Test.YtjbpaejjpamcpaaRows
import Derived.Test.YtjbpaejjpamcpaaRow
import Derived.Test.YtjbpaejjpamcpaaMCh
import Derived.Conc.LeavingOf
namespace Go.Proofs.Ytjbpaejjpamcpaa
set_option linter.unusedSimpArgs false
set_option linter.unusedVariables false
open Go.ChangeShapes Go.WideShapes Go.ChangeAt Go.RowKit Go.Joins
namespace Sim
open Go Go.Conc
theorem glob_le {P : Program} {W : World} (h : W.ShapedOpen P) (hb : P.globals.size < (begin P (fun _ _ => 0) default).world.heap.size) : P.globals.size ≤ W.heap.size := by
  obtain ⟨o, _, ho, _⟩ := h.2 P.globals.size (Nat.le_refl _) hb
  exact Nat.le_of_lt (Array.getElem?_eq_some_iff.1 ho).1
/-- From one good run from every start that holds the program's variables to the row's contract. -/
theorem returns_big {H : Type} {enc : TypeId × Value → H} {C : Checked} {os : Os} {f : FuncId} {fn : Func} {s : ChangeSpec} {conds : List PathCond} {apart fresh handsOn again : Bool} (own : ownKnob C.prog.godebug = none) (started : os.Started) (hfn : C.prog.funcs[f]? = some fn)
    (hb : C.prog.globals.size < (begin C.prog (fun _ _ => 0) default).world.heap.size)
    (witness : ∃ (w : World) (tape : Tape) (i : Input), w.os = os ∧ (w.forCall tape i).Shaped C.prog ∧ i.vars = [] ∧ Input.okWide C.prog (w.forCall tape i) .any w.heap.size f i ∧ s.pre6 enc C.prog fn conds apart (w.forCall tape i).memory i.args ∧ ({} : Assume).holds C.prog (lone (Frame.enter C.prog f i.args .normal) [] (w.forCall tape i)))
    (runs : ∀ (W : World) (base : Nat) (args : Array Value) (ds gs : List (DataW H)) (before : List MemPlace), C.prog.globals.size ≤ W.heap.size →
      (∀ (j : Nat) t v, fn.params[j]? = some t → args[j]? = some v → Value.okWide C.prog W .any base t v) → DataW.Whole enc C.prog fn.params.toList s.vars apart W args.toList ds gs before → conds.all (PathCond.test C.prog ⟨fn.params.toList, ds, s.plain.varTypes C.prog, gs⟩) = true →
      (DataW.weightsEach C.prog (fn.params.toList ++ s.plain.varTypes C.prog) (ds ++ gs)).all (· ≤ reachBytes) = true → ({} : Assume).holds C.prog (lone (Frame.enter C.prog f args .normal) [] W) →
      ∃ M last o w' t', runNT C.prog (M + 1) (solo (G (Frame.enter C.prog f args .normal) []) W) #[] = (.ended o w', t') ∧ runN C.prog M (solo (G (Frame.enter C.prog f args .normal) []) W) = .next last ∧ step C.prog last = .ended o w' ∧ Conc.Good C.prog (fun v W' => s.post enc C.prog fn apart fresh handsOn again W args v W') last o w' t') :
    ReturnsInLeavingWide {} C os f .any (s.pre6 enc C.prog fn conds apart) (s.post enc C.prog fn apart fresh handsOn again) := by
  refine returnsInLeavingWide_of_good own started witness fun w tape i _ hsh _ hok hpre hho => ?_
  obtain ⟨_, _, _, fn', e, _, _, _, _, hv⟩ := hok
  rw [hfn] at e
  obtain rfl : fn = fn' := Option.some.inj e
  obtain ⟨⟨ds, gs, before, h1, h2⟩, h3⟩ := hpre
  obtain ⟨M, last, o, w', t', r1, r2, r3, r4⟩ := runs (w.forCall tape i) w.heap.size i.args ds gs before (glob_le hsh hb) hv (DataW.Whole.of_heap (by rfl) h1) h2 (h3.weights h1) hho
  exact ⟨M, last, o, w', t', r1, r2, r3, r4.mono fun v hp => ChangeSpec.post_blind hp⟩
end Sim
set_option maxRecDepth 100000 in
theorem fnExactCellSplit_lifted (os : Os) (started : os.Started) (H : Type) (enc : TypeId × Value → H) :
    ReturnsInLeavingWide {} Try.checked os 3 .any (Rows.fnExactCellSplitSpec.pre6 enc Try.prog Try.f3 Rows.fnExactCellSplitRow.domain false) (Rows.fnExactCellSplitSpec.post enc Try.prog Try.f3 false true false false) := by
  refine Sim.returns_big (C := Try.checked) Try.own started Try.func3 (of_decide_eq_true (by kernel_rfl))
    (ChangeSpec.witness6 (enc := enc) (C := Try.checked) false ⟨#[], #[.agg #[.int .i64 0, .int .i64 0, .int .i64 0, .int .i64 0], .int .i64 0], []⟩ 8 (by kernel_rfl) (by kernel_rfl) (by kernel_rfl) (by kernel_rfl)) ?_
  intro W base args ds gs before hG hval0 hW hcnd _ _
  have hval : ∀ (j : Nat) t v, Try.f3.params[j]? = some t → args[j]? = some v → Value.okWide Try.prog W .any base t v := hval0
  have hW' := hW
  obtain ⟨p, q, hA0, hV, rfl, hfz, hnd⟩ := hW
  have hA : DataW.TrodAll enc Try.prog W 0 (fun _ => true) true Try.f3.params.toList args.toList ds p := hA0
  rw [Try.params3] at hA hval
  obtain ⟨v0, vs0, d0, ds0, p0, q0, hargs, rfl, rfl, h0, r0⟩ := trodAll_cons hA
  obtain ⟨v1, vs1, d1, ds1, p1, q1, rfl, rfl, rfl, h1, r1⟩ := trodAll_cons r0
  obtain ⟨rfl, rfl, rfl⟩ := trodAll_nil r1
  obtain rfl : args = #[v0, v1] := by cases args; simp_all
  obtain ⟨rfl, rfl⟩ := trodVars_none hV
  have k0 := h0
  have lt0 : ∀ x ∈ p0, x.block < W.heap.size := by obtain ⟨m, hm⟩ := k0; exact DataW.trod_lt m _ _ _ hm
  have k1 := h1
  have lt1 : ∀ x ∈ p1, x.block < W.heap.size := by obtain ⟨m, hm⟩ := k1; exact DataW.trod_lt m _ _ _ hm
  obtain ⟨c0_0, c0_1, c0_2, c0_3, y0_0, y0_1, y0_2, y0_3, m0, rfl, rfl, rfl, hy0_0, hy0_1, hy0_2, hy0_3⟩ := open_agg4 Try.underlying23 (by kernel_rfl) (show Try.prog.cellsOf 23 = 4 by kernel_rfl) (hval 0 23 v0 rfl rfl) h0
  obtain ⟨x0_0, ex0_0, rfl, wx0_0⟩ := DataW.trod_int Try.underlying3 hy0_0
  simp at ex0_0
  subst ex0_0
  obtain ⟨x0_1, ex0_1, rfl, wx0_1⟩ := DataW.trod_int Try.underlying3 hy0_1
  simp at ex0_1
  subst ex0_1
  obtain ⟨x0_2, ex0_2, rfl, wx0_2⟩ := DataW.trod_int Try.underlying3 hy0_2
  simp at ex0_2
  subst ex0_2
  obtain ⟨x0_3, ex0_3, rfl, wx0_3⟩ := DataW.trod_int Try.underlying3 hy0_3
  simp at ex0_3
  subst ex0_3
  obtain ⟨x1, rfl, rfl, rfl, wx1⟩ := open_int Try.underlying3 (hval 1 3 v1 rfl rfl) h1
  clear hA0 hval0
  obtain ⟨M, last, o, w', t', g1, g2, g3, g4⟩ := Sim.law3_run (a := x0_0) (b := x0_1) (c := x0_2) (d := x0_3) (m := x1) W hG
  refine ⟨M, last, o, w', t', g1, g2, g3, g4.mono fun v hv => ?_⟩
  obtain ⟨rfl, bel⟩ := hv
  exact ⟨_, _, _, [], _, [], hW', trodAll_mk1 (shut_bool Try.underlying4 _), (trodAll_cons_mk (Below.trod Try.laidOut (by kernel_rfl) (of_decide_eq_true (by kernel_rfl)) k0 bel lt0) (trodAll_cons_mk (Below.trod Try.laidOut (by kernel_rfl) (of_decide_eq_true (by kernel_rfl)) k1 bel lt1) trodAll_mk0)), rfl, bel.frame _, fun h => by cases h⟩

theorem fnExactCellSplit_holds : Rows.FnExactCellSplitSaid :=
  OpenClaim.holds_of_wide_leaving 3 Try.f3 rfl rfl rfl rfl rfl rfl rfl ⟨rfl, rfl, rfl, rfl, rfl⟩ rfl rfl rfl rfl rfl (by kernel_rfl) Try.func3 (by kernel_rfl)
    (of_decide_eq_true (by kernel_rfl)) (by unfold Func.isWrapper; first | (rw [if_pos (by decide +kernel)]; kernel_rfl) | (rw [if_neg (by decide +kernel)]; exact ⟨rfl, rfl⟩))
    (fun os started H enc _ => fnExactCellSplit_lifted os started H enc)
end Go.Proofs.Ytjbpaejjpamcpaa
