/- THE ROW OF FnSplit: cutting a drawn box never turns an answer, on every schedule of the four workers. No condition. -/
import Derived.Test.YtjbpaejjpamcpaaRows
import Derived.Test.YtjbpaejjpamcpaaRow
import Derived.Test.YtjbpaejjpamcpaaRowB
import Derived.Test.YtjbpaejjpamcpaaCh6
import Derived.Conc.LeavingOf
namespace Go.Proofs.Ytjbpaejjpamcpaa
set_option linter.unusedSimpArgs false
set_option linter.unusedVariables false
open Go.ChangeShapes Go.WideShapes Go.ChangeAt Go.RowKit Go.Joins
namespace Sim
open Go Go.Conc
theorem glob_le {P : Program} {W : World} (h : W.ShapedOpen P) (hb : P.globals.size < (begin P (fun _ _ => 0) default).world.heap.size) : P.globals.size ≤ W.heap.size := by
  obtain ⟨o, _, ho, _⟩ := h.2 P.globals.size (Nat.le_refl _) hb
  exact Nat.le_of_lt (Array.getElem?_eq_some_iff.1 ho).1
/-- From one good run from every start that holds the program's variables to the row's contract. -/
theorem returns_big {H : Type} {enc : TypeId × Value → H} {C : Checked} {os : Os} {f : FuncId} {fn : Func} {s : ChangeSpec} {conds : List PathCond} {apart fresh handsOn again : Bool} (own : ownKnob C.prog.godebug = none) (started : os.Started) (hfn : C.prog.funcs[f]? = some fn)
    (hb : C.prog.globals.size < (begin C.prog (fun _ _ => 0) default).world.heap.size)
    (witness : ∃ (w : World) (tape : Tape) (i : Input), w.os = os ∧ (w.forCall tape i).Shaped C.prog ∧ i.vars = [] ∧ Input.okWide C.prog (w.forCall tape i) .any w.heap.size f i ∧ s.pre6 enc C.prog fn conds apart (w.forCall tape i).memory i.args ∧ ({} : Assume).holds C.prog (lone (Frame.enter C.prog f i.args .normal) [] (w.forCall tape i)))
    (runs : ∀ (W : World) (base : Nat) (args : Array Value) (ds gs : List (DataW H)) (before : List MemPlace), C.prog.globals.size ≤ W.heap.size →
      (∀ (j : Nat) t v, fn.params[j]? = some t → args[j]? = some v → Value.okWide C.prog W .any base t v) → DataW.Whole enc C.prog fn.params.toList s.vars apart W args.toList ds gs before → conds.all (PathCond.test C.prog ⟨fn.params.toList, ds, s.plain.varTypes C.prog, gs⟩) = true →
      (DataW.weightsEach C.prog (fn.params.toList ++ s.plain.varTypes C.prog) (ds ++ gs)).all (· ≤ reachBytes) = true → ({} : Assume).holds C.prog (lone (Frame.enter C.prog f args .normal) [] W) →
      ∃ M last o w' t', runNT C.prog (M + 1) (solo (G (Frame.enter C.prog f args .normal) []) W) #[] = (.ended o w', t') ∧ runN C.prog M (solo (G (Frame.enter C.prog f args .normal) []) W) = .next last ∧ step C.prog last = .ended o w' ∧ Conc.Good C.prog (fun v W' => s.post enc C.prog fn apart fresh handsOn again W args v W') last o w' t') :
    ReturnsInLeavingWide {} C os f .any (s.pre6 enc C.prog fn conds apart) (s.post enc C.prog fn apart fresh handsOn again) := by
  refine returnsInLeavingWide_of_good own started witness fun w tape i _ hsh _ hok hpre hho => ?_
  obtain ⟨_, _, _, fn', e, _, _, _, _, hv⟩ := hok
  rw [hfn] at e
  obtain rfl : fn = fn' := Option.some.inj e
  obtain ⟨⟨ds, gs, before, h1, h2⟩, h3⟩ := hpre
  obtain ⟨M, last, o, w', t', r1, r2, r3, r4⟩ := runs (w.forCall tape i) w.heap.size i.args ds gs before (glob_le hsh hb) hv (DataW.Whole.of_heap (by rfl) h1) h2 (h3.weights h1) hho
  exact ⟨M, last, o, w', t', r1, r2, r3, r4.mono fun v hp => ChangeSpec.post_blind hp⟩
set_option maxRecDepth 100000 in
/-- The law's argument: nothing, or bytes in a block. -/
theorem codeV_of {W : World} {base : Nat} {a : Option Addr} {len cap : Nat} (hb : BytesOk W W.heap.size (.slice a len cap)) (hk : Cell.ok Try.prog W .any base 32 (.slice a len cap)) : CodeV (oldL W) a len cap := by
  have hu : Try.prog.underlying 32 = some (.slice 5) := Try.underlying32
  unfold Cell.ok at hk
  rw [hu] at hk
  cases a with
  | none =>
    cases len with
    | zero => cases cap with
      | zero => exact .inl ⟨rfl, rfl, rfl⟩
      | succ _ => exact hk.elim
    | succ _ => exact hk.elim
  | some ad =>
    obtain ⟨hl, hc, hh⟩ := hk
    have hc' : cap ≤ 9223372036854775807 := by
      have : (cap : Int) ≤ 9223372036854775807 := hc
      omega
    obtain ⟨_, hsp, row, cells, hsh, _⟩ := hh
    obtain ⟨b, off, spot⟩ := ad
    obtain rfl : spot = none := hsp
    unfold World.shape? at hsh
    split at hsh
    · rename_i cs t fz hblk
      have hlt : b < W.heap.size := (Array.getElem?_eq_some_iff.1 hblk).1
      have hmem : (b, Obj.cells cs t fz) ∈ oldL W := by
        have := oldL_mem hlt
        rwa [show W.heap[b] = Obj.cells cs t fz from (Array.getElem?_eq_some_iff.1 hblk).2] at this
      rcases hb with ⟨a', cap', e⟩ | ⟨b', off', len', cap', f, e, h1, h2, h3, h4⟩
      · cases e
        exact .inr ⟨b, off, cs, t, fz, fun _ => 0, rfl, hl, hc', hmem, fun _ => ⟨Int.le_refl _, by show (0 : Int) ≤ 255; decide⟩, fun i hi => absurd hi (by omega)⟩
      · cases e
        refine .inr ⟨b, off, cs, t, fz, f, rfl, h1, h2, hmem, h3, fun i hi => ?_⟩
        have := (h4 i hi).2
        simpa [World.cell?, hblk] using this
    · cases hsh
end Sim
set_option maxRecDepth 100000 in
theorem fnSplit_lifted (os : Os) (started : os.Started) (H : Type) (enc : TypeId × Value → H) :
    ReturnsInLeavingWide {} Try.checked os 4 .any (Rows.fnSplitSpec.pre6 enc Try.prog Try.f4 Rows.fnSplitRow.domain false) (Rows.fnSplitSpec.post enc Try.prog Try.f4 false true false false) := by
  refine Sim.returns_big (C := Try.checked) Try.own started Try.func4 (of_decide_eq_true (by kernel_rfl))
    (ChangeSpec.witness6 (enc := enc) (C := Try.checked) false ⟨#[], #[.slice none 0 0], []⟩ 8 (by kernel_rfl) (by kernel_rfl) (by kernel_rfl) (by kernel_rfl)) ?_
  intro W base args ds gs before hG hval0 hW hcnd _ _
  have hval : ∀ (j : Nat) t v, Try.f4.params[j]? = some t → args[j]? = some v → Value.okWide Try.prog W .any base t v := hval0
  have hW' := hW
  obtain ⟨p, q, hA0, hV, rfl, hfz, hnd⟩ := hW
  have hA : DataW.TrodAll enc Try.prog W 0 (fun _ => true) true Try.f4.params.toList args.toList ds p := hA0
  rw [Try.params4] at hA hval
  obtain ⟨v0, vs0, d0, ds0, p0, q0, hargs, rfl, rfl, h0, r0⟩ := trodAll_cons hA
  obtain ⟨rfl, rfl, rfl⟩ := trodAll_nil r0
  obtain rfl : args = #[v0] := by cases args; simp_all
  obtain ⟨rfl, rfl⟩ := trodVars_none hV
  have k0 := h0
  have lt0 : ∀ x ∈ p0, x.block < W.heap.size := by obtain ⟨m, hm⟩ := k0; exact DataW.trod_lt m _ _ _ hm
  have hv0 := hval 0 32 v0 rfl rfl
  have hck : Cell.ok Try.prog W .any base 32 v0 := by
    have hu : Try.prog.underlying 32 = some (.slice 5) := Try.underlying32
    unfold Value.okWide at hv0
    rw [hu] at hv0
    unfold Cell.okWide at hv0
    rw [hu] at hv0
    cases v0 <;> exact hv0
  obtain ⟨a0, len0, cap0, rfl⟩ := okWide_slice Try.underlying32 hv0
  have hb0 : BytesOk W W.heap.size (.slice a0 len0 cap0) := by
    obtain ⟨fuel, hf⟩ := h0
    exact bytes_of_ints (open_ints Try.underlying32 Try.underlying5 (by kernel_rfl) hf)
  clear hA0 hval0
  obtain ⟨M, last, o, w', t', g1, g2, g3, g4⟩ := Sim.law4_run (p := a0) (len := len0) (cap := cap0) W hG (Sim.codeV_of hb0 hck)
  refine ⟨M, last, o, w', t', g1, g2, g3, g4.mono fun v hv => ?_⟩
  obtain ⟨rfl, bel⟩ := hv
  exact ⟨_, _, _, [], _, [], hW', trodAll_mk1 (shut_bool Try.underlying4 _), (trodAll_cons_mk (Below.trod Try.laidOut (by kernel_rfl) (of_decide_eq_true (by kernel_rfl)) k0 bel lt0) trodAll_mk0), rfl, bel.frame _, fun h => by cases h⟩

theorem fnSplit_holds : Rows.FnSplitSaid :=
  OpenClaim.holds_of_wide_leaving 4 Try.f4 rfl rfl rfl rfl rfl rfl rfl ⟨rfl, rfl, rfl, rfl, rfl⟩ rfl rfl rfl rfl rfl (by kernel_rfl) Try.func4 (by kernel_rfl)
    (of_decide_eq_true (by kernel_rfl)) (by unfold Func.isWrapper; first | (rw [if_pos (by decide +kernel)]; kernel_rfl) | (rw [if_neg (by decide +kernel)]; exact ⟨rfl, rfl⟩))
    (fun os started H enc _ => fnSplit_lifted os started H enc)
end Go.Proofs.Ytjbpaejjpamcpaa
