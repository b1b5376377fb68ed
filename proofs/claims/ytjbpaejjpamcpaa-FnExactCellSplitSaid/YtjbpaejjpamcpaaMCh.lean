import Derived.Test.YtjbpaejjpamcpaaCg3
import Derived.Test.YtjbpaejjpamcpaaMCg
/- FnExactCellSplit: what its goroutine does alone: up to the first group, from there to the second, from there to the end (a valid box). -/
set_option linter.unusedSectionVars false
namespace Go.Proofs.Ytjbpaejjpamcpaa.Sim
set_option linter.unusedSimpArgs false
set_option linter.unusedVariables false
open Go Go.Conc Go.RowKit Go.Conc.Lib Go.ConcN.Gen Go.ConcR.Gen

noncomputable def body3 : Code := Try.f3.body.getD .skip
/-- These blocks hold this. -/
def Holds (L : List (Nat × Obj)) (w : World) : Prop := ∀ p ∈ L, w.heap[p.1]? = some p.2
theorem ev_equalIn (d : Nat) (p q : Bool) (w : World) (es : Array Event) : (Op.equalIn (d + 1) 4 (.bool p) (.bool q)).events Try.prog w es = es := by
  simp [Op.equalIn, underlying]
theorem ev_equal (p q : Bool) (w : World) (es : Array Event) : (Op.equal 4 (.bool p) (.bool q)).events Try.prog w es = es := ev_equalIn 9999 p q w es
theorem ev_neqB (p q : Bool) (w : World) (es : Array Event) : (binOp .neq 4 (.bool p) (.bool q)).events Try.prog w es = es := by
  simp only [binOp]
  simp [ev_equal, run_equal_bool w 4 p q Try.underlying4]
theorem op_neqB {a : Act} {o : Oper} {x y : Operand} {p : Bool} (ho : o.op = .binOp .neq 4 x y 4) (hx : a.eval x = .bool p) (hy : a.eval y = .bool p) (w : World) : (execOp a.eval o).run Try.prog w = .ok (.value (.bool false)) w ∧ (execOp a.eval o).events Try.prog w #[] = #[] := by
  unfold execOp
  simp only [ho, hx, hy]
  exact ⟨by go_simp, by simp [go_sem, ev_neqB]⟩
theorem Has.holds {Gl : Nat} {Fx E : Nat → Prop} {w : World} {L : List (Nat × Obj)} (h : Has Gl Fx E w L) : Holds L w := fun p hp => (h.at_ p hp).2
theorem Holds.tail {p : Nat × Obj} {L : List (Nat × Obj)} {w : World} (h : Holds (p :: L) w) : Holds L w := fun q hq => h q (.tail _ hq)
/-- The run's last step: a result in a temporary. -/
theorem done_tmp {P : Program} {Fr E : Nat → Prop} {Post : Value → World → Prop} {b : Frame} {a : Act} {todo : List Item} {w : World} {fn : Func} {t : Tmp} (hn : b.kind = .normal) (hd : a.defers = []) (hf : P.funcs[b.fn]? = some fn) (hr : fn.results = #[.tmp t]) (hin : P.inits.idxOf? b.fn = none) (hp : Post (a.tmps.getD t undef) w) :
    AtEndW P Fr Post E (G { b.at a todo with mode := .returning } []) w := by
  refine ⟨rfl, a.tmps.getD t undef, #[], ?_, fun e he => absurd he (by simp), hp⟩
  simp [G, stepG, unwind, doReturn, Frame.at, hn, hd, hf, results_tmp hr, events_results_tmp hr, seen_none, GStep.after, hin]
noncomputable def d1 : Code := c2 (c2 body3)
noncomputable def d2 : Code := c2 (c2 (c2 (c2 (c2 (c2 (c2 (c2 d1)))))))
/-- FnExactCellSplit while CellSplit runs: the first time, the second time. -/
noncomputable def at31 (a b c d m : Int) (Bx W0 wc : Nat) : Act := ⟨#[.agg #[.int .i64 a, .int .i64 b, .int .i64 c, .int .i64 d], .int .i64 m, .pointer (some ⟨Bx, 0, none⟩), undef, .bool false, .slice (some ⟨W0, 0, none⟩) 4 wc, .bool true, undef, undef, undef, undef, undef, undef, .tuple #[.slice (some ⟨W0, 0, none⟩) 4 wc, .bool true], .agg #[.int .i64 a, .int .i64 b, .int .i64 c, .int .i64 d], bx a b c d, .int .i64 m, .tuple #[.slice (some ⟨W0, 0, none⟩) 4 wc, .bool true], .slice (some ⟨W0, 0, none⟩) 4 wc, .bool true, undef, .agg #[.int .i64 a, .int .i64 b, .int .i64 c, .int .i64 d], bx a b c d, .int .i64 m, undef, undef, undef, undef, undef, undef, undef, undef, undef, undef, undef, undef, undef, undef, undef, undef, undef, undef, undef, undef, undef, undef, undef, undef, undef, undef, undef, undef, undef, undef, undef, undef, undef, undef, undef, undef, undef, undef, undef, undef, undef, undef, undef, undef, undef, undef, undef], []⟩
noncomputable def at32 (a b c d m : Int) (Bx W0 wc S : Nat) : Act := ⟨#[.agg #[.int .i64 a, .int .i64 b, .int .i64 c, .int .i64 d], .int .i64 m, .pointer (some ⟨Bx, 0, none⟩), undef, .bool false, .slice (some ⟨W0, 0, none⟩) 4 wc, .bool true, .slice (some ⟨S, 0, none⟩) 4 4, .bool true, .int .i64 5, .int .i64 5, undef, undef, .tuple #[.slice (some ⟨W0, 0, none⟩) 4 wc, .bool true], .agg #[.int .i64 a, .int .i64 b, .int .i64 c, .int .i64 d], bx a b c d, .int .i64 m, .tuple #[.slice (some ⟨W0, 0, none⟩) 4 wc, .bool true], .slice (some ⟨W0, 0, none⟩) 4 wc, .bool true, .tuple #[.slice (some ⟨S, 0, none⟩) 4 4, .bool true], .agg #[.int .i64 a, .int .i64 b, .int .i64 c, .int .i64 d], bx a b c d, .int .i64 m, .tuple #[.slice (some ⟨S, 0, none⟩) 4 4, .bool true], .slice (some ⟨S, 0, none⟩) 4 4, .bool true, .slice (some ⟨S, 0, none⟩) 4 4, .slice (some ⟨W0, 0, none⟩) 4 wc, .bool true, .bool false, .bool false, .bool true, .bool true, .bool false, .bool false, .slice (some ⟨S, 0, none⟩) 4 4, .int .i64 1, .int .i64 5, .slice (some ⟨S, 0, none⟩) 4 4, .int .i64 1, .int .i64 5, .int .i64 5, .bool false, .int .i64 5, .int .i64 5, .bool false, undef, .agg #[.int .i64 a, .int .i64 b, .int .i64 c, .int .i64 d], bx a b c d, .int .i64 m, undef, undef, undef, undef, undef, undef, undef, undef, undef, undef, undef, undef, undef, undef, undef, undef, undef, undef, undef, undef], []⟩
noncomputable def ops31 : Array Oper := cops (c1 d1)
noncomputable def ops32 : Array Oper := cops (c1 d2)
section
variable {E : Nat → Prop} {w : World} {L : List (Nat × Obj)} {a b c d m : Int} {Bx W0 wc S S2 : Nat} {cw : Array Value} {Stop : St}
set_option maxRecDepth 100000 in
set_option maxHeartbeats 400000 in
theorem law3a (hH : Has Try.prog.globals.size NoF E w L) (hv : BV a b c d = true)
    (k : ∀ Bx W0 wc cw Bb Bm Q An qc cq E' w', Has Try.prog.globals.size NoF E' w' ([(An, .cells #[.chan none, .chan none, .chan none, .chan none] 52), (Q, .cells cq 27), (Bm, .cells #[.int .i64 m] 3), (Bb, .cells #[.int .i64 a, .int .i64 b, .int .i64 c, .int .i64 d] 27)] ++ ((W0, .cells cw 3) :: (Bx, .cells #[.int .i64 a, .int .i64 b, .int .i64 c, .int .i64 d] 23) :: L)) →
      (∀ i, i < 4 → cw[i]? = some (.int .i64 (qst a b c d m i))) → (∀ k j, k < 4 → j < 4 → cq[k * 4 + j]? = some (.int .i64 (qv j a b c d k))) →
      MainW Stop E' (G (at5 a b c d m Bb Bm Q An qc) ((base 3).at (at31 a b c d m Bx W0 wc) (.inRegion ops31 [3, 4, 5, 6, 7, 8] :: [.code (c2 d1)]) :: [])) w') :
    MainW Stop E (G ((base 3).at ⟨#[.agg #[.int .i64 a, .int .i64 b, .int .i64 c, .int .i64 d], .int .i64 m, undef, undef, undef, undef, undef, undef, undef, undef, undef, undef, undef, undef, undef, undef, undef, undef, undef, undef, undef, undef, undef, undef, undef, undef, undef, undef, undef, undef, undef, undef, undef, undef, undef, undef, undef, undef, undef, undef, undef, undef, undef, undef, undef, undef, undef, undef, undef, undef, undef, undef, undef, undef, undef, undef, undef, undef, undef, undef, undef, undef, undef, undef, undef, undef, undef, undef, undef, undef, undef], []⟩ [.code body3]) []) w := by
  show Way _ _ _ _ _ _ _ _
  simp only [body3, Try.f3, Option.getD_some]
  refine Way.ctl rfl (fun _ => stepG_seq) ?_
  refine Way.ctl rfl (fun _ => stepG_region) ?_
  simp only [List.size_toArray, List.length_cons, List.length_nil, Nat.reduceAdd, Nat.zero_add, List.range, List.range.loop]
  refine Way.alloc (f := fun B => .pointer (some ⟨B, 0, none⟩)) stab0 hH rfl rfl (by decide) (op_box23 rfl rfl) (fun Bx E w hH hBx => ?_)
  walk_nrm
  refine Way.op0 rfl rfl (by decide) (fun _ => by go_simp; rfl) (fun _ => by simp [go_sem]) ?_
  walk_nrm
  refine Way.ctl rfl (fun _ => stepG_region_end) ?_
  refine Way.ctl rfl (fun _ => stepG_seq) ?_
  refine Way.ctl rfl (fun _ => stepG_region) ?_
  simp only [List.size_toArray, List.length_cons, List.length_nil, Nat.reduceAdd, Nat.zero_add, List.range, List.range.loop]
  refine Way.load hH (.head _) rfl rfl (by decide) (op_load23 rfl rfl) ?_
  walk_nrm
  refine Way.enter (c := body6') rfl rfl (by decide) rfl Try.func6 (by kernel_rfl) rfl ?_
  walk_nrmf Try.f6
  refine tobox stab0 hH (fun E w hH => ?_)
  walk_nrm
  refine Way.op0 rfl rfl (by decide) (fun _ => by go_simp; rfl) (fun _ => by simp [go_sem]) ?_
  walk_nrm
  refine Way.call stab0 hH (f := 5) rfl (args := #[bx a b c d, .int .i64 m]) (ar_bxm a b c d m) (calls_split m hv) (fun _ _ _ h => by first | exact ⟨_, h.1⟩ | exact ⟨_, h.2.choose_spec.choose_spec.choose_spec.1⟩) rfl rfl (by decide) rfl (by simp [Act.eval, bx]) Try.func5 (by kernel_rfl) (by rfl) (fun v' E w hr => ?_)
  obtain ⟨W0, wc, cw, rfl, hBE, hEB, hBc, hz⟩ := hr.row
  replace hH := hr.has.add hEB hBc (fun p hp => Nat.lt_of_lt_of_le (hH.lt hp) hBE)
  walk_nrm
  refine Way.op0 rfl rfl (by decide) (fun _ => by go_simp; rfl) (fun _ => by simp [go_sem]) ?_
  walk_nrm
  refine Way.op0 rfl rfl (by decide) (fun _ => by go_simp; rfl) (fun _ => by simp [go_sem]) ?_
  walk_nrm
  refine Way.op0 rfl rfl (by decide) (fun _ => by go_simp; rfl) (fun _ => by simp [go_sem]) ?_
  walk_nrm
  refine Way.op0 rfl rfl (by decide) (fun _ => by go_simp; rfl) (fun _ => by simp [go_sem]) ?_
  walk_nrm
  refine Way.op0 rfl rfl (by decide) (fun _ => by go_simp; rfl) (fun _ => by simp [go_sem]) ?_
  walk_nrm
  refine Way.ctl rfl (fun _ => stepG_region_end) ?_
  refine Way.ctl rfl (fun _ => stepG_seq) ?_
  refine Way.ctl rfl (fun _ => stepG_region) ?_
  simp only [List.size_toArray, List.length_cons, List.length_nil, Nat.reduceAdd, Nat.zero_add, List.range, List.range.loop]
  refine Way.load hH (.tail _ (.head _)) rfl rfl (by decide) (op_load23 rfl rfl) ?_
  walk_nrm
  refine Way.enter (c := body6') rfl rfl (by decide) rfl Try.func6 (by kernel_rfl) rfl ?_
  walk_nrmf Try.f6
  refine tobox stab0 hH (fun E w hH => ?_)
  walk_nrm
  refine Way.op0 rfl rfl (by decide) (fun _ => by go_simp; rfl) (fun _ => by simp [go_sem]) ?_
  walk_nrm
  refine Way.enter (c := body7) rfl rfl (by decide) rfl Try.func7 (by kernel_rfl) rfl ?_
  walk_nrmf Try.f7
  exact splitA stab0 hH hv fun Bb Bm Q An qc cq E' w' h hq => k _ _ _ _ _ _ _ _ _ _ _ _ h (fun i hi => by have := hz i 0 hi (by decide); simpa using this) hq
set_option maxRecDepth 100000 in
set_option maxHeartbeats 400000 in
theorem law3b (hH : Has Try.prog.globals.size NoF E w ((S, .cells #[.int .i64 (qst a b c d m 0), .int .i64 (qst a b c d m 1), .int .i64 (qst a b c d m 2), .int .i64 (qst a b c d m 3)] 3) :: (W0, .cells cw 3) :: (Bx, .cells #[.int .i64 a, .int .i64 b, .int .i64 c, .int .i64 d] 23) :: L)) (hv : BV a b c d = true)
    (hcw : ∀ i, i < 4 → cw[i]? = some (.int .i64 (qst a b c d m i)))
    (k : ∀ Bb Bm Q An qc cq E' w', Has Try.prog.globals.size NoF E' w' ([(An, .cells #[.chan none, .chan none, .chan none, .chan none] 52), (Q, .cells cq 27), (Bm, .cells #[.int .i64 m] 3), (Bb, .cells #[.int .i64 a, .int .i64 b, .int .i64 c, .int .i64 d] 27)] ++ ((S, .cells #[.int .i64 1, .int .i64 2, .int .i64 3, .int .i64 4] 3) :: (W0, .cells cw 3) :: (Bx, .cells #[.int .i64 a, .int .i64 b, .int .i64 c, .int .i64 d] 23) :: L)) →
      (∀ k j, k < 4 → j < 4 → cq[k * 4 + j]? = some (.int .i64 (qv j a b c d k))) →
      MainW Stop E' (G (at5 a b c d m Bb Bm Q An qc) ((base 3).at (at32 a b c d m Bx W0 wc S) (.inRegion ops32 [3, 4, 5, 6, 7, 8] :: [.code (c2 d2)]) :: [])) w') :
    MainW Stop E (G ((base 3).at ((at31 a b c d m Bx W0 wc).put ((ops31[3]?).bind (·.dst)) (.tuple #[.slice (some ⟨S, 0, none⟩) 4 4, .bool true])) (.inRegion ops31 [4, 5, 6, 7, 8] :: [.code (c2 d1)])) []) w := by
  show Way _ _ _ _ _ _ _ _
  simp only [at31, ops31, d1, cops, c1, c2, body3, Try.f3, Option.getD_some]
  walk_nrm
  refine Way.op0 rfl rfl (by decide) (fun _ => by go_simp; rfl) (fun _ => by simp [go_sem]) ?_
  walk_nrm
  refine Way.op0 rfl rfl (by decide) (fun _ => by go_simp; rfl) (fun _ => by simp [go_sem]) ?_
  walk_nrm
  refine Way.op0 rfl rfl (by decide) (fun _ => by go_simp; rfl) (fun _ => by simp [go_sem]) ?_
  walk_nrm
  refine Way.op0 rfl rfl (by decide) (fun _ => by go_simp; rfl) (fun _ => by simp [go_sem]) ?_
  walk_nrm
  refine Way.op0 rfl rfl (by decide) (fun _ => by go_simp; rfl) (fun _ => by simp [go_sem]) ?_
  walk_nrm
  refine Way.ctl rfl (fun _ => stepG_region_end) ?_
  refine Way.ctl rfl (fun _ => stepG_seq) ?_
  refine Way.ctl rfl (fun _ => stepG_seq) ?_
  refine Way.ctl rfl (fun _ => stepG_region) ?_
  simp only [List.size_toArray, List.length_cons, List.length_nil, Nat.reduceAdd, Nat.zero_add, List.range, List.range.loop]
  refine Way.op0 rfl rfl (by decide) (fun _ => by go_simp; rfl) (fun _ => by simp [go_sem]) ?_
  walk_nrm
  refine Way.op0 rfl rfl (by decide) (fun _ => by go_simp; rfl) (fun _ => by simp [go_sem]) ?_
  walk_nrm
  refine Way.enter (c := body8') rfl rfl (by decide) rfl Try.func8 (by kernel_rfl) rfl ?_
  walk_nrmf Try.f8
  refine eq8_4 (z := fun i => qst a b c d m i) stab0 hH (.head _) (.tail _ (.head _)) (fun i hi => match i, hi with | 0, _ => rfl | 1, _ => rfl | 2, _ => rfl | 3, _ => rfl) hcw (fun E w hH => ?_)
  walk_nrm
  refine Way.op0 rfl rfl (by decide) (fun _ => by go_simp; rfl) (fun _ => by simp [go_sem]) ?_
  walk_nrm
  refine Way.op0 rfl rfl (by decide) (fun _ => by go_simp; rfl) (fun _ => by simp [go_sem]) ?_
  walk_nrm
  refine Way.op0 rfl rfl (by decide) (fun _ => by go_simp; rfl) (fun _ => by simp [go_sem]) ?_
  walk_nrm
  refine Way.op0 rfl rfl (by decide) (fun _ => by go_simp; rfl) (fun _ => by simp [go_sem]) ?_
  walk_nrm
  refine Way.op2 rfl rfl (by decide) (op_neqB rfl rfl rfl) ?_
  walk_nrm
  refine Way.op0 rfl rfl (by decide) (fun _ => by go_simp; rfl) (fun _ => by simp [go_sem]) ?_
  walk_nrm
  refine Way.ctl rfl (fun _ => stepG_region_end) ?_
  refine Way.ctl rfl (fun _ => stepG_cond (t := false) rfl) ?_
  simp only [if_true, if_false, Bool.false_eq_true, ↓reduceIte]
  refine Way.ctl rfl (fun _ => stepG_skip) ?_
  refine Way.ctl rfl (fun _ => stepG_seq) ?_
  refine Way.ctl rfl (fun _ => stepG_region) ?_
  simp only [List.size_toArray, List.length_cons, List.length_nil, Nat.reduceAdd, Nat.zero_add, List.range, List.range.loop]
  refine Way.op0 rfl rfl (by decide) (fun _ => by go_simp; rfl) (fun _ => by simp [go_sem]) ?_
  walk_nrm
  refine Way.ctl rfl (fun _ => stepG_region_end) ?_
  refine Way.ctl rfl (fun _ => stepG_seq) ?_
  refine Way.ctl rfl (fun _ => stepG_region) ?_
  simp only [List.size_toArray, List.length_cons, List.length_nil, Nat.reduceAdd, Nat.zero_add, List.range, List.range.loop]
  refine Way.op0 rfl rfl (by decide) (fun _ => by go_simp; rfl) (fun _ => by simp [go_sem]) ?_
  walk_nrm
  refine Way.op0 rfl rfl (by decide) (fun _ => by go_simp; rfl) (fun _ => by simp [go_sem]) ?_
  walk_nrm
  refine Way.enter (c := body9') rfl rfl (by decide) rfl Try.func9 (by kernel_rfl) rfl ?_
  walk_nrmf Try.f9
  refine mark9_4 stab0 hH (fun E w hH => ?_)
  walk_nrm
  refine Way.op0 rfl rfl (by decide) (fun _ => by go_simp; rfl) (fun _ => by simp [go_sem]) ?_
  walk_nrm
  refine Way.ctl rfl (fun _ => stepG_region_end) ?_
  refine Way.ctl rfl (fun _ => stepG_seq) ?_
  refine Way.ctl rfl (fun _ => stepG_region) ?_
  simp only [List.size_toArray, List.length_cons, List.length_nil, Nat.reduceAdd, Nat.zero_add, List.range, List.range.loop]
  refine Way.op0 rfl rfl (by decide) (fun _ => by go_simp; rfl) (fun _ => by simp [go_sem]) ?_
  walk_nrm
  refine Way.ctl rfl (fun _ => stepG_region_end) ?_
  refine Way.ctl rfl (fun _ => stepG_seq) ?_
  refine Way.ctl rfl (fun _ => stepG_region) ?_
  simp only [List.size_toArray, List.length_cons, List.length_nil, Nat.reduceAdd, Nat.zero_add, List.range, List.range.loop]
  refine Way.op0 rfl rfl (by decide) (fun _ => by go_simp; rfl) (fun _ => by simp [go_sem]) ?_
  walk_nrm
  refine Way.op0 rfl rfl (by decide) (fun _ => by go_simp; rfl) (fun _ => by simp [go_sem]) ?_
  walk_nrm
  refine Way.enter (c := body10') rfl rfl (by decide) rfl Try.func10 (by kernel_rfl) rfl ?_
  walk_nrmf Try.f10
  refine held10_4 stab0 hH (.head _) (fun E w hH => ?_)
  walk_nrm
  refine Way.op0 rfl rfl (by decide) (fun _ => by go_simp; rfl) (fun _ => by simp [go_sem]) ?_
  walk_nrm
  refine Way.ctl rfl (fun _ => stepG_region_end) ?_
  refine Way.ctl rfl (fun _ => stepG_seq) ?_
  refine Way.ctl rfl (fun _ => stepG_seq) ?_
  refine Way.ctl rfl (fun _ => stepG_region) ?_
  simp only [List.size_toArray, List.length_cons, List.length_nil, Nat.reduceAdd, Nat.zero_add, List.range, List.range.loop]
  refine Way.op0 rfl rfl (by decide) (fun _ => by go_simp; rfl) (fun _ => by simp [go_sem]) ?_
  walk_nrm
  refine Way.op0 rfl rfl (by decide) (fun _ => by go_simp; rfl) (fun _ => by simp [go_sem]) ?_
  walk_nrm
  refine Way.ctl rfl (fun _ => stepG_region_end) ?_
  refine Way.ctl rfl (fun _ => stepG_cond (t := false) rfl) ?_
  simp only [if_true, if_false, Bool.false_eq_true, ↓reduceIte]
  refine Way.ctl rfl (fun _ => stepG_skip) ?_
  refine Way.ctl rfl (fun _ => stepG_seq) ?_
  refine Way.ctl rfl (fun _ => stepG_seq) ?_
  refine Way.ctl rfl (fun _ => stepG_region) ?_
  simp only [List.size_toArray, List.length_cons, List.length_nil, Nat.reduceAdd, Nat.zero_add, List.range, List.range.loop]
  refine Way.op0 rfl rfl (by decide) (fun _ => by go_simp; rfl) (fun _ => by simp [go_sem]) ?_
  walk_nrm
  refine Way.op0 rfl rfl (by decide) (fun _ => by go_simp; rfl) (fun _ => by simp [go_sem]) ?_
  walk_nrm
  refine Way.op0 rfl rfl (by decide) (fun _ => by go_simp; rfl) (fun _ => by simp [go_sem]) ?_
  walk_nrm
  refine Way.ctl rfl (fun _ => stepG_region_end) ?_
  refine Way.ctl rfl (fun _ => stepG_cond (t := false) rfl) ?_
  simp only [if_true, if_false, Bool.false_eq_true, ↓reduceIte]
  refine Way.ctl rfl (fun _ => stepG_skip) ?_
  refine Way.ctl rfl (fun _ => stepG_seq) ?_
  refine Way.ctl rfl (fun _ => stepG_region) ?_
  simp only [List.size_toArray, List.length_cons, List.length_nil, Nat.reduceAdd, Nat.zero_add, List.range, List.range.loop]
  refine Way.load hH (.tail _ (.tail _ (.head _))) rfl rfl (by decide) (op_load23 rfl rfl) ?_
  walk_nrm
  refine Way.enter (c := body6') rfl rfl (by decide) rfl Try.func6 (by kernel_rfl) rfl ?_
  walk_nrmf Try.f6
  refine tobox stab0 hH (fun E w hH => ?_)
  walk_nrm
  refine Way.op0 rfl rfl (by decide) (fun _ => by go_simp; rfl) (fun _ => by simp [go_sem]) ?_
  walk_nrm
  refine Way.enter (c := body7) rfl rfl (by decide) rfl Try.func7 (by kernel_rfl) rfl ?_
  walk_nrmf Try.f7
  exact splitA stab0 hH hv fun Bb Bm Q An qc cq E' w' h hq => k _ _ _ _ _ _ _ _ h hq
set_option maxRecDepth 100000 in
set_option maxHeartbeats 400000 in
theorem law3c (hH : Has Try.prog.globals.size NoF E w ((S2, .cells #[.int .i64 (qst a b c d m 0), .int .i64 (qst a b c d m 1), .int .i64 (qst a b c d m 2), .int .i64 (qst a b c d m 3)] 3) :: (S, .cells #[.int .i64 1, .int .i64 2, .int .i64 3, .int .i64 4] 3) :: (W0, .cells cw 3) :: (Bx, .cells #[.int .i64 a, .int .i64 b, .int .i64 c, .int .i64 d] 23) :: L))
    (hcw : ∀ i, i < 4 → cw[i]? = some (.int .i64 (qst a b c d m i))) :
    MainW (AtEndW Try.prog NoF fun v w => v = .bool true ∧ Holds L w) E (G ((base 3).at ((at32 a b c d m Bx W0 wc S).put ((ops32[3]?).bind (·.dst)) (.tuple #[.slice (some ⟨S2, 0, none⟩) 4 4, .bool true])) (.inRegion ops32 [4, 5, 6, 7, 8] :: [.code (c2 d2)])) []) w := by
  show Way _ _ _ _ _ _ _ _
  simp only [at32, ops32, d2, d1, cops, c1, c2, body3, Try.f3, Option.getD_some]
  walk_nrm
  refine Way.op0 rfl rfl (by decide) (fun _ => by go_simp; rfl) (fun _ => by simp [go_sem]) ?_
  walk_nrm
  refine Way.op0 rfl rfl (by decide) (fun _ => by go_simp; rfl) (fun _ => by simp [go_sem]) ?_
  walk_nrm
  refine Way.op0 rfl rfl (by decide) (fun _ => by go_simp; rfl) (fun _ => by simp [go_sem]) ?_
  walk_nrm
  refine Way.op0 rfl rfl (by decide) (fun _ => by go_simp; rfl) (fun _ => by simp [go_sem]) ?_
  walk_nrm
  refine Way.op0 rfl rfl (by decide) (fun _ => by go_simp; rfl) (fun _ => by simp [go_sem]) ?_
  walk_nrm
  refine Way.ctl rfl (fun _ => stepG_region_end) ?_
  refine Way.ctl rfl (fun _ => stepG_seq) ?_
  refine Way.ctl rfl (fun _ => stepG_seq) ?_
  refine Way.ctl rfl (fun _ => stepG_region) ?_
  simp only [List.size_toArray, List.length_cons, List.length_nil, Nat.reduceAdd, Nat.zero_add, List.range, List.range.loop]
  refine Way.op0 rfl rfl (by decide) (fun _ => by go_simp; rfl) (fun _ => by simp [go_sem]) ?_
  walk_nrm
  refine Way.op0 rfl rfl (by decide) (fun _ => by go_simp; rfl) (fun _ => by simp [go_sem]) ?_
  walk_nrm
  refine Way.enter (c := body8') rfl rfl (by decide) rfl Try.func8 (by kernel_rfl) rfl ?_
  walk_nrmf Try.f8
  refine eq8_4 (z := fun i => qst a b c d m i) stab0 hH (.head _) (.tail _ (.tail _ (.head _))) (fun i hi => match i, hi with | 0, _ => rfl | 1, _ => rfl | 2, _ => rfl | 3, _ => rfl) hcw (fun E w hH => ?_)
  walk_nrm
  refine Way.op0 rfl rfl (by decide) (fun _ => by go_simp; rfl) (fun _ => by simp [go_sem]) ?_
  walk_nrm
  refine Way.op0 rfl rfl (by decide) (fun _ => by go_simp; rfl) (fun _ => by simp [go_sem]) ?_
  walk_nrm
  refine Way.op0 rfl rfl (by decide) (fun _ => by go_simp; rfl) (fun _ => by simp [go_sem]) ?_
  walk_nrm
  refine Way.op0 rfl rfl (by decide) (fun _ => by go_simp; rfl) (fun _ => by simp [go_sem]) ?_
  walk_nrm
  refine Way.op2 rfl rfl (by decide) (op_neqB rfl rfl rfl) ?_
  walk_nrm
  refine Way.op0 rfl rfl (by decide) (fun _ => by go_simp; rfl) (fun _ => by simp [go_sem]) ?_
  walk_nrm
  refine Way.ctl rfl (fun _ => stepG_region_end) ?_
  refine Way.ctl rfl (fun _ => stepG_cond (t := false) rfl) ?_
  simp only [if_true, if_false, Bool.false_eq_true, ↓reduceIte]
  refine Way.ctl rfl (fun _ => stepG_skip) ?_
  refine Way.ctl rfl (fun _ => stepG_seq) ?_
  refine Way.ctl rfl (fun _ => stepG_region) ?_
  simp only [List.size_toArray, List.length_cons, List.length_nil, Nat.reduceAdd, Nat.zero_add, List.range, List.range.loop]
  refine Way.op0 rfl rfl (by decide) (fun _ => by go_simp; rfl) (fun _ => by simp [go_sem]) ?_
  walk_nrm
  refine Way.ctl rfl (fun _ => stepG_region_end) ?_
  refine Way.ctl rfl (fun _ => stepG_seq) ?_
  refine Way.ctl rfl (fun _ => stepG_region) ?_
  simp only [List.size_toArray, List.length_cons, List.length_nil, Nat.reduceAdd, Nat.zero_add, List.range, List.range.loop]
  refine Way.op0 rfl rfl (by decide) (fun _ => by go_simp; rfl) (fun _ => by simp [go_sem]) ?_
  walk_nrm
  refine Way.op0 rfl rfl (by decide) (fun _ => by go_simp; rfl) (fun _ => by simp [go_sem]) ?_
  walk_nrm
  refine Way.enter (c := body10') rfl rfl (by decide) rfl Try.func10 (by kernel_rfl) rfl ?_
  walk_nrmf Try.f10
  refine held10_4 stab0 hH (.tail _ (.head _)) (fun E w hH => ?_)
  walk_nrm
  refine Way.op0 rfl rfl (by decide) (fun _ => by go_simp; rfl) (fun _ => by simp [go_sem]) ?_
  walk_nrm
  refine Way.ctl rfl (fun _ => stepG_region_end) ?_
  refine Way.ctl rfl (fun _ => stepG_seq) ?_
  refine Way.ctl rfl (fun _ => stepG_seq) ?_
  refine Way.ctl rfl (fun _ => stepG_region) ?_
  simp only [List.size_toArray, List.length_cons, List.length_nil, Nat.reduceAdd, Nat.zero_add, List.range, List.range.loop]
  refine Way.op0 rfl rfl (by decide) (fun _ => by go_simp; rfl) (fun _ => by simp [go_sem]) ?_
  walk_nrm
  refine Way.op0 rfl rfl (by decide) (fun _ => by go_simp; rfl) (fun _ => by simp [go_sem]) ?_
  walk_nrm
  refine Way.ctl rfl (fun _ => stepG_region_end) ?_
  refine Way.ctl rfl (fun _ => stepG_cond (t := false) rfl) ?_
  simp only [if_true, if_false, Bool.false_eq_true, ↓reduceIte]
  refine Way.ctl rfl (fun _ => stepG_skip) ?_
  refine Way.ctl rfl (fun _ => stepG_seq) ?_
  refine Way.ctl rfl (fun _ => stepG_seq) ?_
  refine Way.ctl rfl (fun _ => stepG_region) ?_
  simp only [List.size_toArray, List.length_cons, List.length_nil, Nat.reduceAdd, Nat.zero_add, List.range, List.range.loop]
  refine Way.op0 rfl rfl (by decide) (fun _ => by go_simp; rfl) (fun _ => by simp [go_sem]) ?_
  walk_nrm
  refine Way.op0 rfl rfl (by decide) (fun _ => by go_simp; rfl) (fun _ => by simp [go_sem]) ?_
  walk_nrm
  refine Way.op0 rfl rfl (by decide) (fun _ => by go_simp; rfl) (fun _ => by simp [go_sem]) ?_
  walk_nrm
  refine Way.ctl rfl (fun _ => stepG_region_end) ?_
  refine Way.ctl rfl (fun _ => stepG_cond (t := false) rfl) ?_
  simp only [if_true, if_false, Bool.false_eq_true, ↓reduceIte]
  refine Way.ctl rfl (fun _ => stepG_skip) ?_
  refine Way.ctl rfl (fun _ => stepG_seq) ?_
  refine Way.ctl rfl (fun _ => stepG_region) ?_
  simp only [List.size_toArray, List.length_cons, List.length_nil, Nat.reduceAdd, Nat.zero_add, List.range, List.range.loop]
  refine Way.op0 rfl rfl (by decide) (fun _ => by go_simp; rfl) (fun _ => by simp [go_sem]) ?_
  walk_nrm
  refine Way.ctl rfl (fun _ => stepG_region_end) ?_
  refine Way.ctl rfl (fun _ => stepG_ret') ?_
  exact .stop fun w₁ h1 _ => done_tmp rfl rfl Try.func3 rfl (by kernel_rfl) ⟨rfl, (hH.moved h1).holds.tail.tail.tail.tail⟩
end
end Go.Proofs.Ytjbpaejjpamcpaa.Sim
/- FnExactCellSplit of an invalid box: one way, start to end. -/
set_option linter.unusedSectionVars false
namespace Go.Proofs.Ytjbpaejjpamcpaa.Sim
set_option linter.unusedSimpArgs false
set_option linter.unusedVariables false
open Go Go.Conc Go.RowKit Go.Conc.Lib Go.ConcN.Gen Go.ConcR.Gen

section
variable {E : Nat → Prop} {w : World} {L : List (Nat × Obj)} {a b c d m : Int}
set_option maxRecDepth 100000 in
set_option maxHeartbeats 400000 in
theorem law3n (hH : Has Try.prog.globals.size NoF E w L) (hv : BV a b c d = false) :
    MainW (AtEndW Try.prog NoF fun v w => v = .bool true ∧ Holds L w) E (G ((base 3).at ⟨#[.agg #[.int .i64 a, .int .i64 b, .int .i64 c, .int .i64 d], .int .i64 m, undef, undef, undef, undef, undef, undef, undef, undef, undef, undef, undef, undef, undef, undef, undef, undef, undef, undef, undef, undef, undef, undef, undef, undef, undef, undef, undef, undef, undef, undef, undef, undef, undef, undef, undef, undef, undef, undef, undef, undef, undef, undef, undef, undef, undef, undef, undef, undef, undef, undef, undef, undef, undef, undef, undef, undef, undef, undef, undef, undef, undef, undef, undef, undef, undef, undef, undef, undef, undef], []⟩ [.code body3]) []) w := by
  show Way _ _ _ _ _ _ _ _
  simp only [body3, Try.f3, Option.getD_some]
  refine Way.ctl rfl (fun _ => stepG_seq) ?_
  refine Way.ctl rfl (fun _ => stepG_region) ?_
  simp only [List.size_toArray, List.length_cons, List.length_nil, Nat.reduceAdd, Nat.zero_add, List.range, List.range.loop]
  refine Way.alloc (f := fun B => .pointer (some ⟨B, 0, none⟩)) stab0 hH rfl rfl (by decide) (op_box23 rfl rfl) (fun Bx E w hH hBx => ?_)
  walk_nrm
  refine Way.op0 rfl rfl (by decide) (fun _ => by go_simp; rfl) (fun _ => by simp [go_sem]) ?_
  walk_nrm
  refine Way.ctl rfl (fun _ => stepG_region_end) ?_
  refine Way.ctl rfl (fun _ => stepG_seq) ?_
  refine Way.ctl rfl (fun _ => stepG_region) ?_
  simp only [List.size_toArray, List.length_cons, List.length_nil, Nat.reduceAdd, Nat.zero_add, List.range, List.range.loop]
  refine Way.load hH (.head _) rfl rfl (by decide) (op_load23 rfl rfl) ?_
  walk_nrm
  refine Way.enter (c := body6') rfl rfl (by decide) rfl Try.func6 (by kernel_rfl) rfl ?_
  walk_nrmf Try.f6
  refine tobox stab0 hH (fun E w hH => ?_)
  walk_nrm
  refine Way.op0 rfl rfl (by decide) (fun _ => by go_simp; rfl) (fun _ => by simp [go_sem]) ?_
  walk_nrm
  refine Way.call stab0 hH (f := 5) rfl (args := #[bx a b c d, .int .i64 m]) (ar_bxm a b c d m) (calls_splitN m hv) (fun _ _ _ h => by first | exact ⟨_, h.1⟩ | exact ⟨_, h.2.choose_spec.choose_spec.choose_spec.1⟩) rfl rfl (by decide) rfl (by simp [Act.eval, bx]) Try.func5 (by kernel_rfl) (by rfl) (fun v' E w hr => ?_)
  obtain ⟨W0, wc, cw, rfl, hBE, hEB, hBc, hz⟩ := hr.row
  replace hH := hr.has
  walk_nrm
  refine Way.op0 rfl rfl (by decide) (fun _ => by go_simp; rfl) (fun _ => by simp [go_sem]) ?_
  walk_nrm
  refine Way.op0 rfl rfl (by decide) (fun _ => by go_simp; rfl) (fun _ => by simp [go_sem]) ?_
  walk_nrm
  refine Way.op0 rfl rfl (by decide) (fun _ => by go_simp; rfl) (fun _ => by simp [go_sem]) ?_
  walk_nrm
  refine Way.op0 rfl rfl (by decide) (fun _ => by go_simp; rfl) (fun _ => by simp [go_sem]) ?_
  walk_nrm
  refine Way.op0 rfl rfl (by decide) (fun _ => by go_simp; rfl) (fun _ => by simp [go_sem]) ?_
  walk_nrm
  refine Way.ctl rfl (fun _ => stepG_region_end) ?_
  refine Way.ctl rfl (fun _ => stepG_seq) ?_
  refine Way.ctl rfl (fun _ => stepG_region) ?_
  simp only [List.size_toArray, List.length_cons, List.length_nil, Nat.reduceAdd, Nat.zero_add, List.range, List.range.loop]
  refine Way.load hH (.head _) rfl rfl (by decide) (op_load23 rfl rfl) ?_
  walk_nrm
  refine Way.enter (c := body6') rfl rfl (by decide) rfl Try.func6 (by kernel_rfl) rfl ?_
  walk_nrmf Try.f6
  refine tobox stab0 hH (fun E w hH => ?_)
  walk_nrm
  refine Way.op0 rfl rfl (by decide) (fun _ => by go_simp; rfl) (fun _ => by simp [go_sem]) ?_
  walk_nrm
  refine Way.enter (c := body7) rfl rfl (by decide) rfl Try.func7 (by kernel_rfl) rfl ?_
  walk_nrmf Try.f7
  refine splitN stab0 hH hv fun S E w hH => ?_
  walk_nrm
  refine Way.op0 rfl rfl (by decide) (fun _ => by go_simp; rfl) (fun _ => by simp [go_sem]) ?_
  walk_nrm
  refine Way.op0 rfl rfl (by decide) (fun _ => by go_simp; rfl) (fun _ => by simp [go_sem]) ?_
  walk_nrm
  refine Way.op0 rfl rfl (by decide) (fun _ => by go_simp; rfl) (fun _ => by simp [go_sem]) ?_
  walk_nrm
  refine Way.op0 rfl rfl (by decide) (fun _ => by go_simp; rfl) (fun _ => by simp [go_sem]) ?_
  walk_nrm
  refine Way.op0 rfl rfl (by decide) (fun _ => by go_simp; rfl) (fun _ => by simp [go_sem]) ?_
  walk_nrm
  refine Way.ctl rfl (fun _ => stepG_region_end) ?_
  refine Way.ctl rfl (fun _ => stepG_seq) ?_
  refine Way.ctl rfl (fun _ => stepG_seq) ?_
  refine Way.ctl rfl (fun _ => stepG_region) ?_
  simp only [List.size_toArray, List.length_cons, List.length_nil, Nat.reduceAdd, Nat.zero_add, List.range, List.range.loop]
  refine Way.op0 rfl rfl (by decide) (fun _ => by go_simp; rfl) (fun _ => by simp [go_sem]) ?_
  walk_nrm
  refine Way.op0 rfl rfl (by decide) (fun _ => by go_simp; rfl) (fun _ => by simp [go_sem]) ?_
  walk_nrm
  refine Way.enter (c := body8') rfl rfl (by decide) rfl Try.func8 (by kernel_rfl) rfl ?_
  walk_nrmf Try.f8
  refine eq8_0 stab0 hH (fun E w hH => ?_)
  walk_nrm
  refine Way.op0 rfl rfl (by decide) (fun _ => by go_simp; rfl) (fun _ => by simp [go_sem]) ?_
  walk_nrm
  refine Way.op0 rfl rfl (by decide) (fun _ => by go_simp; rfl) (fun _ => by simp [go_sem]) ?_
  walk_nrm
  refine Way.op0 rfl rfl (by decide) (fun _ => by go_simp; rfl) (fun _ => by simp [go_sem]) ?_
  walk_nrm
  refine Way.op0 rfl rfl (by decide) (fun _ => by go_simp; rfl) (fun _ => by simp [go_sem]) ?_
  walk_nrm
  refine Way.op2 rfl rfl (by decide) (op_neqB rfl rfl rfl) ?_
  walk_nrm
  refine Way.op0 rfl rfl (by decide) (fun _ => by go_simp; rfl) (fun _ => by simp [go_sem]) ?_
  walk_nrm
  refine Way.ctl rfl (fun _ => stepG_region_end) ?_
  refine Way.ctl rfl (fun _ => stepG_cond (t := false) rfl) ?_
  simp only [if_true, if_false, Bool.false_eq_true, ↓reduceIte]
  refine Way.ctl rfl (fun _ => stepG_skip) ?_
  refine Way.ctl rfl (fun _ => stepG_seq) ?_
  refine Way.ctl rfl (fun _ => stepG_region) ?_
  simp only [List.size_toArray, List.length_cons, List.length_nil, Nat.reduceAdd, Nat.zero_add, List.range, List.range.loop]
  refine Way.op0 rfl rfl (by decide) (fun _ => by go_simp; rfl) (fun _ => by simp [go_sem]) ?_
  walk_nrm
  refine Way.ctl rfl (fun _ => stepG_region_end) ?_
  refine Way.ctl rfl (fun _ => stepG_seq) ?_
  refine Way.ctl rfl (fun _ => stepG_region) ?_
  simp only [List.size_toArray, List.length_cons, List.length_nil, Nat.reduceAdd, Nat.zero_add, List.range, List.range.loop]
  refine Way.op0 rfl rfl (by decide) (fun _ => by go_simp; rfl) (fun _ => by simp [go_sem]) ?_
  walk_nrm
  refine Way.op0 rfl rfl (by decide) (fun _ => by go_simp; rfl) (fun _ => by simp [go_sem]) ?_
  walk_nrm
  refine Way.enter (c := body9') rfl rfl (by decide) rfl Try.func9 (by kernel_rfl) rfl ?_
  walk_nrmf Try.f9
  refine mark9_0 stab0 hH (fun E w hH => ?_)
  walk_nrm
  refine Way.op0 rfl rfl (by decide) (fun _ => by go_simp; rfl) (fun _ => by simp [go_sem]) ?_
  walk_nrm
  refine Way.ctl rfl (fun _ => stepG_region_end) ?_
  refine Way.ctl rfl (fun _ => stepG_seq) ?_
  refine Way.ctl rfl (fun _ => stepG_region) ?_
  simp only [List.size_toArray, List.length_cons, List.length_nil, Nat.reduceAdd, Nat.zero_add, List.range, List.range.loop]
  refine Way.op0 rfl rfl (by decide) (fun _ => by go_simp; rfl) (fun _ => by simp [go_sem]) ?_
  walk_nrm
  refine Way.ctl rfl (fun _ => stepG_region_end) ?_
  refine Way.ctl rfl (fun _ => stepG_seq) ?_
  refine Way.ctl rfl (fun _ => stepG_region) ?_
  simp only [List.size_toArray, List.length_cons, List.length_nil, Nat.reduceAdd, Nat.zero_add, List.range, List.range.loop]
  refine Way.op0 rfl rfl (by decide) (fun _ => by go_simp; rfl) (fun _ => by simp [go_sem]) ?_
  walk_nrm
  refine Way.op0 rfl rfl (by decide) (fun _ => by go_simp; rfl) (fun _ => by simp [go_sem]) ?_
  walk_nrm
  refine Way.enter (c := body10') rfl rfl (by decide) rfl Try.func10 (by kernel_rfl) rfl ?_
  walk_nrmf Try.f10
  refine held10_0 stab0 hH (fun E w hH => ?_)
  walk_nrm
  refine Way.op0 rfl rfl (by decide) (fun _ => by go_simp; rfl) (fun _ => by simp [go_sem]) ?_
  walk_nrm
  refine Way.ctl rfl (fun _ => stepG_region_end) ?_
  refine Way.ctl rfl (fun _ => stepG_seq) ?_
  refine Way.ctl rfl (fun _ => stepG_seq) ?_
  refine Way.ctl rfl (fun _ => stepG_region) ?_
  simp only [List.size_toArray, List.length_cons, List.length_nil, Nat.reduceAdd, Nat.zero_add, List.range, List.range.loop]
  refine Way.op0 rfl rfl (by decide) (fun _ => by go_simp; rfl) (fun _ => by simp [go_sem]) ?_
  walk_nrm
  refine Way.op0 rfl rfl (by decide) (fun _ => by go_simp; rfl) (fun _ => by simp [go_sem]) ?_
  walk_nrm
  refine Way.ctl rfl (fun _ => stepG_region_end) ?_
  refine Way.ctl rfl (fun _ => stepG_cond (t := false) rfl) ?_
  simp only [if_true, if_false, Bool.false_eq_true, ↓reduceIte]
  refine Way.ctl rfl (fun _ => stepG_skip) ?_
  refine Way.ctl rfl (fun _ => stepG_seq) ?_
  refine Way.ctl rfl (fun _ => stepG_seq) ?_
  refine Way.ctl rfl (fun _ => stepG_region) ?_
  simp only [List.size_toArray, List.length_cons, List.length_nil, Nat.reduceAdd, Nat.zero_add, List.range, List.range.loop]
  refine Way.op0 rfl rfl (by decide) (fun _ => by go_simp; rfl) (fun _ => by simp [go_sem]) ?_
  walk_nrm
  refine Way.op0 rfl rfl (by decide) (fun _ => by go_simp; rfl) (fun _ => by simp [go_sem]) ?_
  walk_nrm
  refine Way.op0 rfl rfl (by decide) (fun _ => by go_simp; rfl) (fun _ => by simp [go_sem]) ?_
  walk_nrm
  refine Way.ctl rfl (fun _ => stepG_region_end) ?_
  refine Way.ctl rfl (fun _ => stepG_cond (t := false) rfl) ?_
  simp only [if_true, if_false, Bool.false_eq_true, ↓reduceIte]
  refine Way.ctl rfl (fun _ => stepG_skip) ?_
  refine Way.ctl rfl (fun _ => stepG_seq) ?_
  refine Way.ctl rfl (fun _ => stepG_region) ?_
  simp only [List.size_toArray, List.length_cons, List.length_nil, Nat.reduceAdd, Nat.zero_add, List.range, List.range.loop]
  refine Way.load hH (.head _) rfl rfl (by decide) (op_load23 rfl rfl) ?_
  walk_nrm
  refine Way.enter (c := body6') rfl rfl (by decide) rfl Try.func6 (by kernel_rfl) rfl ?_
  walk_nrmf Try.f6
  refine tobox stab0 hH (fun E w hH => ?_)
  walk_nrm
  refine Way.op0 rfl rfl (by decide) (fun _ => by go_simp; rfl) (fun _ => by simp [go_sem]) ?_
  walk_nrm
  refine Way.enter (c := body7) rfl rfl (by decide) rfl Try.func7 (by kernel_rfl) rfl ?_
  walk_nrmf Try.f7
  refine splitN stab0 hH hv fun S2 E w hH => ?_
  walk_nrm
  refine Way.op0 rfl rfl (by decide) (fun _ => by go_simp; rfl) (fun _ => by simp [go_sem]) ?_
  walk_nrm
  refine Way.op0 rfl rfl (by decide) (fun _ => by go_simp; rfl) (fun _ => by simp [go_sem]) ?_
  walk_nrm
  refine Way.op0 rfl rfl (by decide) (fun _ => by go_simp; rfl) (fun _ => by simp [go_sem]) ?_
  walk_nrm
  refine Way.op0 rfl rfl (by decide) (fun _ => by go_simp; rfl) (fun _ => by simp [go_sem]) ?_
  walk_nrm
  refine Way.op0 rfl rfl (by decide) (fun _ => by go_simp; rfl) (fun _ => by simp [go_sem]) ?_
  walk_nrm
  refine Way.ctl rfl (fun _ => stepG_region_end) ?_
  refine Way.ctl rfl (fun _ => stepG_seq) ?_
  refine Way.ctl rfl (fun _ => stepG_seq) ?_
  refine Way.ctl rfl (fun _ => stepG_region) ?_
  simp only [List.size_toArray, List.length_cons, List.length_nil, Nat.reduceAdd, Nat.zero_add, List.range, List.range.loop]
  refine Way.op0 rfl rfl (by decide) (fun _ => by go_simp; rfl) (fun _ => by simp [go_sem]) ?_
  walk_nrm
  refine Way.op0 rfl rfl (by decide) (fun _ => by go_simp; rfl) (fun _ => by simp [go_sem]) ?_
  walk_nrm
  refine Way.enter (c := body8') rfl rfl (by decide) rfl Try.func8 (by kernel_rfl) rfl ?_
  walk_nrmf Try.f8
  refine eq8_0 stab0 hH (fun E w hH => ?_)
  walk_nrm
  refine Way.op0 rfl rfl (by decide) (fun _ => by go_simp; rfl) (fun _ => by simp [go_sem]) ?_
  walk_nrm
  refine Way.op0 rfl rfl (by decide) (fun _ => by go_simp; rfl) (fun _ => by simp [go_sem]) ?_
  walk_nrm
  refine Way.op0 rfl rfl (by decide) (fun _ => by go_simp; rfl) (fun _ => by simp [go_sem]) ?_
  walk_nrm
  refine Way.op0 rfl rfl (by decide) (fun _ => by go_simp; rfl) (fun _ => by simp [go_sem]) ?_
  walk_nrm
  refine Way.op2 rfl rfl (by decide) (op_neqB rfl rfl rfl) ?_
  walk_nrm
  refine Way.op0 rfl rfl (by decide) (fun _ => by go_simp; rfl) (fun _ => by simp [go_sem]) ?_
  walk_nrm
  refine Way.ctl rfl (fun _ => stepG_region_end) ?_
  refine Way.ctl rfl (fun _ => stepG_cond (t := false) rfl) ?_
  simp only [if_true, if_false, Bool.false_eq_true, ↓reduceIte]
  refine Way.ctl rfl (fun _ => stepG_skip) ?_
  refine Way.ctl rfl (fun _ => stepG_seq) ?_
  refine Way.ctl rfl (fun _ => stepG_region) ?_
  simp only [List.size_toArray, List.length_cons, List.length_nil, Nat.reduceAdd, Nat.zero_add, List.range, List.range.loop]
  refine Way.op0 rfl rfl (by decide) (fun _ => by go_simp; rfl) (fun _ => by simp [go_sem]) ?_
  walk_nrm
  refine Way.ctl rfl (fun _ => stepG_region_end) ?_
  refine Way.ctl rfl (fun _ => stepG_seq) ?_
  refine Way.ctl rfl (fun _ => stepG_region) ?_
  simp only [List.size_toArray, List.length_cons, List.length_nil, Nat.reduceAdd, Nat.zero_add, List.range, List.range.loop]
  refine Way.op0 rfl rfl (by decide) (fun _ => by go_simp; rfl) (fun _ => by simp [go_sem]) ?_
  walk_nrm
  refine Way.op0 rfl rfl (by decide) (fun _ => by go_simp; rfl) (fun _ => by simp [go_sem]) ?_
  walk_nrm
  refine Way.enter (c := body10') rfl rfl (by decide) rfl Try.func10 (by kernel_rfl) rfl ?_
  walk_nrmf Try.f10
  refine held10_0 stab0 hH (fun E w hH => ?_)
  walk_nrm
  refine Way.op0 rfl rfl (by decide) (fun _ => by go_simp; rfl) (fun _ => by simp [go_sem]) ?_
  walk_nrm
  refine Way.ctl rfl (fun _ => stepG_region_end) ?_
  refine Way.ctl rfl (fun _ => stepG_seq) ?_
  refine Way.ctl rfl (fun _ => stepG_seq) ?_
  refine Way.ctl rfl (fun _ => stepG_region) ?_
  simp only [List.size_toArray, List.length_cons, List.length_nil, Nat.reduceAdd, Nat.zero_add, List.range, List.range.loop]
  refine Way.op0 rfl rfl (by decide) (fun _ => by go_simp; rfl) (fun _ => by simp [go_sem]) ?_
  walk_nrm
  refine Way.op0 rfl rfl (by decide) (fun _ => by go_simp; rfl) (fun _ => by simp [go_sem]) ?_
  walk_nrm
  refine Way.ctl rfl (fun _ => stepG_region_end) ?_
  refine Way.ctl rfl (fun _ => stepG_cond (t := false) rfl) ?_
  simp only [if_true, if_false, Bool.false_eq_true, ↓reduceIte]
  refine Way.ctl rfl (fun _ => stepG_skip) ?_
  refine Way.ctl rfl (fun _ => stepG_seq) ?_
  refine Way.ctl rfl (fun _ => stepG_seq) ?_
  refine Way.ctl rfl (fun _ => stepG_region) ?_
  simp only [List.size_toArray, List.length_cons, List.length_nil, Nat.reduceAdd, Nat.zero_add, List.range, List.range.loop]
  refine Way.op0 rfl rfl (by decide) (fun _ => by go_simp; rfl) (fun _ => by simp [go_sem]) ?_
  walk_nrm
  refine Way.op0 rfl rfl (by decide) (fun _ => by go_simp; rfl) (fun _ => by simp [go_sem]) ?_
  walk_nrm
  refine Way.op0 rfl rfl (by decide) (fun _ => by go_simp; rfl) (fun _ => by simp [go_sem]) ?_
  walk_nrm
  refine Way.ctl rfl (fun _ => stepG_region_end) ?_
  refine Way.ctl rfl (fun _ => stepG_cond (t := false) rfl) ?_
  simp only [if_true, if_false, Bool.false_eq_true, ↓reduceIte]
  refine Way.ctl rfl (fun _ => stepG_skip) ?_
  refine Way.ctl rfl (fun _ => stepG_seq) ?_
  refine Way.ctl rfl (fun _ => stepG_region) ?_
  simp only [List.size_toArray, List.length_cons, List.length_nil, Nat.reduceAdd, Nat.zero_add, List.range, List.range.loop]
  refine Way.op0 rfl rfl (by decide) (fun _ => by go_simp; rfl) (fun _ => by simp [go_sem]) ?_
  walk_nrm
  refine Way.ctl rfl (fun _ => stepG_region_end) ?_
  refine Way.ctl rfl (fun _ => stepG_ret') ?_
  exact .stop fun w₁ h1 _ => done_tmp rfl rfl Try.func3 rfl (by kernel_rfl) ⟨rfl, (hH.moved h1).holds.tail⟩
end
end Go.Proofs.Ytjbpaejjpamcpaa.Sim
/- ████ FnExactCellSplit, run whole, on whatever tape: it returns true, the old blocks are as they were. ████ -/
set_option linter.unusedSectionVars false
namespace Go.Proofs.Ytjbpaejjpamcpaa.Sim
set_option linter.unusedSimpArgs false
set_option linter.unusedVariables false
open Go Go.Conc Go.RowKit Go.Conc.Lib

/-- What no step of one's own turns may be kept beside. -/
theorem Way.inv {P : Program} {mn : Bool} {Fr : Nat → Prop} {Inv : World → Prop} {Stop : St} {E : Nat → Prop} {g : Goroutine} {w : World} (hC : ∀ E w w' es, Gu Fr E w w' es → Inv w → Inv w') (h : Way P mn Fr Tr Stop E g w) :
    Way P mn Fr Inv (fun E g w => Stop E g w ∧ Inv w) E g w := by
  induction h with
  | stop h => exact .stop fun w₁ h1 hi => ⟨h w₁ h1 trivial, hi⟩
  | step hs h _ ih => exact .step hs (fun w₁ h1 hi => let ⟨g', w', es, hm, hg, _⟩ := h w₁ h1 trivial; ⟨g', w', es, hm, hg, hC _ _ _ _ hg hi⟩) fun w₁ g' w' es h1 hi hm => ih w₁ g' w' es h1 trivial hm
  | rely _ ih => exact .rely fun w₁ h1 hi => ih w₁ h1 trivial
/-- A run behind a run. -/
theorem run_behind {P : Program} {N : Nat} {m m₁ : Machine} {t t₁ : Trace} (h : runNT P N m t = (.next m₁, t₁)) {G : Machine → Outcome → World → Trace → Prop}
    (k : ∃ n last o w' t', runNT P (n + 1) m₁ t₁ = (.ended o w', t') ∧ runN P n m₁ = .next last ∧ step P last = .ended o w' ∧ G last o w' t') :
    ∃ n last o w' t', runNT P (n + 1) m t = (.ended o w', t') ∧ runN P n m = .next last ∧ step P last = .ended o w' ∧ G last o w' t' := by
  obtain ⟨n, last, o, w', t', h1, h2, h3, h4⟩ := k
  refine ⟨N + n, last, o, w', t', ?_, ?_, h3, h4⟩
  · rw [show N + n + 1 = N + (n + 1) from rfl, runNT_add, h]; exact h1
  · rw [← runNT_fst _ _ _ t, runNT_add, h]
    show (runNT P n m₁ t₁).1 = _
    rw [runNT_fst]; exact h2
/-- The old blocks. -/
def oldL (W : World) : List (Nat × Obj) := List.ofFn fun i : Fin W.heap.size => (i.val, W.heap[i.val])
theorem mem_oldL {W : World} {p : Nat × Obj} (h : p ∈ oldL W) : W.heap[p.1]? = some p.2 := by
  obtain ⟨i, rfl⟩ := (List.mem_ofFn).1 h
  simp
theorem oldL_mem {W : World} {b : Nat} (h : b < W.heap.size) : (b, W.heap[b]) ∈ oldL W := (List.mem_ofFn).2 ⟨⟨b, h⟩, rfl⟩
theorem has_old {Gl : Nat} {W : World} (hG : Gl ≤ W.heap.size) : Has Gl NoF (fun b => b < W.heap.size) W (oldL W) := by
  refine ⟨fun p hp => ⟨(Array.getElem?_eq_some_iff.1 (mem_oldL hp)).1, mem_oldL hp⟩, ?_, fun _ h => h.elim, fun _ h => h, hG⟩
  refine List.pairwise_iff_getElem.2 fun i j hi hj hij e => ?_
  simp only [oldL, List.getElem_ofFn] at e
  omega
/-- What the run's steps leave. -/
def LeftAs (W w : World) : Prop := w.tape = W.tape ∧ w.os = W.os ∧ w.output = W.output
theorem below_of {W w : World} (h : LeftAs W w) (hL : Holds (oldL W) w) : Below W.heap.size W w := by
  refine ⟨h.2.1, h.1, h.2.2, ?_, fun k hk => ?_⟩
  · by_cases h0 : W.heap.size = 0
    · omega
    · have := hL _ (oldL_mem (W := W) (b := W.heap.size - 1) (by omega))
      have := (Array.getElem?_eq_some_iff.1 this).1
      simp only at this
      omega
  · rw [hL _ (oldL_mem hk), Array.getElem?_eq_getElem hk]
theorem left_gu {W : World} : ∀ (E : Nat → Prop) (w w' : World) (es : Array Event), Gu NoF E w w' es → LeftAs W w → LeftAs W w' := fun _ _ _ _ g h => ⟨g.tape.trans h.1, g.os.trans h.2.1, g.output.trans h.2.2⟩
/-- To the run's end. -/
theorem ends_main {W w : World} {Q : Nat → Prop} {J : Nat} {gs : Array Goroutine} {t : Trace} {q : Nat → Nat} {E : Nat → Prop} {a : Goroutine} {sl : Option (Nat × Nat)} (h0 : gs[0]? = some a) (hfr : Fra Try.prog Q J gs w t q E) (hl : LeftAs W w)
    (hw : MainW (AtEndW Try.prog NoF fun v w => v = .bool true ∧ Holds (oldL W) w) E a w) :
    ∃ n last o w' t', runNT Try.prog (n + 1) (crowd gs w sl) t = (.ended o w', t') ∧ runN Try.prog n (crowd gs w sl) = .next last ∧ step Try.prog last = .ended o w' ∧ Go.Conc.Good Try.prog (fun v w' => v = .bool true ∧ Below W.heap.size W w') last o w' t' := by
  have hw' : Way Try.prog true NoF (LeftAs W) (AtEndW Try.prog NoF fun v w' => v = .bool true ∧ Below W.heap.size W w') E a w := (Way.inv left_gu hw).mono fun E g w h => ⟨h.1.1, let ⟨v, es, k1, k2, k3⟩ := h.1.2; ⟨v, es, k1, k2, k3.1, below_of h.2 k3.2⟩⟩
  exact ends_way (N := 0) (fun _ _ h => h) (fun b h => h.elim) (Nat.zero_le _) h0 hfr hl hw' sl

section
variable {a b c d m : Int}
set_option maxRecDepth 100000 in
theorem enter3 : Frame.enter Try.prog 3 #[.agg #[.int .i64 a, .int .i64 b, .int .i64 c, .int .i64 d], .int .i64 m] .normal = (base 3).at ⟨#[.agg #[.int .i64 a, .int .i64 b, .int .i64 c, .int .i64 d], .int .i64 m, undef, undef, undef, undef, undef, undef, undef, undef, undef, undef, undef, undef, undef, undef, undef, undef, undef, undef, undef, undef, undef, undef, undef, undef, undef, undef, undef, undef, undef, undef, undef, undef, undef, undef, undef, undef, undef, undef, undef, undef, undef, undef, undef, undef, undef, undef, undef, undef, undef, undef, undef, undef, undef, undef, undef, undef, undef, undef, undef, undef, undef, undef, undef, undef, undef, undef, undef, undef, undef], []⟩ [.code body3] := by
  rw [enter_at (c := body3) _ Try.func3 rfl]
  walk_nrmf Try.f3
theorem law3_run (W : World) (hG : Try.prog.globals.size ≤ W.heap.size) :
    ∃ n last o w' t', runNT Try.prog (n + 1) (solo (G (Frame.enter Try.prog 3 #[.agg #[.int .i64 a, .int .i64 b, .int .i64 c, .int .i64 d], .int .i64 m] .normal) []) W) #[] = (.ended o w', t') ∧
      runN Try.prog n (solo (G (Frame.enter Try.prog 3 #[.agg #[.int .i64 a, .int .i64 b, .int .i64 c, .int .i64 d], .int .i64 m] .normal) []) W) = .next last ∧ step Try.prog last = .ended o w' ∧ Go.Conc.Good Try.prog (fun v w' => v = .bool true ∧ Below W.heap.size W w') last o w' t' := by
  rw [enter3, solo_eq_crowd]
  have hH := has_old hG
  have hfr := fra_first Try.prog (G ((base 3).at ⟨#[.agg #[.int .i64 a, .int .i64 b, .int .i64 c, .int .i64 d], .int .i64 m, undef, undef, undef, undef, undef, undef, undef, undef, undef, undef, undef, undef, undef, undef, undef, undef, undef, undef, undef, undef, undef, undef, undef, undef, undef, undef, undef, undef, undef, undef, undef, undef, undef, undef, undef, undef, undef, undef, undef, undef, undef, undef, undef, undef, undef, undef, undef, undef, undef, undef, undef, undef, undef, undef, undef, undef, undef, undef, undef, undef, undef, undef, undef, undef, undef, undef, undef, undef, undef], []⟩ [.code body3]) []) W (fun b => b < W.heap.size) (fun b h => h)
  cases hv : BV a b c d with
  | false => exact ends_main rfl hfr ⟨rfl, rfl, rfl⟩ (law3n hH hv)
  | true =>
    obtain ⟨n1, gs1, w1, sl1, t1, q1, E1, a1, r1, i1, f1, _, k1, k2, k3, _, hs⟩ := walk_way (N := 0) (fun _ _ h => h) (fun b h => h.elim) (Nat.zero_le _) rfl hfr trivial (law3a (m := m) (Stop := fun E g w => ∃ Bx W0 wc cw Bb Bm Q An qc cq, g = G (at5 a b c d m Bb Bm Q An qc) ((base 3).at (at31 a b c d m Bx W0 wc) (.inRegion ops31 [3, 4, 5, 6, 7, 8] :: [.code (c2 d1)]) :: []) ∧
      Has Try.prog.globals.size NoF E w ([(An, .cells #[.chan none, .chan none, .chan none, .chan none] 52), (Q, .cells cq 27), (Bm, .cells #[.int .i64 m] 3), (Bb, .cells #[.int .i64 a, .int .i64 b, .int .i64 c, .int .i64 d] 27)] ++ ((W0, .cells cw 3) :: (Bx, .cells #[.int .i64 a, .int .i64 b, .int .i64 c, .int .i64 d] 23) :: oldL W)) ∧
      (∀ i : Nat, i < 4 → cw[i]? = some (Value.int .i64 (qst a b c d m i))) ∧ (∀ k j : Nat, k < 4 → j < 4 → cq[k * 4 + j]? = some (Value.int .i64 (qv j a b c d k)))) hH hv fun Bx W0 wc cw Bb Bm Q An qc cq E' w' h hcw hq => .stop fun w₁ h1 _ => ⟨Bx, W0, wc, cw, Bb, Bm, Q, An, qc, cq, rfl, h.moved h1, hcw, hq⟩) none
    obtain ⟨Bx, W0, wc, cw, Bb, Bm, Q, An, qc, cq, rfl, hH1, hcw, hq⟩ := hs w1.drawn
    obtain ⟨n2, gs2, w2, sl2, t2, q2, E2, a2, r2, i2, f2, l1, l2, l3, hs2⟩ := split_run (j0 := 0) (sl := sl1) hH1 hq (by decide) i1 f1 (Stop := fun E g w => ∃ S, g = G ((base 3).at ((at31 a b c d m Bx W0 wc).put ((ops31[3]?).bind (·.dst)) (.tuple #[.slice (some ⟨S, 0, none⟩) 4 4, .bool true])) (.inRegion ops31 [4, 5, 6, 7, 8] :: [.code (c2 d1)])) [] ∧
      Has Try.prog.globals.size NoF E w ((S, .cells #[.int .i64 (qst a b c d m 0), .int .i64 (qst a b c d m 1), .int .i64 (qst a b c d m 2), .int .i64 (qst a b c d m 3)] 3) :: (W0, .cells cw 3) :: (Bx, .cells #[.int .i64 a, .int .i64 b, .int .i64 c, .int .i64 d] 23) :: oldL W)) fun S E' w' h => .stop fun w₁ h1 _ => ⟨S, rfl, h.moved h1⟩
    obtain ⟨S, rfl, hH2⟩ := hs2 w2.drawn
    obtain ⟨n3, gs3, w3, sl3, t3, q3, E3, a3, r3, i3, f3, _, m1, m2, m3, _, hs3⟩ := walk_way (N := 0) (fun _ _ h => h) (fun b h => h.elim) (Nat.zero_le _) i2 f2 trivial (law3b (Stop := fun E g w => ∃ Bb Bm Q An qc cq, g = G (at5 a b c d m Bb Bm Q An qc) ((base 3).at (at32 a b c d m Bx W0 wc S) (.inRegion ops32 [3, 4, 5, 6, 7, 8] :: [.code (c2 d2)]) :: []) ∧
      Has Try.prog.globals.size NoF E w ([(An, .cells #[.chan none, .chan none, .chan none, .chan none] 52), (Q, .cells cq 27), (Bm, .cells #[.int .i64 m] 3), (Bb, .cells #[.int .i64 a, .int .i64 b, .int .i64 c, .int .i64 d] 27)] ++ ((S, .cells #[.int .i64 1, .int .i64 2, .int .i64 3, .int .i64 4] 3) :: (W0, .cells cw 3) :: (Bx, .cells #[.int .i64 a, .int .i64 b, .int .i64 c, .int .i64 d] 23) :: oldL W)) ∧
      (∀ k j : Nat, k < 4 → j < 4 → cq[k * 4 + j]? = some (Value.int .i64 (qv j a b c d k)))) hH2 hv hcw fun Bb Bm Q An qc cq E' w' h hq => .stop fun w₁ h1 _ => ⟨Bb, Bm, Q, An, qc, cq, rfl, h.moved h1, hq⟩) sl2
    obtain ⟨Bb', Bm', Q', An', qc', cq', rfl, hH3, hq'⟩ := hs3 w3.drawn
    obtain ⟨n4, gs4, w4, sl4, t4, q4, E4, a4, r4, i4, f4, p1, p2, p3, hs4⟩ := split_run (j0 := 0 + 4) (sl := sl3) hH3 hq' (by decide) i3 f3 (Stop := fun E g w => ∃ S2, g = G ((base 3).at ((at32 a b c d m Bx W0 wc S).put ((ops32[3]?).bind (·.dst)) (.tuple #[.slice (some ⟨S2, 0, none⟩) 4 4, .bool true])) (.inRegion ops32 [4, 5, 6, 7, 8] :: [.code (c2 d2)])) [] ∧
      Has Try.prog.globals.size NoF E w ((S2, .cells #[.int .i64 (qst a b c d m 0), .int .i64 (qst a b c d m 1), .int .i64 (qst a b c d m 2), .int .i64 (qst a b c d m 3)] 3) :: (S, .cells #[.int .i64 1, .int .i64 2, .int .i64 3, .int .i64 4] 3) :: (W0, .cells cw 3) :: (Bx, .cells #[.int .i64 a, .int .i64 b, .int .i64 c, .int .i64 d] 23) :: oldL W)) fun S2 E' w' h => .stop fun w₁ h1 _ => ⟨S2, rfl, h.moved h1⟩
    obtain ⟨S2, rfl, hH4⟩ := hs4 w4.drawn
    exact run_behind r1 (run_behind r2 (run_behind r3 (run_behind r4 (ends_main i4 f4 ⟨p1.trans (m1.trans (l1.trans k1)), p2.trans (m2.trans (l2.trans k2)), p3.trans (m3.trans (l3.trans k3))⟩ (law3c hH4 hcw)))))
end
end Go.Proofs.Ytjbpaejjpamcpaa.Sim
