/- toBox, walked in company; the return of a result that lies in memory. -/
import Derived.Test.YtjbpaejjpamcpaaCg2
set_option linter.unusedSectionVars false
namespace Go.Proofs.Ytjbpaejjpamcpaa.Sim
set_option linter.unusedSimpArgs false
set_option linter.unusedVariables false
open Go Go.Conc Go.RowKit Go.Conc.Lib Go.ConcN.Gen Go.ConcR.Gen

section
variable {P : Program} {mn : Bool} {Fr : Nat → Prop} {Inv : World → Prop} {Stop : (Nat → Prop) → Goroutine → World → Prop} {E : Nat → Prop} {w : World} {b b₀ : Frame} {a a₀ : Act} {kk : List Item} {cs : List Frame} {ops : Array Oper} {i : Nat} {rest : List Nat} {Gl B : Nat} {Fx : Nat → Prop} {L : List (Nat × Obj)} {o₁ : Obj} {v : Value}
theorem stepG_leaveEv {fn : Func} {todo : List Item} {c : Frame} (hn : b.kind = .normal) (hd : a.defers = []) (hf : P.funcs[b.fn]? = some fn) (hr : (results fn a.tmps).run P w = .ok v w) :
    stepG P mn (G { b.at a todo with mode := .returning } (c :: cs)) w = .go (G (c.finish v) cs) w (seen P b.fn ((results fn a.tmps).events P w #[])) := by
  simp [G, stepG, unwind, doReturn, Frame.at, hn, hd, hf, hr, GStep.after]
theorem Way.leaveM {fn : Func} {todo : List Item} (hH : Has Gl Fx E w L) (hm : (B, o₁) ∈ L) (hn : b.kind = .normal) (hd : a.defers = []) (hf : P.funcs[b.fn]? = some fn)
    (hr : ∀ w, w.heap[B]? = some o₁ → (results fn a.tmps).run P w = .ok v w ∧ ∀ e ∈ (results fn a.tmps).events P w #[], ∃ ad, e.loc = .cell ad ∧ ad.block = B)
    (k : Way P mn Fr Inv Stop E (G (b₀.at (a₀.put ((ops[i]?).bind (·.dst)) v) (.inRegion ops rest :: kk)) cs) w) :
    Way P mn Fr Inv Stop E (G { b.at a todo with mode := .returning } (b₀.at a₀ (.inRegion ops (i :: rest) :: kk) :: cs)) w := by
  refine .one rfl fun w₁ h1 hi => ?_
  have hb := (hH.moved h1).at_ _ hm
  obtain ⟨r1, r2⟩ := hr w₁ hb.2
  refine ⟨_, w₁, _, stepG_leaveEv hn hd hf r1, ⟨rfl, rfl, rfl, Nat.le_refl _, fun _ _ _ => rfl, fun e he => ?_⟩, hi, ?_⟩
  · obtain ⟨ad, e1, e2⟩ := r2 e (mem_seen he)
    unfold EvK
    rw [e1]
    exact .inl (.inl (by rw [e2]; exact hb.1))
  · rw [grown_same rfl, Frame.finish_at]
    exact k.moved h1
end
section
variable {a : Act} {o : Oper}
theorem op_box23 {x : Operand} {x0 x1 x2 x3 : Int} (ho : o.op = .box 23 x) (hx : a.eval x = .agg #[.int .i64 x0, .int .i64 x1, .int .i64 x2, .int .i64 x3]) (w : World) :
    (execOp a.eval o).run Try.prog w = .ok (.value (.pointer (some ⟨w.heap.size, 0, none⟩))) (w.alloc (.cells #[.int .i64 x0, .int .i64 x1, .int .i64 x2, .int .i64 x3] 23)) ∧ (execOp a.eval o).events Try.prog w #[] = #[] := by
  unfold execOp
  simp only [ho, hx]
  exact ⟨by go_simp, by simp [go_sem]⟩
theorem op_load23 {x : Operand} {B : Nat} {t : TypeId} {x0 x1 x2 x3 : Int} (ho : o.op = .load 23 x) (hx : a.eval x = .pointer (some ⟨B, 0, none⟩))
    (w : World) (h : w.heap[B]? = some (.cells #[.int .i64 x0, .int .i64 x1, .int .i64 x2, .int .i64 x3] t)) :
    (execOp a.eval o).run Try.prog w = .ok (.value (.agg #[.int .i64 x0, .int .i64 x1, .int .i64 x2, .int .i64 x3])) w ∧ ∀ e ∈ (execOp a.eval o).events Try.prog w #[], ∃ ad, e.loc = .cell ad ∧ ad.block = B ∧ e.write = false := by
  have c0 := cell_of (off := 0) (v := .int .i64 x0) h rfl
  have c1 := cell_of (off := 1) (v := .int .i64 x1) h rfl
  have c2 := cell_of (off := 2) (v := .int .i64 x2) h rfl
  have c3 := cell_of (off := 3) (v := .int .i64 x3) h rfl
  unfold execOp
  simp only [ho, hx]
  refine ⟨by go_simp, fun e he => ?_⟩
  simp [go_sem, *] at he
  rcases he with rfl | rfl | rfl | rfl <;> exact ⟨_, rfl, rfl, rfl⟩
theorem res27 {fn : Func} {p : Tmp} {tmps : Array Value} {B : Nat} {t : TypeId} {x0 x1 x2 x3 : Int} (hr : fn.results = #[.cell p 27]) (hp : tmps.getD p undef = .pointer (some ⟨B, 0, none⟩)) (w : World) (h : w.heap[B]? = some (.cells #[.int .i64 x0, .int .i64 x1, .int .i64 x2, .int .i64 x3] t)) :
    (results fn tmps).run Try.prog w = .ok (.agg #[.int .i64 x0, .int .i64 x1, .int .i64 x2, .int .i64 x3]) w ∧ ∀ e ∈ (results fn tmps).events Try.prog w #[], ∃ ad, e.loc = .cell ad ∧ ad.block = B := by
  have c0 := cell_of (off := 0) (v := .int .i64 x0) h rfl
  have c1 := cell_of (off := 1) (v := .int .i64 x1) h rfl
  have c2 := cell_of (off := 2) (v := .int .i64 x2) h rfl
  have c3 := cell_of (off := 3) (v := .int .i64 x3) h rfl
  have hp' : tmps[p]?.getD undef = .pointer (some ⟨B, 0, none⟩) := by simpa using hp
  constructor
  · simp [results, hr, hp', asAddr]
    go_simp
  · intro e he
    simp [results, hr, hp', asAddr, go_sem, *] at he
    rcases he with rfl | rfl | rfl | rfl <;> exact ⟨_, rfl, rfl⟩
end
noncomputable def body6' : Code := Try.f6.body.getD .skip
section
variable {Fr : Nat → Prop} {Inv : World → Prop} {Stop : (Nat → Prop) → Goroutine → World → Prop} {E : Nat → Prop} {w : World} {Fx : Nat → Prop} {L : List (Nat × Obj)} {b₀ : Frame} {a₀ : Act} {ops₀ : Array Oper} {i₀ : Nat} {rest₀ : List Nat} {k₀ : List Item} {cs : List Frame} {x0 x1 x2 x3 : Int}
set_option maxRecDepth 100000 in
set_option maxHeartbeats 8000000 in
theorem tobox (hI : Stab Fx Inv) (hH : Has Try.prog.globals.size Fx E w L)
    (k : ∀ E' w', Has Try.prog.globals.size Fx E' w' L → Way Try.prog true Fr Inv Stop E' (G (b₀.at (a₀.put ((ops₀[i₀]?).bind (·.dst)) (bx x0 x1 x2 x3)) (.inRegion ops₀ rest₀ :: k₀)) cs) w') :
    Way Try.prog true Fr Inv Stop E (G ((base 6).at ⟨#[.agg #[.int .i64 x0, .int .i64 x1, .int .i64 x2, .int .i64 x3], undef, undef, undef, undef, undef, undef, undef, undef, undef, undef, undef, undef, undef, undef, undef, undef], []⟩ [.code body6']) (b₀.at a₀ (.inRegion ops₀ (i₀ :: rest₀) :: k₀) :: cs)) w := by
  simp only [body6', Try.f6, Option.getD_some]
  refine Way.ctl rfl (fun _ => stepG_seq) ?_
  refine Way.ctl rfl (fun _ => stepG_region) ?_
  simp only [List.size_toArray, List.length_cons, List.length_nil, Nat.reduceAdd, Nat.zero_add, List.range, List.range.loop]
  refine Way.alloc (f := fun B => .pointer (some ⟨B, 0, none⟩)) hI hH rfl rfl (by decide) (op_box23 rfl rfl) (fun Bx E w hH hBx => ?_)
  walk_nrm
  refine Way.alloc (f := fun B => .pointer (some ⟨B, 0, none⟩)) hI hH rfl rfl (by decide) (op_alloc27 rfl) (fun Br E w hH hBr => ?_)
  walk_nrm
  refine Way.ctl rfl (fun _ => stepG_region_end) ?_
  refine Way.ctl rfl (fun _ => stepG_seq) ?_
  refine Way.ctl rfl (fun _ => stepG_region) ?_
  simp only [List.size_toArray, List.length_cons, List.length_nil, Nat.reduceAdd, Nat.zero_add, List.range, List.range.loop]
  refine Way.alloc (f := fun B => .pointer (some ⟨B, 0, none⟩)) hI hH rfl rfl (by decide) (op_alloc27 rfl) (fun Bo E w hH hBo => ?_)
  walk_nrm
  refine Way.ctl rfl (fun _ => stepG_region_end) ?_
  refine Way.ctl rfl (fun _ => stepG_seq) ?_
  refine Way.ctl rfl (fun _ => stepG_region) ?_
  simp only [List.size_toArray, List.length_cons, List.length_nil, Nat.reduceAdd, Nat.zero_add, List.range, List.range.loop]
  refine Way.op0 rfl rfl (by decide) (fun _ => by go_simp; rfl) (fun _ => by simp [go_sem]) ?_
  walk_nrm
  refine Way.load hH (.tail _ (.tail _ (.head _))) rfl rfl (by decide) (op_load1 (.inl rfl) rfl rfl rfl) ?_
  walk_nrm
  refine Way.op0 rfl rfl (by decide) (fun _ => by go_simp; rfl) (fun _ => by simp [go_sem]) ?_
  walk_nrm
  refine Way.store hI hH rfl rfl (by decide) (op_store3 rfl rfl rfl rfl) (fun w hH => ?_)
  walk_nrm
  try simp only [List.setIfInBounds_toArray, List.set_cons_succ, List.set_cons_zero] at hH
  refine Way.ctl rfl (fun _ => stepG_region_end) ?_
  refine Way.ctl rfl (fun _ => stepG_seq) ?_
  refine Way.ctl rfl (fun _ => stepG_region) ?_
  simp only [List.size_toArray, List.length_cons, List.length_nil, Nat.reduceAdd, Nat.zero_add, List.range, List.range.loop]
  refine Way.op0 rfl rfl (by decide) (fun _ => by go_simp; rfl) (fun _ => by simp [go_sem]) ?_
  walk_nrm
  refine Way.load hH (.tail _ (.tail _ (.head _))) rfl rfl (by decide) (op_load1 (.inl rfl) rfl rfl rfl) ?_
  walk_nrm
  refine Way.op0 rfl rfl (by decide) (fun _ => by go_simp; rfl) (fun _ => by simp [go_sem]) ?_
  walk_nrm
  refine Way.store hI hH rfl rfl (by decide) (op_store3 rfl rfl rfl rfl) (fun w hH => ?_)
  walk_nrm
  try simp only [List.setIfInBounds_toArray, List.set_cons_succ, List.set_cons_zero] at hH
  refine Way.ctl rfl (fun _ => stepG_region_end) ?_
  refine Way.ctl rfl (fun _ => stepG_seq) ?_
  refine Way.ctl rfl (fun _ => stepG_region) ?_
  simp only [List.size_toArray, List.length_cons, List.length_nil, Nat.reduceAdd, Nat.zero_add, List.range, List.range.loop]
  refine Way.op0 rfl rfl (by decide) (fun _ => by go_simp; rfl) (fun _ => by simp [go_sem]) ?_
  walk_nrm
  refine Way.load hH (.tail _ (.tail _ (.head _))) rfl rfl (by decide) (op_load1 (.inl rfl) rfl rfl rfl) ?_
  walk_nrm
  refine Way.op0 rfl rfl (by decide) (fun _ => by go_simp; rfl) (fun _ => by simp [go_sem]) ?_
  walk_nrm
  refine Way.store hI hH rfl rfl (by decide) (op_store3 rfl rfl rfl rfl) (fun w hH => ?_)
  walk_nrm
  try simp only [List.setIfInBounds_toArray, List.set_cons_succ, List.set_cons_zero] at hH
  refine Way.ctl rfl (fun _ => stepG_region_end) ?_
  refine Way.ctl rfl (fun _ => stepG_seq) ?_
  refine Way.ctl rfl (fun _ => stepG_region) ?_
  simp only [List.size_toArray, List.length_cons, List.length_nil, Nat.reduceAdd, Nat.zero_add, List.range, List.range.loop]
  refine Way.op0 rfl rfl (by decide) (fun _ => by go_simp; rfl) (fun _ => by simp [go_sem]) ?_
  walk_nrm
  refine Way.load hH (.tail _ (.tail _ (.head _))) rfl rfl (by decide) (op_load1 (.inl rfl) rfl rfl rfl) ?_
  walk_nrm
  refine Way.op0 rfl rfl (by decide) (fun _ => by go_simp; rfl) (fun _ => by simp [go_sem]) ?_
  walk_nrm
  refine Way.store hI hH rfl rfl (by decide) (op_store3 rfl rfl rfl rfl) (fun w hH => ?_)
  walk_nrm
  try simp only [List.setIfInBounds_toArray, List.set_cons_succ, List.set_cons_zero] at hH
  refine Way.ctl rfl (fun _ => stepG_region_end) ?_
  refine Way.ctl rfl (fun _ => stepG_seq) ?_
  refine Way.ctl rfl (fun _ => stepG_region) ?_
  simp only [List.size_toArray, List.length_cons, List.length_nil, Nat.reduceAdd, Nat.zero_add, List.range, List.range.loop]
  refine Way.load hH (.head _) rfl rfl (by decide) (op_load27 rfl rfl rfl rfl rfl rfl) ?_
  walk_nrm
  replace hH := hH.perm (List.Perm.swap _ _ _)
  refine Way.store hI hH rfl rfl (by decide) (op_store27 rfl rfl rfl) (fun w hH => ?_)
  walk_nrm
  try simp only [List.setIfInBounds_toArray, List.set_cons_succ, List.set_cons_zero] at hH
  refine Way.ctl rfl (fun _ => stepG_region_end) ?_
  refine Way.ctl rfl (fun _ => stepG_ret') ?_
  refine Way.leaveM hH (.head _) rfl rfl Try.func6 (res27 rfl rfl) ?_
  walk_nrm
  exact k _ _ hH.tail.tail.tail
end
end Go.Proofs.Ytjbpaejjpamcpaa.Sim
