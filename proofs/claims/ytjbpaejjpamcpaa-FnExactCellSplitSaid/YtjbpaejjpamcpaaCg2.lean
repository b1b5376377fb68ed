/- The laws' own helpers, walked in company: rows of numbers that are alike (eqIntS, sameInts), marking and finding the marks (markIntS, heldIntS); toBox. -/
import Derived.Test.YtjbpaejjpamcpaaMCw
import Derived.Test.YtjbpaejjpamcpaaMCf
set_option linter.unusedSectionVars false
namespace Go.Proofs.Ytjbpaejjpamcpaa.Sim
set_option linter.unusedSimpArgs false
set_option linter.unusedVariables false
open Go Go.Conc Go.RowKit Go.Conc.Lib Go.ConcN.Gen Go.ConcR.Gen

section
variable {a : Act} {o : Oper}
theorem op_iaddr24 {x y : Operand} {B l c j : Nat} (ho : o.op = .indexAddr 24 x y) (hx : a.eval x = .slice (some ⟨B, 0, none⟩) l c) (hy : a.eval y = .int .i64 (j : Int)) (hj : j < l) (w : World) :
    (execOp a.eval o).run Try.prog w = .ok (.value (.pointer (some ⟨B, j * 1, none⟩))) w ∧ (execOp a.eval o).events Try.prog w #[] = #[] := by
  have h0 : (0 : Int) ≤ (j : Int) := by omega
  have h1 : (j : Int) < (l : Int) := by omega
  unfold execOp
  simp only [ho, hx, hy]
  refine ⟨by go_simp, ?_⟩
  simp [go_sem, *]
theorem op_neq {x y : Operand} {z : Int} (ho : o.op = .binOp .neq 3 x y 3) (hx : a.eval x = .int .i64 z) (hy : a.eval y = .int .i64 z) (w : World) : (execOp a.eval o).run Try.prog w = .ok (.value (.bool false)) w ∧ (execOp a.eval o).events Try.prog w #[] = #[] := by
  unfold execOp
  simp only [ho, hx, hy]
  exact ⟨by go_simp, by simp [go_sem]⟩
theorem op_store3 {x y : Operand} {B off : Nat} {cs : Array Value} {t : TypeId} {v : Int} {u : Value} (ho : o.op = .store 3 x y) (hx : a.eval x = .pointer (some ⟨B, off, none⟩)) (hy : a.eval y = .int .i64 v) (hoff : cs[off]? = some u) (w : World) (h : w.heap[B]? = some (.cells cs t)) :
    ∃ w', (execOp a.eval o).run Try.prog w = .ok .skip w' ∧ SetTo w w' B (.cells (cs.setIfInBounds off (.int .i64 v)) t) ∧ ∀ e ∈ (execOp a.eval o).events Try.prog w #[], ∃ ad, e.loc = .cell ad ∧ ad.block = B := by
  have c0 := cell_of h hoff
  have f0 := frozen_of (off := off) h
  unfold execOp
  simp only [ho, hx, hy]
  refine ⟨w.setCell ⟨B, off, none⟩ (.int .i64 v), by go_simp, setTo_cells h, fun e he => ?_⟩
  simp [go_sem, storedEv, *] at he
  subst he; exact ⟨_, rfl, rfl⟩
end
section
variable {Fr : Nat → Prop} {Inv : World → Prop} {Stop : (Nat → Prop) → Goroutine → World → Prop} {E : Nat → Prop} {w : World} {Fx : Nat → Prop} {L : List (Nat × Obj)} {b₀ : Frame} {a₀ : Act} {ops₀ : Array Oper} {i₀ : Nat} {rest₀ : List Nat} {k₀ : List Item} {cs : List Frame} {A B ca cb : Nat} {cA cB : Array Value} {tA tB : TypeId} {z : Nat → Int}
noncomputable def body8' : Code := Try.f8.body.getD .skip
set_option maxRecDepth 100000 in
set_option maxHeartbeats 8000000 in
theorem eq8_4 (hI : Stab Fx Inv) (hH : Has Try.prog.globals.size Fx E w L) (mA : (A, .cells cA tA) ∈ L) (mB : (B, .cells cB tB) ∈ L) (zA : ∀ i, i < 4 → cA[i]? = some (.int .i64 (z i))) (zB : ∀ i, i < 4 → cB[i]? = some (.int .i64 (z i)))
    (k : ∀ E' w', Has Try.prog.globals.size Fx E' w' L → Way Try.prog true Fr Inv Stop E' (G (b₀.at (a₀.put ((ops₀[i₀]?).bind (·.dst)) (.bool true)) (.inRegion ops₀ rest₀ :: k₀)) cs) w') :
    Way Try.prog true Fr Inv Stop E (G ((base 8).at ⟨#[.slice (some ⟨A, 0, none⟩) 4 ca, .slice (some ⟨B, 0, none⟩) 4 cb, undef, undef, undef, undef, undef, undef, undef, undef, undef, undef, undef, undef, undef, undef, undef, undef, undef, undef, undef, undef, undef, undef, undef, undef], []⟩ [.code body8']) (b₀.at a₀ (.inRegion ops₀ (i₀ :: rest₀) :: k₀) :: cs)) w := by
  simp only [body8', Try.f8, Option.getD_some]
  refine Way.ctl rfl (fun _ => stepG_seq) ?_
  refine Way.ctl rfl (fun _ => stepG_region) ?_
  simp only [List.size_toArray, List.length_cons, List.length_nil, Nat.reduceAdd, Nat.zero_add, List.range, List.range.loop]
  refine Way.op0 rfl rfl (by decide) (fun _ => by go_simp; rfl) (fun _ => by simp [go_sem]) ?_
  walk_nrm
  refine Way.ctl rfl (fun _ => stepG_region_end) ?_
  refine Way.ctl rfl (fun _ => stepG_seq) ?_
  refine Way.ctl rfl (fun _ => stepG_seq) ?_
  refine Way.ctl rfl (fun _ => stepG_region) ?_
  simp only [List.size_toArray, List.length_cons, List.length_nil, Nat.reduceAdd, Nat.zero_add, List.range, List.range.loop]
  refine Way.op0 rfl rfl (by decide) (fun _ => by go_simp; rfl) (fun _ => by simp [go_sem]) ?_
  walk_nrm
  refine Way.op0 rfl rfl (by decide) (fun _ => by go_simp; rfl) (fun _ => by simp [go_sem]) ?_
  walk_nrm
  refine Way.op0 rfl rfl (by decide) (fun _ => by go_simp; rfl) (fun _ => by simp [go_sem]) ?_
  walk_nrm
  refine Way.op0 rfl rfl (by decide) (fun _ => by go_simp; rfl) (fun _ => by simp [go_sem]) ?_
  walk_nrm
  refine Way.op0 rfl rfl (by decide) (fun _ => by go_simp; rfl) (fun _ => by simp [go_sem]) ?_
  walk_nrm
  refine Way.ctl rfl (fun _ => stepG_region_end) ?_
  refine Way.ctl rfl (fun _ => stepG_cond (t := false) rfl) ?_
  simp only [if_true, if_false, Bool.false_eq_true, ↓reduceIte]
  refine Way.ctl rfl (fun _ => stepG_skip) ?_
  refine Way.ctl rfl (fun _ => stepG_seq) ?_
  refine Way.ctl rfl (fun _ => stepG_seq) ?_
  refine Way.ctl rfl (fun _ => stepG_region) ?_
  simp only [List.size_toArray, List.length_cons, List.length_nil, Nat.reduceAdd, Nat.zero_add, List.range, List.range.loop]
  refine Way.op0 rfl rfl (by decide) (fun _ => by go_simp; rfl) (fun _ => by simp [go_sem]) ?_
  walk_nrm
  refine Way.ctl rfl (fun _ => stepG_region_end) ?_
  refine Way.ctl rfl (fun _ => stepG_block) ?_
  refine Way.ctl rfl (fun _ => stepG_loop) ?_
  refine Way.ctl rfl (fun _ => stepG_seq) ?_
  refine Way.ctl rfl (fun _ => stepG_seq) ?_
  refine Way.ctl rfl (fun _ => stepG_region) ?_
  simp only [List.size_toArray, List.length_cons, List.length_nil, Nat.reduceAdd, Nat.zero_add, List.range, List.range.loop]
  refine Way.op0 rfl rfl (by decide) (fun _ => by go_simp; rfl) (fun _ => by simp [go_sem]) ?_
  walk_nrm
  refine Way.op0 rfl rfl (by decide) (fun _ => by go_simp; rfl) (fun _ => by simp [go_sem]) ?_
  walk_nrm
  refine Way.op0 rfl rfl (by decide) (fun _ => by go_simp; rfl) (fun _ => by simp [go_sem]) ?_
  walk_nrm
  refine Way.op0 rfl rfl (by decide) (fun _ => by go_simp; rfl) (fun _ => by simp [go_sem]) ?_
  walk_nrm
  refine Way.ctl rfl (fun _ => stepG_region_end) ?_
  refine Way.ctl rfl (fun _ => stepG_cond (t := true) rfl) ?_
  simp only [if_true, if_false, Bool.false_eq_true, ↓reduceIte]
  refine Way.ctl rfl (fun _ => stepG_skip) ?_
  refine Way.ctl rfl (fun _ => stepG_seq) ?_
  refine Way.ctl rfl (fun _ => stepG_block) ?_
  refine Way.ctl rfl (fun _ => stepG_seq) ?_
  refine Way.drawn (a' := ⟨#[.slice (some ⟨A, 0, none⟩) 4 ca, .slice (some ⟨B, 0, none⟩) 4 cb, undef, undef, .bool false, .int .i64 0, .slice (some ⟨A, 0, none⟩) 4 ca, .int .i64 4, .slice (some ⟨B, 0, none⟩) 4 cb, .int .i64 4, .bool false, .int .i64 0, .slice (some ⟨A, 0, none⟩) 4 ca, .int .i64 4, .bool true, undef, undef, .slice (some ⟨A, 0, none⟩) 4 ca, .int .i64 0, .pointer (some ⟨A, 0 * 1, none⟩), .int .i64 (z 0), .slice (some ⟨B, 0, none⟩) 4 cb, .int .i64 0, .pointer (some ⟨B, 0 * 1, none⟩), .int .i64 (z 0), .bool false], []⟩) hI hH (by kernel_rfl) (by decide) (fun w hH => ?_) (fun w hH => ?_)
  ·
    refine take_pure (i := 0) rfl (by kernel_rfl) (by kernel_rfl) (by kernel_rfl) keepQ rfl (fun _ => ⟨by go_simp; rfl, by simp [go_sem]⟩) hH ?_
    walk_nrm
    refine take_pure (i := 1) rfl (by kernel_rfl) (by kernel_rfl) (by kernel_rfl) keepQ rfl (fun _ => ⟨by go_simp; rfl, by simp [go_sem]⟩) hH ?_
    walk_nrm
    refine take_pure (i := 2) rfl (by kernel_rfl) (by kernel_rfl) (by kernel_rfl) keepQ rfl (op_iaddr24 (j := 0) rfl rfl rfl (by decide)) hH ?_
    walk_nrm
    refine take_load (i := 3) rfl (by kernel_rfl) (by kernel_rfl) (by kernel_rfl) keepQ rfl mA (op_load1 (.inl rfl) rfl rfl (zA 0 (by decide))) hH ?_
    walk_nrm
    refine take_pure (i := 4) rfl (by kernel_rfl) (by kernel_rfl) (by kernel_rfl) keepQ rfl (fun _ => ⟨by go_simp; rfl, by simp [go_sem]⟩) hH ?_
    walk_nrm
    refine take_pure (i := 5) rfl (by kernel_rfl) (by kernel_rfl) (by kernel_rfl) keepQ rfl (fun _ => ⟨by go_simp; rfl, by simp [go_sem]⟩) hH ?_
    walk_nrm
    refine take_pure (i := 6) rfl (by kernel_rfl) (by kernel_rfl) (by kernel_rfl) keepQ rfl (op_iaddr24 (j := 0) rfl rfl rfl (by decide)) hH ?_
    walk_nrm
    refine take_load (i := 7) rfl (by kernel_rfl) (by kernel_rfl) (by kernel_rfl) keepQ rfl mB (op_load1 (.inl rfl) rfl rfl (zB 0 (by decide))) hH ?_
    walk_nrm
    refine take_pure (i := 8) rfl (by kernel_rfl) (by kernel_rfl) (by kernel_rfl) keepQ rfl (op_neq rfl rfl rfl) hH ?_
    walk_nrm
    exact take_done (by kernel_rfl) ⟨rfl, rfl, hH⟩
  refine Way.ctl rfl (fun _ => stepG_cond (t := false) rfl) ?_
  simp only [if_true, if_false, Bool.false_eq_true, ↓reduceIte]
  refine Way.ctl rfl (fun _ => stepG_skip) ?_
  refine Way.ctl rfl (fun _ => stepG_inBlock) ?_
  refine Way.ctl rfl (fun _ => stepG_region) ?_
  simp only [List.size_toArray, List.length_cons, List.length_nil, Nat.reduceAdd, Nat.zero_add, List.range, List.range.loop]
  refine Way.op0 rfl rfl (by decide) (fun _ => by go_simp; rfl) (fun _ => by simp [go_sem]) ?_
  walk_nrm
  refine Way.op0 rfl rfl (by decide) (fun _ => by go_simp; rfl) (fun _ => by simp [go_sem]) ?_
  walk_nrm
  refine Way.op0 rfl rfl (by decide) (fun _ => by go_simp; rfl) (fun _ => by simp [go_sem]) ?_
  walk_nrm
  refine Way.ctl rfl (fun _ => stepG_region_end) ?_
  refine Way.ctl rfl (fun _ => stepG_inLoop) ?_
  refine Way.ctl rfl (fun _ => stepG_seq) ?_
  refine Way.ctl rfl (fun _ => stepG_seq) ?_
  refine Way.ctl rfl (fun _ => stepG_region) ?_
  simp only [List.size_toArray, List.length_cons, List.length_nil, Nat.reduceAdd, Nat.zero_add, List.range, List.range.loop]
  refine Way.op0 rfl rfl (by decide) (fun _ => by go_simp; rfl) (fun _ => by simp [go_sem]) ?_
  walk_nrm
  refine Way.op0 rfl rfl (by decide) (fun _ => by go_simp; rfl) (fun _ => by simp [go_sem]) ?_
  walk_nrm
  refine Way.op0 rfl rfl (by decide) (fun _ => by go_simp; rfl) (fun _ => by simp [go_sem]) ?_
  walk_nrm
  refine Way.op0 rfl rfl (by decide) (fun _ => by go_simp; rfl) (fun _ => by simp [go_sem]) ?_
  walk_nrm
  refine Way.ctl rfl (fun _ => stepG_region_end) ?_
  refine Way.ctl rfl (fun _ => stepG_cond (t := true) rfl) ?_
  simp only [if_true, if_false, Bool.false_eq_true, ↓reduceIte]
  refine Way.ctl rfl (fun _ => stepG_skip) ?_
  refine Way.ctl rfl (fun _ => stepG_seq) ?_
  refine Way.ctl rfl (fun _ => stepG_block) ?_
  refine Way.ctl rfl (fun _ => stepG_seq) ?_
  refine Way.drawn (a' := ⟨#[.slice (some ⟨A, 0, none⟩) 4 ca, .slice (some ⟨B, 0, none⟩) 4 cb, undef, undef, .bool false, .int .i64 1, .slice (some ⟨A, 0, none⟩) 4 ca, .int .i64 4, .slice (some ⟨B, 0, none⟩) 4 cb, .int .i64 4, .bool false, .int .i64 1, .slice (some ⟨A, 0, none⟩) 4 ca, .int .i64 4, .bool true, .int .i64 0, .int .i64 1, .slice (some ⟨A, 0, none⟩) 4 ca, .int .i64 1, .pointer (some ⟨A, 1 * 1, none⟩), .int .i64 (z 1), .slice (some ⟨B, 0, none⟩) 4 cb, .int .i64 1, .pointer (some ⟨B, 1 * 1, none⟩), .int .i64 (z 1), .bool false], []⟩) hI hH (by kernel_rfl) (by decide) (fun w hH => ?_) (fun w hH => ?_)
  ·
    refine take_pure (i := 0) rfl (by kernel_rfl) (by kernel_rfl) (by kernel_rfl) keepQ rfl (fun _ => ⟨by go_simp; rfl, by simp [go_sem]⟩) hH ?_
    walk_nrm
    refine take_pure (i := 1) rfl (by kernel_rfl) (by kernel_rfl) (by kernel_rfl) keepQ rfl (fun _ => ⟨by go_simp; rfl, by simp [go_sem]⟩) hH ?_
    walk_nrm
    refine take_pure (i := 2) rfl (by kernel_rfl) (by kernel_rfl) (by kernel_rfl) keepQ rfl (op_iaddr24 (j := 1) rfl rfl rfl (by decide)) hH ?_
    walk_nrm
    refine take_load (i := 3) rfl (by kernel_rfl) (by kernel_rfl) (by kernel_rfl) keepQ rfl mA (op_load1 (.inl rfl) rfl rfl (zA 1 (by decide))) hH ?_
    walk_nrm
    refine take_pure (i := 4) rfl (by kernel_rfl) (by kernel_rfl) (by kernel_rfl) keepQ rfl (fun _ => ⟨by go_simp; rfl, by simp [go_sem]⟩) hH ?_
    walk_nrm
    refine take_pure (i := 5) rfl (by kernel_rfl) (by kernel_rfl) (by kernel_rfl) keepQ rfl (fun _ => ⟨by go_simp; rfl, by simp [go_sem]⟩) hH ?_
    walk_nrm
    refine take_pure (i := 6) rfl (by kernel_rfl) (by kernel_rfl) (by kernel_rfl) keepQ rfl (op_iaddr24 (j := 1) rfl rfl rfl (by decide)) hH ?_
    walk_nrm
    refine take_load (i := 7) rfl (by kernel_rfl) (by kernel_rfl) (by kernel_rfl) keepQ rfl mB (op_load1 (.inl rfl) rfl rfl (zB 1 (by decide))) hH ?_
    walk_nrm
    refine take_pure (i := 8) rfl (by kernel_rfl) (by kernel_rfl) (by kernel_rfl) keepQ rfl (op_neq rfl rfl rfl) hH ?_
    walk_nrm
    exact take_done (by kernel_rfl) ⟨rfl, rfl, hH⟩
  refine Way.ctl rfl (fun _ => stepG_cond (t := false) rfl) ?_
  simp only [if_true, if_false, Bool.false_eq_true, ↓reduceIte]
  refine Way.ctl rfl (fun _ => stepG_skip) ?_
  refine Way.ctl rfl (fun _ => stepG_inBlock) ?_
  refine Way.ctl rfl (fun _ => stepG_region) ?_
  simp only [List.size_toArray, List.length_cons, List.length_nil, Nat.reduceAdd, Nat.zero_add, List.range, List.range.loop]
  refine Way.op0 rfl rfl (by decide) (fun _ => by go_simp; rfl) (fun _ => by simp [go_sem]) ?_
  walk_nrm
  refine Way.op0 rfl rfl (by decide) (fun _ => by go_simp; rfl) (fun _ => by simp [go_sem]) ?_
  walk_nrm
  refine Way.op0 rfl rfl (by decide) (fun _ => by go_simp; rfl) (fun _ => by simp [go_sem]) ?_
  walk_nrm
  refine Way.ctl rfl (fun _ => stepG_region_end) ?_
  refine Way.ctl rfl (fun _ => stepG_inLoop) ?_
  refine Way.ctl rfl (fun _ => stepG_seq) ?_
  refine Way.ctl rfl (fun _ => stepG_seq) ?_
  refine Way.ctl rfl (fun _ => stepG_region) ?_
  simp only [List.size_toArray, List.length_cons, List.length_nil, Nat.reduceAdd, Nat.zero_add, List.range, List.range.loop]
  refine Way.op0 rfl rfl (by decide) (fun _ => by go_simp; rfl) (fun _ => by simp [go_sem]) ?_
  walk_nrm
  refine Way.op0 rfl rfl (by decide) (fun _ => by go_simp; rfl) (fun _ => by simp [go_sem]) ?_
  walk_nrm
  refine Way.op0 rfl rfl (by decide) (fun _ => by go_simp; rfl) (fun _ => by simp [go_sem]) ?_
  walk_nrm
  refine Way.op0 rfl rfl (by decide) (fun _ => by go_simp; rfl) (fun _ => by simp [go_sem]) ?_
  walk_nrm
  refine Way.ctl rfl (fun _ => stepG_region_end) ?_
  refine Way.ctl rfl (fun _ => stepG_cond (t := true) rfl) ?_
  simp only [if_true, if_false, Bool.false_eq_true, ↓reduceIte]
  refine Way.ctl rfl (fun _ => stepG_skip) ?_
  refine Way.ctl rfl (fun _ => stepG_seq) ?_
  refine Way.ctl rfl (fun _ => stepG_block) ?_
  refine Way.ctl rfl (fun _ => stepG_seq) ?_
  refine Way.drawn (a' := ⟨#[.slice (some ⟨A, 0, none⟩) 4 ca, .slice (some ⟨B, 0, none⟩) 4 cb, undef, undef, .bool false, .int .i64 2, .slice (some ⟨A, 0, none⟩) 4 ca, .int .i64 4, .slice (some ⟨B, 0, none⟩) 4 cb, .int .i64 4, .bool false, .int .i64 2, .slice (some ⟨A, 0, none⟩) 4 ca, .int .i64 4, .bool true, .int .i64 1, .int .i64 2, .slice (some ⟨A, 0, none⟩) 4 ca, .int .i64 2, .pointer (some ⟨A, 2 * 1, none⟩), .int .i64 (z 2), .slice (some ⟨B, 0, none⟩) 4 cb, .int .i64 2, .pointer (some ⟨B, 2 * 1, none⟩), .int .i64 (z 2), .bool false], []⟩) hI hH (by kernel_rfl) (by decide) (fun w hH => ?_) (fun w hH => ?_)
  ·
    refine take_pure (i := 0) rfl (by kernel_rfl) (by kernel_rfl) (by kernel_rfl) keepQ rfl (fun _ => ⟨by go_simp; rfl, by simp [go_sem]⟩) hH ?_
    walk_nrm
    refine take_pure (i := 1) rfl (by kernel_rfl) (by kernel_rfl) (by kernel_rfl) keepQ rfl (fun _ => ⟨by go_simp; rfl, by simp [go_sem]⟩) hH ?_
    walk_nrm
    refine take_pure (i := 2) rfl (by kernel_rfl) (by kernel_rfl) (by kernel_rfl) keepQ rfl (op_iaddr24 (j := 2) rfl rfl rfl (by decide)) hH ?_
    walk_nrm
    refine take_load (i := 3) rfl (by kernel_rfl) (by kernel_rfl) (by kernel_rfl) keepQ rfl mA (op_load1 (.inl rfl) rfl rfl (zA 2 (by decide))) hH ?_
    walk_nrm
    refine take_pure (i := 4) rfl (by kernel_rfl) (by kernel_rfl) (by kernel_rfl) keepQ rfl (fun _ => ⟨by go_simp; rfl, by simp [go_sem]⟩) hH ?_
    walk_nrm
    refine take_pure (i := 5) rfl (by kernel_rfl) (by kernel_rfl) (by kernel_rfl) keepQ rfl (fun _ => ⟨by go_simp; rfl, by simp [go_sem]⟩) hH ?_
    walk_nrm
    refine take_pure (i := 6) rfl (by kernel_rfl) (by kernel_rfl) (by kernel_rfl) keepQ rfl (op_iaddr24 (j := 2) rfl rfl rfl (by decide)) hH ?_
    walk_nrm
    refine take_load (i := 7) rfl (by kernel_rfl) (by kernel_rfl) (by kernel_rfl) keepQ rfl mB (op_load1 (.inl rfl) rfl rfl (zB 2 (by decide))) hH ?_
    walk_nrm
    refine take_pure (i := 8) rfl (by kernel_rfl) (by kernel_rfl) (by kernel_rfl) keepQ rfl (op_neq rfl rfl rfl) hH ?_
    walk_nrm
    exact take_done (by kernel_rfl) ⟨rfl, rfl, hH⟩
  refine Way.ctl rfl (fun _ => stepG_cond (t := false) rfl) ?_
  simp only [if_true, if_false, Bool.false_eq_true, ↓reduceIte]
  refine Way.ctl rfl (fun _ => stepG_skip) ?_
  refine Way.ctl rfl (fun _ => stepG_inBlock) ?_
  refine Way.ctl rfl (fun _ => stepG_region) ?_
  simp only [List.size_toArray, List.length_cons, List.length_nil, Nat.reduceAdd, Nat.zero_add, List.range, List.range.loop]
  refine Way.op0 rfl rfl (by decide) (fun _ => by go_simp; rfl) (fun _ => by simp [go_sem]) ?_
  walk_nrm
  refine Way.op0 rfl rfl (by decide) (fun _ => by go_simp; rfl) (fun _ => by simp [go_sem]) ?_
  walk_nrm
  refine Way.op0 rfl rfl (by decide) (fun _ => by go_simp; rfl) (fun _ => by simp [go_sem]) ?_
  walk_nrm
  refine Way.ctl rfl (fun _ => stepG_region_end) ?_
  refine Way.ctl rfl (fun _ => stepG_inLoop) ?_
  refine Way.ctl rfl (fun _ => stepG_seq) ?_
  refine Way.ctl rfl (fun _ => stepG_seq) ?_
  refine Way.ctl rfl (fun _ => stepG_region) ?_
  simp only [List.size_toArray, List.length_cons, List.length_nil, Nat.reduceAdd, Nat.zero_add, List.range, List.range.loop]
  refine Way.op0 rfl rfl (by decide) (fun _ => by go_simp; rfl) (fun _ => by simp [go_sem]) ?_
  walk_nrm
  refine Way.op0 rfl rfl (by decide) (fun _ => by go_simp; rfl) (fun _ => by simp [go_sem]) ?_
  walk_nrm
  refine Way.op0 rfl rfl (by decide) (fun _ => by go_simp; rfl) (fun _ => by simp [go_sem]) ?_
  walk_nrm
  refine Way.op0 rfl rfl (by decide) (fun _ => by go_simp; rfl) (fun _ => by simp [go_sem]) ?_
  walk_nrm
  refine Way.ctl rfl (fun _ => stepG_region_end) ?_
  refine Way.ctl rfl (fun _ => stepG_cond (t := true) rfl) ?_
  simp only [if_true, if_false, Bool.false_eq_true, ↓reduceIte]
  refine Way.ctl rfl (fun _ => stepG_skip) ?_
  refine Way.ctl rfl (fun _ => stepG_seq) ?_
  refine Way.ctl rfl (fun _ => stepG_block) ?_
  refine Way.ctl rfl (fun _ => stepG_seq) ?_
  refine Way.drawn (a' := ⟨#[.slice (some ⟨A, 0, none⟩) 4 ca, .slice (some ⟨B, 0, none⟩) 4 cb, undef, undef, .bool false, .int .i64 3, .slice (some ⟨A, 0, none⟩) 4 ca, .int .i64 4, .slice (some ⟨B, 0, none⟩) 4 cb, .int .i64 4, .bool false, .int .i64 3, .slice (some ⟨A, 0, none⟩) 4 ca, .int .i64 4, .bool true, .int .i64 2, .int .i64 3, .slice (some ⟨A, 0, none⟩) 4 ca, .int .i64 3, .pointer (some ⟨A, 3 * 1, none⟩), .int .i64 (z 3), .slice (some ⟨B, 0, none⟩) 4 cb, .int .i64 3, .pointer (some ⟨B, 3 * 1, none⟩), .int .i64 (z 3), .bool false], []⟩) hI hH (by kernel_rfl) (by decide) (fun w hH => ?_) (fun w hH => ?_)
  ·
    refine take_pure (i := 0) rfl (by kernel_rfl) (by kernel_rfl) (by kernel_rfl) keepQ rfl (fun _ => ⟨by go_simp; rfl, by simp [go_sem]⟩) hH ?_
    walk_nrm
    refine take_pure (i := 1) rfl (by kernel_rfl) (by kernel_rfl) (by kernel_rfl) keepQ rfl (fun _ => ⟨by go_simp; rfl, by simp [go_sem]⟩) hH ?_
    walk_nrm
    refine take_pure (i := 2) rfl (by kernel_rfl) (by kernel_rfl) (by kernel_rfl) keepQ rfl (op_iaddr24 (j := 3) rfl rfl rfl (by decide)) hH ?_
    walk_nrm
    refine take_load (i := 3) rfl (by kernel_rfl) (by kernel_rfl) (by kernel_rfl) keepQ rfl mA (op_load1 (.inl rfl) rfl rfl (zA 3 (by decide))) hH ?_
    walk_nrm
    refine take_pure (i := 4) rfl (by kernel_rfl) (by kernel_rfl) (by kernel_rfl) keepQ rfl (fun _ => ⟨by go_simp; rfl, by simp [go_sem]⟩) hH ?_
    walk_nrm
    refine take_pure (i := 5) rfl (by kernel_rfl) (by kernel_rfl) (by kernel_rfl) keepQ rfl (fun _ => ⟨by go_simp; rfl, by simp [go_sem]⟩) hH ?_
    walk_nrm
    refine take_pure (i := 6) rfl (by kernel_rfl) (by kernel_rfl) (by kernel_rfl) keepQ rfl (op_iaddr24 (j := 3) rfl rfl rfl (by decide)) hH ?_
    walk_nrm
    refine take_load (i := 7) rfl (by kernel_rfl) (by kernel_rfl) (by kernel_rfl) keepQ rfl mB (op_load1 (.inl rfl) rfl rfl (zB 3 (by decide))) hH ?_
    walk_nrm
    refine take_pure (i := 8) rfl (by kernel_rfl) (by kernel_rfl) (by kernel_rfl) keepQ rfl (op_neq rfl rfl rfl) hH ?_
    walk_nrm
    exact take_done (by kernel_rfl) ⟨rfl, rfl, hH⟩
  refine Way.ctl rfl (fun _ => stepG_cond (t := false) rfl) ?_
  simp only [if_true, if_false, Bool.false_eq_true, ↓reduceIte]
  refine Way.ctl rfl (fun _ => stepG_skip) ?_
  refine Way.ctl rfl (fun _ => stepG_inBlock) ?_
  refine Way.ctl rfl (fun _ => stepG_region) ?_
  simp only [List.size_toArray, List.length_cons, List.length_nil, Nat.reduceAdd, Nat.zero_add, List.range, List.range.loop]
  refine Way.op0 rfl rfl (by decide) (fun _ => by go_simp; rfl) (fun _ => by simp [go_sem]) ?_
  walk_nrm
  refine Way.op0 rfl rfl (by decide) (fun _ => by go_simp; rfl) (fun _ => by simp [go_sem]) ?_
  walk_nrm
  refine Way.op0 rfl rfl (by decide) (fun _ => by go_simp; rfl) (fun _ => by simp [go_sem]) ?_
  walk_nrm
  refine Way.ctl rfl (fun _ => stepG_region_end) ?_
  refine Way.ctl rfl (fun _ => stepG_inLoop) ?_
  refine Way.ctl rfl (fun _ => stepG_seq) ?_
  refine Way.ctl rfl (fun _ => stepG_seq) ?_
  refine Way.ctl rfl (fun _ => stepG_region) ?_
  simp only [List.size_toArray, List.length_cons, List.length_nil, Nat.reduceAdd, Nat.zero_add, List.range, List.range.loop]
  refine Way.op0 rfl rfl (by decide) (fun _ => by go_simp; rfl) (fun _ => by simp [go_sem]) ?_
  walk_nrm
  refine Way.op0 rfl rfl (by decide) (fun _ => by go_simp; rfl) (fun _ => by simp [go_sem]) ?_
  walk_nrm
  refine Way.op0 rfl rfl (by decide) (fun _ => by go_simp; rfl) (fun _ => by simp [go_sem]) ?_
  walk_nrm
  refine Way.op0 rfl rfl (by decide) (fun _ => by go_simp; rfl) (fun _ => by simp [go_sem]) ?_
  walk_nrm
  refine Way.ctl rfl (fun _ => stepG_region_end) ?_
  refine Way.ctl rfl (fun _ => stepG_cond (t := false) rfl) ?_
  simp only [if_true, if_false, Bool.false_eq_true, ↓reduceIte]
  refine Way.ctl rfl (fun _ => stepG_exit rfl) ?_
  refine Way.ctl rfl (fun _ => stepG_seq) ?_
  refine Way.ctl rfl (fun _ => stepG_region) ?_
  simp only [List.size_toArray, List.length_cons, List.length_nil, Nat.reduceAdd, Nat.zero_add, List.range, List.range.loop]
  refine Way.op0 rfl rfl (by decide) (fun _ => by go_simp; rfl) (fun _ => by simp [go_sem]) ?_
  walk_nrm
  refine Way.ctl rfl (fun _ => stepG_region_end) ?_
  refine Way.ctl rfl (fun _ => stepG_ret') ?_
  refine Way.leave1 rfl rfl Try.func8 rfl ?_
  walk_nrm
  exact k _ _ hH
set_option maxRecDepth 100000 in
set_option maxHeartbeats 8000000 in
theorem eq8_0 (hI : Stab Fx Inv) (hH : Has Try.prog.globals.size Fx E w L) 
    (k : ∀ E' w', Has Try.prog.globals.size Fx E' w' L → Way Try.prog true Fr Inv Stop E' (G (b₀.at (a₀.put ((ops₀[i₀]?).bind (·.dst)) (.bool true)) (.inRegion ops₀ rest₀ :: k₀)) cs) w') :
    Way Try.prog true Fr Inv Stop E (G ((base 8).at ⟨#[.slice (some ⟨A, 0, none⟩) 0 ca, .slice (some ⟨B, 0, none⟩) 0 cb, undef, undef, undef, undef, undef, undef, undef, undef, undef, undef, undef, undef, undef, undef, undef, undef, undef, undef, undef, undef, undef, undef, undef, undef], []⟩ [.code body8']) (b₀.at a₀ (.inRegion ops₀ (i₀ :: rest₀) :: k₀) :: cs)) w := by
  simp only [body8', Try.f8, Option.getD_some]
  refine Way.ctl rfl (fun _ => stepG_seq) ?_
  refine Way.ctl rfl (fun _ => stepG_region) ?_
  simp only [List.size_toArray, List.length_cons, List.length_nil, Nat.reduceAdd, Nat.zero_add, List.range, List.range.loop]
  refine Way.op0 rfl rfl (by decide) (fun _ => by go_simp; rfl) (fun _ => by simp [go_sem]) ?_
  walk_nrm
  refine Way.ctl rfl (fun _ => stepG_region_end) ?_
  refine Way.ctl rfl (fun _ => stepG_seq) ?_
  refine Way.ctl rfl (fun _ => stepG_seq) ?_
  refine Way.ctl rfl (fun _ => stepG_region) ?_
  simp only [List.size_toArray, List.length_cons, List.length_nil, Nat.reduceAdd, Nat.zero_add, List.range, List.range.loop]
  refine Way.op0 rfl rfl (by decide) (fun _ => by go_simp; rfl) (fun _ => by simp [go_sem]) ?_
  walk_nrm
  refine Way.op0 rfl rfl (by decide) (fun _ => by go_simp; rfl) (fun _ => by simp [go_sem]) ?_
  walk_nrm
  refine Way.op0 rfl rfl (by decide) (fun _ => by go_simp; rfl) (fun _ => by simp [go_sem]) ?_
  walk_nrm
  refine Way.op0 rfl rfl (by decide) (fun _ => by go_simp; rfl) (fun _ => by simp [go_sem]) ?_
  walk_nrm
  refine Way.op0 rfl rfl (by decide) (fun _ => by go_simp; rfl) (fun _ => by simp [go_sem]) ?_
  walk_nrm
  refine Way.ctl rfl (fun _ => stepG_region_end) ?_
  refine Way.ctl rfl (fun _ => stepG_cond (t := false) rfl) ?_
  simp only [if_true, if_false, Bool.false_eq_true, ↓reduceIte]
  refine Way.ctl rfl (fun _ => stepG_skip) ?_
  refine Way.ctl rfl (fun _ => stepG_seq) ?_
  refine Way.ctl rfl (fun _ => stepG_seq) ?_
  refine Way.ctl rfl (fun _ => stepG_region) ?_
  simp only [List.size_toArray, List.length_cons, List.length_nil, Nat.reduceAdd, Nat.zero_add, List.range, List.range.loop]
  refine Way.op0 rfl rfl (by decide) (fun _ => by go_simp; rfl) (fun _ => by simp [go_sem]) ?_
  walk_nrm
  refine Way.ctl rfl (fun _ => stepG_region_end) ?_
  refine Way.ctl rfl (fun _ => stepG_block) ?_
  refine Way.ctl rfl (fun _ => stepG_loop) ?_
  refine Way.ctl rfl (fun _ => stepG_seq) ?_
  refine Way.ctl rfl (fun _ => stepG_seq) ?_
  refine Way.ctl rfl (fun _ => stepG_region) ?_
  simp only [List.size_toArray, List.length_cons, List.length_nil, Nat.reduceAdd, Nat.zero_add, List.range, List.range.loop]
  refine Way.op0 rfl rfl (by decide) (fun _ => by go_simp; rfl) (fun _ => by simp [go_sem]) ?_
  walk_nrm
  refine Way.op0 rfl rfl (by decide) (fun _ => by go_simp; rfl) (fun _ => by simp [go_sem]) ?_
  walk_nrm
  refine Way.op0 rfl rfl (by decide) (fun _ => by go_simp; rfl) (fun _ => by simp [go_sem]) ?_
  walk_nrm
  refine Way.op0 rfl rfl (by decide) (fun _ => by go_simp; rfl) (fun _ => by simp [go_sem]) ?_
  walk_nrm
  refine Way.ctl rfl (fun _ => stepG_region_end) ?_
  refine Way.ctl rfl (fun _ => stepG_cond (t := false) rfl) ?_
  simp only [if_true, if_false, Bool.false_eq_true, ↓reduceIte]
  refine Way.ctl rfl (fun _ => stepG_exit rfl) ?_
  refine Way.ctl rfl (fun _ => stepG_seq) ?_
  refine Way.ctl rfl (fun _ => stepG_region) ?_
  simp only [List.size_toArray, List.length_cons, List.length_nil, Nat.reduceAdd, Nat.zero_add, List.range, List.range.loop]
  refine Way.op0 rfl rfl (by decide) (fun _ => by go_simp; rfl) (fun _ => by simp [go_sem]) ?_
  walk_nrm
  refine Way.ctl rfl (fun _ => stepG_region_end) ?_
  refine Way.ctl rfl (fun _ => stepG_ret') ?_
  refine Way.leave1 rfl rfl Try.func8 rfl ?_
  walk_nrm
  exact k _ _ hH
noncomputable def body12' : Code := Try.f12.body.getD .skip
set_option maxRecDepth 100000 in
set_option maxHeartbeats 8000000 in
theorem eq12_4 (hI : Stab Fx Inv) (hH : Has Try.prog.globals.size Fx E w L) (mA : (A, .cells cA tA) ∈ L) (mB : (B, .cells cB tB) ∈ L) (zA : ∀ i, i < 4 → cA[i]? = some (.int .i64 (z i))) (zB : ∀ i, i < 4 → cB[i]? = some (.int .i64 (z i)))
    (k : ∀ E' w', Has Try.prog.globals.size Fx E' w' L → Way Try.prog true Fr Inv Stop E' (G (b₀.at (a₀.put ((ops₀[i₀]?).bind (·.dst)) (.bool true)) (.inRegion ops₀ rest₀ :: k₀)) cs) w') :
    Way Try.prog true Fr Inv Stop E (G ((base 12).at ⟨#[.slice (some ⟨A, 0, none⟩) 4 ca, .slice (some ⟨B, 0, none⟩) 4 cb, undef, undef, undef, undef, undef, undef, undef, undef, undef, undef, undef, undef, undef, undef, undef, undef, undef, undef, undef, undef, undef, undef, undef, undef], []⟩ [.code body12']) (b₀.at a₀ (.inRegion ops₀ (i₀ :: rest₀) :: k₀) :: cs)) w := by
  simp only [body12', Try.f12, Option.getD_some]
  refine Way.ctl rfl (fun _ => stepG_seq) ?_
  refine Way.ctl rfl (fun _ => stepG_region) ?_
  simp only [List.size_toArray, List.length_cons, List.length_nil, Nat.reduceAdd, Nat.zero_add, List.range, List.range.loop]
  refine Way.op0 rfl rfl (by decide) (fun _ => by go_simp; rfl) (fun _ => by simp [go_sem]) ?_
  walk_nrm
  refine Way.ctl rfl (fun _ => stepG_region_end) ?_
  refine Way.ctl rfl (fun _ => stepG_seq) ?_
  refine Way.ctl rfl (fun _ => stepG_seq) ?_
  refine Way.ctl rfl (fun _ => stepG_region) ?_
  simp only [List.size_toArray, List.length_cons, List.length_nil, Nat.reduceAdd, Nat.zero_add, List.range, List.range.loop]
  refine Way.op0 rfl rfl (by decide) (fun _ => by go_simp; rfl) (fun _ => by simp [go_sem]) ?_
  walk_nrm
  refine Way.op0 rfl rfl (by decide) (fun _ => by go_simp; rfl) (fun _ => by simp [go_sem]) ?_
  walk_nrm
  refine Way.op0 rfl rfl (by decide) (fun _ => by go_simp; rfl) (fun _ => by simp [go_sem]) ?_
  walk_nrm
  refine Way.op0 rfl rfl (by decide) (fun _ => by go_simp; rfl) (fun _ => by simp [go_sem]) ?_
  walk_nrm
  refine Way.op0 rfl rfl (by decide) (fun _ => by go_simp; rfl) (fun _ => by simp [go_sem]) ?_
  walk_nrm
  refine Way.ctl rfl (fun _ => stepG_region_end) ?_
  refine Way.ctl rfl (fun _ => stepG_cond (t := false) rfl) ?_
  simp only [if_true, if_false, Bool.false_eq_true, ↓reduceIte]
  refine Way.ctl rfl (fun _ => stepG_skip) ?_
  refine Way.ctl rfl (fun _ => stepG_seq) ?_
  refine Way.ctl rfl (fun _ => stepG_seq) ?_
  refine Way.ctl rfl (fun _ => stepG_region) ?_
  simp only [List.size_toArray, List.length_cons, List.length_nil, Nat.reduceAdd, Nat.zero_add, List.range, List.range.loop]
  refine Way.op0 rfl rfl (by decide) (fun _ => by go_simp; rfl) (fun _ => by simp [go_sem]) ?_
  walk_nrm
  refine Way.ctl rfl (fun _ => stepG_region_end) ?_
  refine Way.ctl rfl (fun _ => stepG_block) ?_
  refine Way.ctl rfl (fun _ => stepG_loop) ?_
  refine Way.ctl rfl (fun _ => stepG_seq) ?_
  refine Way.ctl rfl (fun _ => stepG_seq) ?_
  refine Way.ctl rfl (fun _ => stepG_region) ?_
  simp only [List.size_toArray, List.length_cons, List.length_nil, Nat.reduceAdd, Nat.zero_add, List.range, List.range.loop]
  refine Way.op0 rfl rfl (by decide) (fun _ => by go_simp; rfl) (fun _ => by simp [go_sem]) ?_
  walk_nrm
  refine Way.op0 rfl rfl (by decide) (fun _ => by go_simp; rfl) (fun _ => by simp [go_sem]) ?_
  walk_nrm
  refine Way.op0 rfl rfl (by decide) (fun _ => by go_simp; rfl) (fun _ => by simp [go_sem]) ?_
  walk_nrm
  refine Way.op0 rfl rfl (by decide) (fun _ => by go_simp; rfl) (fun _ => by simp [go_sem]) ?_
  walk_nrm
  refine Way.ctl rfl (fun _ => stepG_region_end) ?_
  refine Way.ctl rfl (fun _ => stepG_cond (t := true) rfl) ?_
  simp only [if_true, if_false, Bool.false_eq_true, ↓reduceIte]
  refine Way.ctl rfl (fun _ => stepG_skip) ?_
  refine Way.ctl rfl (fun _ => stepG_seq) ?_
  refine Way.ctl rfl (fun _ => stepG_block) ?_
  refine Way.ctl rfl (fun _ => stepG_seq) ?_
  refine Way.drawn (a' := ⟨#[.slice (some ⟨A, 0, none⟩) 4 ca, .slice (some ⟨B, 0, none⟩) 4 cb, undef, undef, .bool false, .int .i64 0, .slice (some ⟨A, 0, none⟩) 4 ca, .int .i64 4, .slice (some ⟨B, 0, none⟩) 4 cb, .int .i64 4, .bool false, .int .i64 0, .slice (some ⟨A, 0, none⟩) 4 ca, .int .i64 4, .bool true, undef, undef, .slice (some ⟨A, 0, none⟩) 4 ca, .int .i64 0, .pointer (some ⟨A, 0 * 1, none⟩), .int .i64 (z 0), .slice (some ⟨B, 0, none⟩) 4 cb, .int .i64 0, .pointer (some ⟨B, 0 * 1, none⟩), .int .i64 (z 0), .bool false], []⟩) hI hH (by kernel_rfl) (by decide) (fun w hH => ?_) (fun w hH => ?_)
  ·
    refine take_pure (i := 0) rfl (by kernel_rfl) (by kernel_rfl) (by kernel_rfl) keepQ rfl (fun _ => ⟨by go_simp; rfl, by simp [go_sem]⟩) hH ?_
    walk_nrm
    refine take_pure (i := 1) rfl (by kernel_rfl) (by kernel_rfl) (by kernel_rfl) keepQ rfl (fun _ => ⟨by go_simp; rfl, by simp [go_sem]⟩) hH ?_
    walk_nrm
    refine take_pure (i := 2) rfl (by kernel_rfl) (by kernel_rfl) (by kernel_rfl) keepQ rfl (op_iaddr24 (j := 0) rfl rfl rfl (by decide)) hH ?_
    walk_nrm
    refine take_load (i := 3) rfl (by kernel_rfl) (by kernel_rfl) (by kernel_rfl) keepQ rfl mA (op_load1 (.inl rfl) rfl rfl (zA 0 (by decide))) hH ?_
    walk_nrm
    refine take_pure (i := 4) rfl (by kernel_rfl) (by kernel_rfl) (by kernel_rfl) keepQ rfl (fun _ => ⟨by go_simp; rfl, by simp [go_sem]⟩) hH ?_
    walk_nrm
    refine take_pure (i := 5) rfl (by kernel_rfl) (by kernel_rfl) (by kernel_rfl) keepQ rfl (fun _ => ⟨by go_simp; rfl, by simp [go_sem]⟩) hH ?_
    walk_nrm
    refine take_pure (i := 6) rfl (by kernel_rfl) (by kernel_rfl) (by kernel_rfl) keepQ rfl (op_iaddr24 (j := 0) rfl rfl rfl (by decide)) hH ?_
    walk_nrm
    refine take_load (i := 7) rfl (by kernel_rfl) (by kernel_rfl) (by kernel_rfl) keepQ rfl mB (op_load1 (.inl rfl) rfl rfl (zB 0 (by decide))) hH ?_
    walk_nrm
    refine take_pure (i := 8) rfl (by kernel_rfl) (by kernel_rfl) (by kernel_rfl) keepQ rfl (op_neq rfl rfl rfl) hH ?_
    walk_nrm
    exact take_done (by kernel_rfl) ⟨rfl, rfl, hH⟩
  refine Way.ctl rfl (fun _ => stepG_cond (t := false) rfl) ?_
  simp only [if_true, if_false, Bool.false_eq_true, ↓reduceIte]
  refine Way.ctl rfl (fun _ => stepG_skip) ?_
  refine Way.ctl rfl (fun _ => stepG_inBlock) ?_
  refine Way.ctl rfl (fun _ => stepG_region) ?_
  simp only [List.size_toArray, List.length_cons, List.length_nil, Nat.reduceAdd, Nat.zero_add, List.range, List.range.loop]
  refine Way.op0 rfl rfl (by decide) (fun _ => by go_simp; rfl) (fun _ => by simp [go_sem]) ?_
  walk_nrm
  refine Way.op0 rfl rfl (by decide) (fun _ => by go_simp; rfl) (fun _ => by simp [go_sem]) ?_
  walk_nrm
  refine Way.op0 rfl rfl (by decide) (fun _ => by go_simp; rfl) (fun _ => by simp [go_sem]) ?_
  walk_nrm
  refine Way.ctl rfl (fun _ => stepG_region_end) ?_
  refine Way.ctl rfl (fun _ => stepG_inLoop) ?_
  refine Way.ctl rfl (fun _ => stepG_seq) ?_
  refine Way.ctl rfl (fun _ => stepG_seq) ?_
  refine Way.ctl rfl (fun _ => stepG_region) ?_
  simp only [List.size_toArray, List.length_cons, List.length_nil, Nat.reduceAdd, Nat.zero_add, List.range, List.range.loop]
  refine Way.op0 rfl rfl (by decide) (fun _ => by go_simp; rfl) (fun _ => by simp [go_sem]) ?_
  walk_nrm
  refine Way.op0 rfl rfl (by decide) (fun _ => by go_simp; rfl) (fun _ => by simp [go_sem]) ?_
  walk_nrm
  refine Way.op0 rfl rfl (by decide) (fun _ => by go_simp; rfl) (fun _ => by simp [go_sem]) ?_
  walk_nrm
  refine Way.op0 rfl rfl (by decide) (fun _ => by go_simp; rfl) (fun _ => by simp [go_sem]) ?_
  walk_nrm
  refine Way.ctl rfl (fun _ => stepG_region_end) ?_
  refine Way.ctl rfl (fun _ => stepG_cond (t := true) rfl) ?_
  simp only [if_true, if_false, Bool.false_eq_true, ↓reduceIte]
  refine Way.ctl rfl (fun _ => stepG_skip) ?_
  refine Way.ctl rfl (fun _ => stepG_seq) ?_
  refine Way.ctl rfl (fun _ => stepG_block) ?_
  refine Way.ctl rfl (fun _ => stepG_seq) ?_
  refine Way.drawn (a' := ⟨#[.slice (some ⟨A, 0, none⟩) 4 ca, .slice (some ⟨B, 0, none⟩) 4 cb, undef, undef, .bool false, .int .i64 1, .slice (some ⟨A, 0, none⟩) 4 ca, .int .i64 4, .slice (some ⟨B, 0, none⟩) 4 cb, .int .i64 4, .bool false, .int .i64 1, .slice (some ⟨A, 0, none⟩) 4 ca, .int .i64 4, .bool true, .int .i64 0, .int .i64 1, .slice (some ⟨A, 0, none⟩) 4 ca, .int .i64 1, .pointer (some ⟨A, 1 * 1, none⟩), .int .i64 (z 1), .slice (some ⟨B, 0, none⟩) 4 cb, .int .i64 1, .pointer (some ⟨B, 1 * 1, none⟩), .int .i64 (z 1), .bool false], []⟩) hI hH (by kernel_rfl) (by decide) (fun w hH => ?_) (fun w hH => ?_)
  ·
    refine take_pure (i := 0) rfl (by kernel_rfl) (by kernel_rfl) (by kernel_rfl) keepQ rfl (fun _ => ⟨by go_simp; rfl, by simp [go_sem]⟩) hH ?_
    walk_nrm
    refine take_pure (i := 1) rfl (by kernel_rfl) (by kernel_rfl) (by kernel_rfl) keepQ rfl (fun _ => ⟨by go_simp; rfl, by simp [go_sem]⟩) hH ?_
    walk_nrm
    refine take_pure (i := 2) rfl (by kernel_rfl) (by kernel_rfl) (by kernel_rfl) keepQ rfl (op_iaddr24 (j := 1) rfl rfl rfl (by decide)) hH ?_
    walk_nrm
    refine take_load (i := 3) rfl (by kernel_rfl) (by kernel_rfl) (by kernel_rfl) keepQ rfl mA (op_load1 (.inl rfl) rfl rfl (zA 1 (by decide))) hH ?_
    walk_nrm
    refine take_pure (i := 4) rfl (by kernel_rfl) (by kernel_rfl) (by kernel_rfl) keepQ rfl (fun _ => ⟨by go_simp; rfl, by simp [go_sem]⟩) hH ?_
    walk_nrm
    refine take_pure (i := 5) rfl (by kernel_rfl) (by kernel_rfl) (by kernel_rfl) keepQ rfl (fun _ => ⟨by go_simp; rfl, by simp [go_sem]⟩) hH ?_
    walk_nrm
    refine take_pure (i := 6) rfl (by kernel_rfl) (by kernel_rfl) (by kernel_rfl) keepQ rfl (op_iaddr24 (j := 1) rfl rfl rfl (by decide)) hH ?_
    walk_nrm
    refine take_load (i := 7) rfl (by kernel_rfl) (by kernel_rfl) (by kernel_rfl) keepQ rfl mB (op_load1 (.inl rfl) rfl rfl (zB 1 (by decide))) hH ?_
    walk_nrm
    refine take_pure (i := 8) rfl (by kernel_rfl) (by kernel_rfl) (by kernel_rfl) keepQ rfl (op_neq rfl rfl rfl) hH ?_
    walk_nrm
    exact take_done (by kernel_rfl) ⟨rfl, rfl, hH⟩
  refine Way.ctl rfl (fun _ => stepG_cond (t := false) rfl) ?_
  simp only [if_true, if_false, Bool.false_eq_true, ↓reduceIte]
  refine Way.ctl rfl (fun _ => stepG_skip) ?_
  refine Way.ctl rfl (fun _ => stepG_inBlock) ?_
  refine Way.ctl rfl (fun _ => stepG_region) ?_
  simp only [List.size_toArray, List.length_cons, List.length_nil, Nat.reduceAdd, Nat.zero_add, List.range, List.range.loop]
  refine Way.op0 rfl rfl (by decide) (fun _ => by go_simp; rfl) (fun _ => by simp [go_sem]) ?_
  walk_nrm
  refine Way.op0 rfl rfl (by decide) (fun _ => by go_simp; rfl) (fun _ => by simp [go_sem]) ?_
  walk_nrm
  refine Way.op0 rfl rfl (by decide) (fun _ => by go_simp; rfl) (fun _ => by simp [go_sem]) ?_
  walk_nrm
  refine Way.ctl rfl (fun _ => stepG_region_end) ?_
  refine Way.ctl rfl (fun _ => stepG_inLoop) ?_
  refine Way.ctl rfl (fun _ => stepG_seq) ?_
  refine Way.ctl rfl (fun _ => stepG_seq) ?_
  refine Way.ctl rfl (fun _ => stepG_region) ?_
  simp only [List.size_toArray, List.length_cons, List.length_nil, Nat.reduceAdd, Nat.zero_add, List.range, List.range.loop]
  refine Way.op0 rfl rfl (by decide) (fun _ => by go_simp; rfl) (fun _ => by simp [go_sem]) ?_
  walk_nrm
  refine Way.op0 rfl rfl (by decide) (fun _ => by go_simp; rfl) (fun _ => by simp [go_sem]) ?_
  walk_nrm
  refine Way.op0 rfl rfl (by decide) (fun _ => by go_simp; rfl) (fun _ => by simp [go_sem]) ?_
  walk_nrm
  refine Way.op0 rfl rfl (by decide) (fun _ => by go_simp; rfl) (fun _ => by simp [go_sem]) ?_
  walk_nrm
  refine Way.ctl rfl (fun _ => stepG_region_end) ?_
  refine Way.ctl rfl (fun _ => stepG_cond (t := true) rfl) ?_
  simp only [if_true, if_false, Bool.false_eq_true, ↓reduceIte]
  refine Way.ctl rfl (fun _ => stepG_skip) ?_
  refine Way.ctl rfl (fun _ => stepG_seq) ?_
  refine Way.ctl rfl (fun _ => stepG_block) ?_
  refine Way.ctl rfl (fun _ => stepG_seq) ?_
  refine Way.drawn (a' := ⟨#[.slice (some ⟨A, 0, none⟩) 4 ca, .slice (some ⟨B, 0, none⟩) 4 cb, undef, undef, .bool false, .int .i64 2, .slice (some ⟨A, 0, none⟩) 4 ca, .int .i64 4, .slice (some ⟨B, 0, none⟩) 4 cb, .int .i64 4, .bool false, .int .i64 2, .slice (some ⟨A, 0, none⟩) 4 ca, .int .i64 4, .bool true, .int .i64 1, .int .i64 2, .slice (some ⟨A, 0, none⟩) 4 ca, .int .i64 2, .pointer (some ⟨A, 2 * 1, none⟩), .int .i64 (z 2), .slice (some ⟨B, 0, none⟩) 4 cb, .int .i64 2, .pointer (some ⟨B, 2 * 1, none⟩), .int .i64 (z 2), .bool false], []⟩) hI hH (by kernel_rfl) (by decide) (fun w hH => ?_) (fun w hH => ?_)
  ·
    refine take_pure (i := 0) rfl (by kernel_rfl) (by kernel_rfl) (by kernel_rfl) keepQ rfl (fun _ => ⟨by go_simp; rfl, by simp [go_sem]⟩) hH ?_
    walk_nrm
    refine take_pure (i := 1) rfl (by kernel_rfl) (by kernel_rfl) (by kernel_rfl) keepQ rfl (fun _ => ⟨by go_simp; rfl, by simp [go_sem]⟩) hH ?_
    walk_nrm
    refine take_pure (i := 2) rfl (by kernel_rfl) (by kernel_rfl) (by kernel_rfl) keepQ rfl (op_iaddr24 (j := 2) rfl rfl rfl (by decide)) hH ?_
    walk_nrm
    refine take_load (i := 3) rfl (by kernel_rfl) (by kernel_rfl) (by kernel_rfl) keepQ rfl mA (op_load1 (.inl rfl) rfl rfl (zA 2 (by decide))) hH ?_
    walk_nrm
    refine take_pure (i := 4) rfl (by kernel_rfl) (by kernel_rfl) (by kernel_rfl) keepQ rfl (fun _ => ⟨by go_simp; rfl, by simp [go_sem]⟩) hH ?_
    walk_nrm
    refine take_pure (i := 5) rfl (by kernel_rfl) (by kernel_rfl) (by kernel_rfl) keepQ rfl (fun _ => ⟨by go_simp; rfl, by simp [go_sem]⟩) hH ?_
    walk_nrm
    refine take_pure (i := 6) rfl (by kernel_rfl) (by kernel_rfl) (by kernel_rfl) keepQ rfl (op_iaddr24 (j := 2) rfl rfl rfl (by decide)) hH ?_
    walk_nrm
    refine take_load (i := 7) rfl (by kernel_rfl) (by kernel_rfl) (by kernel_rfl) keepQ rfl mB (op_load1 (.inl rfl) rfl rfl (zB 2 (by decide))) hH ?_
    walk_nrm
    refine take_pure (i := 8) rfl (by kernel_rfl) (by kernel_rfl) (by kernel_rfl) keepQ rfl (op_neq rfl rfl rfl) hH ?_
    walk_nrm
    exact take_done (by kernel_rfl) ⟨rfl, rfl, hH⟩
  refine Way.ctl rfl (fun _ => stepG_cond (t := false) rfl) ?_
  simp only [if_true, if_false, Bool.false_eq_true, ↓reduceIte]
  refine Way.ctl rfl (fun _ => stepG_skip) ?_
  refine Way.ctl rfl (fun _ => stepG_inBlock) ?_
  refine Way.ctl rfl (fun _ => stepG_region) ?_
  simp only [List.size_toArray, List.length_cons, List.length_nil, Nat.reduceAdd, Nat.zero_add, List.range, List.range.loop]
  refine Way.op0 rfl rfl (by decide) (fun _ => by go_simp; rfl) (fun _ => by simp [go_sem]) ?_
  walk_nrm
  refine Way.op0 rfl rfl (by decide) (fun _ => by go_simp; rfl) (fun _ => by simp [go_sem]) ?_
  walk_nrm
  refine Way.op0 rfl rfl (by decide) (fun _ => by go_simp; rfl) (fun _ => by simp [go_sem]) ?_
  walk_nrm
  refine Way.ctl rfl (fun _ => stepG_region_end) ?_
  refine Way.ctl rfl (fun _ => stepG_inLoop) ?_
  refine Way.ctl rfl (fun _ => stepG_seq) ?_
  refine Way.ctl rfl (fun _ => stepG_seq) ?_
  refine Way.ctl rfl (fun _ => stepG_region) ?_
  simp only [List.size_toArray, List.length_cons, List.length_nil, Nat.reduceAdd, Nat.zero_add, List.range, List.range.loop]
  refine Way.op0 rfl rfl (by decide) (fun _ => by go_simp; rfl) (fun _ => by simp [go_sem]) ?_
  walk_nrm
  refine Way.op0 rfl rfl (by decide) (fun _ => by go_simp; rfl) (fun _ => by simp [go_sem]) ?_
  walk_nrm
  refine Way.op0 rfl rfl (by decide) (fun _ => by go_simp; rfl) (fun _ => by simp [go_sem]) ?_
  walk_nrm
  refine Way.op0 rfl rfl (by decide) (fun _ => by go_simp; rfl) (fun _ => by simp [go_sem]) ?_
  walk_nrm
  refine Way.ctl rfl (fun _ => stepG_region_end) ?_
  refine Way.ctl rfl (fun _ => stepG_cond (t := true) rfl) ?_
  simp only [if_true, if_false, Bool.false_eq_true, ↓reduceIte]
  refine Way.ctl rfl (fun _ => stepG_skip) ?_
  refine Way.ctl rfl (fun _ => stepG_seq) ?_
  refine Way.ctl rfl (fun _ => stepG_block) ?_
  refine Way.ctl rfl (fun _ => stepG_seq) ?_
  refine Way.drawn (a' := ⟨#[.slice (some ⟨A, 0, none⟩) 4 ca, .slice (some ⟨B, 0, none⟩) 4 cb, undef, undef, .bool false, .int .i64 3, .slice (some ⟨A, 0, none⟩) 4 ca, .int .i64 4, .slice (some ⟨B, 0, none⟩) 4 cb, .int .i64 4, .bool false, .int .i64 3, .slice (some ⟨A, 0, none⟩) 4 ca, .int .i64 4, .bool true, .int .i64 2, .int .i64 3, .slice (some ⟨A, 0, none⟩) 4 ca, .int .i64 3, .pointer (some ⟨A, 3 * 1, none⟩), .int .i64 (z 3), .slice (some ⟨B, 0, none⟩) 4 cb, .int .i64 3, .pointer (some ⟨B, 3 * 1, none⟩), .int .i64 (z 3), .bool false], []⟩) hI hH (by kernel_rfl) (by decide) (fun w hH => ?_) (fun w hH => ?_)
  ·
    refine take_pure (i := 0) rfl (by kernel_rfl) (by kernel_rfl) (by kernel_rfl) keepQ rfl (fun _ => ⟨by go_simp; rfl, by simp [go_sem]⟩) hH ?_
    walk_nrm
    refine take_pure (i := 1) rfl (by kernel_rfl) (by kernel_rfl) (by kernel_rfl) keepQ rfl (fun _ => ⟨by go_simp; rfl, by simp [go_sem]⟩) hH ?_
    walk_nrm
    refine take_pure (i := 2) rfl (by kernel_rfl) (by kernel_rfl) (by kernel_rfl) keepQ rfl (op_iaddr24 (j := 3) rfl rfl rfl (by decide)) hH ?_
    walk_nrm
    refine take_load (i := 3) rfl (by kernel_rfl) (by kernel_rfl) (by kernel_rfl) keepQ rfl mA (op_load1 (.inl rfl) rfl rfl (zA 3 (by decide))) hH ?_
    walk_nrm
    refine take_pure (i := 4) rfl (by kernel_rfl) (by kernel_rfl) (by kernel_rfl) keepQ rfl (fun _ => ⟨by go_simp; rfl, by simp [go_sem]⟩) hH ?_
    walk_nrm
    refine take_pure (i := 5) rfl (by kernel_rfl) (by kernel_rfl) (by kernel_rfl) keepQ rfl (fun _ => ⟨by go_simp; rfl, by simp [go_sem]⟩) hH ?_
    walk_nrm
    refine take_pure (i := 6) rfl (by kernel_rfl) (by kernel_rfl) (by kernel_rfl) keepQ rfl (op_iaddr24 (j := 3) rfl rfl rfl (by decide)) hH ?_
    walk_nrm
    refine take_load (i := 7) rfl (by kernel_rfl) (by kernel_rfl) (by kernel_rfl) keepQ rfl mB (op_load1 (.inl rfl) rfl rfl (zB 3 (by decide))) hH ?_
    walk_nrm
    refine take_pure (i := 8) rfl (by kernel_rfl) (by kernel_rfl) (by kernel_rfl) keepQ rfl (op_neq rfl rfl rfl) hH ?_
    walk_nrm
    exact take_done (by kernel_rfl) ⟨rfl, rfl, hH⟩
  refine Way.ctl rfl (fun _ => stepG_cond (t := false) rfl) ?_
  simp only [if_true, if_false, Bool.false_eq_true, ↓reduceIte]
  refine Way.ctl rfl (fun _ => stepG_skip) ?_
  refine Way.ctl rfl (fun _ => stepG_inBlock) ?_
  refine Way.ctl rfl (fun _ => stepG_region) ?_
  simp only [List.size_toArray, List.length_cons, List.length_nil, Nat.reduceAdd, Nat.zero_add, List.range, List.range.loop]
  refine Way.op0 rfl rfl (by decide) (fun _ => by go_simp; rfl) (fun _ => by simp [go_sem]) ?_
  walk_nrm
  refine Way.op0 rfl rfl (by decide) (fun _ => by go_simp; rfl) (fun _ => by simp [go_sem]) ?_
  walk_nrm
  refine Way.op0 rfl rfl (by decide) (fun _ => by go_simp; rfl) (fun _ => by simp [go_sem]) ?_
  walk_nrm
  refine Way.ctl rfl (fun _ => stepG_region_end) ?_
  refine Way.ctl rfl (fun _ => stepG_inLoop) ?_
  refine Way.ctl rfl (fun _ => stepG_seq) ?_
  refine Way.ctl rfl (fun _ => stepG_seq) ?_
  refine Way.ctl rfl (fun _ => stepG_region) ?_
  simp only [List.size_toArray, List.length_cons, List.length_nil, Nat.reduceAdd, Nat.zero_add, List.range, List.range.loop]
  refine Way.op0 rfl rfl (by decide) (fun _ => by go_simp; rfl) (fun _ => by simp [go_sem]) ?_
  walk_nrm
  refine Way.op0 rfl rfl (by decide) (fun _ => by go_simp; rfl) (fun _ => by simp [go_sem]) ?_
  walk_nrm
  refine Way.op0 rfl rfl (by decide) (fun _ => by go_simp; rfl) (fun _ => by simp [go_sem]) ?_
  walk_nrm
  refine Way.op0 rfl rfl (by decide) (fun _ => by go_simp; rfl) (fun _ => by simp [go_sem]) ?_
  walk_nrm
  refine Way.ctl rfl (fun _ => stepG_region_end) ?_
  refine Way.ctl rfl (fun _ => stepG_cond (t := false) rfl) ?_
  simp only [if_true, if_false, Bool.false_eq_true, ↓reduceIte]
  refine Way.ctl rfl (fun _ => stepG_exit rfl) ?_
  refine Way.ctl rfl (fun _ => stepG_seq) ?_
  refine Way.ctl rfl (fun _ => stepG_region) ?_
  simp only [List.size_toArray, List.length_cons, List.length_nil, Nat.reduceAdd, Nat.zero_add, List.range, List.range.loop]
  refine Way.op0 rfl rfl (by decide) (fun _ => by go_simp; rfl) (fun _ => by simp [go_sem]) ?_
  walk_nrm
  refine Way.ctl rfl (fun _ => stepG_region_end) ?_
  refine Way.ctl rfl (fun _ => stepG_ret') ?_
  refine Way.leave1 rfl rfl Try.func12 rfl ?_
  walk_nrm
  exact k _ _ hH
set_option maxRecDepth 100000 in
set_option maxHeartbeats 8000000 in
theorem eq12_0 (hI : Stab Fx Inv) (hH : Has Try.prog.globals.size Fx E w L) 
    (k : ∀ E' w', Has Try.prog.globals.size Fx E' w' L → Way Try.prog true Fr Inv Stop E' (G (b₀.at (a₀.put ((ops₀[i₀]?).bind (·.dst)) (.bool true)) (.inRegion ops₀ rest₀ :: k₀)) cs) w') :
    Way Try.prog true Fr Inv Stop E (G ((base 12).at ⟨#[.slice (some ⟨A, 0, none⟩) 0 ca, .slice (some ⟨B, 0, none⟩) 0 cb, undef, undef, undef, undef, undef, undef, undef, undef, undef, undef, undef, undef, undef, undef, undef, undef, undef, undef, undef, undef, undef, undef, undef, undef], []⟩ [.code body12']) (b₀.at a₀ (.inRegion ops₀ (i₀ :: rest₀) :: k₀) :: cs)) w := by
  simp only [body12', Try.f12, Option.getD_some]
  refine Way.ctl rfl (fun _ => stepG_seq) ?_
  refine Way.ctl rfl (fun _ => stepG_region) ?_
  simp only [List.size_toArray, List.length_cons, List.length_nil, Nat.reduceAdd, Nat.zero_add, List.range, List.range.loop]
  refine Way.op0 rfl rfl (by decide) (fun _ => by go_simp; rfl) (fun _ => by simp [go_sem]) ?_
  walk_nrm
  refine Way.ctl rfl (fun _ => stepG_region_end) ?_
  refine Way.ctl rfl (fun _ => stepG_seq) ?_
  refine Way.ctl rfl (fun _ => stepG_seq) ?_
  refine Way.ctl rfl (fun _ => stepG_region) ?_
  simp only [List.size_toArray, List.length_cons, List.length_nil, Nat.reduceAdd, Nat.zero_add, List.range, List.range.loop]
  refine Way.op0 rfl rfl (by decide) (fun _ => by go_simp; rfl) (fun _ => by simp [go_sem]) ?_
  walk_nrm
  refine Way.op0 rfl rfl (by decide) (fun _ => by go_simp; rfl) (fun _ => by simp [go_sem]) ?_
  walk_nrm
  refine Way.op0 rfl rfl (by decide) (fun _ => by go_simp; rfl) (fun _ => by simp [go_sem]) ?_
  walk_nrm
  refine Way.op0 rfl rfl (by decide) (fun _ => by go_simp; rfl) (fun _ => by simp [go_sem]) ?_
  walk_nrm
  refine Way.op0 rfl rfl (by decide) (fun _ => by go_simp; rfl) (fun _ => by simp [go_sem]) ?_
  walk_nrm
  refine Way.ctl rfl (fun _ => stepG_region_end) ?_
  refine Way.ctl rfl (fun _ => stepG_cond (t := false) rfl) ?_
  simp only [if_true, if_false, Bool.false_eq_true, ↓reduceIte]
  refine Way.ctl rfl (fun _ => stepG_skip) ?_
  refine Way.ctl rfl (fun _ => stepG_seq) ?_
  refine Way.ctl rfl (fun _ => stepG_seq) ?_
  refine Way.ctl rfl (fun _ => stepG_region) ?_
  simp only [List.size_toArray, List.length_cons, List.length_nil, Nat.reduceAdd, Nat.zero_add, List.range, List.range.loop]
  refine Way.op0 rfl rfl (by decide) (fun _ => by go_simp; rfl) (fun _ => by simp [go_sem]) ?_
  walk_nrm
  refine Way.ctl rfl (fun _ => stepG_region_end) ?_
  refine Way.ctl rfl (fun _ => stepG_block) ?_
  refine Way.ctl rfl (fun _ => stepG_loop) ?_
  refine Way.ctl rfl (fun _ => stepG_seq) ?_
  refine Way.ctl rfl (fun _ => stepG_seq) ?_
  refine Way.ctl rfl (fun _ => stepG_region) ?_
  simp only [List.size_toArray, List.length_cons, List.length_nil, Nat.reduceAdd, Nat.zero_add, List.range, List.range.loop]
  refine Way.op0 rfl rfl (by decide) (fun _ => by go_simp; rfl) (fun _ => by simp [go_sem]) ?_
  walk_nrm
  refine Way.op0 rfl rfl (by decide) (fun _ => by go_simp; rfl) (fun _ => by simp [go_sem]) ?_
  walk_nrm
  refine Way.op0 rfl rfl (by decide) (fun _ => by go_simp; rfl) (fun _ => by simp [go_sem]) ?_
  walk_nrm
  refine Way.op0 rfl rfl (by decide) (fun _ => by go_simp; rfl) (fun _ => by simp [go_sem]) ?_
  walk_nrm
  refine Way.ctl rfl (fun _ => stepG_region_end) ?_
  refine Way.ctl rfl (fun _ => stepG_cond (t := false) rfl) ?_
  simp only [if_true, if_false, Bool.false_eq_true, ↓reduceIte]
  refine Way.ctl rfl (fun _ => stepG_exit rfl) ?_
  refine Way.ctl rfl (fun _ => stepG_seq) ?_
  refine Way.ctl rfl (fun _ => stepG_region) ?_
  simp only [List.size_toArray, List.length_cons, List.length_nil, Nat.reduceAdd, Nat.zero_add, List.range, List.range.loop]
  refine Way.op0 rfl rfl (by decide) (fun _ => by go_simp; rfl) (fun _ => by simp [go_sem]) ?_
  walk_nrm
  refine Way.ctl rfl (fun _ => stepG_region_end) ?_
  refine Way.ctl rfl (fun _ => stepG_ret') ?_
  refine Way.leave1 rfl rfl Try.func12 rfl ?_
  walk_nrm
  exact k _ _ hH
noncomputable def body9' : Code := Try.f9.body.getD .skip
set_option maxRecDepth 100000 in
set_option maxHeartbeats 8000000 in
theorem mark9_4 {v0 v1 v2 v3 : Int} (hI : Stab Fx Inv) (hH : Has Try.prog.globals.size Fx E w ((A, .cells #[.int .i64 v0, .int .i64 v1, .int .i64 v2, .int .i64 v3] tA) :: L)) 
    (k : ∀ E' w', Has Try.prog.globals.size Fx E' w' ((A, .cells #[.int .i64 1, .int .i64 2, .int .i64 3, .int .i64 4] tA) :: L) → Way Try.prog true Fr Inv Stop E' (G (b₀.at (a₀.put ((ops₀[i₀]?).bind (·.dst)) (.int .i64 5)) (.inRegion ops₀ rest₀ :: k₀)) cs) w') :
    Way Try.prog true Fr Inv Stop E (G ((base 9).at ⟨#[.slice (some ⟨A, 0, none⟩) 4 ca, .int .i64 1, undef, undef, undef, undef, undef, undef, undef, undef, undef, undef, undef, undef, undef, undef, undef, undef, undef], []⟩ [.code body9']) (b₀.at a₀ (.inRegion ops₀ (i₀ :: rest₀) :: k₀) :: cs)) w := by
  simp only [body9', Try.f9, Option.getD_some]
  refine Way.ctl rfl (fun _ => stepG_seq) ?_
  refine Way.ctl rfl (fun _ => stepG_region) ?_
  simp only [List.size_toArray, List.length_cons, List.length_nil, Nat.reduceAdd, Nat.zero_add, List.range, List.range.loop]
  refine Way.op0 rfl rfl (by decide) (fun _ => by go_simp; rfl) (fun _ => by simp [go_sem]) ?_
  walk_nrm
  refine Way.ctl rfl (fun _ => stepG_region_end) ?_
  refine Way.ctl rfl (fun _ => stepG_seq) ?_
  refine Way.ctl rfl (fun _ => stepG_seq) ?_
  refine Way.ctl rfl (fun _ => stepG_region) ?_
  simp only [List.size_toArray, List.length_cons, List.length_nil, Nat.reduceAdd, Nat.zero_add, List.range, List.range.loop]
  refine Way.op0 rfl rfl (by decide) (fun _ => by go_simp; rfl) (fun _ => by simp [go_sem]) ?_
  walk_nrm
  refine Way.ctl rfl (fun _ => stepG_region_end) ?_
  refine Way.ctl rfl (fun _ => stepG_block) ?_
  refine Way.ctl rfl (fun _ => stepG_loop) ?_
  refine Way.ctl rfl (fun _ => stepG_seq) ?_
  refine Way.ctl rfl (fun _ => stepG_seq) ?_
  refine Way.ctl rfl (fun _ => stepG_region) ?_
  simp only [List.size_toArray, List.length_cons, List.length_nil, Nat.reduceAdd, Nat.zero_add, List.range, List.range.loop]
  refine Way.op0 rfl rfl (by decide) (fun _ => by go_simp; rfl) (fun _ => by simp [go_sem]) ?_
  walk_nrm
  refine Way.op0 rfl rfl (by decide) (fun _ => by go_simp; rfl) (fun _ => by simp [go_sem]) ?_
  walk_nrm
  refine Way.op0 rfl rfl (by decide) (fun _ => by go_simp; rfl) (fun _ => by simp [go_sem]) ?_
  walk_nrm
  refine Way.op0 rfl rfl (by decide) (fun _ => by go_simp; rfl) (fun _ => by simp [go_sem]) ?_
  walk_nrm
  refine Way.ctl rfl (fun _ => stepG_region_end) ?_
  refine Way.ctl rfl (fun _ => stepG_cond (t := true) rfl) ?_
  simp only [if_true, if_false, Bool.false_eq_true, ↓reduceIte]
  refine Way.ctl rfl (fun _ => stepG_skip) ?_
  refine Way.ctl rfl (fun _ => stepG_seq) ?_
  refine Way.ctl rfl (fun _ => stepG_block) ?_
  refine Way.ctl rfl (fun _ => stepG_seq) ?_
  refine Way.ctl rfl (fun _ => stepG_region) ?_
  simp only [List.size_toArray, List.length_cons, List.length_nil, Nat.reduceAdd, Nat.zero_add, List.range, List.range.loop]
  refine Way.op0 rfl rfl (by decide) (fun _ => by go_simp; rfl) (fun _ => by simp [go_sem]) ?_
  walk_nrm
  refine Way.op0 rfl rfl (by decide) (fun _ => by go_simp; rfl) (fun _ => by simp [go_sem]) ?_
  walk_nrm
  refine Way.op0 rfl rfl (by decide) (fun _ => by go_simp; rfl) (fun _ => by simp [go_sem]) ?_
  walk_nrm
  refine Way.op2 rfl rfl (by decide) (op_iaddr24 (j := 0) rfl rfl rfl (by decide)) ?_
  walk_nrm
  refine Way.store hI hH rfl rfl (by decide) (op_store3 rfl rfl rfl rfl) (fun w hH => ?_)
  walk_nrm
  simp only [List.setIfInBounds_toArray, List.set_cons_succ, List.set_cons_zero] at hH
  refine Way.ctl rfl (fun _ => stepG_region_end) ?_
  refine Way.ctl rfl (fun _ => stepG_region) ?_
  simp only [List.size_toArray, List.length_cons, List.length_nil, Nat.reduceAdd, Nat.zero_add, List.range, List.range.loop]
  refine Way.op0 rfl rfl (by decide) (fun _ => by go_simp; rfl) (fun _ => by simp [go_sem]) ?_
  walk_nrm
  refine Way.op0 rfl rfl (by decide) (fun _ => by go_simp; rfl) (fun _ => by simp [go_sem]) ?_
  walk_nrm
  refine Way.op0 rfl rfl (by decide) (fun _ => by go_simp; rfl) (fun _ => by simp [go_sem]) ?_
  walk_nrm
  refine Way.ctl rfl (fun _ => stepG_region_end) ?_
  refine Way.ctl rfl (fun _ => stepG_inBlock) ?_
  refine Way.ctl rfl (fun _ => stepG_region) ?_
  simp only [List.size_toArray, List.length_cons, List.length_nil, Nat.reduceAdd, Nat.zero_add, List.range, List.range.loop]
  refine Way.op0 rfl rfl (by decide) (fun _ => by go_simp; rfl) (fun _ => by simp [go_sem]) ?_
  walk_nrm
  refine Way.op0 rfl rfl (by decide) (fun _ => by go_simp; rfl) (fun _ => by simp [go_sem]) ?_
  walk_nrm
  refine Way.op0 rfl rfl (by decide) (fun _ => by go_simp; rfl) (fun _ => by simp [go_sem]) ?_
  walk_nrm
  refine Way.ctl rfl (fun _ => stepG_region_end) ?_
  refine Way.ctl rfl (fun _ => stepG_inLoop) ?_
  refine Way.ctl rfl (fun _ => stepG_seq) ?_
  refine Way.ctl rfl (fun _ => stepG_seq) ?_
  refine Way.ctl rfl (fun _ => stepG_region) ?_
  simp only [List.size_toArray, List.length_cons, List.length_nil, Nat.reduceAdd, Nat.zero_add, List.range, List.range.loop]
  refine Way.op0 rfl rfl (by decide) (fun _ => by go_simp; rfl) (fun _ => by simp [go_sem]) ?_
  walk_nrm
  refine Way.op0 rfl rfl (by decide) (fun _ => by go_simp; rfl) (fun _ => by simp [go_sem]) ?_
  walk_nrm
  refine Way.op0 rfl rfl (by decide) (fun _ => by go_simp; rfl) (fun _ => by simp [go_sem]) ?_
  walk_nrm
  refine Way.op0 rfl rfl (by decide) (fun _ => by go_simp; rfl) (fun _ => by simp [go_sem]) ?_
  walk_nrm
  refine Way.ctl rfl (fun _ => stepG_region_end) ?_
  refine Way.ctl rfl (fun _ => stepG_cond (t := true) rfl) ?_
  simp only [if_true, if_false, Bool.false_eq_true, ↓reduceIte]
  refine Way.ctl rfl (fun _ => stepG_skip) ?_
  refine Way.ctl rfl (fun _ => stepG_seq) ?_
  refine Way.ctl rfl (fun _ => stepG_block) ?_
  refine Way.ctl rfl (fun _ => stepG_seq) ?_
  refine Way.ctl rfl (fun _ => stepG_region) ?_
  simp only [List.size_toArray, List.length_cons, List.length_nil, Nat.reduceAdd, Nat.zero_add, List.range, List.range.loop]
  refine Way.op0 rfl rfl (by decide) (fun _ => by go_simp; rfl) (fun _ => by simp [go_sem]) ?_
  walk_nrm
  refine Way.op0 rfl rfl (by decide) (fun _ => by go_simp; rfl) (fun _ => by simp [go_sem]) ?_
  walk_nrm
  refine Way.op0 rfl rfl (by decide) (fun _ => by go_simp; rfl) (fun _ => by simp [go_sem]) ?_
  walk_nrm
  refine Way.op2 rfl rfl (by decide) (op_iaddr24 (j := 1) rfl rfl rfl (by decide)) ?_
  walk_nrm
  refine Way.store hI hH rfl rfl (by decide) (op_store3 rfl rfl rfl rfl) (fun w hH => ?_)
  walk_nrm
  simp only [List.setIfInBounds_toArray, List.set_cons_succ, List.set_cons_zero] at hH
  refine Way.ctl rfl (fun _ => stepG_region_end) ?_
  refine Way.ctl rfl (fun _ => stepG_region) ?_
  simp only [List.size_toArray, List.length_cons, List.length_nil, Nat.reduceAdd, Nat.zero_add, List.range, List.range.loop]
  refine Way.op0 rfl rfl (by decide) (fun _ => by go_simp; rfl) (fun _ => by simp [go_sem]) ?_
  walk_nrm
  refine Way.op0 rfl rfl (by decide) (fun _ => by go_simp; rfl) (fun _ => by simp [go_sem]) ?_
  walk_nrm
  refine Way.op0 rfl rfl (by decide) (fun _ => by go_simp; rfl) (fun _ => by simp [go_sem]) ?_
  walk_nrm
  refine Way.ctl rfl (fun _ => stepG_region_end) ?_
  refine Way.ctl rfl (fun _ => stepG_inBlock) ?_
  refine Way.ctl rfl (fun _ => stepG_region) ?_
  simp only [List.size_toArray, List.length_cons, List.length_nil, Nat.reduceAdd, Nat.zero_add, List.range, List.range.loop]
  refine Way.op0 rfl rfl (by decide) (fun _ => by go_simp; rfl) (fun _ => by simp [go_sem]) ?_
  walk_nrm
  refine Way.op0 rfl rfl (by decide) (fun _ => by go_simp; rfl) (fun _ => by simp [go_sem]) ?_
  walk_nrm
  refine Way.op0 rfl rfl (by decide) (fun _ => by go_simp; rfl) (fun _ => by simp [go_sem]) ?_
  walk_nrm
  refine Way.ctl rfl (fun _ => stepG_region_end) ?_
  refine Way.ctl rfl (fun _ => stepG_inLoop) ?_
  refine Way.ctl rfl (fun _ => stepG_seq) ?_
  refine Way.ctl rfl (fun _ => stepG_seq) ?_
  refine Way.ctl rfl (fun _ => stepG_region) ?_
  simp only [List.size_toArray, List.length_cons, List.length_nil, Nat.reduceAdd, Nat.zero_add, List.range, List.range.loop]
  refine Way.op0 rfl rfl (by decide) (fun _ => by go_simp; rfl) (fun _ => by simp [go_sem]) ?_
  walk_nrm
  refine Way.op0 rfl rfl (by decide) (fun _ => by go_simp; rfl) (fun _ => by simp [go_sem]) ?_
  walk_nrm
  refine Way.op0 rfl rfl (by decide) (fun _ => by go_simp; rfl) (fun _ => by simp [go_sem]) ?_
  walk_nrm
  refine Way.op0 rfl rfl (by decide) (fun _ => by go_simp; rfl) (fun _ => by simp [go_sem]) ?_
  walk_nrm
  refine Way.ctl rfl (fun _ => stepG_region_end) ?_
  refine Way.ctl rfl (fun _ => stepG_cond (t := true) rfl) ?_
  simp only [if_true, if_false, Bool.false_eq_true, ↓reduceIte]
  refine Way.ctl rfl (fun _ => stepG_skip) ?_
  refine Way.ctl rfl (fun _ => stepG_seq) ?_
  refine Way.ctl rfl (fun _ => stepG_block) ?_
  refine Way.ctl rfl (fun _ => stepG_seq) ?_
  refine Way.ctl rfl (fun _ => stepG_region) ?_
  simp only [List.size_toArray, List.length_cons, List.length_nil, Nat.reduceAdd, Nat.zero_add, List.range, List.range.loop]
  refine Way.op0 rfl rfl (by decide) (fun _ => by go_simp; rfl) (fun _ => by simp [go_sem]) ?_
  walk_nrm
  refine Way.op0 rfl rfl (by decide) (fun _ => by go_simp; rfl) (fun _ => by simp [go_sem]) ?_
  walk_nrm
  refine Way.op0 rfl rfl (by decide) (fun _ => by go_simp; rfl) (fun _ => by simp [go_sem]) ?_
  walk_nrm
  refine Way.op2 rfl rfl (by decide) (op_iaddr24 (j := 2) rfl rfl rfl (by decide)) ?_
  walk_nrm
  refine Way.store hI hH rfl rfl (by decide) (op_store3 rfl rfl rfl rfl) (fun w hH => ?_)
  walk_nrm
  simp only [List.setIfInBounds_toArray, List.set_cons_succ, List.set_cons_zero] at hH
  refine Way.ctl rfl (fun _ => stepG_region_end) ?_
  refine Way.ctl rfl (fun _ => stepG_region) ?_
  simp only [List.size_toArray, List.length_cons, List.length_nil, Nat.reduceAdd, Nat.zero_add, List.range, List.range.loop]
  refine Way.op0 rfl rfl (by decide) (fun _ => by go_simp; rfl) (fun _ => by simp [go_sem]) ?_
  walk_nrm
  refine Way.op0 rfl rfl (by decide) (fun _ => by go_simp; rfl) (fun _ => by simp [go_sem]) ?_
  walk_nrm
  refine Way.op0 rfl rfl (by decide) (fun _ => by go_simp; rfl) (fun _ => by simp [go_sem]) ?_
  walk_nrm
  refine Way.ctl rfl (fun _ => stepG_region_end) ?_
  refine Way.ctl rfl (fun _ => stepG_inBlock) ?_
  refine Way.ctl rfl (fun _ => stepG_region) ?_
  simp only [List.size_toArray, List.length_cons, List.length_nil, Nat.reduceAdd, Nat.zero_add, List.range, List.range.loop]
  refine Way.op0 rfl rfl (by decide) (fun _ => by go_simp; rfl) (fun _ => by simp [go_sem]) ?_
  walk_nrm
  refine Way.op0 rfl rfl (by decide) (fun _ => by go_simp; rfl) (fun _ => by simp [go_sem]) ?_
  walk_nrm
  refine Way.op0 rfl rfl (by decide) (fun _ => by go_simp; rfl) (fun _ => by simp [go_sem]) ?_
  walk_nrm
  refine Way.ctl rfl (fun _ => stepG_region_end) ?_
  refine Way.ctl rfl (fun _ => stepG_inLoop) ?_
  refine Way.ctl rfl (fun _ => stepG_seq) ?_
  refine Way.ctl rfl (fun _ => stepG_seq) ?_
  refine Way.ctl rfl (fun _ => stepG_region) ?_
  simp only [List.size_toArray, List.length_cons, List.length_nil, Nat.reduceAdd, Nat.zero_add, List.range, List.range.loop]
  refine Way.op0 rfl rfl (by decide) (fun _ => by go_simp; rfl) (fun _ => by simp [go_sem]) ?_
  walk_nrm
  refine Way.op0 rfl rfl (by decide) (fun _ => by go_simp; rfl) (fun _ => by simp [go_sem]) ?_
  walk_nrm
  refine Way.op0 rfl rfl (by decide) (fun _ => by go_simp; rfl) (fun _ => by simp [go_sem]) ?_
  walk_nrm
  refine Way.op0 rfl rfl (by decide) (fun _ => by go_simp; rfl) (fun _ => by simp [go_sem]) ?_
  walk_nrm
  refine Way.ctl rfl (fun _ => stepG_region_end) ?_
  refine Way.ctl rfl (fun _ => stepG_cond (t := true) rfl) ?_
  simp only [if_true, if_false, Bool.false_eq_true, ↓reduceIte]
  refine Way.ctl rfl (fun _ => stepG_skip) ?_
  refine Way.ctl rfl (fun _ => stepG_seq) ?_
  refine Way.ctl rfl (fun _ => stepG_block) ?_
  refine Way.ctl rfl (fun _ => stepG_seq) ?_
  refine Way.ctl rfl (fun _ => stepG_region) ?_
  simp only [List.size_toArray, List.length_cons, List.length_nil, Nat.reduceAdd, Nat.zero_add, List.range, List.range.loop]
  refine Way.op0 rfl rfl (by decide) (fun _ => by go_simp; rfl) (fun _ => by simp [go_sem]) ?_
  walk_nrm
  refine Way.op0 rfl rfl (by decide) (fun _ => by go_simp; rfl) (fun _ => by simp [go_sem]) ?_
  walk_nrm
  refine Way.op0 rfl rfl (by decide) (fun _ => by go_simp; rfl) (fun _ => by simp [go_sem]) ?_
  walk_nrm
  refine Way.op2 rfl rfl (by decide) (op_iaddr24 (j := 3) rfl rfl rfl (by decide)) ?_
  walk_nrm
  refine Way.store hI hH rfl rfl (by decide) (op_store3 rfl rfl rfl rfl) (fun w hH => ?_)
  walk_nrm
  simp only [List.setIfInBounds_toArray, List.set_cons_succ, List.set_cons_zero] at hH
  refine Way.ctl rfl (fun _ => stepG_region_end) ?_
  refine Way.ctl rfl (fun _ => stepG_region) ?_
  simp only [List.size_toArray, List.length_cons, List.length_nil, Nat.reduceAdd, Nat.zero_add, List.range, List.range.loop]
  refine Way.op0 rfl rfl (by decide) (fun _ => by go_simp; rfl) (fun _ => by simp [go_sem]) ?_
  walk_nrm
  refine Way.op0 rfl rfl (by decide) (fun _ => by go_simp; rfl) (fun _ => by simp [go_sem]) ?_
  walk_nrm
  refine Way.op0 rfl rfl (by decide) (fun _ => by go_simp; rfl) (fun _ => by simp [go_sem]) ?_
  walk_nrm
  refine Way.ctl rfl (fun _ => stepG_region_end) ?_
  refine Way.ctl rfl (fun _ => stepG_inBlock) ?_
  refine Way.ctl rfl (fun _ => stepG_region) ?_
  simp only [List.size_toArray, List.length_cons, List.length_nil, Nat.reduceAdd, Nat.zero_add, List.range, List.range.loop]
  refine Way.op0 rfl rfl (by decide) (fun _ => by go_simp; rfl) (fun _ => by simp [go_sem]) ?_
  walk_nrm
  refine Way.op0 rfl rfl (by decide) (fun _ => by go_simp; rfl) (fun _ => by simp [go_sem]) ?_
  walk_nrm
  refine Way.op0 rfl rfl (by decide) (fun _ => by go_simp; rfl) (fun _ => by simp [go_sem]) ?_
  walk_nrm
  refine Way.ctl rfl (fun _ => stepG_region_end) ?_
  refine Way.ctl rfl (fun _ => stepG_inLoop) ?_
  refine Way.ctl rfl (fun _ => stepG_seq) ?_
  refine Way.ctl rfl (fun _ => stepG_seq) ?_
  refine Way.ctl rfl (fun _ => stepG_region) ?_
  simp only [List.size_toArray, List.length_cons, List.length_nil, Nat.reduceAdd, Nat.zero_add, List.range, List.range.loop]
  refine Way.op0 rfl rfl (by decide) (fun _ => by go_simp; rfl) (fun _ => by simp [go_sem]) ?_
  walk_nrm
  refine Way.op0 rfl rfl (by decide) (fun _ => by go_simp; rfl) (fun _ => by simp [go_sem]) ?_
  walk_nrm
  refine Way.op0 rfl rfl (by decide) (fun _ => by go_simp; rfl) (fun _ => by simp [go_sem]) ?_
  walk_nrm
  refine Way.op0 rfl rfl (by decide) (fun _ => by go_simp; rfl) (fun _ => by simp [go_sem]) ?_
  walk_nrm
  refine Way.ctl rfl (fun _ => stepG_region_end) ?_
  refine Way.ctl rfl (fun _ => stepG_cond (t := false) rfl) ?_
  simp only [if_true, if_false, Bool.false_eq_true, ↓reduceIte]
  refine Way.ctl rfl (fun _ => stepG_exit rfl) ?_
  refine Way.ctl rfl (fun _ => stepG_seq) ?_
  refine Way.ctl rfl (fun _ => stepG_region) ?_
  simp only [List.size_toArray, List.length_cons, List.length_nil, Nat.reduceAdd, Nat.zero_add, List.range, List.range.loop]
  refine Way.op0 rfl rfl (by decide) (fun _ => by go_simp; rfl) (fun _ => by simp [go_sem]) ?_
  walk_nrm
  refine Way.op0 rfl rfl (by decide) (fun _ => by go_simp; rfl) (fun _ => by simp [go_sem]) ?_
  walk_nrm
  refine Way.ctl rfl (fun _ => stepG_region_end) ?_
  refine Way.ctl rfl (fun _ => stepG_ret') ?_
  refine Way.leave1 rfl rfl Try.func9 rfl ?_
  walk_nrm
  exact k _ _ hH
set_option maxRecDepth 100000 in
set_option maxHeartbeats 8000000 in
theorem mark9_0 (hI : Stab Fx Inv) (hH : Has Try.prog.globals.size Fx E w L) 
    (k : ∀ E' w', Has Try.prog.globals.size Fx E' w' L → Way Try.prog true Fr Inv Stop E' (G (b₀.at (a₀.put ((ops₀[i₀]?).bind (·.dst)) (.int .i64 1)) (.inRegion ops₀ rest₀ :: k₀)) cs) w') :
    Way Try.prog true Fr Inv Stop E (G ((base 9).at ⟨#[.slice (some ⟨A, 0, none⟩) 0 ca, .int .i64 1, undef, undef, undef, undef, undef, undef, undef, undef, undef, undef, undef, undef, undef, undef, undef, undef, undef], []⟩ [.code body9']) (b₀.at a₀ (.inRegion ops₀ (i₀ :: rest₀) :: k₀) :: cs)) w := by
  simp only [body9', Try.f9, Option.getD_some]
  refine Way.ctl rfl (fun _ => stepG_seq) ?_
  refine Way.ctl rfl (fun _ => stepG_region) ?_
  simp only [List.size_toArray, List.length_cons, List.length_nil, Nat.reduceAdd, Nat.zero_add, List.range, List.range.loop]
  refine Way.op0 rfl rfl (by decide) (fun _ => by go_simp; rfl) (fun _ => by simp [go_sem]) ?_
  walk_nrm
  refine Way.ctl rfl (fun _ => stepG_region_end) ?_
  refine Way.ctl rfl (fun _ => stepG_seq) ?_
  refine Way.ctl rfl (fun _ => stepG_seq) ?_
  refine Way.ctl rfl (fun _ => stepG_region) ?_
  simp only [List.size_toArray, List.length_cons, List.length_nil, Nat.reduceAdd, Nat.zero_add, List.range, List.range.loop]
  refine Way.op0 rfl rfl (by decide) (fun _ => by go_simp; rfl) (fun _ => by simp [go_sem]) ?_
  walk_nrm
  refine Way.ctl rfl (fun _ => stepG_region_end) ?_
  refine Way.ctl rfl (fun _ => stepG_block) ?_
  refine Way.ctl rfl (fun _ => stepG_loop) ?_
  refine Way.ctl rfl (fun _ => stepG_seq) ?_
  refine Way.ctl rfl (fun _ => stepG_seq) ?_
  refine Way.ctl rfl (fun _ => stepG_region) ?_
  simp only [List.size_toArray, List.length_cons, List.length_nil, Nat.reduceAdd, Nat.zero_add, List.range, List.range.loop]
  refine Way.op0 rfl rfl (by decide) (fun _ => by go_simp; rfl) (fun _ => by simp [go_sem]) ?_
  walk_nrm
  refine Way.op0 rfl rfl (by decide) (fun _ => by go_simp; rfl) (fun _ => by simp [go_sem]) ?_
  walk_nrm
  refine Way.op0 rfl rfl (by decide) (fun _ => by go_simp; rfl) (fun _ => by simp [go_sem]) ?_
  walk_nrm
  refine Way.op0 rfl rfl (by decide) (fun _ => by go_simp; rfl) (fun _ => by simp [go_sem]) ?_
  walk_nrm
  refine Way.ctl rfl (fun _ => stepG_region_end) ?_
  refine Way.ctl rfl (fun _ => stepG_cond (t := false) rfl) ?_
  simp only [if_true, if_false, Bool.false_eq_true, ↓reduceIte]
  refine Way.ctl rfl (fun _ => stepG_exit rfl) ?_
  refine Way.ctl rfl (fun _ => stepG_seq) ?_
  refine Way.ctl rfl (fun _ => stepG_region) ?_
  simp only [List.size_toArray, List.length_cons, List.length_nil, Nat.reduceAdd, Nat.zero_add, List.range, List.range.loop]
  refine Way.op0 rfl rfl (by decide) (fun _ => by go_simp; rfl) (fun _ => by simp [go_sem]) ?_
  walk_nrm
  refine Way.op0 rfl rfl (by decide) (fun _ => by go_simp; rfl) (fun _ => by simp [go_sem]) ?_
  walk_nrm
  refine Way.ctl rfl (fun _ => stepG_region_end) ?_
  refine Way.ctl rfl (fun _ => stepG_ret') ?_
  refine Way.leave1 rfl rfl Try.func9 rfl ?_
  walk_nrm
  exact k _ _ hH
noncomputable def body10' : Code := Try.f10.body.getD .skip
set_option maxRecDepth 100000 in
set_option maxHeartbeats 8000000 in
theorem held10_4 (hI : Stab Fx Inv) (hH : Has Try.prog.globals.size Fx E w L) (mA : (A, .cells #[.int .i64 1, .int .i64 2, .int .i64 3, .int .i64 4] tA) ∈ L)
    (k : ∀ E' w', Has Try.prog.globals.size Fx E' w' L → Way Try.prog true Fr Inv Stop E' (G (b₀.at (a₀.put ((ops₀[i₀]?).bind (·.dst)) (.int .i64 5)) (.inRegion ops₀ rest₀ :: k₀)) cs) w') :
    Way Try.prog true Fr Inv Stop E (G ((base 10).at ⟨#[.slice (some ⟨A, 0, none⟩) 4 ca, .int .i64 1, undef, undef, undef, undef, undef, undef, undef, undef, undef, undef, undef, undef, undef, undef, undef, undef, undef, undef, undef], []⟩ [.code body10']) (b₀.at a₀ (.inRegion ops₀ (i₀ :: rest₀) :: k₀) :: cs)) w := by
  simp only [body10', Try.f10, Option.getD_some]
  refine Way.ctl rfl (fun _ => stepG_seq) ?_
  refine Way.ctl rfl (fun _ => stepG_region) ?_
  simp only [List.size_toArray, List.length_cons, List.length_nil, Nat.reduceAdd, Nat.zero_add, List.range, List.range.loop]
  refine Way.op0 rfl rfl (by decide) (fun _ => by go_simp; rfl) (fun _ => by simp [go_sem]) ?_
  walk_nrm
  refine Way.ctl rfl (fun _ => stepG_region_end) ?_
  refine Way.ctl rfl (fun _ => stepG_seq) ?_
  refine Way.ctl rfl (fun _ => stepG_seq) ?_
  refine Way.ctl rfl (fun _ => stepG_region) ?_
  simp only [List.size_toArray, List.length_cons, List.length_nil, Nat.reduceAdd, Nat.zero_add, List.range, List.range.loop]
  refine Way.op0 rfl rfl (by decide) (fun _ => by go_simp; rfl) (fun _ => by simp [go_sem]) ?_
  walk_nrm
  refine Way.ctl rfl (fun _ => stepG_region_end) ?_
  refine Way.ctl rfl (fun _ => stepG_block) ?_
  refine Way.ctl rfl (fun _ => stepG_loop) ?_
  refine Way.ctl rfl (fun _ => stepG_seq) ?_
  refine Way.ctl rfl (fun _ => stepG_seq) ?_
  refine Way.ctl rfl (fun _ => stepG_region) ?_
  simp only [List.size_toArray, List.length_cons, List.length_nil, Nat.reduceAdd, Nat.zero_add, List.range, List.range.loop]
  refine Way.op0 rfl rfl (by decide) (fun _ => by go_simp; rfl) (fun _ => by simp [go_sem]) ?_
  walk_nrm
  refine Way.op0 rfl rfl (by decide) (fun _ => by go_simp; rfl) (fun _ => by simp [go_sem]) ?_
  walk_nrm
  refine Way.op0 rfl rfl (by decide) (fun _ => by go_simp; rfl) (fun _ => by simp [go_sem]) ?_
  walk_nrm
  refine Way.op0 rfl rfl (by decide) (fun _ => by go_simp; rfl) (fun _ => by simp [go_sem]) ?_
  walk_nrm
  refine Way.ctl rfl (fun _ => stepG_region_end) ?_
  refine Way.ctl rfl (fun _ => stepG_cond (t := true) rfl) ?_
  simp only [if_true, if_false, Bool.false_eq_true, ↓reduceIte]
  refine Way.ctl rfl (fun _ => stepG_skip) ?_
  refine Way.ctl rfl (fun _ => stepG_seq) ?_
  refine Way.ctl rfl (fun _ => stepG_block) ?_
  refine Way.ctl rfl (fun _ => stepG_seq) ?_
  refine Way.ctl rfl (fun _ => stepG_seq) ?_
  refine Way.ctl rfl (fun _ => stepG_region) ?_
  simp only [List.size_toArray, List.length_cons, List.length_nil, Nat.reduceAdd, Nat.zero_add, List.range, List.range.loop]
  refine Way.op0 rfl rfl (by decide) (fun _ => by go_simp; rfl) (fun _ => by simp [go_sem]) ?_
  walk_nrm
  refine Way.op0 rfl rfl (by decide) (fun _ => by go_simp; rfl) (fun _ => by simp [go_sem]) ?_
  walk_nrm
  refine Way.op2 rfl rfl (by decide) (op_iaddr24 (j := 0) rfl rfl rfl (by decide)) ?_
  walk_nrm
  refine Way.load hH mA rfl rfl (by decide) (op_load1 (.inl rfl) rfl rfl rfl) ?_
  walk_nrm
  refine Way.op0 rfl rfl (by decide) (fun _ => by go_simp; rfl) (fun _ => by simp [go_sem]) ?_
  walk_nrm
  refine Way.op0 rfl rfl (by decide) (fun _ => by go_simp; rfl) (fun _ => by simp [go_sem]) ?_
  walk_nrm
  refine Way.ctl rfl (fun _ => stepG_region_end) ?_
  refine Way.ctl rfl (fun _ => stepG_cond (t := false) rfl) ?_
  simp only [if_true, if_false, Bool.false_eq_true, ↓reduceIte]
  refine Way.ctl rfl (fun _ => stepG_skip) ?_
  refine Way.ctl rfl (fun _ => stepG_region) ?_
  simp only [List.size_toArray, List.length_cons, List.length_nil, Nat.reduceAdd, Nat.zero_add, List.range, List.range.loop]
  refine Way.op0 rfl rfl (by decide) (fun _ => by go_simp; rfl) (fun _ => by simp [go_sem]) ?_
  walk_nrm
  refine Way.op0 rfl rfl (by decide) (fun _ => by go_simp; rfl) (fun _ => by simp [go_sem]) ?_
  walk_nrm
  refine Way.op0 rfl rfl (by decide) (fun _ => by go_simp; rfl) (fun _ => by simp [go_sem]) ?_
  walk_nrm
  refine Way.ctl rfl (fun _ => stepG_region_end) ?_
  refine Way.ctl rfl (fun _ => stepG_inBlock) ?_
  refine Way.ctl rfl (fun _ => stepG_region) ?_
  simp only [List.size_toArray, List.length_cons, List.length_nil, Nat.reduceAdd, Nat.zero_add, List.range, List.range.loop]
  refine Way.op0 rfl rfl (by decide) (fun _ => by go_simp; rfl) (fun _ => by simp [go_sem]) ?_
  walk_nrm
  refine Way.op0 rfl rfl (by decide) (fun _ => by go_simp; rfl) (fun _ => by simp [go_sem]) ?_
  walk_nrm
  refine Way.op0 rfl rfl (by decide) (fun _ => by go_simp; rfl) (fun _ => by simp [go_sem]) ?_
  walk_nrm
  refine Way.ctl rfl (fun _ => stepG_region_end) ?_
  refine Way.ctl rfl (fun _ => stepG_inLoop) ?_
  refine Way.ctl rfl (fun _ => stepG_seq) ?_
  refine Way.ctl rfl (fun _ => stepG_seq) ?_
  refine Way.ctl rfl (fun _ => stepG_region) ?_
  simp only [List.size_toArray, List.length_cons, List.length_nil, Nat.reduceAdd, Nat.zero_add, List.range, List.range.loop]
  refine Way.op0 rfl rfl (by decide) (fun _ => by go_simp; rfl) (fun _ => by simp [go_sem]) ?_
  walk_nrm
  refine Way.op0 rfl rfl (by decide) (fun _ => by go_simp; rfl) (fun _ => by simp [go_sem]) ?_
  walk_nrm
  refine Way.op0 rfl rfl (by decide) (fun _ => by go_simp; rfl) (fun _ => by simp [go_sem]) ?_
  walk_nrm
  refine Way.op0 rfl rfl (by decide) (fun _ => by go_simp; rfl) (fun _ => by simp [go_sem]) ?_
  walk_nrm
  refine Way.ctl rfl (fun _ => stepG_region_end) ?_
  refine Way.ctl rfl (fun _ => stepG_cond (t := true) rfl) ?_
  simp only [if_true, if_false, Bool.false_eq_true, ↓reduceIte]
  refine Way.ctl rfl (fun _ => stepG_skip) ?_
  refine Way.ctl rfl (fun _ => stepG_seq) ?_
  refine Way.ctl rfl (fun _ => stepG_block) ?_
  refine Way.ctl rfl (fun _ => stepG_seq) ?_
  refine Way.ctl rfl (fun _ => stepG_seq) ?_
  refine Way.ctl rfl (fun _ => stepG_region) ?_
  simp only [List.size_toArray, List.length_cons, List.length_nil, Nat.reduceAdd, Nat.zero_add, List.range, List.range.loop]
  refine Way.op0 rfl rfl (by decide) (fun _ => by go_simp; rfl) (fun _ => by simp [go_sem]) ?_
  walk_nrm
  refine Way.op0 rfl rfl (by decide) (fun _ => by go_simp; rfl) (fun _ => by simp [go_sem]) ?_
  walk_nrm
  refine Way.op2 rfl rfl (by decide) (op_iaddr24 (j := 1) rfl rfl rfl (by decide)) ?_
  walk_nrm
  refine Way.load hH mA rfl rfl (by decide) (op_load1 (.inl rfl) rfl rfl rfl) ?_
  walk_nrm
  refine Way.op0 rfl rfl (by decide) (fun _ => by go_simp; rfl) (fun _ => by simp [go_sem]) ?_
  walk_nrm
  refine Way.op0 rfl rfl (by decide) (fun _ => by go_simp; rfl) (fun _ => by simp [go_sem]) ?_
  walk_nrm
  refine Way.ctl rfl (fun _ => stepG_region_end) ?_
  refine Way.ctl rfl (fun _ => stepG_cond (t := false) rfl) ?_
  simp only [if_true, if_false, Bool.false_eq_true, ↓reduceIte]
  refine Way.ctl rfl (fun _ => stepG_skip) ?_
  refine Way.ctl rfl (fun _ => stepG_region) ?_
  simp only [List.size_toArray, List.length_cons, List.length_nil, Nat.reduceAdd, Nat.zero_add, List.range, List.range.loop]
  refine Way.op0 rfl rfl (by decide) (fun _ => by go_simp; rfl) (fun _ => by simp [go_sem]) ?_
  walk_nrm
  refine Way.op0 rfl rfl (by decide) (fun _ => by go_simp; rfl) (fun _ => by simp [go_sem]) ?_
  walk_nrm
  refine Way.op0 rfl rfl (by decide) (fun _ => by go_simp; rfl) (fun _ => by simp [go_sem]) ?_
  walk_nrm
  refine Way.ctl rfl (fun _ => stepG_region_end) ?_
  refine Way.ctl rfl (fun _ => stepG_inBlock) ?_
  refine Way.ctl rfl (fun _ => stepG_region) ?_
  simp only [List.size_toArray, List.length_cons, List.length_nil, Nat.reduceAdd, Nat.zero_add, List.range, List.range.loop]
  refine Way.op0 rfl rfl (by decide) (fun _ => by go_simp; rfl) (fun _ => by simp [go_sem]) ?_
  walk_nrm
  refine Way.op0 rfl rfl (by decide) (fun _ => by go_simp; rfl) (fun _ => by simp [go_sem]) ?_
  walk_nrm
  refine Way.op0 rfl rfl (by decide) (fun _ => by go_simp; rfl) (fun _ => by simp [go_sem]) ?_
  walk_nrm
  refine Way.ctl rfl (fun _ => stepG_region_end) ?_
  refine Way.ctl rfl (fun _ => stepG_inLoop) ?_
  refine Way.ctl rfl (fun _ => stepG_seq) ?_
  refine Way.ctl rfl (fun _ => stepG_seq) ?_
  refine Way.ctl rfl (fun _ => stepG_region) ?_
  simp only [List.size_toArray, List.length_cons, List.length_nil, Nat.reduceAdd, Nat.zero_add, List.range, List.range.loop]
  refine Way.op0 rfl rfl (by decide) (fun _ => by go_simp; rfl) (fun _ => by simp [go_sem]) ?_
  walk_nrm
  refine Way.op0 rfl rfl (by decide) (fun _ => by go_simp; rfl) (fun _ => by simp [go_sem]) ?_
  walk_nrm
  refine Way.op0 rfl rfl (by decide) (fun _ => by go_simp; rfl) (fun _ => by simp [go_sem]) ?_
  walk_nrm
  refine Way.op0 rfl rfl (by decide) (fun _ => by go_simp; rfl) (fun _ => by simp [go_sem]) ?_
  walk_nrm
  refine Way.ctl rfl (fun _ => stepG_region_end) ?_
  refine Way.ctl rfl (fun _ => stepG_cond (t := true) rfl) ?_
  simp only [if_true, if_false, Bool.false_eq_true, ↓reduceIte]
  refine Way.ctl rfl (fun _ => stepG_skip) ?_
  refine Way.ctl rfl (fun _ => stepG_seq) ?_
  refine Way.ctl rfl (fun _ => stepG_block) ?_
  refine Way.ctl rfl (fun _ => stepG_seq) ?_
  refine Way.ctl rfl (fun _ => stepG_seq) ?_
  refine Way.ctl rfl (fun _ => stepG_region) ?_
  simp only [List.size_toArray, List.length_cons, List.length_nil, Nat.reduceAdd, Nat.zero_add, List.range, List.range.loop]
  refine Way.op0 rfl rfl (by decide) (fun _ => by go_simp; rfl) (fun _ => by simp [go_sem]) ?_
  walk_nrm
  refine Way.op0 rfl rfl (by decide) (fun _ => by go_simp; rfl) (fun _ => by simp [go_sem]) ?_
  walk_nrm
  refine Way.op2 rfl rfl (by decide) (op_iaddr24 (j := 2) rfl rfl rfl (by decide)) ?_
  walk_nrm
  refine Way.load hH mA rfl rfl (by decide) (op_load1 (.inl rfl) rfl rfl rfl) ?_
  walk_nrm
  refine Way.op0 rfl rfl (by decide) (fun _ => by go_simp; rfl) (fun _ => by simp [go_sem]) ?_
  walk_nrm
  refine Way.op0 rfl rfl (by decide) (fun _ => by go_simp; rfl) (fun _ => by simp [go_sem]) ?_
  walk_nrm
  refine Way.ctl rfl (fun _ => stepG_region_end) ?_
  refine Way.ctl rfl (fun _ => stepG_cond (t := false) rfl) ?_
  simp only [if_true, if_false, Bool.false_eq_true, ↓reduceIte]
  refine Way.ctl rfl (fun _ => stepG_skip) ?_
  refine Way.ctl rfl (fun _ => stepG_region) ?_
  simp only [List.size_toArray, List.length_cons, List.length_nil, Nat.reduceAdd, Nat.zero_add, List.range, List.range.loop]
  refine Way.op0 rfl rfl (by decide) (fun _ => by go_simp; rfl) (fun _ => by simp [go_sem]) ?_
  walk_nrm
  refine Way.op0 rfl rfl (by decide) (fun _ => by go_simp; rfl) (fun _ => by simp [go_sem]) ?_
  walk_nrm
  refine Way.op0 rfl rfl (by decide) (fun _ => by go_simp; rfl) (fun _ => by simp [go_sem]) ?_
  walk_nrm
  refine Way.ctl rfl (fun _ => stepG_region_end) ?_
  refine Way.ctl rfl (fun _ => stepG_inBlock) ?_
  refine Way.ctl rfl (fun _ => stepG_region) ?_
  simp only [List.size_toArray, List.length_cons, List.length_nil, Nat.reduceAdd, Nat.zero_add, List.range, List.range.loop]
  refine Way.op0 rfl rfl (by decide) (fun _ => by go_simp; rfl) (fun _ => by simp [go_sem]) ?_
  walk_nrm
  refine Way.op0 rfl rfl (by decide) (fun _ => by go_simp; rfl) (fun _ => by simp [go_sem]) ?_
  walk_nrm
  refine Way.op0 rfl rfl (by decide) (fun _ => by go_simp; rfl) (fun _ => by simp [go_sem]) ?_
  walk_nrm
  refine Way.ctl rfl (fun _ => stepG_region_end) ?_
  refine Way.ctl rfl (fun _ => stepG_inLoop) ?_
  refine Way.ctl rfl (fun _ => stepG_seq) ?_
  refine Way.ctl rfl (fun _ => stepG_seq) ?_
  refine Way.ctl rfl (fun _ => stepG_region) ?_
  simp only [List.size_toArray, List.length_cons, List.length_nil, Nat.reduceAdd, Nat.zero_add, List.range, List.range.loop]
  refine Way.op0 rfl rfl (by decide) (fun _ => by go_simp; rfl) (fun _ => by simp [go_sem]) ?_
  walk_nrm
  refine Way.op0 rfl rfl (by decide) (fun _ => by go_simp; rfl) (fun _ => by simp [go_sem]) ?_
  walk_nrm
  refine Way.op0 rfl rfl (by decide) (fun _ => by go_simp; rfl) (fun _ => by simp [go_sem]) ?_
  walk_nrm
  refine Way.op0 rfl rfl (by decide) (fun _ => by go_simp; rfl) (fun _ => by simp [go_sem]) ?_
  walk_nrm
  refine Way.ctl rfl (fun _ => stepG_region_end) ?_
  refine Way.ctl rfl (fun _ => stepG_cond (t := true) rfl) ?_
  simp only [if_true, if_false, Bool.false_eq_true, ↓reduceIte]
  refine Way.ctl rfl (fun _ => stepG_skip) ?_
  refine Way.ctl rfl (fun _ => stepG_seq) ?_
  refine Way.ctl rfl (fun _ => stepG_block) ?_
  refine Way.ctl rfl (fun _ => stepG_seq) ?_
  refine Way.ctl rfl (fun _ => stepG_seq) ?_
  refine Way.ctl rfl (fun _ => stepG_region) ?_
  simp only [List.size_toArray, List.length_cons, List.length_nil, Nat.reduceAdd, Nat.zero_add, List.range, List.range.loop]
  refine Way.op0 rfl rfl (by decide) (fun _ => by go_simp; rfl) (fun _ => by simp [go_sem]) ?_
  walk_nrm
  refine Way.op0 rfl rfl (by decide) (fun _ => by go_simp; rfl) (fun _ => by simp [go_sem]) ?_
  walk_nrm
  refine Way.op2 rfl rfl (by decide) (op_iaddr24 (j := 3) rfl rfl rfl (by decide)) ?_
  walk_nrm
  refine Way.load hH mA rfl rfl (by decide) (op_load1 (.inl rfl) rfl rfl rfl) ?_
  walk_nrm
  refine Way.op0 rfl rfl (by decide) (fun _ => by go_simp; rfl) (fun _ => by simp [go_sem]) ?_
  walk_nrm
  refine Way.op0 rfl rfl (by decide) (fun _ => by go_simp; rfl) (fun _ => by simp [go_sem]) ?_
  walk_nrm
  refine Way.ctl rfl (fun _ => stepG_region_end) ?_
  refine Way.ctl rfl (fun _ => stepG_cond (t := false) rfl) ?_
  simp only [if_true, if_false, Bool.false_eq_true, ↓reduceIte]
  refine Way.ctl rfl (fun _ => stepG_skip) ?_
  refine Way.ctl rfl (fun _ => stepG_region) ?_
  simp only [List.size_toArray, List.length_cons, List.length_nil, Nat.reduceAdd, Nat.zero_add, List.range, List.range.loop]
  refine Way.op0 rfl rfl (by decide) (fun _ => by go_simp; rfl) (fun _ => by simp [go_sem]) ?_
  walk_nrm
  refine Way.op0 rfl rfl (by decide) (fun _ => by go_simp; rfl) (fun _ => by simp [go_sem]) ?_
  walk_nrm
  refine Way.op0 rfl rfl (by decide) (fun _ => by go_simp; rfl) (fun _ => by simp [go_sem]) ?_
  walk_nrm
  refine Way.ctl rfl (fun _ => stepG_region_end) ?_
  refine Way.ctl rfl (fun _ => stepG_inBlock) ?_
  refine Way.ctl rfl (fun _ => stepG_region) ?_
  simp only [List.size_toArray, List.length_cons, List.length_nil, Nat.reduceAdd, Nat.zero_add, List.range, List.range.loop]
  refine Way.op0 rfl rfl (by decide) (fun _ => by go_simp; rfl) (fun _ => by simp [go_sem]) ?_
  walk_nrm
  refine Way.op0 rfl rfl (by decide) (fun _ => by go_simp; rfl) (fun _ => by simp [go_sem]) ?_
  walk_nrm
  refine Way.op0 rfl rfl (by decide) (fun _ => by go_simp; rfl) (fun _ => by simp [go_sem]) ?_
  walk_nrm
  refine Way.ctl rfl (fun _ => stepG_region_end) ?_
  refine Way.ctl rfl (fun _ => stepG_inLoop) ?_
  refine Way.ctl rfl (fun _ => stepG_seq) ?_
  refine Way.ctl rfl (fun _ => stepG_seq) ?_
  refine Way.ctl rfl (fun _ => stepG_region) ?_
  simp only [List.size_toArray, List.length_cons, List.length_nil, Nat.reduceAdd, Nat.zero_add, List.range, List.range.loop]
  refine Way.op0 rfl rfl (by decide) (fun _ => by go_simp; rfl) (fun _ => by simp [go_sem]) ?_
  walk_nrm
  refine Way.op0 rfl rfl (by decide) (fun _ => by go_simp; rfl) (fun _ => by simp [go_sem]) ?_
  walk_nrm
  refine Way.op0 rfl rfl (by decide) (fun _ => by go_simp; rfl) (fun _ => by simp [go_sem]) ?_
  walk_nrm
  refine Way.op0 rfl rfl (by decide) (fun _ => by go_simp; rfl) (fun _ => by simp [go_sem]) ?_
  walk_nrm
  refine Way.ctl rfl (fun _ => stepG_region_end) ?_
  refine Way.ctl rfl (fun _ => stepG_cond (t := false) rfl) ?_
  simp only [if_true, if_false, Bool.false_eq_true, ↓reduceIte]
  refine Way.ctl rfl (fun _ => stepG_exit rfl) ?_
  refine Way.ctl rfl (fun _ => stepG_seq) ?_
  refine Way.ctl rfl (fun _ => stepG_region) ?_
  simp only [List.size_toArray, List.length_cons, List.length_nil, Nat.reduceAdd, Nat.zero_add, List.range, List.range.loop]
  refine Way.op0 rfl rfl (by decide) (fun _ => by go_simp; rfl) (fun _ => by simp [go_sem]) ?_
  walk_nrm
  refine Way.op0 rfl rfl (by decide) (fun _ => by go_simp; rfl) (fun _ => by simp [go_sem]) ?_
  walk_nrm
  refine Way.ctl rfl (fun _ => stepG_region_end) ?_
  refine Way.ctl rfl (fun _ => stepG_ret') ?_
  refine Way.leave1 rfl rfl Try.func10 rfl ?_
  walk_nrm
  exact k _ _ hH
set_option maxRecDepth 100000 in
set_option maxHeartbeats 8000000 in
theorem held10_0 (hI : Stab Fx Inv) (hH : Has Try.prog.globals.size Fx E w L) 
    (k : ∀ E' w', Has Try.prog.globals.size Fx E' w' L → Way Try.prog true Fr Inv Stop E' (G (b₀.at (a₀.put ((ops₀[i₀]?).bind (·.dst)) (.int .i64 1)) (.inRegion ops₀ rest₀ :: k₀)) cs) w') :
    Way Try.prog true Fr Inv Stop E (G ((base 10).at ⟨#[.slice (some ⟨A, 0, none⟩) 0 ca, .int .i64 1, undef, undef, undef, undef, undef, undef, undef, undef, undef, undef, undef, undef, undef, undef, undef, undef, undef, undef, undef], []⟩ [.code body10']) (b₀.at a₀ (.inRegion ops₀ (i₀ :: rest₀) :: k₀) :: cs)) w := by
  simp only [body10', Try.f10, Option.getD_some]
  refine Way.ctl rfl (fun _ => stepG_seq) ?_
  refine Way.ctl rfl (fun _ => stepG_region) ?_
  simp only [List.size_toArray, List.length_cons, List.length_nil, Nat.reduceAdd, Nat.zero_add, List.range, List.range.loop]
  refine Way.op0 rfl rfl (by decide) (fun _ => by go_simp; rfl) (fun _ => by simp [go_sem]) ?_
  walk_nrm
  refine Way.ctl rfl (fun _ => stepG_region_end) ?_
  refine Way.ctl rfl (fun _ => stepG_seq) ?_
  refine Way.ctl rfl (fun _ => stepG_seq) ?_
  refine Way.ctl rfl (fun _ => stepG_region) ?_
  simp only [List.size_toArray, List.length_cons, List.length_nil, Nat.reduceAdd, Nat.zero_add, List.range, List.range.loop]
  refine Way.op0 rfl rfl (by decide) (fun _ => by go_simp; rfl) (fun _ => by simp [go_sem]) ?_
  walk_nrm
  refine Way.ctl rfl (fun _ => stepG_region_end) ?_
  refine Way.ctl rfl (fun _ => stepG_block) ?_
  refine Way.ctl rfl (fun _ => stepG_loop) ?_
  refine Way.ctl rfl (fun _ => stepG_seq) ?_
  refine Way.ctl rfl (fun _ => stepG_seq) ?_
  refine Way.ctl rfl (fun _ => stepG_region) ?_
  simp only [List.size_toArray, List.length_cons, List.length_nil, Nat.reduceAdd, Nat.zero_add, List.range, List.range.loop]
  refine Way.op0 rfl rfl (by decide) (fun _ => by go_simp; rfl) (fun _ => by simp [go_sem]) ?_
  walk_nrm
  refine Way.op0 rfl rfl (by decide) (fun _ => by go_simp; rfl) (fun _ => by simp [go_sem]) ?_
  walk_nrm
  refine Way.op0 rfl rfl (by decide) (fun _ => by go_simp; rfl) (fun _ => by simp [go_sem]) ?_
  walk_nrm
  refine Way.op0 rfl rfl (by decide) (fun _ => by go_simp; rfl) (fun _ => by simp [go_sem]) ?_
  walk_nrm
  refine Way.ctl rfl (fun _ => stepG_region_end) ?_
  refine Way.ctl rfl (fun _ => stepG_cond (t := false) rfl) ?_
  simp only [if_true, if_false, Bool.false_eq_true, ↓reduceIte]
  refine Way.ctl rfl (fun _ => stepG_exit rfl) ?_
  refine Way.ctl rfl (fun _ => stepG_seq) ?_
  refine Way.ctl rfl (fun _ => stepG_region) ?_
  simp only [List.size_toArray, List.length_cons, List.length_nil, Nat.reduceAdd, Nat.zero_add, List.range, List.range.loop]
  refine Way.op0 rfl rfl (by decide) (fun _ => by go_simp; rfl) (fun _ => by simp [go_sem]) ?_
  walk_nrm
  refine Way.op0 rfl rfl (by decide) (fun _ => by go_simp; rfl) (fun _ => by simp [go_sem]) ?_
  walk_nrm
  refine Way.ctl rfl (fun _ => stepG_region_end) ?_
  refine Way.ctl rfl (fun _ => stepG_ret') ?_
  refine Way.leave1 rfl rfl Try.func10 rfl ?_
  walk_nrm
  exact k _ _ hH
end
end Go.Proofs.Ytjbpaejjpamcpaa.Sim
