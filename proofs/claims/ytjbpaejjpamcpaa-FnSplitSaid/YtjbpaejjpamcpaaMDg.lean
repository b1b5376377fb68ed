import Derived.Test.YtjbpaejjpamcpaaMCw
import Derived.Test.YtjbpaejjpamcpaaMCf
import Derived.Test.YtjbpaejjpamcpaaMCg
/- Rows of numbers that are alike (sameInts), walked in company. -/
set_option linter.unusedSectionVars false
namespace Go.Proofs.Ytjbpaejjpamcpaa.Sim
set_option linter.unusedSimpArgs false
set_option linter.unusedVariables false
open Go Go.Conc Go.RowKit Go.Conc.Lib Go.ConcN.Gen Go.ConcR.Gen

section
variable {a : Act} {o : Oper}
theorem op_iaddr24 {x y : Operand} {B l c j : Nat} (ho : o.op = .indexAddr 24 x y) (hx : a.eval x = .slice (some ⟨B, 0, none⟩) l c) (hy : a.eval y = .int .i64 (j : Int)) (hj : j < l) (w : World) :
    (execOp a.eval o).run Try.prog w = .ok (.value (.pointer (some ⟨B, j * 1, none⟩))) w ∧ (execOp a.eval o).events Try.prog w #[] = #[] := by
  have h0 : (0 : Int) ≤ (j : Int) := by omega
  have h1 : (j : Int) < (l : Int) := by omega
  unfold execOp
  simp only [ho, hx, hy]
  refine ⟨by go_simp, ?_⟩
  simp [go_sem, *]
theorem op_neq {x y : Operand} {z : Int} (ho : o.op = .binOp .neq 3 x y 3) (hx : a.eval x = .int .i64 z) (hy : a.eval y = .int .i64 z) (w : World) : (execOp a.eval o).run Try.prog w = .ok (.value (.bool false)) w ∧ (execOp a.eval o).events Try.prog w #[] = #[] := by
  unfold execOp
  simp only [ho, hx, hy]
  exact ⟨by go_simp, by simp [go_sem]⟩
end
section
variable {Fr : Nat → Prop} {Inv : World → Prop} {Stop : (Nat → Prop) → Goroutine → World → Prop} {E : Nat → Prop} {w : World} {Fx : Nat → Prop} {L : List (Nat × Obj)} {b₀ : Frame} {a₀ : Act} {ops₀ : Array Oper} {i₀ : Nat} {rest₀ : List Nat} {k₀ : List Item} {cs : List Frame} {A B ca cb : Nat} {cA cB : Array Value} {tA tB : TypeId} {z : Nat → Int}
noncomputable def body12' : Code := Try.f12.body.getD .skip
set_option maxRecDepth 100000 in
set_option maxHeartbeats 8000000 in
theorem eq12_4 (hI : Stab Fx Inv) (hH : Has Try.prog.globals.size Fx E w L) (mA : (A, .cells cA tA) ∈ L) (mB : (B, .cells cB tB) ∈ L) (zA : ∀ i, i < 4 → cA[i]? = some (.int .i64 (z i))) (zB : ∀ i, i < 4 → cB[i]? = some (.int .i64 (z i)))
    (k : ∀ E' w', Has Try.prog.globals.size Fx E' w' L → Way Try.prog true Fr Inv Stop E' (G (b₀.at (a₀.put ((ops₀[i₀]?).bind (·.dst)) (.bool true)) (.inRegion ops₀ rest₀ :: k₀)) cs) w') :
    Way Try.prog true Fr Inv Stop E (G ((base 12).at ⟨#[.slice (some ⟨A, 0, none⟩) 4 ca, .slice (some ⟨B, 0, none⟩) 4 cb, undef, undef, undef, undef, undef, undef, undef, undef, undef, undef, undef, undef, undef, undef, undef, undef, undef, undef, undef, undef, undef, undef, undef, undef], []⟩ [.code body12']) (b₀.at a₀ (.inRegion ops₀ (i₀ :: rest₀) :: k₀) :: cs)) w := by
  simp only [body12', Try.f12, Option.getD_some]
  refine Way.ctl rfl (fun _ => stepG_seq) ?_
  refine Way.ctl rfl (fun _ => stepG_region) ?_
  simp only [List.size_toArray, List.length_cons, List.length_nil, Nat.reduceAdd, Nat.zero_add, List.range, List.range.loop]
  refine Way.op0 rfl rfl (by decide) (fun _ => by go_simp; rfl) (fun _ => by simp [go_sem]) ?_
  walk_nrm
  refine Way.ctl rfl (fun _ => stepG_region_end) ?_
  refine Way.ctl rfl (fun _ => stepG_seq) ?_
  refine Way.ctl rfl (fun _ => stepG_seq) ?_
  refine Way.ctl rfl (fun _ => stepG_region) ?_
  simp only [List.size_toArray, List.length_cons, List.length_nil, Nat.reduceAdd, Nat.zero_add, List.range, List.range.loop]
  refine Way.op0 rfl rfl (by decide) (fun _ => by go_simp; rfl) (fun _ => by simp [go_sem]) ?_
  walk_nrm
  refine Way.op0 rfl rfl (by decide) (fun _ => by go_simp; rfl) (fun _ => by simp [go_sem]) ?_
  walk_nrm
  refine Way.op0 rfl rfl (by decide) (fun _ => by go_simp; rfl) (fun _ => by simp [go_sem]) ?_
  walk_nrm
  refine Way.op0 rfl rfl (by decide) (fun _ => by go_simp; rfl) (fun _ => by simp [go_sem]) ?_
  walk_nrm
  refine Way.op0 rfl rfl (by decide) (fun _ => by go_simp; rfl) (fun _ => by simp [go_sem]) ?_
  walk_nrm
  refine Way.ctl rfl (fun _ => stepG_region_end) ?_
  refine Way.ctl rfl (fun _ => stepG_cond (t := false) rfl) ?_
  simp only [if_true, if_false, Bool.false_eq_true, ↓reduceIte]
  refine Way.ctl rfl (fun _ => stepG_skip) ?_
  refine Way.ctl rfl (fun _ => stepG_seq) ?_
  refine Way.ctl rfl (fun _ => stepG_seq) ?_
  refine Way.ctl rfl (fun _ => stepG_region) ?_
  simp only [List.size_toArray, List.length_cons, List.length_nil, Nat.reduceAdd, Nat.zero_add, List.range, List.range.loop]
  refine Way.op0 rfl rfl (by decide) (fun _ => by go_simp; rfl) (fun _ => by simp [go_sem]) ?_
  walk_nrm
  refine Way.ctl rfl (fun _ => stepG_region_end) ?_
  refine Way.ctl rfl (fun _ => stepG_block) ?_
  refine Way.ctl rfl (fun _ => stepG_loop) ?_
  refine Way.ctl rfl (fun _ => stepG_seq) ?_
  refine Way.ctl rfl (fun _ => stepG_seq) ?_
  refine Way.ctl rfl (fun _ => stepG_region) ?_
  simp only [List.size_toArray, List.length_cons, List.length_nil, Nat.reduceAdd, Nat.zero_add, List.range, List.range.loop]
  refine Way.op0 rfl rfl (by decide) (fun _ => by go_simp; rfl) (fun _ => by simp [go_sem]) ?_
  walk_nrm
  refine Way.op0 rfl rfl (by decide) (fun _ => by go_simp; rfl) (fun _ => by simp [go_sem]) ?_
  walk_nrm
  refine Way.op0 rfl rfl (by decide) (fun _ => by go_simp; rfl) (fun _ => by simp [go_sem]) ?_
  walk_nrm
  refine Way.op0 rfl rfl (by decide) (fun _ => by go_simp; rfl) (fun _ => by simp [go_sem]) ?_
  walk_nrm
  refine Way.ctl rfl (fun _ => stepG_region_end) ?_
  refine Way.ctl rfl (fun _ => stepG_cond (t := true) rfl) ?_
  simp only [if_true, if_false, Bool.false_eq_true, ↓reduceIte]
  refine Way.ctl rfl (fun _ => stepG_skip) ?_
  refine Way.ctl rfl (fun _ => stepG_seq) ?_
  refine Way.ctl rfl (fun _ => stepG_block) ?_
  refine Way.ctl rfl (fun _ => stepG_seq) ?_
  refine Way.drawn (a' := ⟨#[.slice (some ⟨A, 0, none⟩) 4 ca, .slice (some ⟨B, 0, none⟩) 4 cb, undef, undef, .bool false, .int .i64 0, .slice (some ⟨A, 0, none⟩) 4 ca, .int .i64 4, .slice (some ⟨B, 0, none⟩) 4 cb, .int .i64 4, .bool false, .int .i64 0, .slice (some ⟨A, 0, none⟩) 4 ca, .int .i64 4, .bool true, undef, undef, .slice (some ⟨A, 0, none⟩) 4 ca, .int .i64 0, .pointer (some ⟨A, 0 * 1, none⟩), .int .i64 (z 0), .slice (some ⟨B, 0, none⟩) 4 cb, .int .i64 0, .pointer (some ⟨B, 0 * 1, none⟩), .int .i64 (z 0), .bool false], []⟩) hI hH (by kernel_rfl) (by decide) (fun w hH => ?_) (fun w hH => ?_)
  ·
    refine take_pure (i := 0) rfl (by kernel_rfl) (by kernel_rfl) (by kernel_rfl) keepQ rfl (fun _ => ⟨by go_simp; rfl, by simp [go_sem]⟩) hH ?_
    walk_nrm
    refine take_pure (i := 1) rfl (by kernel_rfl) (by kernel_rfl) (by kernel_rfl) keepQ rfl (fun _ => ⟨by go_simp; rfl, by simp [go_sem]⟩) hH ?_
    walk_nrm
    refine take_pure (i := 2) rfl (by kernel_rfl) (by kernel_rfl) (by kernel_rfl) keepQ rfl (op_iaddr24 (j := 0) rfl rfl rfl (by decide)) hH ?_
    walk_nrm
    refine take_load (i := 3) rfl (by kernel_rfl) (by kernel_rfl) (by kernel_rfl) keepQ rfl mA (op_load1 (.inl rfl) rfl rfl (zA 0 (by decide))) hH ?_
    walk_nrm
    refine take_pure (i := 4) rfl (by kernel_rfl) (by kernel_rfl) (by kernel_rfl) keepQ rfl (fun _ => ⟨by go_simp; rfl, by simp [go_sem]⟩) hH ?_
    walk_nrm
    refine take_pure (i := 5) rfl (by kernel_rfl) (by kernel_rfl) (by kernel_rfl) keepQ rfl (fun _ => ⟨by go_simp; rfl, by simp [go_sem]⟩) hH ?_
    walk_nrm
    refine take_pure (i := 6) rfl (by kernel_rfl) (by kernel_rfl) (by kernel_rfl) keepQ rfl (op_iaddr24 (j := 0) rfl rfl rfl (by decide)) hH ?_
    walk_nrm
    refine take_load (i := 7) rfl (by kernel_rfl) (by kernel_rfl) (by kernel_rfl) keepQ rfl mB (op_load1 (.inl rfl) rfl rfl (zB 0 (by decide))) hH ?_
    walk_nrm
    refine take_pure (i := 8) rfl (by kernel_rfl) (by kernel_rfl) (by kernel_rfl) keepQ rfl (op_neq rfl rfl rfl) hH ?_
    walk_nrm
    exact take_done (by kernel_rfl) ⟨rfl, rfl, hH⟩
  refine Way.ctl rfl (fun _ => stepG_cond (t := false) rfl) ?_
  simp only [if_true, if_false, Bool.false_eq_true, ↓reduceIte]
  refine Way.ctl rfl (fun _ => stepG_skip) ?_
  refine Way.ctl rfl (fun _ => stepG_inBlock) ?_
  refine Way.ctl rfl (fun _ => stepG_region) ?_
  simp only [List.size_toArray, List.length_cons, List.length_nil, Nat.reduceAdd, Nat.zero_add, List.range, List.range.loop]
  refine Way.op0 rfl rfl (by decide) (fun _ => by go_simp; rfl) (fun _ => by simp [go_sem]) ?_
  walk_nrm
  refine Way.op0 rfl rfl (by decide) (fun _ => by go_simp; rfl) (fun _ => by simp [go_sem]) ?_
  walk_nrm
  refine Way.op0 rfl rfl (by decide) (fun _ => by go_simp; rfl) (fun _ => by simp [go_sem]) ?_
  walk_nrm
  refine Way.ctl rfl (fun _ => stepG_region_end) ?_
  refine Way.ctl rfl (fun _ => stepG_inLoop) ?_
  refine Way.ctl rfl (fun _ => stepG_seq) ?_
  refine Way.ctl rfl (fun _ => stepG_seq) ?_
  refine Way.ctl rfl (fun _ => stepG_region) ?_
  simp only [List.size_toArray, List.length_cons, List.length_nil, Nat.reduceAdd, Nat.zero_add, List.range, List.range.loop]
  refine Way.op0 rfl rfl (by decide) (fun _ => by go_simp; rfl) (fun _ => by simp [go_sem]) ?_
  walk_nrm
  refine Way.op0 rfl rfl (by decide) (fun _ => by go_simp; rfl) (fun _ => by simp [go_sem]) ?_
  walk_nrm
  refine Way.op0 rfl rfl (by decide) (fun _ => by go_simp; rfl) (fun _ => by simp [go_sem]) ?_
  walk_nrm
  refine Way.op0 rfl rfl (by decide) (fun _ => by go_simp; rfl) (fun _ => by simp [go_sem]) ?_
  walk_nrm
  refine Way.ctl rfl (fun _ => stepG_region_end) ?_
  refine Way.ctl rfl (fun _ => stepG_cond (t := true) rfl) ?_
  simp only [if_true, if_false, Bool.false_eq_true, ↓reduceIte]
  refine Way.ctl rfl (fun _ => stepG_skip) ?_
  refine Way.ctl rfl (fun _ => stepG_seq) ?_
  refine Way.ctl rfl (fun _ => stepG_block) ?_
  refine Way.ctl rfl (fun _ => stepG_seq) ?_
  refine Way.drawn (a' := ⟨#[.slice (some ⟨A, 0, none⟩) 4 ca, .slice (some ⟨B, 0, none⟩) 4 cb, undef, undef, .bool false, .int .i64 1, .slice (some ⟨A, 0, none⟩) 4 ca, .int .i64 4, .slice (some ⟨B, 0, none⟩) 4 cb, .int .i64 4, .bool false, .int .i64 1, .slice (some ⟨A, 0, none⟩) 4 ca, .int .i64 4, .bool true, .int .i64 0, .int .i64 1, .slice (some ⟨A, 0, none⟩) 4 ca, .int .i64 1, .pointer (some ⟨A, 1 * 1, none⟩), .int .i64 (z 1), .slice (some ⟨B, 0, none⟩) 4 cb, .int .i64 1, .pointer (some ⟨B, 1 * 1, none⟩), .int .i64 (z 1), .bool false], []⟩) hI hH (by kernel_rfl) (by decide) (fun w hH => ?_) (fun w hH => ?_)
  ·
    refine take_pure (i := 0) rfl (by kernel_rfl) (by kernel_rfl) (by kernel_rfl) keepQ rfl (fun _ => ⟨by go_simp; rfl, by simp [go_sem]⟩) hH ?_
    walk_nrm
    refine take_pure (i := 1) rfl (by kernel_rfl) (by kernel_rfl) (by kernel_rfl) keepQ rfl (fun _ => ⟨by go_simp; rfl, by simp [go_sem]⟩) hH ?_
    walk_nrm
    refine take_pure (i := 2) rfl (by kernel_rfl) (by kernel_rfl) (by kernel_rfl) keepQ rfl (op_iaddr24 (j := 1) rfl rfl rfl (by decide)) hH ?_
    walk_nrm
    refine take_load (i := 3) rfl (by kernel_rfl) (by kernel_rfl) (by kernel_rfl) keepQ rfl mA (op_load1 (.inl rfl) rfl rfl (zA 1 (by decide))) hH ?_
    walk_nrm
    refine take_pure (i := 4) rfl (by kernel_rfl) (by kernel_rfl) (by kernel_rfl) keepQ rfl (fun _ => ⟨by go_simp; rfl, by simp [go_sem]⟩) hH ?_
    walk_nrm
    refine take_pure (i := 5) rfl (by kernel_rfl) (by kernel_rfl) (by kernel_rfl) keepQ rfl (fun _ => ⟨by go_simp; rfl, by simp [go_sem]⟩) hH ?_
    walk_nrm
    refine take_pure (i := 6) rfl (by kernel_rfl) (by kernel_rfl) (by kernel_rfl) keepQ rfl (op_iaddr24 (j := 1) rfl rfl rfl (by decide)) hH ?_
    walk_nrm
    refine take_load (i := 7) rfl (by kernel_rfl) (by kernel_rfl) (by kernel_rfl) keepQ rfl mB (op_load1 (.inl rfl) rfl rfl (zB 1 (by decide))) hH ?_
    walk_nrm
    refine take_pure (i := 8) rfl (by kernel_rfl) (by kernel_rfl) (by kernel_rfl) keepQ rfl (op_neq rfl rfl rfl) hH ?_
    walk_nrm
    exact take_done (by kernel_rfl) ⟨rfl, rfl, hH⟩
  refine Way.ctl rfl (fun _ => stepG_cond (t := false) rfl) ?_
  simp only [if_true, if_false, Bool.false_eq_true, ↓reduceIte]
  refine Way.ctl rfl (fun _ => stepG_skip) ?_
  refine Way.ctl rfl (fun _ => stepG_inBlock) ?_
  refine Way.ctl rfl (fun _ => stepG_region) ?_
  simp only [List.size_toArray, List.length_cons, List.length_nil, Nat.reduceAdd, Nat.zero_add, List.range, List.range.loop]
  refine Way.op0 rfl rfl (by decide) (fun _ => by go_simp; rfl) (fun _ => by simp [go_sem]) ?_
  walk_nrm
  refine Way.op0 rfl rfl (by decide) (fun _ => by go_simp; rfl) (fun _ => by simp [go_sem]) ?_
  walk_nrm
  refine Way.op0 rfl rfl (by decide) (fun _ => by go_simp; rfl) (fun _ => by simp [go_sem]) ?_
  walk_nrm
  refine Way.ctl rfl (fun _ => stepG_region_end) ?_
  refine Way.ctl rfl (fun _ => stepG_inLoop) ?_
  refine Way.ctl rfl (fun _ => stepG_seq) ?_
  refine Way.ctl rfl (fun _ => stepG_seq) ?_
  refine Way.ctl rfl (fun _ => stepG_region) ?_
  simp only [List.size_toArray, List.length_cons, List.length_nil, Nat.reduceAdd, Nat.zero_add, List.range, List.range.loop]
  refine Way.op0 rfl rfl (by decide) (fun _ => by go_simp; rfl) (fun _ => by simp [go_sem]) ?_
  walk_nrm
  refine Way.op0 rfl rfl (by decide) (fun _ => by go_simp; rfl) (fun _ => by simp [go_sem]) ?_
  walk_nrm
  refine Way.op0 rfl rfl (by decide) (fun _ => by go_simp; rfl) (fun _ => by simp [go_sem]) ?_
  walk_nrm
  refine Way.op0 rfl rfl (by decide) (fun _ => by go_simp; rfl) (fun _ => by simp [go_sem]) ?_
  walk_nrm
  refine Way.ctl rfl (fun _ => stepG_region_end) ?_
  refine Way.ctl rfl (fun _ => stepG_cond (t := true) rfl) ?_
  simp only [if_true, if_false, Bool.false_eq_true, ↓reduceIte]
  refine Way.ctl rfl (fun _ => stepG_skip) ?_
  refine Way.ctl rfl (fun _ => stepG_seq) ?_
  refine Way.ctl rfl (fun _ => stepG_block) ?_
  refine Way.ctl rfl (fun _ => stepG_seq) ?_
  refine Way.drawn (a' := ⟨#[.slice (some ⟨A, 0, none⟩) 4 ca, .slice (some ⟨B, 0, none⟩) 4 cb, undef, undef, .bool false, .int .i64 2, .slice (some ⟨A, 0, none⟩) 4 ca, .int .i64 4, .slice (some ⟨B, 0, none⟩) 4 cb, .int .i64 4, .bool false, .int .i64 2, .slice (some ⟨A, 0, none⟩) 4 ca, .int .i64 4, .bool true, .int .i64 1, .int .i64 2, .slice (some ⟨A, 0, none⟩) 4 ca, .int .i64 2, .pointer (some ⟨A, 2 * 1, none⟩), .int .i64 (z 2), .slice (some ⟨B, 0, none⟩) 4 cb, .int .i64 2, .pointer (some ⟨B, 2 * 1, none⟩), .int .i64 (z 2), .bool false], []⟩) hI hH (by kernel_rfl) (by decide) (fun w hH => ?_) (fun w hH => ?_)
  ·
    refine take_pure (i := 0) rfl (by kernel_rfl) (by kernel_rfl) (by kernel_rfl) keepQ rfl (fun _ => ⟨by go_simp; rfl, by simp [go_sem]⟩) hH ?_
    walk_nrm
    refine take_pure (i := 1) rfl (by kernel_rfl) (by kernel_rfl) (by kernel_rfl) keepQ rfl (fun _ => ⟨by go_simp; rfl, by simp [go_sem]⟩) hH ?_
    walk_nrm
    refine take_pure (i := 2) rfl (by kernel_rfl) (by kernel_rfl) (by kernel_rfl) keepQ rfl (op_iaddr24 (j := 2) rfl rfl rfl (by decide)) hH ?_
    walk_nrm
    refine take_load (i := 3) rfl (by kernel_rfl) (by kernel_rfl) (by kernel_rfl) keepQ rfl mA (op_load1 (.inl rfl) rfl rfl (zA 2 (by decide))) hH ?_
    walk_nrm
    refine take_pure (i := 4) rfl (by kernel_rfl) (by kernel_rfl) (by kernel_rfl) keepQ rfl (fun _ => ⟨by go_simp; rfl, by simp [go_sem]⟩) hH ?_
    walk_nrm
    refine take_pure (i := 5) rfl (by kernel_rfl) (by kernel_rfl) (by kernel_rfl) keepQ rfl (fun _ => ⟨by go_simp; rfl, by simp [go_sem]⟩) hH ?_
    walk_nrm
    refine take_pure (i := 6) rfl (by kernel_rfl) (by kernel_rfl) (by kernel_rfl) keepQ rfl (op_iaddr24 (j := 2) rfl rfl rfl (by decide)) hH ?_
    walk_nrm
    refine take_load (i := 7) rfl (by kernel_rfl) (by kernel_rfl) (by kernel_rfl) keepQ rfl mB (op_load1 (.inl rfl) rfl rfl (zB 2 (by decide))) hH ?_
    walk_nrm
    refine take_pure (i := 8) rfl (by kernel_rfl) (by kernel_rfl) (by kernel_rfl) keepQ rfl (op_neq rfl rfl rfl) hH ?_
    walk_nrm
    exact take_done (by kernel_rfl) ⟨rfl, rfl, hH⟩
  refine Way.ctl rfl (fun _ => stepG_cond (t := false) rfl) ?_
  simp only [if_true, if_false, Bool.false_eq_true, ↓reduceIte]
  refine Way.ctl rfl (fun _ => stepG_skip) ?_
  refine Way.ctl rfl (fun _ => stepG_inBlock) ?_
  refine Way.ctl rfl (fun _ => stepG_region) ?_
  simp only [List.size_toArray, List.length_cons, List.length_nil, Nat.reduceAdd, Nat.zero_add, List.range, List.range.loop]
  refine Way.op0 rfl rfl (by decide) (fun _ => by go_simp; rfl) (fun _ => by simp [go_sem]) ?_
  walk_nrm
  refine Way.op0 rfl rfl (by decide) (fun _ => by go_simp; rfl) (fun _ => by simp [go_sem]) ?_
  walk_nrm
  refine Way.op0 rfl rfl (by decide) (fun _ => by go_simp; rfl) (fun _ => by simp [go_sem]) ?_
  walk_nrm
  refine Way.ctl rfl (fun _ => stepG_region_end) ?_
  refine Way.ctl rfl (fun _ => stepG_inLoop) ?_
  refine Way.ctl rfl (fun _ => stepG_seq) ?_
  refine Way.ctl rfl (fun _ => stepG_seq) ?_
  refine Way.ctl rfl (fun _ => stepG_region) ?_
  simp only [List.size_toArray, List.length_cons, List.length_nil, Nat.reduceAdd, Nat.zero_add, List.range, List.range.loop]
  refine Way.op0 rfl rfl (by decide) (fun _ => by go_simp; rfl) (fun _ => by simp [go_sem]) ?_
  walk_nrm
  refine Way.op0 rfl rfl (by decide) (fun _ => by go_simp; rfl) (fun _ => by simp [go_sem]) ?_
  walk_nrm
  refine Way.op0 rfl rfl (by decide) (fun _ => by go_simp; rfl) (fun _ => by simp [go_sem]) ?_
  walk_nrm
  refine Way.op0 rfl rfl (by decide) (fun _ => by go_simp; rfl) (fun _ => by simp [go_sem]) ?_
  walk_nrm
  refine Way.ctl rfl (fun _ => stepG_region_end) ?_
  refine Way.ctl rfl (fun _ => stepG_cond (t := true) rfl) ?_
  simp only [if_true, if_false, Bool.false_eq_true, ↓reduceIte]
  refine Way.ctl rfl (fun _ => stepG_skip) ?_
  refine Way.ctl rfl (fun _ => stepG_seq) ?_
  refine Way.ctl rfl (fun _ => stepG_block) ?_
  refine Way.ctl rfl (fun _ => stepG_seq) ?_
  refine Way.drawn (a' := ⟨#[.slice (some ⟨A, 0, none⟩) 4 ca, .slice (some ⟨B, 0, none⟩) 4 cb, undef, undef, .bool false, .int .i64 3, .slice (some ⟨A, 0, none⟩) 4 ca, .int .i64 4, .slice (some ⟨B, 0, none⟩) 4 cb, .int .i64 4, .bool false, .int .i64 3, .slice (some ⟨A, 0, none⟩) 4 ca, .int .i64 4, .bool true, .int .i64 2, .int .i64 3, .slice (some ⟨A, 0, none⟩) 4 ca, .int .i64 3, .pointer (some ⟨A, 3 * 1, none⟩), .int .i64 (z 3), .slice (some ⟨B, 0, none⟩) 4 cb, .int .i64 3, .pointer (some ⟨B, 3 * 1, none⟩), .int .i64 (z 3), .bool false], []⟩) hI hH (by kernel_rfl) (by decide) (fun w hH => ?_) (fun w hH => ?_)
  ·
    refine take_pure (i := 0) rfl (by kernel_rfl) (by kernel_rfl) (by kernel_rfl) keepQ rfl (fun _ => ⟨by go_simp; rfl, by simp [go_sem]⟩) hH ?_
    walk_nrm
    refine take_pure (i := 1) rfl (by kernel_rfl) (by kernel_rfl) (by kernel_rfl) keepQ rfl (fun _ => ⟨by go_simp; rfl, by simp [go_sem]⟩) hH ?_
    walk_nrm
    refine take_pure (i := 2) rfl (by kernel_rfl) (by kernel_rfl) (by kernel_rfl) keepQ rfl (op_iaddr24 (j := 3) rfl rfl rfl (by decide)) hH ?_
    walk_nrm
    refine take_load (i := 3) rfl (by kernel_rfl) (by kernel_rfl) (by kernel_rfl) keepQ rfl mA (op_load1 (.inl rfl) rfl rfl (zA 3 (by decide))) hH ?_
    walk_nrm
    refine take_pure (i := 4) rfl (by kernel_rfl) (by kernel_rfl) (by kernel_rfl) keepQ rfl (fun _ => ⟨by go_simp; rfl, by simp [go_sem]⟩) hH ?_
    walk_nrm
    refine take_pure (i := 5) rfl (by kernel_rfl) (by kernel_rfl) (by kernel_rfl) keepQ rfl (fun _ => ⟨by go_simp; rfl, by simp [go_sem]⟩) hH ?_
    walk_nrm
    refine take_pure (i := 6) rfl (by kernel_rfl) (by kernel_rfl) (by kernel_rfl) keepQ rfl (op_iaddr24 (j := 3) rfl rfl rfl (by decide)) hH ?_
    walk_nrm
    refine take_load (i := 7) rfl (by kernel_rfl) (by kernel_rfl) (by kernel_rfl) keepQ rfl mB (op_load1 (.inl rfl) rfl rfl (zB 3 (by decide))) hH ?_
    walk_nrm
    refine take_pure (i := 8) rfl (by kernel_rfl) (by kernel_rfl) (by kernel_rfl) keepQ rfl (op_neq rfl rfl rfl) hH ?_
    walk_nrm
    exact take_done (by kernel_rfl) ⟨rfl, rfl, hH⟩
  refine Way.ctl rfl (fun _ => stepG_cond (t := false) rfl) ?_
  simp only [if_true, if_false, Bool.false_eq_true, ↓reduceIte]
  refine Way.ctl rfl (fun _ => stepG_skip) ?_
  refine Way.ctl rfl (fun _ => stepG_inBlock) ?_
  refine Way.ctl rfl (fun _ => stepG_region) ?_
  simp only [List.size_toArray, List.length_cons, List.length_nil, Nat.reduceAdd, Nat.zero_add, List.range, List.range.loop]
  refine Way.op0 rfl rfl (by decide) (fun _ => by go_simp; rfl) (fun _ => by simp [go_sem]) ?_
  walk_nrm
  refine Way.op0 rfl rfl (by decide) (fun _ => by go_simp; rfl) (fun _ => by simp [go_sem]) ?_
  walk_nrm
  refine Way.op0 rfl rfl (by decide) (fun _ => by go_simp; rfl) (fun _ => by simp [go_sem]) ?_
  walk_nrm
  refine Way.ctl rfl (fun _ => stepG_region_end) ?_
  refine Way.ctl rfl (fun _ => stepG_inLoop) ?_
  refine Way.ctl rfl (fun _ => stepG_seq) ?_
  refine Way.ctl rfl (fun _ => stepG_seq) ?_
  refine Way.ctl rfl (fun _ => stepG_region) ?_
  simp only [List.size_toArray, List.length_cons, List.length_nil, Nat.reduceAdd, Nat.zero_add, List.range, List.range.loop]
  refine Way.op0 rfl rfl (by decide) (fun _ => by go_simp; rfl) (fun _ => by simp [go_sem]) ?_
  walk_nrm
  refine Way.op0 rfl rfl (by decide) (fun _ => by go_simp; rfl) (fun _ => by simp [go_sem]) ?_
  walk_nrm
  refine Way.op0 rfl rfl (by decide) (fun _ => by go_simp; rfl) (fun _ => by simp [go_sem]) ?_
  walk_nrm
  refine Way.op0 rfl rfl (by decide) (fun _ => by go_simp; rfl) (fun _ => by simp [go_sem]) ?_
  walk_nrm
  refine Way.ctl rfl (fun _ => stepG_region_end) ?_
  refine Way.ctl rfl (fun _ => stepG_cond (t := false) rfl) ?_
  simp only [if_true, if_false, Bool.false_eq_true, ↓reduceIte]
  refine Way.ctl rfl (fun _ => stepG_exit rfl) ?_
  refine Way.ctl rfl (fun _ => stepG_seq) ?_
  refine Way.ctl rfl (fun _ => stepG_region) ?_
  simp only [List.size_toArray, List.length_cons, List.length_nil, Nat.reduceAdd, Nat.zero_add, List.range, List.range.loop]
  refine Way.op0 rfl rfl (by decide) (fun _ => by go_simp; rfl) (fun _ => by simp [go_sem]) ?_
  walk_nrm
  refine Way.ctl rfl (fun _ => stepG_region_end) ?_
  refine Way.ctl rfl (fun _ => stepG_ret') ?_
  refine Way.leave1 rfl rfl Try.func12 rfl ?_
  walk_nrm
  exact k _ _ hH
set_option maxRecDepth 100000 in
set_option maxHeartbeats 8000000 in
theorem eq12_0 (hI : Stab Fx Inv) (hH : Has Try.prog.globals.size Fx E w L) 
    (k : ∀ E' w', Has Try.prog.globals.size Fx E' w' L → Way Try.prog true Fr Inv Stop E' (G (b₀.at (a₀.put ((ops₀[i₀]?).bind (·.dst)) (.bool true)) (.inRegion ops₀ rest₀ :: k₀)) cs) w') :
    Way Try.prog true Fr Inv Stop E (G ((base 12).at ⟨#[.slice (some ⟨A, 0, none⟩) 0 ca, .slice (some ⟨B, 0, none⟩) 0 cb, undef, undef, undef, undef, undef, undef, undef, undef, undef, undef, undef, undef, undef, undef, undef, undef, undef, undef, undef, undef, undef, undef, undef, undef], []⟩ [.code body12']) (b₀.at a₀ (.inRegion ops₀ (i₀ :: rest₀) :: k₀) :: cs)) w := by
  simp only [body12', Try.f12, Option.getD_some]
  refine Way.ctl rfl (fun _ => stepG_seq) ?_
  refine Way.ctl rfl (fun _ => stepG_region) ?_
  simp only [List.size_toArray, List.length_cons, List.length_nil, Nat.reduceAdd, Nat.zero_add, List.range, List.range.loop]
  refine Way.op0 rfl rfl (by decide) (fun _ => by go_simp; rfl) (fun _ => by simp [go_sem]) ?_
  walk_nrm
  refine Way.ctl rfl (fun _ => stepG_region_end) ?_
  refine Way.ctl rfl (fun _ => stepG_seq) ?_
  refine Way.ctl rfl (fun _ => stepG_seq) ?_
  refine Way.ctl rfl (fun _ => stepG_region) ?_
  simp only [List.size_toArray, List.length_cons, List.length_nil, Nat.reduceAdd, Nat.zero_add, List.range, List.range.loop]
  refine Way.op0 rfl rfl (by decide) (fun _ => by go_simp; rfl) (fun _ => by simp [go_sem]) ?_
  walk_nrm
  refine Way.op0 rfl rfl (by decide) (fun _ => by go_simp; rfl) (fun _ => by simp [go_sem]) ?_
  walk_nrm
  refine Way.op0 rfl rfl (by decide) (fun _ => by go_simp; rfl) (fun _ => by simp [go_sem]) ?_
  walk_nrm
  refine Way.op0 rfl rfl (by decide) (fun _ => by go_simp; rfl) (fun _ => by simp [go_sem]) ?_
  walk_nrm
  refine Way.op0 rfl rfl (by decide) (fun _ => by go_simp; rfl) (fun _ => by simp [go_sem]) ?_
  walk_nrm
  refine Way.ctl rfl (fun _ => stepG_region_end) ?_
  refine Way.ctl rfl (fun _ => stepG_cond (t := false) rfl) ?_
  simp only [if_true, if_false, Bool.false_eq_true, ↓reduceIte]
  refine Way.ctl rfl (fun _ => stepG_skip) ?_
  refine Way.ctl rfl (fun _ => stepG_seq) ?_
  refine Way.ctl rfl (fun _ => stepG_seq) ?_
  refine Way.ctl rfl (fun _ => stepG_region) ?_
  simp only [List.size_toArray, List.length_cons, List.length_nil, Nat.reduceAdd, Nat.zero_add, List.range, List.range.loop]
  refine Way.op0 rfl rfl (by decide) (fun _ => by go_simp; rfl) (fun _ => by simp [go_sem]) ?_
  walk_nrm
  refine Way.ctl rfl (fun _ => stepG_region_end) ?_
  refine Way.ctl rfl (fun _ => stepG_block) ?_
  refine Way.ctl rfl (fun _ => stepG_loop) ?_
  refine Way.ctl rfl (fun _ => stepG_seq) ?_
  refine Way.ctl rfl (fun _ => stepG_seq) ?_
  refine Way.ctl rfl (fun _ => stepG_region) ?_
  simp only [List.size_toArray, List.length_cons, List.length_nil, Nat.reduceAdd, Nat.zero_add, List.range, List.range.loop]
  refine Way.op0 rfl rfl (by decide) (fun _ => by go_simp; rfl) (fun _ => by simp [go_sem]) ?_
  walk_nrm
  refine Way.op0 rfl rfl (by decide) (fun _ => by go_simp; rfl) (fun _ => by simp [go_sem]) ?_
  walk_nrm
  refine Way.op0 rfl rfl (by decide) (fun _ => by go_simp; rfl) (fun _ => by simp [go_sem]) ?_
  walk_nrm
  refine Way.op0 rfl rfl (by decide) (fun _ => by go_simp; rfl) (fun _ => by simp [go_sem]) ?_
  walk_nrm
  refine Way.ctl rfl (fun _ => stepG_region_end) ?_
  refine Way.ctl rfl (fun _ => stepG_cond (t := false) rfl) ?_
  simp only [if_true, if_false, Bool.false_eq_true, ↓reduceIte]
  refine Way.ctl rfl (fun _ => stepG_exit rfl) ?_
  refine Way.ctl rfl (fun _ => stepG_seq) ?_
  refine Way.ctl rfl (fun _ => stepG_region) ?_
  simp only [List.size_toArray, List.length_cons, List.length_nil, Nat.reduceAdd, Nat.zero_add, List.range, List.range.loop]
  refine Way.op0 rfl rfl (by decide) (fun _ => by go_simp; rfl) (fun _ => by simp [go_sem]) ?_
  walk_nrm
  refine Way.ctl rfl (fun _ => stepG_region_end) ?_
  refine Way.ctl rfl (fun _ => stepG_ret') ?_
  refine Way.leave1 rfl rfl Try.func12 rfl ?_
  walk_nrm
  exact k _ _ hH
end
end Go.Proofs.Ytjbpaejjpamcpaa.Sim
/- The ends of a law's run: beside leavers, to the return. -/
set_option linter.unusedSectionVars false
namespace Go.Proofs.Ytjbpaejjpamcpaa.Sim
set_option linter.unusedSimpArgs false
set_option linter.unusedVariables false
open Go Go.Conc Go.RowKit Go.Conc.Lib Go.ConcN.Gen Go.ConcR.Gen

/-- These blocks hold this. -/
def Holds (L : List (Nat × Obj)) (w : World) : Prop := ∀ p ∈ L, w.heap[p.1]? = some p.2
theorem ev_equalIn (d : Nat) (p q : Bool) (w : World) (es : Array Event) : (Op.equalIn (d + 1) 4 (.bool p) (.bool q)).events Try.prog w es = es := by
  simp [Op.equalIn, underlying]
theorem ev_equal (p q : Bool) (w : World) (es : Array Event) : (Op.equal 4 (.bool p) (.bool q)).events Try.prog w es = es := ev_equalIn 9999 p q w es
theorem ev_neqB (p q : Bool) (w : World) (es : Array Event) : (binOp .neq 4 (.bool p) (.bool q)).events Try.prog w es = es := by
  simp only [binOp]
  simp [ev_equal, run_equal_bool w 4 p q Try.underlying4]
theorem op_neqB {a : Act} {o : Oper} {x y : Operand} {p : Bool} (ho : o.op = .binOp .neq 4 x y 4) (hx : a.eval x = .bool p) (hy : a.eval y = .bool p) (w : World) : (execOp a.eval o).run Try.prog w = .ok (.value (.bool false)) w ∧ (execOp a.eval o).events Try.prog w #[] = #[] := by
  unfold execOp
  simp only [ho, hx, hy]
  exact ⟨by go_simp, by simp [go_sem, ev_neqB]⟩
theorem Has.holds {Gl : Nat} {Fx E : Nat → Prop} {w : World} {L : List (Nat × Obj)} (h : Has Gl Fx E w L) : Holds L w := fun p hp => (h.at_ p hp).2
theorem Holds.tail {p : Nat × Obj} {L : List (Nat × Obj)} {w : World} (h : Holds (p :: L) w) : Holds L w := fun q hq => h q (.tail _ hq)
/-- The run's last step: a result in a temporary. -/
theorem done_tmp {P : Program} {Fr E : Nat → Prop} {Post : Value → World → Prop} {b : Frame} {a : Act} {todo : List Item} {w : World} {fn : Func} {t : Tmp} (hn : b.kind = .normal) (hd : a.defers = []) (hf : P.funcs[b.fn]? = some fn) (hr : fn.results = #[.tmp t]) (hin : P.inits.idxOf? b.fn = none) (hp : Post (a.tmps.getD t undef) w) :
    AtEndW P Fr Post E (G { b.at a todo with mode := .returning } []) w := by
  refine ⟨rfl, a.tmps.getD t undef, #[], ?_, fun e he => absurd he (by simp), hp⟩
  simp [G, stepG, unwind, doReturn, Frame.at, hn, hd, hf, results_tmp hr, events_results_tmp hr, seen_none, GStep.after, hin]
/-- What no step of one's own turns may be kept beside. -/
theorem Way.inv {P : Program} {mn : Bool} {Fr : Nat → Prop} {Inv : World → Prop} {Stop : St} {E : Nat → Prop} {g : Goroutine} {w : World} (hC : ∀ E w w' es, Gu Fr E w w' es → Inv w → Inv w') (h : Way P mn Fr Tr Stop E g w) :
    Way P mn Fr Inv (fun E g w => Stop E g w ∧ Inv w) E g w := by
  induction h with
  | stop h => exact .stop fun w₁ h1 hi => ⟨h w₁ h1 trivial, hi⟩
  | step hs h _ ih => exact .step hs (fun w₁ h1 hi => let ⟨g', w', es, hm, hg, _⟩ := h w₁ h1 trivial; ⟨g', w', es, hm, hg, hC _ _ _ _ hg hi⟩) fun w₁ g' w' es h1 hi hm => ih w₁ g' w' es h1 trivial hm
  | rely _ ih => exact .rely fun w₁ h1 hi => ih w₁ h1 trivial
/-- A run behind a run. -/
theorem run_behind {P : Program} {N : Nat} {m m₁ : Machine} {t t₁ : Trace} (h : runNT P N m t = (.next m₁, t₁)) {G : Machine → Outcome → World → Trace → Prop}
    (k : ∃ n last o w' t', runNT P (n + 1) m₁ t₁ = (.ended o w', t') ∧ runN P n m₁ = .next last ∧ step P last = .ended o w' ∧ G last o w' t') :
    ∃ n last o w' t', runNT P (n + 1) m t = (.ended o w', t') ∧ runN P n m = .next last ∧ step P last = .ended o w' ∧ G last o w' t' := by
  obtain ⟨n, last, o, w', t', h1, h2, h3, h4⟩ := k
  refine ⟨N + n, last, o, w', t', ?_, ?_, h3, h4⟩
  · rw [show N + n + 1 = N + (n + 1) from rfl, runNT_add, h]; exact h1
  · rw [← runNT_fst _ _ _ t, runNT_add, h]
    show (runNT P n m₁ t₁).1 = _
    rw [runNT_fst]; exact h2
/-- The old blocks. -/
def oldL (W : World) : List (Nat × Obj) := List.ofFn fun i : Fin W.heap.size => (i.val, W.heap[i.val])
theorem mem_oldL {W : World} {p : Nat × Obj} (h : p ∈ oldL W) : W.heap[p.1]? = some p.2 := by
  obtain ⟨i, rfl⟩ := (List.mem_ofFn).1 h
  simp
theorem oldL_mem {W : World} {b : Nat} (h : b < W.heap.size) : (b, W.heap[b]) ∈ oldL W := (List.mem_ofFn).2 ⟨⟨b, h⟩, rfl⟩
theorem has_old {Gl : Nat} {W : World} (hG : Gl ≤ W.heap.size) : Has Gl NoF (fun b => b < W.heap.size) W (oldL W) := by
  refine ⟨fun p hp => ⟨(Array.getElem?_eq_some_iff.1 (mem_oldL hp)).1, mem_oldL hp⟩, ?_, fun _ h => h.elim, fun _ h => h, hG⟩
  refine List.pairwise_iff_getElem.2 fun i j hi hj hij e => ?_
  simp only [oldL, List.getElem_ofFn] at e
  omega
/-- What the run's steps leave. -/
def LeftAs (W w : World) : Prop := w.tape = W.tape ∧ w.os = W.os ∧ w.output = W.output
theorem below_of {W w : World} (h : LeftAs W w) (hL : Holds (oldL W) w) : Below W.heap.size W w := by
  refine ⟨h.2.1, h.1, h.2.2, ?_, fun k hk => ?_⟩
  · by_cases h0 : W.heap.size = 0
    · omega
    · have := hL _ (oldL_mem (W := W) (b := W.heap.size - 1) (by omega))
      have := (Array.getElem?_eq_some_iff.1 this).1
      simp only at this
      omega
  · rw [hL _ (oldL_mem hk), Array.getElem?_eq_getElem hk]
theorem left_gu {W : World} : ∀ (E : Nat → Prop) (w w' : World) (es : Array Event), Gu NoF E w w' es → LeftAs W w → LeftAs W w' := fun _ _ _ _ g h => ⟨g.tape.trans h.1, g.os.trans h.2.1, g.output.trans h.2.2⟩
/-- To the run's end. -/
theorem ends_main {W w : World} {Q : Nat → Prop} {J : Nat} {gs : Array Goroutine} {t : Trace} {q : Nat → Nat} {E : Nat → Prop} {a : Goroutine} {sl : Option (Nat × Nat)} (h0 : gs[0]? = some a) (hfr : Fra Try.prog Q J gs w t q E) (hl : LeftAs W w)
    (hw : MainW (AtEndW Try.prog NoF fun v w => v = .bool true ∧ Holds (oldL W) w) E a w) :
    ∃ n last o w' t', runNT Try.prog (n + 1) (crowd gs w sl) t = (.ended o w', t') ∧ runN Try.prog n (crowd gs w sl) = .next last ∧ step Try.prog last = .ended o w' ∧ Go.Conc.Good Try.prog (fun v w' => v = .bool true ∧ Below W.heap.size W w') last o w' t' := by
  have hw' : Way Try.prog true NoF (LeftAs W) (AtEndW Try.prog NoF fun v w' => v = .bool true ∧ Below W.heap.size W w') E a w := (Way.inv left_gu hw).mono fun E g w h => ⟨h.1.1, let ⟨v, es, k1, k2, k3⟩ := h.1.2; ⟨v, es, k1, k2, k3.1, below_of h.2 k3.2⟩⟩
  exact ends_way (N := 0) (fun _ _ h => h) (fun b h => h.elim) (Nat.zero_le _) h0 hfr hl hw' sl

end Go.Proofs.Ytjbpaejjpamcpaa.Sim
