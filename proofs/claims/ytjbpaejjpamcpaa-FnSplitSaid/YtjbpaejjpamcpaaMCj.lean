import Derived.Test.YtjbpaejjpamcpaaMCi
import Derived.Test.YtjbpaejjpamcpaaMDg
/- FnSplit: what its goroutine does alone: up to the drawn box; of an invalid box, to the end; of a valid box, to the first group. -/
set_option linter.unusedSectionVars false
namespace Go.Proofs.Ytjbpaejjpamcpaa.Sim
set_option linter.unusedSimpArgs false
set_option linter.unusedVariables false
open Go Go.Conc Go.RowKit Go.Conc.Lib Go.ConcN.Gen Go.ConcR.Gen

noncomputable def body4 : Code := Try.f4.body.getD .skip
section
variable {a : Act} {o : Oper}
theorem op_gtr {x y : Operand} {u v : Int} {q : Bool} (ho : o.op = .binOp .gtr 3 x y 3) (hx : a.eval x = .int .i64 u) (hy : a.eval y = .int .i64 v) (hq : decide (u > v) = q) (w : World) : (execOp a.eval o).run Try.prog w = .ok (.value (.bool q)) w ∧ (execOp a.eval o).events Try.prog w #[] = #[] := by
  subst hq
  unfold execOp
  simp only [ho, hx, hy]
  exact ⟨by go_simp, by simp [go_sem]⟩
theorem op_neqI {x y : Operand} {u v : Int} (ho : o.op = .binOp .neq 3 x y 3) (hx : a.eval x = .int .i64 u) (hy : a.eval y = .int .i64 v) (hq : u ≠ v) (w : World) : (execOp a.eval o).run Try.prog w = .ok (.value (.bool true)) w ∧ (execOp a.eval o).events Try.prog w #[] = #[] := by
  unfold execOp
  simp only [ho, hx, hy]
  exact ⟨by go_simp, by simp [go_sem]⟩
theorem op_neqE {x y : Operand} {u v : Int} (ho : o.op = .binOp .neq 3 x y 3) (hx : a.eval x = .int .i64 u) (hy : a.eval y = .int .i64 v) (hq : u = v) (w : World) : (execOp a.eval o).run Try.prog w = .ok (.value (.bool false)) w ∧ (execOp a.eval o).events Try.prog w #[] = #[] := by
  subst hq; exact op_neq ho hx hy w
theorem ev_eqlB (p q : Bool) (w : World) (es : Array Event) : (binOp .eql 4 (.bool p) (.bool q)).events Try.prog w es = es := by
  simp only [binOp]
  simp [ev_equal, run_equal_bool w 4 p q Try.underlying4]
theorem op_eqlB {x y : Operand} {p : Bool} (ho : o.op = .binOp .eql 4 x y 4) (hx : a.eval x = .bool p) (hy : a.eval y = .bool p) (w : World) : (execOp a.eval o).run Try.prog w = .ok (.value (.bool true)) w ∧ (execOp a.eval o).events Try.prog w #[] = #[] := by
  unfold execOp
  simp only [ho, hx, hy]
  exact ⟨by go_simp, by simp [go_sem, ev_eqlB]⟩
end
noncomputable def e0 : Code := c2 (c2 (c2 body4))
noncomputable def at40 (p : Option Addr) (len cap : Nat) (a b c d m : Int) (Bx : Nat) : Act := ⟨#[.slice p len cap, undef, .bool false, .pointer (some ⟨Bx, 0, none⟩), .int .i64 m, undef, undef, undef, undef, undef, undef, undef, .slice p len cap, .int .i64 (len : Int), .bool false, .tuple #[.agg #[.int .i64 a, .int .i64 b, .int .i64 c, .int .i64 d], .int .i64 m], .slice p len cap, .tuple #[.agg #[.int .i64 a, .int .i64 b, .int .i64 c, .int .i64 d], .int .i64 m], .agg #[.int .i64 a, .int .i64 b, .int .i64 c, .int .i64 d], .int .i64 m, undef, undef, undef, undef, undef, undef, undef, undef, undef, undef, undef, undef, undef, undef, undef, undef, undef, undef, undef, undef, undef, undef, undef, undef, undef, undef, undef, undef, undef, undef, undef, undef, undef, undef, undef, undef, undef, undef, undef, undef, undef, undef, undef, undef, undef, undef, undef, undef, undef, undef, undef, undef, undef, undef, undef, undef, undef, undef, undef, undef, undef], []⟩
noncomputable def at41 (p : Option Addr) (len cap : Nat) (a b c d m : Int) (Bx : Nat) : Act := ⟨#[.slice p len cap, undef, .bool false, .pointer (some ⟨Bx, 0, none⟩), .int .i64 m, undef, undef, undef, undef, undef, undef, undef, .slice p len cap, .int .i64 (len : Int), .bool false, .tuple #[.agg #[.int .i64 a, .int .i64 b, .int .i64 c, .int .i64 d], .int .i64 m], .slice p len cap, .tuple #[.agg #[.int .i64 a, .int .i64 b, .int .i64 c, .int .i64 d], .int .i64 m], .agg #[.int .i64 a, .int .i64 b, .int .i64 c, .int .i64 d], .int .i64 m, undef, .agg #[.int .i64 a, .int .i64 b, .int .i64 c, .int .i64 d], .int .i64 m, undef, undef, undef, undef, undef, undef, undef, undef, undef, undef, undef, undef, undef, undef, undef, undef, undef, undef, undef, undef, undef, undef, undef, undef, undef, undef, undef, undef, undef, undef, undef, undef, undef, undef, undef, undef, undef, undef, undef, undef, undef, undef, undef, undef, undef, undef, undef, undef, undef, undef, undef, undef, undef, undef, undef, undef, undef, undef], []⟩
noncomputable def ops41 : Array Oper := cops (c1 e0)
section
variable {E : Nat → Prop} {w : World} {L : List (Nat × Obj)} {a b c d m : Int} {p : Option Addr} {len cap : Nat} {Bx S : Nat} {Stop : St}
set_option maxRecDepth 100000 in
set_option maxHeartbeats 8000000 in
theorem law4e (hH : Has Try.prog.globals.size NoF E w L) (hl : 1048576 < len) :
    MainW (AtEndW Try.prog NoF fun v w => v = .bool true ∧ Holds L w) E (G ((base 4).at ⟨#[.slice p len cap, undef, undef, undef, undef, undef, undef, undef, undef, undef, undef, undef, undef, undef, undef, undef, undef, undef, undef, undef, undef, undef, undef, undef, undef, undef, undef, undef, undef, undef, undef, undef, undef, undef, undef, undef, undef, undef, undef, undef, undef, undef, undef, undef, undef, undef, undef, undef, undef, undef, undef, undef, undef, undef, undef, undef, undef, undef, undef, undef, undef, undef, undef, undef, undef, undef, undef, undef, undef, undef, undef, undef, undef, undef, undef, undef, undef, undef, undef, undef, undef], []⟩ [.code body4]) []) w := by
  show Way _ _ _ _ _ _ _ _
  simp only [body4, Try.f4, Option.getD_some]
  refine Way.ctl rfl (fun _ => stepG_seq) ?_
  refine Way.ctl rfl (fun _ => stepG_region) ?_
  simp only [List.size_toArray, List.length_cons, List.length_nil, Nat.reduceAdd, Nat.zero_add, List.range, List.range.loop]
  refine Way.op0 rfl rfl (by decide) (fun _ => by go_simp; rfl) (fun _ => by simp [go_sem]) ?_
  walk_nrm
  refine Way.ctl rfl (fun _ => stepG_region_end) ?_
  refine Way.ctl rfl (fun _ => stepG_seq) ?_
  refine Way.ctl rfl (fun _ => stepG_seq) ?_
  refine Way.ctl rfl (fun _ => stepG_region) ?_
  simp only [List.size_toArray, List.length_cons, List.length_nil, Nat.reduceAdd, Nat.zero_add, List.range, List.range.loop]
  refine Way.op0 rfl rfl (by decide) (fun _ => by go_simp; rfl) (fun _ => by simp [go_sem]) ?_
  walk_nrm
  refine Way.op0 rfl rfl (by decide) (fun _ => by go_simp; rfl) (fun _ => by simp [go_sem]) ?_
  walk_nrm
  refine Way.op2 rfl rfl (by decide) (op_gtr rfl rfl rfl (decide_eq_true (by omega))) ?_
  walk_nrm
  refine Way.ctl rfl (fun _ => stepG_region_end) ?_
  refine Way.ctl rfl (fun _ => stepG_cond (t := true) rfl) ?_
  simp only [if_true, if_false, Bool.false_eq_true, ↓reduceIte]
  refine Way.ctl rfl (fun _ => stepG_seq) ?_
  refine Way.ctl rfl (fun _ => stepG_region) ?_
  simp only [List.size_toArray, List.length_cons, List.length_nil, Nat.reduceAdd, Nat.zero_add, List.range, List.range.loop]
  refine Way.op0 rfl rfl (by decide) (fun _ => by go_simp; rfl) (fun _ => by simp [go_sem]) ?_
  walk_nrm
  refine Way.ctl rfl (fun _ => stepG_region_end) ?_
  refine Way.ctl rfl (fun _ => stepG_ret') ?_
  exact .stop fun w₁ h1 _ => done_tmp rfl rfl Try.func4 rfl (by kernel_rfl) ⟨rfl, (hH.moved h1).holds⟩
set_option maxRecDepth 100000 in
set_option maxHeartbeats 8000000 in
theorem law4a (hH : Has Try.prog.globals.size NoF E w L) (hc : CodeV L p len cap) (hl : ¬ 1048576 < len)
    (k : ∀ a b c d m Bx E' w', Drn a b c d → Has Try.prog.globals.size NoF E' w' ((Bx, .cells #[.int .i64 a, .int .i64 b, .int .i64 c, .int .i64 d] 27) :: L) → MainW Stop E' (G ((base 4).at (at40 p len cap a b c d m Bx) [.code e0]) []) w') :
    MainW Stop E (G ((base 4).at ⟨#[.slice p len cap, undef, undef, undef, undef, undef, undef, undef, undef, undef, undef, undef, undef, undef, undef, undef, undef, undef, undef, undef, undef, undef, undef, undef, undef, undef, undef, undef, undef, undef, undef, undef, undef, undef, undef, undef, undef, undef, undef, undef, undef, undef, undef, undef, undef, undef, undef, undef, undef, undef, undef, undef, undef, undef, undef, undef, undef, undef, undef, undef, undef, undef, undef, undef, undef, undef, undef, undef, undef, undef, undef, undef, undef, undef, undef, undef, undef, undef, undef, undef, undef], []⟩ [.code body4]) []) w := by
  show Way _ _ _ _ _ _ _ _
  simp only [body4, Try.f4, Option.getD_some]
  refine Way.ctl rfl (fun _ => stepG_seq) ?_
  refine Way.ctl rfl (fun _ => stepG_region) ?_
  simp only [List.size_toArray, List.length_cons, List.length_nil, Nat.reduceAdd, Nat.zero_add, List.range, List.range.loop]
  refine Way.op0 rfl rfl (by decide) (fun _ => by go_simp; rfl) (fun _ => by simp [go_sem]) ?_
  walk_nrm
  refine Way.ctl rfl (fun _ => stepG_region_end) ?_
  refine Way.ctl rfl (fun _ => stepG_seq) ?_
  refine Way.ctl rfl (fun _ => stepG_seq) ?_
  refine Way.ctl rfl (fun _ => stepG_region) ?_
  simp only [List.size_toArray, List.length_cons, List.length_nil, Nat.reduceAdd, Nat.zero_add, List.range, List.range.loop]
  refine Way.op0 rfl rfl (by decide) (fun _ => by go_simp; rfl) (fun _ => by simp [go_sem]) ?_
  walk_nrm
  refine Way.op0 rfl rfl (by decide) (fun _ => by go_simp; rfl) (fun _ => by simp [go_sem]) ?_
  walk_nrm
  refine Way.op2 rfl rfl (by decide) (op_gtr rfl rfl rfl (decide_eq_false (by omega))) ?_
  walk_nrm
  refine Way.ctl rfl (fun _ => stepG_region_end) ?_
  refine Way.ctl rfl (fun _ => stepG_cond (t := false) rfl) ?_
  simp only [if_true, if_false, Bool.false_eq_true, ↓reduceIte]
  refine Way.ctl rfl (fun _ => stepG_skip) ?_
  refine Way.ctl rfl (fun _ => stepG_seq) ?_
  refine Way.ctl rfl (fun _ => stepG_region) ?_
  simp only [List.size_toArray, List.length_cons, List.length_nil, Nat.reduceAdd, Nat.zero_add, List.range, List.range.loop]
  refine Way.op0 rfl rfl (by decide) (fun _ => by go_simp; rfl) (fun _ => by simp [go_sem]) ?_
  walk_nrm
  refine Way.draw stab0 hH hc rfl rfl (by decide) rfl rfl (fun a b c d m E w hd hH => ?_)
  walk_nrm
  refine Way.op0 rfl rfl (by decide) (fun _ => by go_simp; rfl) (fun _ => by simp [go_sem]) ?_
  walk_nrm
  refine Way.op0 rfl rfl (by decide) (fun _ => by go_simp; rfl) (fun _ => by simp [go_sem]) ?_
  walk_nrm
  refine Way.op0 rfl rfl (by decide) (fun _ => by go_simp; rfl) (fun _ => by simp [go_sem]) ?_
  walk_nrm
  refine Way.alloc (f := fun B => .pointer (some ⟨B, 0, none⟩)) stab0 hH rfl rfl (by decide) (op_alloc27 rfl) (fun Bx E w hH hBx => ?_)
  walk_nrm
  refine Way.store stab0 hH rfl rfl (by decide) (op_store27 rfl rfl rfl) (fun w hH => ?_)
  walk_nrm
  try simp only [List.setIfInBounds_toArray, List.set_cons_succ, List.set_cons_zero] at hH
  refine Way.op0 rfl rfl (by decide) (fun _ => by go_simp; rfl) (fun _ => by simp [go_sem]) ?_
  walk_nrm
  refine Way.ctl rfl (fun _ => stepG_region_end) ?_
  exact k _ _ _ _ _ _ _ _ hd hH
set_option maxRecDepth 100000 in
set_option maxHeartbeats 8000000 in
theorem law4v (hH : Has Try.prog.globals.size NoF E w ((Bx, .cells #[.int .i64 a, .int .i64 b, .int .i64 c, .int .i64 d] 27) :: L)) (hv : BV a b c d = true)
    (k : ∀ Bb Bm Q An qc cq E' w', Has Try.prog.globals.size NoF E' w' ([(An, .cells #[.chan none, .chan none, .chan none, .chan none] 52), (Q, .cells cq 27), (Bm, .cells #[.int .i64 m] 3), (Bb, .cells #[.int .i64 a, .int .i64 b, .int .i64 c, .int .i64 d] 27)] ++ ((Bx, .cells #[.int .i64 a, .int .i64 b, .int .i64 c, .int .i64 d] 27) :: L)) →
      (∀ k j, k < 4 → j < 4 → cq[k * 4 + j]? = some (.int .i64 (qv j a b c d k))) →
      MainW Stop E' (G (at5 a b c d m Bb Bm Q An qc) ((base 4).at (at41 p len cap a b c d m Bx) (.inRegion ops41 [2, 3, 4, 5, 6, 7] :: [.code (c2 e0)]) :: [])) w') :
    MainW Stop E (G ((base 4).at (at40 p len cap a b c d m Bx) [.code e0]) []) w := by
  show Way _ _ _ _ _ _ _ _
  simp only [at40, e0, c2, body4, Try.f4, Option.getD_some]
  refine Way.ctl rfl (fun _ => stepG_seq) ?_
  refine Way.ctl rfl (fun _ => stepG_region) ?_
  simp only [List.size_toArray, List.length_cons, List.length_nil, Nat.reduceAdd, Nat.zero_add, List.range, List.range.loop]
  refine Way.load hH (.head _) rfl rfl (by decide) (op_load27 rfl rfl rfl rfl rfl rfl) ?_
  walk_nrm
  refine Way.op0 rfl rfl (by decide) (fun _ => by go_simp; rfl) (fun _ => by simp [go_sem]) ?_
  walk_nrm
  refine Way.enter (c := body7) rfl rfl (by decide) rfl Try.func7 (by kernel_rfl) rfl ?_
  walk_nrmf Try.f7
  exact splitA stab0 hH hv fun Bb Bm Q An qc cq E' w' h hq => k _ _ _ _ _ _ _ _ h hq
set_option maxRecDepth 100000 in
set_option maxHeartbeats 8000000 in
theorem law4n (hH : Has Try.prog.globals.size NoF E w ((Bx, .cells #[.int .i64 a, .int .i64 b, .int .i64 c, .int .i64 d] 27) :: L)) (hv : BV a b c d = false) :
    MainW (AtEndW Try.prog NoF fun v w => v = .bool true ∧ Holds L w) E (G ((base 4).at (at40 p len cap a b c d m Bx) [.code e0]) []) w := by
  show Way _ _ _ _ _ _ _ _
  simp only [at40, e0, c2, body4, Try.f4, Option.getD_some]
  refine Way.ctl rfl (fun _ => stepG_seq) ?_
  refine Way.ctl rfl (fun _ => stepG_region) ?_
  simp only [List.size_toArray, List.length_cons, List.length_nil, Nat.reduceAdd, Nat.zero_add, List.range, List.range.loop]
  refine Way.load hH (.head _) rfl rfl (by decide) (op_load27 rfl rfl rfl rfl rfl rfl) ?_
  walk_nrm
  refine Way.op0 rfl rfl (by decide) (fun _ => by go_simp; rfl) (fun _ => by simp [go_sem]) ?_
  walk_nrm
  refine Way.enter (c := body7) rfl rfl (by decide) rfl Try.func7 (by kernel_rfl) rfl ?_
  walk_nrmf Try.f7
  refine splitN stab0 hH hv fun S E w hH => ?_
  walk_nrm
  refine Way.op0 rfl rfl (by decide) (fun _ => by go_simp; rfl) (fun _ => by simp [go_sem]) ?_
  walk_nrm
  refine Way.op0 rfl rfl (by decide) (fun _ => by go_simp; rfl) (fun _ => by simp [go_sem]) ?_
  walk_nrm
  refine Way.op0 rfl rfl (by decide) (fun _ => by go_simp; rfl) (fun _ => by simp [go_sem]) ?_
  walk_nrm
  refine Way.op0 rfl rfl (by decide) (fun _ => by go_simp; rfl) (fun _ => by simp [go_sem]) ?_
  walk_nrm
  refine Way.op0 rfl rfl (by decide) (fun _ => by go_simp; rfl) (fun _ => by simp [go_sem]) ?_
  walk_nrm
  refine Way.ctl rfl (fun _ => stepG_region_end) ?_
  refine Way.ctl rfl (fun _ => stepG_seq) ?_
  refine Way.ctl rfl (fun _ => stepG_region) ?_
  simp only [List.size_toArray, List.length_cons, List.length_nil, Nat.reduceAdd, Nat.zero_add, List.range, List.range.loop]
  refine Way.load hH (.head _) rfl rfl (by decide) (op_load27 rfl rfl rfl rfl rfl rfl) ?_
  walk_nrm
  refine Way.op0 rfl rfl (by decide) (fun _ => by go_simp; rfl) (fun _ => by simp [go_sem]) ?_
  walk_nrm
  refine Way.call stab0 hH (f := 5) rfl (args := #[.agg #[.int .i64 a, .int .i64 b, .int .i64 c, .int .i64 d], .int .i64 m]) (ar_bxm a b c d m) (calls_splitN m hv) (fun _ _ _ h => by first | exact ⟨_, h.1⟩ | exact ⟨_, h.2.choose_spec.choose_spec.choose_spec.1⟩) rfl rfl (by decide) rfl (by simp [Act.eval, bx]) Try.func5 (by kernel_rfl) (by rfl) (fun v' E w hr => ?_)
  obtain ⟨W0, wc, cw, rfl, hBE, hEB, hBc, hz⟩ := hr.row
  replace hH := hr.has
  walk_nrm
  refine Way.op0 rfl rfl (by decide) (fun _ => by go_simp; rfl) (fun _ => by simp [go_sem]) ?_
  walk_nrm
  refine Way.op0 rfl rfl (by decide) (fun _ => by go_simp; rfl) (fun _ => by simp [go_sem]) ?_
  walk_nrm
  refine Way.op0 rfl rfl (by decide) (fun _ => by go_simp; rfl) (fun _ => by simp [go_sem]) ?_
  walk_nrm
  refine Way.op0 rfl rfl (by decide) (fun _ => by go_simp; rfl) (fun _ => by simp [go_sem]) ?_
  walk_nrm
  refine Way.op0 rfl rfl (by decide) (fun _ => by go_simp; rfl) (fun _ => by simp [go_sem]) ?_
  walk_nrm
  refine Way.ctl rfl (fun _ => stepG_region_end) ?_
  refine Way.ctl rfl (fun _ => stepG_seq) ?_
  refine Way.ctl rfl (fun _ => stepG_seq) ?_
  refine Way.ctl rfl (fun _ => stepG_region) ?_
  simp only [List.size_toArray, List.length_cons, List.length_nil, Nat.reduceAdd, Nat.zero_add, List.range, List.range.loop]
  refine Way.op0 rfl rfl (by decide) (fun _ => by go_simp; rfl) (fun _ => by simp [go_sem]) ?_
  walk_nrm
  refine Way.op0 rfl rfl (by decide) (fun _ => by go_simp; rfl) (fun _ => by simp [go_sem]) ?_
  walk_nrm
  refine Way.op2 rfl rfl (by decide) (op_neqB rfl rfl rfl) ?_
  walk_nrm
  refine Way.op0 rfl rfl (by decide) (fun _ => by go_simp; rfl) (fun _ => by simp [go_sem]) ?_
  walk_nrm
  refine Way.op0 rfl rfl (by decide) (fun _ => by go_simp; rfl) (fun _ => by simp [go_sem]) ?_
  walk_nrm
  refine Way.op0 rfl rfl (by decide) (fun _ => by go_simp; rfl) (fun _ => by simp [go_sem]) ?_
  walk_nrm
  refine Way.enter (c := body12') rfl rfl (by decide) rfl Try.func12 (by kernel_rfl) rfl ?_
  walk_nrmf Try.f12
  refine eq12_0 stab0 hH (fun E w hH => ?_)
  walk_nrm
  refine Way.op0 rfl rfl (by decide) (fun _ => by go_simp; rfl) (fun _ => by simp [go_sem]) ?_
  walk_nrm
  refine Way.op0 rfl rfl (by decide) (fun _ => by go_simp; rfl) (fun _ => by simp [go_sem]) ?_
  walk_nrm
  refine Way.op0 rfl rfl (by decide) (fun _ => by go_simp; rfl) (fun _ => by simp [go_sem]) ?_
  walk_nrm
  refine Way.op0 rfl rfl (by decide) (fun _ => by go_simp; rfl) (fun _ => by simp [go_sem]) ?_
  walk_nrm
  refine Way.op0 rfl rfl (by decide) (fun _ => by go_simp; rfl) (fun _ => by simp [go_sem]) ?_
  walk_nrm
  refine Way.op0 rfl rfl (by decide) (fun _ => by go_simp; rfl) (fun _ => by simp [go_sem]) ?_
  walk_nrm
  refine Way.ctl rfl (fun _ => stepG_region_end) ?_
  refine Way.ctl rfl (fun _ => stepG_cond (t := true) rfl) ?_
  simp only [if_true, if_false, Bool.false_eq_true, ↓reduceIte]
  refine Way.ctl rfl (fun _ => stepG_seq) ?_
  refine Way.ctl rfl (fun _ => stepG_region) ?_
  simp only [List.size_toArray, List.length_cons, List.length_nil, Nat.reduceAdd, Nat.zero_add, List.range, List.range.loop]
  refine Way.op0 rfl rfl (by decide) (fun _ => by go_simp; rfl) (fun _ => by simp [go_sem]) ?_
  walk_nrm
  refine Way.op0 rfl rfl (by decide) (fun _ => by go_simp; rfl) (fun _ => by simp [go_sem]) ?_
  walk_nrm
  refine Way.op2 rfl rfl (by decide) (op_eqlB rfl rfl rfl) ?_
  walk_nrm
  refine Way.op0 rfl rfl (by decide) (fun _ => by go_simp; rfl) (fun _ => by simp [go_sem]) ?_
  walk_nrm
  refine Way.op0 rfl rfl (by decide) (fun _ => by go_simp; rfl) (fun _ => by simp [go_sem]) ?_
  walk_nrm
  refine Way.op0 rfl rfl (by decide) (fun _ => by go_simp; rfl) (fun _ => by simp [go_sem]) ?_
  walk_nrm
  refine Way.enter (c := body12') rfl rfl (by decide) rfl Try.func12 (by kernel_rfl) rfl ?_
  walk_nrmf Try.f12
  refine eq12_0 stab0 hH (fun E w hH => ?_)
  walk_nrm
  refine Way.op0 rfl rfl (by decide) (fun _ => by go_simp; rfl) (fun _ => by simp [go_sem]) ?_
  walk_nrm
  refine Way.op0 rfl rfl (by decide) (fun _ => by go_simp; rfl) (fun _ => by simp [go_sem]) ?_
  walk_nrm
  refine Way.ctl rfl (fun _ => stepG_region_end) ?_
  refine Way.ctl rfl (fun _ => stepG_ret') ?_
  exact .stop fun w₁ h1 _ => done_tmp rfl rfl Try.func4 rfl (by kernel_rfl) ⟨rfl, (hH.moved h1).holds.tail⟩
end
end Go.Proofs.Ytjbpaejjpamcpaa.Sim
/- FnSplit: what its goroutine does alone behind CellSplit, to the end. -/
set_option linter.unusedSectionVars false
namespace Go.Proofs.Ytjbpaejjpamcpaa.Sim
set_option linter.unusedSimpArgs false
set_option linter.unusedVariables false
open Go Go.Conc Go.RowKit Go.Conc.Lib Go.ConcN.Gen Go.ConcR.Gen

section
variable {E : Nat → Prop} {w : World} {L : List (Nat × Obj)} {a b c d m : Int} {p : Option Addr} {len cap : Nat} {Bx S : Nat} {Stop : St}
set_option maxRecDepth 100000 in
set_option maxHeartbeats 8000000 in
theorem law4z (hH : Has Try.prog.globals.size NoF E w ((S, .cells #[.int .i64 (qst a b c d m 0), .int .i64 (qst a b c d m 1), .int .i64 (qst a b c d m 2), .int .i64 (qst a b c d m 3)] 3) :: (Bx, .cells #[.int .i64 a, .int .i64 b, .int .i64 c, .int .i64 d] 27) :: L)) (hv : BV a b c d = true) (hs : cstv a b c d m = 0) :
    MainW (AtEndW Try.prog NoF fun v w => v = .bool true ∧ Holds L w) E (G ((base 4).at ((at41 p len cap a b c d m Bx).put ((ops41[2]?).bind (·.dst)) (.tuple #[.slice (some ⟨S, 0, none⟩) 4 4, .bool true])) (.inRegion ops41 [3, 4, 5, 6, 7] :: [.code (c2 e0)])) []) w := by
  show Way _ _ _ _ _ _ _ _
  simp only [at41, ops41, e0, cops, c1, c2, body4, Try.f4, Option.getD_some]
  walk_nrm
  refine Way.op0 rfl rfl (by decide) (fun _ => by go_simp; rfl) (fun _ => by simp [go_sem]) ?_
  walk_nrm
  refine Way.op0 rfl rfl (by decide) (fun _ => by go_simp; rfl) (fun _ => by simp [go_sem]) ?_
  walk_nrm
  refine Way.op0 rfl rfl (by decide) (fun _ => by go_simp; rfl) (fun _ => by simp [go_sem]) ?_
  walk_nrm
  refine Way.op0 rfl rfl (by decide) (fun _ => by go_simp; rfl) (fun _ => by simp [go_sem]) ?_
  walk_nrm
  refine Way.op0 rfl rfl (by decide) (fun _ => by go_simp; rfl) (fun _ => by simp [go_sem]) ?_
  walk_nrm
  refine Way.ctl rfl (fun _ => stepG_region_end) ?_
  refine Way.ctl rfl (fun _ => stepG_seq) ?_
  refine Way.ctl rfl (fun _ => stepG_region) ?_
  simp only [List.size_toArray, List.length_cons, List.length_nil, Nat.reduceAdd, Nat.zero_add, List.range, List.range.loop]
  refine Way.load hH (.tail _ (.head _)) rfl rfl (by decide) (op_load27 rfl rfl rfl rfl rfl rfl) ?_
  walk_nrm
  refine Way.op0 rfl rfl (by decide) (fun _ => by go_simp; rfl) (fun _ => by simp [go_sem]) ?_
  walk_nrm
  refine Way.call stab0 hH (f := 5) rfl (args := #[.agg #[.int .i64 a, .int .i64 b, .int .i64 c, .int .i64 d], .int .i64 m]) (ar_bxm a b c d m) (calls_split m hv) (fun _ _ _ h => by first | exact ⟨_, h.1⟩ | exact ⟨_, h.2.choose_spec.choose_spec.choose_spec.1⟩) rfl rfl (by decide) rfl (by simp [Act.eval, bx]) Try.func5 (by kernel_rfl) (by rfl) (fun v' E w hr => ?_)
  obtain ⟨W0, wc, cw, rfl, hBE, hEB, hBc, hz⟩ := hr.row
  replace hH := hr.has.add hEB hBc (fun p hp => Nat.lt_of_lt_of_le (hH.lt hp) hBE)
  walk_nrm
  refine Way.op0 rfl rfl (by decide) (fun _ => by go_simp; rfl) (fun _ => by simp [go_sem]) ?_
  walk_nrm
  refine Way.op0 rfl rfl (by decide) (fun _ => by go_simp; rfl) (fun _ => by simp [go_sem]) ?_
  walk_nrm
  refine Way.op0 rfl rfl (by decide) (fun _ => by go_simp; rfl) (fun _ => by simp [go_sem]) ?_
  walk_nrm
  refine Way.op0 rfl rfl (by decide) (fun _ => by go_simp; rfl) (fun _ => by simp [go_sem]) ?_
  walk_nrm
  refine Way.op0 rfl rfl (by decide) (fun _ => by go_simp; rfl) (fun _ => by simp [go_sem]) ?_
  walk_nrm
  refine Way.ctl rfl (fun _ => stepG_region_end) ?_
  refine Way.ctl rfl (fun _ => stepG_seq) ?_
  refine Way.ctl rfl (fun _ => stepG_seq) ?_
  refine Way.ctl rfl (fun _ => stepG_region) ?_
  simp only [List.size_toArray, List.length_cons, List.length_nil, Nat.reduceAdd, Nat.zero_add, List.range, List.range.loop]
  refine Way.op0 rfl rfl (by decide) (fun _ => by go_simp; rfl) (fun _ => by simp [go_sem]) ?_
  walk_nrm
  refine Way.op0 rfl rfl (by decide) (fun _ => by go_simp; rfl) (fun _ => by simp [go_sem]) ?_
  walk_nrm
  refine Way.op2 rfl rfl (by decide) (op_neqB rfl rfl rfl) ?_
  walk_nrm
  refine Way.op0 rfl rfl (by decide) (fun _ => by go_simp; rfl) (fun _ => by simp [go_sem]) ?_
  walk_nrm
  refine Way.op0 rfl rfl (by decide) (fun _ => by go_simp; rfl) (fun _ => by simp [go_sem]) ?_
  walk_nrm
  refine Way.op0 rfl rfl (by decide) (fun _ => by go_simp; rfl) (fun _ => by simp [go_sem]) ?_
  walk_nrm
  refine Way.enter (c := body12') rfl rfl (by decide) rfl Try.func12 (by kernel_rfl) rfl ?_
  walk_nrmf Try.f12
  refine eq12_4 (z := fun i => qst a b c d m i) stab0 hH (.tail _ (.head _)) (.head _) (fun i hi => match i, hi with | 0, _ => rfl | 1, _ => rfl | 2, _ => rfl | 3, _ => rfl) (fun i hi => by have := hz i 0 hi (by decide); simpa using this) (fun E w hH => ?_)
  walk_nrm
  refine Way.op0 rfl rfl (by decide) (fun _ => by go_simp; rfl) (fun _ => by simp [go_sem]) ?_
  walk_nrm
  refine Way.op0 rfl rfl (by decide) (fun _ => by go_simp; rfl) (fun _ => by simp [go_sem]) ?_
  walk_nrm
  refine Way.op0 rfl rfl (by decide) (fun _ => by go_simp; rfl) (fun _ => by simp [go_sem]) ?_
  walk_nrm
  refine Way.op0 rfl rfl (by decide) (fun _ => by go_simp; rfl) (fun _ => by simp [go_sem]) ?_
  walk_nrm
  refine Way.op0 rfl rfl (by decide) (fun _ => by go_simp; rfl) (fun _ => by simp [go_sem]) ?_
  walk_nrm
  refine Way.op0 rfl rfl (by decide) (fun _ => by go_simp; rfl) (fun _ => by simp [go_sem]) ?_
  walk_nrm
  refine Way.ctl rfl (fun _ => stepG_region_end) ?_
  refine Way.ctl rfl (fun _ => stepG_cond (t := false) rfl) ?_
  simp only [if_true, if_false, Bool.false_eq_true, ↓reduceIte]
  refine Way.ctl rfl (fun _ => stepG_skip) ?_
  refine Way.ctl rfl (fun _ => stepG_seq) ?_
  refine Way.ctl rfl (fun _ => stepG_region) ?_
  simp only [List.size_toArray, List.length_cons, List.length_nil, Nat.reduceAdd, Nat.zero_add, List.range, List.range.loop]
  refine Way.load hH (.tail _ (.tail _ (.head _))) rfl rfl (by decide) (op_load27 rfl rfl rfl rfl rfl rfl) ?_
  walk_nrm
  refine Way.op0 rfl rfl (by decide) (fun _ => by go_simp; rfl) (fun _ => by simp [go_sem]) ?_
  walk_nrm
  refine Way.call stab0 hH (f := 13) rfl (args := #[.agg #[.int .i64 a, .int .i64 b, .int .i64 c, .int .i64 d], .int .i64 m]) (ar_bxm a b c d m) (calls_state a b c d m) (fun _ _ _ h => by first | exact ⟨_, h.1⟩ | exact ⟨_, h.2.choose_spec.choose_spec.choose_spec.1⟩) rfl rfl (by decide) rfl (by simp [Act.eval, bx]) Try.func13 (by kernel_rfl) (by rfl) (fun v' E w hr => ?_)
  obtain rfl := hr.two
  replace hH := hr.has
  rw [hv]
  generalize hsv : cstv a b c d m = sv at hs
  walk_nrm
  subst hs
  refine Way.op0 rfl rfl (by decide) (fun _ => by go_simp; rfl) (fun _ => by simp [go_sem]) ?_
  walk_nrm
  refine Way.op0 rfl rfl (by decide) (fun _ => by go_simp; rfl) (fun _ => by simp [go_sem]) ?_
  walk_nrm
  refine Way.op0 rfl rfl (by decide) (fun _ => by go_simp; rfl) (fun _ => by simp [go_sem]) ?_
  walk_nrm
  refine Way.op0 rfl rfl (by decide) (fun _ => by go_simp; rfl) (fun _ => by simp [go_sem]) ?_
  walk_nrm
  refine Way.op0 rfl rfl (by decide) (fun _ => by go_simp; rfl) (fun _ => by simp [go_sem]) ?_
  walk_nrm
  refine Way.ctl rfl (fun _ => stepG_region_end) ?_
  refine Way.ctl rfl (fun _ => stepG_seq) ?_
  refine Way.ctl rfl (fun _ => stepG_seq) ?_
  refine Way.ctl rfl (fun _ => stepG_region) ?_
  simp only [List.size_toArray, List.length_cons, List.length_nil, Nat.reduceAdd, Nat.zero_add, List.range, List.range.loop]
  refine Way.op0 rfl rfl (by decide) (fun _ => by go_simp; rfl) (fun _ => by simp [go_sem]) ?_
  walk_nrm
  refine Way.ctl rfl (fun _ => stepG_region_end) ?_
  refine Way.ctl rfl (fun _ => stepG_block) ?_
  refine Way.ctl rfl (fun _ => stepG_loop) ?_
  refine Way.ctl rfl (fun _ => stepG_seq) ?_
  refine Way.ctl rfl (fun _ => stepG_seq) ?_
  refine Way.ctl rfl (fun _ => stepG_region) ?_
  simp only [List.size_toArray, List.length_cons, List.length_nil, Nat.reduceAdd, Nat.zero_add, List.range, List.range.loop]
  refine Way.op0 rfl rfl (by decide) (fun _ => by go_simp; rfl) (fun _ => by simp [go_sem]) ?_
  walk_nrm
  refine Way.op0 rfl rfl (by decide) (fun _ => by go_simp; rfl) (fun _ => by simp [go_sem]) ?_
  walk_nrm
  refine Way.op0 rfl rfl (by decide) (fun _ => by go_simp; rfl) (fun _ => by simp [go_sem]) ?_
  walk_nrm
  refine Way.op0 rfl rfl (by decide) (fun _ => by go_simp; rfl) (fun _ => by simp [go_sem]) ?_
  walk_nrm
  refine Way.ctl rfl (fun _ => stepG_region_end) ?_
  refine Way.ctl rfl (fun _ => stepG_cond (t := true) rfl) ?_
  simp only [if_true, if_false, Bool.false_eq_true, ↓reduceIte]
  refine Way.ctl rfl (fun _ => stepG_skip) ?_
  refine Way.ctl rfl (fun _ => stepG_seq) ?_
  refine Way.ctl rfl (fun _ => stepG_block) ?_
  refine Way.ctl rfl (fun _ => stepG_seq) ?_
  refine Way.ctl rfl (fun _ => stepG_region) ?_
  simp only [List.size_toArray, List.length_cons, List.length_nil, Nat.reduceAdd, Nat.zero_add, List.range, List.range.loop]
  refine Way.op0 rfl rfl (by decide) (fun _ => by go_simp; rfl) (fun _ => by simp [go_sem]) ?_
  walk_nrm
  refine Way.op2 rfl rfl (by decide) (op_neqE rfl rfl rfl rfl) ?_
  walk_nrm
  refine Way.op0 rfl rfl (by decide) (fun _ => by go_simp; rfl) (fun _ => by simp [go_sem]) ?_
  walk_nrm
  refine Way.ctl rfl (fun _ => stepG_unwanted rfl rfl) ?_
  refine Way.ctl rfl (fun _ => stepG_unwanted rfl rfl) ?_
  refine Way.ctl rfl (fun _ => stepG_unwanted rfl rfl) ?_
  refine Way.ctl rfl (fun _ => stepG_unwanted rfl rfl) ?_
  refine Way.ctl rfl (fun _ => stepG_unwanted rfl rfl) ?_
  refine Way.ctl rfl (fun _ => stepG_unwanted rfl rfl) ?_
  refine Way.op0 rfl rfl (by decide) (fun _ => by go_simp; rfl) (fun _ => by simp [go_sem]) ?_
  walk_nrm
  refine Way.ctl rfl (fun _ => stepG_region_end) ?_
  refine Way.ctl rfl (fun _ => stepG_cond (t := false) rfl) ?_
  simp only [if_true, if_false, Bool.false_eq_true, ↓reduceIte]
  refine Way.ctl rfl (fun _ => stepG_skip) ?_
  refine Way.ctl rfl (fun _ => stepG_inBlock) ?_
  refine Way.ctl rfl (fun _ => stepG_region) ?_
  simp only [List.size_toArray, List.length_cons, List.length_nil, Nat.reduceAdd, Nat.zero_add, List.range, List.range.loop]
  refine Way.op0 rfl rfl (by decide) (fun _ => by go_simp; rfl) (fun _ => by simp [go_sem]) ?_
  walk_nrm
  refine Way.op0 rfl rfl (by decide) (fun _ => by go_simp; rfl) (fun _ => by simp [go_sem]) ?_
  walk_nrm
  refine Way.op0 rfl rfl (by decide) (fun _ => by go_simp; rfl) (fun _ => by simp [go_sem]) ?_
  walk_nrm
  refine Way.ctl rfl (fun _ => stepG_region_end) ?_
  refine Way.ctl rfl (fun _ => stepG_inLoop) ?_
  refine Way.ctl rfl (fun _ => stepG_seq) ?_
  refine Way.ctl rfl (fun _ => stepG_seq) ?_
  refine Way.ctl rfl (fun _ => stepG_region) ?_
  simp only [List.size_toArray, List.length_cons, List.length_nil, Nat.reduceAdd, Nat.zero_add, List.range, List.range.loop]
  refine Way.op0 rfl rfl (by decide) (fun _ => by go_simp; rfl) (fun _ => by simp [go_sem]) ?_
  walk_nrm
  refine Way.op0 rfl rfl (by decide) (fun _ => by go_simp; rfl) (fun _ => by simp [go_sem]) ?_
  walk_nrm
  refine Way.op0 rfl rfl (by decide) (fun _ => by go_simp; rfl) (fun _ => by simp [go_sem]) ?_
  walk_nrm
  refine Way.op0 rfl rfl (by decide) (fun _ => by go_simp; rfl) (fun _ => by simp [go_sem]) ?_
  walk_nrm
  refine Way.ctl rfl (fun _ => stepG_region_end) ?_
  refine Way.ctl rfl (fun _ => stepG_cond (t := true) rfl) ?_
  simp only [if_true, if_false, Bool.false_eq_true, ↓reduceIte]
  refine Way.ctl rfl (fun _ => stepG_skip) ?_
  refine Way.ctl rfl (fun _ => stepG_seq) ?_
  refine Way.ctl rfl (fun _ => stepG_block) ?_
  refine Way.ctl rfl (fun _ => stepG_seq) ?_
  refine Way.ctl rfl (fun _ => stepG_region) ?_
  simp only [List.size_toArray, List.length_cons, List.length_nil, Nat.reduceAdd, Nat.zero_add, List.range, List.range.loop]
  refine Way.op0 rfl rfl (by decide) (fun _ => by go_simp; rfl) (fun _ => by simp [go_sem]) ?_
  walk_nrm
  refine Way.op2 rfl rfl (by decide) (op_neqE rfl rfl rfl rfl) ?_
  walk_nrm
  refine Way.op0 rfl rfl (by decide) (fun _ => by go_simp; rfl) (fun _ => by simp [go_sem]) ?_
  walk_nrm
  refine Way.ctl rfl (fun _ => stepG_unwanted rfl rfl) ?_
  refine Way.ctl rfl (fun _ => stepG_unwanted rfl rfl) ?_
  refine Way.ctl rfl (fun _ => stepG_unwanted rfl rfl) ?_
  refine Way.ctl rfl (fun _ => stepG_unwanted rfl rfl) ?_
  refine Way.ctl rfl (fun _ => stepG_unwanted rfl rfl) ?_
  refine Way.ctl rfl (fun _ => stepG_unwanted rfl rfl) ?_
  refine Way.op0 rfl rfl (by decide) (fun _ => by go_simp; rfl) (fun _ => by simp [go_sem]) ?_
  walk_nrm
  refine Way.ctl rfl (fun _ => stepG_region_end) ?_
  refine Way.ctl rfl (fun _ => stepG_cond (t := false) rfl) ?_
  simp only [if_true, if_false, Bool.false_eq_true, ↓reduceIte]
  refine Way.ctl rfl (fun _ => stepG_skip) ?_
  refine Way.ctl rfl (fun _ => stepG_inBlock) ?_
  refine Way.ctl rfl (fun _ => stepG_region) ?_
  simp only [List.size_toArray, List.length_cons, List.length_nil, Nat.reduceAdd, Nat.zero_add, List.range, List.range.loop]
  refine Way.op0 rfl rfl (by decide) (fun _ => by go_simp; rfl) (fun _ => by simp [go_sem]) ?_
  walk_nrm
  refine Way.op0 rfl rfl (by decide) (fun _ => by go_simp; rfl) (fun _ => by simp [go_sem]) ?_
  walk_nrm
  refine Way.op0 rfl rfl (by decide) (fun _ => by go_simp; rfl) (fun _ => by simp [go_sem]) ?_
  walk_nrm
  refine Way.ctl rfl (fun _ => stepG_region_end) ?_
  refine Way.ctl rfl (fun _ => stepG_inLoop) ?_
  refine Way.ctl rfl (fun _ => stepG_seq) ?_
  refine Way.ctl rfl (fun _ => stepG_seq) ?_
  refine Way.ctl rfl (fun _ => stepG_region) ?_
  simp only [List.size_toArray, List.length_cons, List.length_nil, Nat.reduceAdd, Nat.zero_add, List.range, List.range.loop]
  refine Way.op0 rfl rfl (by decide) (fun _ => by go_simp; rfl) (fun _ => by simp [go_sem]) ?_
  walk_nrm
  refine Way.op0 rfl rfl (by decide) (fun _ => by go_simp; rfl) (fun _ => by simp [go_sem]) ?_
  walk_nrm
  refine Way.op0 rfl rfl (by decide) (fun _ => by go_simp; rfl) (fun _ => by simp [go_sem]) ?_
  walk_nrm
  refine Way.op0 rfl rfl (by decide) (fun _ => by go_simp; rfl) (fun _ => by simp [go_sem]) ?_
  walk_nrm
  refine Way.ctl rfl (fun _ => stepG_region_end) ?_
  refine Way.ctl rfl (fun _ => stepG_cond (t := true) rfl) ?_
  simp only [if_true, if_false, Bool.false_eq_true, ↓reduceIte]
  refine Way.ctl rfl (fun _ => stepG_skip) ?_
  refine Way.ctl rfl (fun _ => stepG_seq) ?_
  refine Way.ctl rfl (fun _ => stepG_block) ?_
  refine Way.ctl rfl (fun _ => stepG_seq) ?_
  refine Way.ctl rfl (fun _ => stepG_region) ?_
  simp only [List.size_toArray, List.length_cons, List.length_nil, Nat.reduceAdd, Nat.zero_add, List.range, List.range.loop]
  refine Way.op0 rfl rfl (by decide) (fun _ => by go_simp; rfl) (fun _ => by simp [go_sem]) ?_
  walk_nrm
  refine Way.op2 rfl rfl (by decide) (op_neqE rfl rfl rfl rfl) ?_
  walk_nrm
  refine Way.op0 rfl rfl (by decide) (fun _ => by go_simp; rfl) (fun _ => by simp [go_sem]) ?_
  walk_nrm
  refine Way.ctl rfl (fun _ => stepG_unwanted rfl rfl) ?_
  refine Way.ctl rfl (fun _ => stepG_unwanted rfl rfl) ?_
  refine Way.ctl rfl (fun _ => stepG_unwanted rfl rfl) ?_
  refine Way.ctl rfl (fun _ => stepG_unwanted rfl rfl) ?_
  refine Way.ctl rfl (fun _ => stepG_unwanted rfl rfl) ?_
  refine Way.ctl rfl (fun _ => stepG_unwanted rfl rfl) ?_
  refine Way.op0 rfl rfl (by decide) (fun _ => by go_simp; rfl) (fun _ => by simp [go_sem]) ?_
  walk_nrm
  refine Way.ctl rfl (fun _ => stepG_region_end) ?_
  refine Way.ctl rfl (fun _ => stepG_cond (t := false) rfl) ?_
  simp only [if_true, if_false, Bool.false_eq_true, ↓reduceIte]
  refine Way.ctl rfl (fun _ => stepG_skip) ?_
  refine Way.ctl rfl (fun _ => stepG_inBlock) ?_
  refine Way.ctl rfl (fun _ => stepG_region) ?_
  simp only [List.size_toArray, List.length_cons, List.length_nil, Nat.reduceAdd, Nat.zero_add, List.range, List.range.loop]
  refine Way.op0 rfl rfl (by decide) (fun _ => by go_simp; rfl) (fun _ => by simp [go_sem]) ?_
  walk_nrm
  refine Way.op0 rfl rfl (by decide) (fun _ => by go_simp; rfl) (fun _ => by simp [go_sem]) ?_
  walk_nrm
  refine Way.op0 rfl rfl (by decide) (fun _ => by go_simp; rfl) (fun _ => by simp [go_sem]) ?_
  walk_nrm
  refine Way.ctl rfl (fun _ => stepG_region_end) ?_
  refine Way.ctl rfl (fun _ => stepG_inLoop) ?_
  refine Way.ctl rfl (fun _ => stepG_seq) ?_
  refine Way.ctl rfl (fun _ => stepG_seq) ?_
  refine Way.ctl rfl (fun _ => stepG_region) ?_
  simp only [List.size_toArray, List.length_cons, List.length_nil, Nat.reduceAdd, Nat.zero_add, List.range, List.range.loop]
  refine Way.op0 rfl rfl (by decide) (fun _ => by go_simp; rfl) (fun _ => by simp [go_sem]) ?_
  walk_nrm
  refine Way.op0 rfl rfl (by decide) (fun _ => by go_simp; rfl) (fun _ => by simp [go_sem]) ?_
  walk_nrm
  refine Way.op0 rfl rfl (by decide) (fun _ => by go_simp; rfl) (fun _ => by simp [go_sem]) ?_
  walk_nrm
  refine Way.op0 rfl rfl (by decide) (fun _ => by go_simp; rfl) (fun _ => by simp [go_sem]) ?_
  walk_nrm
  refine Way.ctl rfl (fun _ => stepG_region_end) ?_
  refine Way.ctl rfl (fun _ => stepG_cond (t := true) rfl) ?_
  simp only [if_true, if_false, Bool.false_eq_true, ↓reduceIte]
  refine Way.ctl rfl (fun _ => stepG_skip) ?_
  refine Way.ctl rfl (fun _ => stepG_seq) ?_
  refine Way.ctl rfl (fun _ => stepG_block) ?_
  refine Way.ctl rfl (fun _ => stepG_seq) ?_
  refine Way.ctl rfl (fun _ => stepG_region) ?_
  simp only [List.size_toArray, List.length_cons, List.length_nil, Nat.reduceAdd, Nat.zero_add, List.range, List.range.loop]
  refine Way.op0 rfl rfl (by decide) (fun _ => by go_simp; rfl) (fun _ => by simp [go_sem]) ?_
  walk_nrm
  refine Way.op2 rfl rfl (by decide) (op_neqE rfl rfl rfl rfl) ?_
  walk_nrm
  refine Way.op0 rfl rfl (by decide) (fun _ => by go_simp; rfl) (fun _ => by simp [go_sem]) ?_
  walk_nrm
  refine Way.ctl rfl (fun _ => stepG_unwanted rfl rfl) ?_
  refine Way.ctl rfl (fun _ => stepG_unwanted rfl rfl) ?_
  refine Way.ctl rfl (fun _ => stepG_unwanted rfl rfl) ?_
  refine Way.ctl rfl (fun _ => stepG_unwanted rfl rfl) ?_
  refine Way.ctl rfl (fun _ => stepG_unwanted rfl rfl) ?_
  refine Way.ctl rfl (fun _ => stepG_unwanted rfl rfl) ?_
  refine Way.op0 rfl rfl (by decide) (fun _ => by go_simp; rfl) (fun _ => by simp [go_sem]) ?_
  walk_nrm
  refine Way.ctl rfl (fun _ => stepG_region_end) ?_
  refine Way.ctl rfl (fun _ => stepG_cond (t := false) rfl) ?_
  simp only [if_true, if_false, Bool.false_eq_true, ↓reduceIte]
  refine Way.ctl rfl (fun _ => stepG_skip) ?_
  refine Way.ctl rfl (fun _ => stepG_inBlock) ?_
  refine Way.ctl rfl (fun _ => stepG_region) ?_
  simp only [List.size_toArray, List.length_cons, List.length_nil, Nat.reduceAdd, Nat.zero_add, List.range, List.range.loop]
  refine Way.op0 rfl rfl (by decide) (fun _ => by go_simp; rfl) (fun _ => by simp [go_sem]) ?_
  walk_nrm
  refine Way.op0 rfl rfl (by decide) (fun _ => by go_simp; rfl) (fun _ => by simp [go_sem]) ?_
  walk_nrm
  refine Way.op0 rfl rfl (by decide) (fun _ => by go_simp; rfl) (fun _ => by simp [go_sem]) ?_
  walk_nrm
  refine Way.ctl rfl (fun _ => stepG_region_end) ?_
  refine Way.ctl rfl (fun _ => stepG_inLoop) ?_
  refine Way.ctl rfl (fun _ => stepG_seq) ?_
  refine Way.ctl rfl (fun _ => stepG_seq) ?_
  refine Way.ctl rfl (fun _ => stepG_region) ?_
  simp only [List.size_toArray, List.length_cons, List.length_nil, Nat.reduceAdd, Nat.zero_add, List.range, List.range.loop]
  refine Way.op0 rfl rfl (by decide) (fun _ => by go_simp; rfl) (fun _ => by simp [go_sem]) ?_
  walk_nrm
  refine Way.op0 rfl rfl (by decide) (fun _ => by go_simp; rfl) (fun _ => by simp [go_sem]) ?_
  walk_nrm
  refine Way.op0 rfl rfl (by decide) (fun _ => by go_simp; rfl) (fun _ => by simp [go_sem]) ?_
  walk_nrm
  refine Way.op0 rfl rfl (by decide) (fun _ => by go_simp; rfl) (fun _ => by simp [go_sem]) ?_
  walk_nrm
  refine Way.ctl rfl (fun _ => stepG_region_end) ?_
  refine Way.ctl rfl (fun _ => stepG_cond (t := false) rfl) ?_
  simp only [if_true, if_false, Bool.false_eq_true, ↓reduceIte]
  refine Way.ctl rfl (fun _ => stepG_exit rfl) ?_
  refine Way.ctl rfl (fun _ => stepG_seq) ?_
  refine Way.ctl rfl (fun _ => stepG_region) ?_
  simp only [List.size_toArray, List.length_cons, List.length_nil, Nat.reduceAdd, Nat.zero_add, List.range, List.range.loop]
  refine Way.op0 rfl rfl (by decide) (fun _ => by go_simp; rfl) (fun _ => by simp [go_sem]) ?_
  walk_nrm
  refine Way.op0 rfl rfl (by decide) (fun _ => by go_simp; rfl) (fun _ => by simp [go_sem]) ?_
  walk_nrm
  refine Way.op0 rfl rfl (by decide) (fun _ => by go_simp; rfl) (fun _ => by simp [go_sem]) ?_
  walk_nrm
  refine Way.op0 rfl rfl (by decide) (fun _ => by go_simp; rfl) (fun _ => by simp [go_sem]) ?_
  walk_nrm
  refine Way.op0 rfl rfl (by decide) (fun _ => by go_simp; rfl) (fun _ => by simp [go_sem]) ?_
  walk_nrm
  refine Way.op0 rfl rfl (by decide) (fun _ => by go_simp; rfl) (fun _ => by simp [go_sem]) ?_
  walk_nrm
  refine Way.op0 rfl rfl (by decide) (fun _ => by go_simp; rfl) (fun _ => by simp [go_sem]) ?_
  walk_nrm
  refine Way.ctl rfl (fun _ => stepG_region_end) ?_
  refine Way.ctl rfl (fun _ => stepG_ret') ?_
  exact .stop fun w₁ h1 _ => done_tmp rfl rfl Try.func4 rfl (by kernel_rfl) ⟨rfl, (hH.moved h1).holds.tail.tail.tail⟩
set_option maxRecDepth 100000 in
set_option maxHeartbeats 8000000 in
theorem law4s (hH : Has Try.prog.globals.size NoF E w ((S, .cells #[.int .i64 (qst a b c d m 0), .int .i64 (qst a b c d m 1), .int .i64 (qst a b c d m 2), .int .i64 (qst a b c d m 3)] 3) :: (Bx, .cells #[.int .i64 a, .int .i64 b, .int .i64 c, .int .i64 d] 27) :: L)) (hv : BV a b c d = true) (hs : cstv a b c d m ≠ 0) (hq : ∀ i : Nat, i < 4 → qst a b c d m i = cstv a b c d m) :
    MainW (AtEndW Try.prog NoF fun v w => v = .bool true ∧ Holds L w) E (G ((base 4).at ((at41 p len cap a b c d m Bx).put ((ops41[2]?).bind (·.dst)) (.tuple #[.slice (some ⟨S, 0, none⟩) 4 4, .bool true])) (.inRegion ops41 [3, 4, 5, 6, 7] :: [.code (c2 e0)])) []) w := by
  show Way _ _ _ _ _ _ _ _
  simp only [at41, ops41, e0, cops, c1, c2, body4, Try.f4, Option.getD_some]
  walk_nrm
  refine Way.op0 rfl rfl (by decide) (fun _ => by go_simp; rfl) (fun _ => by simp [go_sem]) ?_
  walk_nrm
  refine Way.op0 rfl rfl (by decide) (fun _ => by go_simp; rfl) (fun _ => by simp [go_sem]) ?_
  walk_nrm
  refine Way.op0 rfl rfl (by decide) (fun _ => by go_simp; rfl) (fun _ => by simp [go_sem]) ?_
  walk_nrm
  refine Way.op0 rfl rfl (by decide) (fun _ => by go_simp; rfl) (fun _ => by simp [go_sem]) ?_
  walk_nrm
  refine Way.op0 rfl rfl (by decide) (fun _ => by go_simp; rfl) (fun _ => by simp [go_sem]) ?_
  walk_nrm
  refine Way.ctl rfl (fun _ => stepG_region_end) ?_
  refine Way.ctl rfl (fun _ => stepG_seq) ?_
  refine Way.ctl rfl (fun _ => stepG_region) ?_
  simp only [List.size_toArray, List.length_cons, List.length_nil, Nat.reduceAdd, Nat.zero_add, List.range, List.range.loop]
  refine Way.load hH (.tail _ (.head _)) rfl rfl (by decide) (op_load27 rfl rfl rfl rfl rfl rfl) ?_
  walk_nrm
  refine Way.op0 rfl rfl (by decide) (fun _ => by go_simp; rfl) (fun _ => by simp [go_sem]) ?_
  walk_nrm
  refine Way.call stab0 hH (f := 5) rfl (args := #[.agg #[.int .i64 a, .int .i64 b, .int .i64 c, .int .i64 d], .int .i64 m]) (ar_bxm a b c d m) (calls_split m hv) (fun _ _ _ h => by first | exact ⟨_, h.1⟩ | exact ⟨_, h.2.choose_spec.choose_spec.choose_spec.1⟩) rfl rfl (by decide) rfl (by simp [Act.eval, bx]) Try.func5 (by kernel_rfl) (by rfl) (fun v' E w hr => ?_)
  obtain ⟨W0, wc, cw, rfl, hBE, hEB, hBc, hz⟩ := hr.row
  replace hH := hr.has.add hEB hBc (fun p hp => Nat.lt_of_lt_of_le (hH.lt hp) hBE)
  walk_nrm
  refine Way.op0 rfl rfl (by decide) (fun _ => by go_simp; rfl) (fun _ => by simp [go_sem]) ?_
  walk_nrm
  refine Way.op0 rfl rfl (by decide) (fun _ => by go_simp; rfl) (fun _ => by simp [go_sem]) ?_
  walk_nrm
  refine Way.op0 rfl rfl (by decide) (fun _ => by go_simp; rfl) (fun _ => by simp [go_sem]) ?_
  walk_nrm
  refine Way.op0 rfl rfl (by decide) (fun _ => by go_simp; rfl) (fun _ => by simp [go_sem]) ?_
  walk_nrm
  refine Way.op0 rfl rfl (by decide) (fun _ => by go_simp; rfl) (fun _ => by simp [go_sem]) ?_
  walk_nrm
  refine Way.ctl rfl (fun _ => stepG_region_end) ?_
  refine Way.ctl rfl (fun _ => stepG_seq) ?_
  refine Way.ctl rfl (fun _ => stepG_seq) ?_
  refine Way.ctl rfl (fun _ => stepG_region) ?_
  simp only [List.size_toArray, List.length_cons, List.length_nil, Nat.reduceAdd, Nat.zero_add, List.range, List.range.loop]
  refine Way.op0 rfl rfl (by decide) (fun _ => by go_simp; rfl) (fun _ => by simp [go_sem]) ?_
  walk_nrm
  refine Way.op0 rfl rfl (by decide) (fun _ => by go_simp; rfl) (fun _ => by simp [go_sem]) ?_
  walk_nrm
  refine Way.op2 rfl rfl (by decide) (op_neqB rfl rfl rfl) ?_
  walk_nrm
  refine Way.op0 rfl rfl (by decide) (fun _ => by go_simp; rfl) (fun _ => by simp [go_sem]) ?_
  walk_nrm
  refine Way.op0 rfl rfl (by decide) (fun _ => by go_simp; rfl) (fun _ => by simp [go_sem]) ?_
  walk_nrm
  refine Way.op0 rfl rfl (by decide) (fun _ => by go_simp; rfl) (fun _ => by simp [go_sem]) ?_
  walk_nrm
  refine Way.enter (c := body12') rfl rfl (by decide) rfl Try.func12 (by kernel_rfl) rfl ?_
  walk_nrmf Try.f12
  refine eq12_4 (z := fun i => qst a b c d m i) stab0 hH (.tail _ (.head _)) (.head _) (fun i hi => match i, hi with | 0, _ => rfl | 1, _ => rfl | 2, _ => rfl | 3, _ => rfl) (fun i hi => by have := hz i 0 hi (by decide); simpa using this) (fun E w hH => ?_)
  walk_nrm
  refine Way.op0 rfl rfl (by decide) (fun _ => by go_simp; rfl) (fun _ => by simp [go_sem]) ?_
  walk_nrm
  refine Way.op0 rfl rfl (by decide) (fun _ => by go_simp; rfl) (fun _ => by simp [go_sem]) ?_
  walk_nrm
  refine Way.op0 rfl rfl (by decide) (fun _ => by go_simp; rfl) (fun _ => by simp [go_sem]) ?_
  walk_nrm
  refine Way.op0 rfl rfl (by decide) (fun _ => by go_simp; rfl) (fun _ => by simp [go_sem]) ?_
  walk_nrm
  refine Way.op0 rfl rfl (by decide) (fun _ => by go_simp; rfl) (fun _ => by simp [go_sem]) ?_
  walk_nrm
  refine Way.op0 rfl rfl (by decide) (fun _ => by go_simp; rfl) (fun _ => by simp [go_sem]) ?_
  walk_nrm
  refine Way.ctl rfl (fun _ => stepG_region_end) ?_
  refine Way.ctl rfl (fun _ => stepG_cond (t := false) rfl) ?_
  simp only [if_true, if_false, Bool.false_eq_true, ↓reduceIte]
  refine Way.ctl rfl (fun _ => stepG_skip) ?_
  refine Way.ctl rfl (fun _ => stepG_seq) ?_
  refine Way.ctl rfl (fun _ => stepG_region) ?_
  simp only [List.size_toArray, List.length_cons, List.length_nil, Nat.reduceAdd, Nat.zero_add, List.range, List.range.loop]
  refine Way.load hH (.tail _ (.tail _ (.head _))) rfl rfl (by decide) (op_load27 rfl rfl rfl rfl rfl rfl) ?_
  walk_nrm
  refine Way.op0 rfl rfl (by decide) (fun _ => by go_simp; rfl) (fun _ => by simp [go_sem]) ?_
  walk_nrm
  refine Way.call stab0 hH (f := 13) rfl (args := #[.agg #[.int .i64 a, .int .i64 b, .int .i64 c, .int .i64 d], .int .i64 m]) (ar_bxm a b c d m) (calls_state a b c d m) (fun _ _ _ h => by first | exact ⟨_, h.1⟩ | exact ⟨_, h.2.choose_spec.choose_spec.choose_spec.1⟩) rfl rfl (by decide) rfl (by simp [Act.eval, bx]) Try.func13 (by kernel_rfl) (by rfl) (fun v' E w hr => ?_)
  obtain rfl := hr.two
  replace hH := hr.has
  rw [hv]
  generalize hsv : cstv a b c d m = sv at hs hq
  walk_nrm
  refine Way.op0 rfl rfl (by decide) (fun _ => by go_simp; rfl) (fun _ => by simp [go_sem]) ?_
  walk_nrm
  refine Way.op0 rfl rfl (by decide) (fun _ => by go_simp; rfl) (fun _ => by simp [go_sem]) ?_
  walk_nrm
  refine Way.op0 rfl rfl (by decide) (fun _ => by go_simp; rfl) (fun _ => by simp [go_sem]) ?_
  walk_nrm
  refine Way.op0 rfl rfl (by decide) (fun _ => by go_simp; rfl) (fun _ => by simp [go_sem]) ?_
  walk_nrm
  refine Way.op0 rfl rfl (by decide) (fun _ => by go_simp; rfl) (fun _ => by simp [go_sem]) ?_
  walk_nrm
  refine Way.ctl rfl (fun _ => stepG_region_end) ?_
  refine Way.ctl rfl (fun _ => stepG_seq) ?_
  refine Way.ctl rfl (fun _ => stepG_seq) ?_
  refine Way.ctl rfl (fun _ => stepG_region) ?_
  simp only [List.size_toArray, List.length_cons, List.length_nil, Nat.reduceAdd, Nat.zero_add, List.range, List.range.loop]
  refine Way.op0 rfl rfl (by decide) (fun _ => by go_simp; rfl) (fun _ => by simp [go_sem]) ?_
  walk_nrm
  refine Way.ctl rfl (fun _ => stepG_region_end) ?_
  refine Way.ctl rfl (fun _ => stepG_block) ?_
  refine Way.ctl rfl (fun _ => stepG_loop) ?_
  refine Way.ctl rfl (fun _ => stepG_seq) ?_
  refine Way.ctl rfl (fun _ => stepG_seq) ?_
  refine Way.ctl rfl (fun _ => stepG_region) ?_
  simp only [List.size_toArray, List.length_cons, List.length_nil, Nat.reduceAdd, Nat.zero_add, List.range, List.range.loop]
  refine Way.op0 rfl rfl (by decide) (fun _ => by go_simp; rfl) (fun _ => by simp [go_sem]) ?_
  walk_nrm
  refine Way.op0 rfl rfl (by decide) (fun _ => by go_simp; rfl) (fun _ => by simp [go_sem]) ?_
  walk_nrm
  refine Way.op0 rfl rfl (by decide) (fun _ => by go_simp; rfl) (fun _ => by simp [go_sem]) ?_
  walk_nrm
  refine Way.op0 rfl rfl (by decide) (fun _ => by go_simp; rfl) (fun _ => by simp [go_sem]) ?_
  walk_nrm
  refine Way.ctl rfl (fun _ => stepG_region_end) ?_
  refine Way.ctl rfl (fun _ => stepG_cond (t := true) rfl) ?_
  simp only [if_true, if_false, Bool.false_eq_true, ↓reduceIte]
  refine Way.ctl rfl (fun _ => stepG_skip) ?_
  refine Way.ctl rfl (fun _ => stepG_seq) ?_
  refine Way.ctl rfl (fun _ => stepG_block) ?_
  refine Way.ctl rfl (fun _ => stepG_seq) ?_
  refine Way.ctl rfl (fun _ => stepG_region) ?_
  simp only [List.size_toArray, List.length_cons, List.length_nil, Nat.reduceAdd, Nat.zero_add, List.range, List.range.loop]
  refine Way.op0 rfl rfl (by decide) (fun _ => by go_simp; rfl) (fun _ => by simp [go_sem]) ?_
  walk_nrm
  refine Way.op2 rfl rfl (by decide) (op_neqI rfl rfl rfl hs) ?_
  walk_nrm
  refine Way.op0 rfl rfl (by decide) (fun _ => by go_simp; rfl) (fun _ => by simp [go_sem]) ?_
  walk_nrm
  refine Way.op0 rfl rfl (by decide) (fun _ => by go_simp; rfl) (fun _ => by simp [go_sem]) ?_
  walk_nrm
  refine Way.op0 rfl rfl (by decide) (fun _ => by go_simp; rfl) (fun _ => by simp [go_sem]) ?_
  walk_nrm
  refine Way.op2 rfl rfl (by decide) (op_iaddr24 (j := 0) rfl rfl rfl (by decide)) ?_
  walk_nrm
  refine Way.load hH (.tail _ (.head _)) rfl rfl (by decide) (op_load1 (.inl rfl) rfl rfl rfl) ?_
  walk_nrm
  refine Way.op0 rfl rfl (by decide) (fun _ => by go_simp; rfl) (fun _ => by simp [go_sem]) ?_
  walk_nrm
  refine Way.op2 rfl rfl (by decide) (op_neqE rfl rfl rfl (hq 0 (by decide))) ?_
  walk_nrm
  refine Way.op0 rfl rfl (by decide) (fun _ => by go_simp; rfl) (fun _ => by simp [go_sem]) ?_
  walk_nrm
  refine Way.ctl rfl (fun _ => stepG_region_end) ?_
  refine Way.ctl rfl (fun _ => stepG_cond (t := false) rfl) ?_
  simp only [if_true, if_false, Bool.false_eq_true, ↓reduceIte]
  refine Way.ctl rfl (fun _ => stepG_skip) ?_
  refine Way.ctl rfl (fun _ => stepG_inBlock) ?_
  refine Way.ctl rfl (fun _ => stepG_region) ?_
  simp only [List.size_toArray, List.length_cons, List.length_nil, Nat.reduceAdd, Nat.zero_add, List.range, List.range.loop]
  refine Way.op0 rfl rfl (by decide) (fun _ => by go_simp; rfl) (fun _ => by simp [go_sem]) ?_
  walk_nrm
  refine Way.op0 rfl rfl (by decide) (fun _ => by go_simp; rfl) (fun _ => by simp [go_sem]) ?_
  walk_nrm
  refine Way.op0 rfl rfl (by decide) (fun _ => by go_simp; rfl) (fun _ => by simp [go_sem]) ?_
  walk_nrm
  refine Way.ctl rfl (fun _ => stepG_region_end) ?_
  refine Way.ctl rfl (fun _ => stepG_inLoop) ?_
  refine Way.ctl rfl (fun _ => stepG_seq) ?_
  refine Way.ctl rfl (fun _ => stepG_seq) ?_
  refine Way.ctl rfl (fun _ => stepG_region) ?_
  simp only [List.size_toArray, List.length_cons, List.length_nil, Nat.reduceAdd, Nat.zero_add, List.range, List.range.loop]
  refine Way.op0 rfl rfl (by decide) (fun _ => by go_simp; rfl) (fun _ => by simp [go_sem]) ?_
  walk_nrm
  refine Way.op0 rfl rfl (by decide) (fun _ => by go_simp; rfl) (fun _ => by simp [go_sem]) ?_
  walk_nrm
  refine Way.op0 rfl rfl (by decide) (fun _ => by go_simp; rfl) (fun _ => by simp [go_sem]) ?_
  walk_nrm
  refine Way.op0 rfl rfl (by decide) (fun _ => by go_simp; rfl) (fun _ => by simp [go_sem]) ?_
  walk_nrm
  refine Way.ctl rfl (fun _ => stepG_region_end) ?_
  refine Way.ctl rfl (fun _ => stepG_cond (t := true) rfl) ?_
  simp only [if_true, if_false, Bool.false_eq_true, ↓reduceIte]
  refine Way.ctl rfl (fun _ => stepG_skip) ?_
  refine Way.ctl rfl (fun _ => stepG_seq) ?_
  refine Way.ctl rfl (fun _ => stepG_block) ?_
  refine Way.ctl rfl (fun _ => stepG_seq) ?_
  refine Way.ctl rfl (fun _ => stepG_region) ?_
  simp only [List.size_toArray, List.length_cons, List.length_nil, Nat.reduceAdd, Nat.zero_add, List.range, List.range.loop]
  refine Way.op0 rfl rfl (by decide) (fun _ => by go_simp; rfl) (fun _ => by simp [go_sem]) ?_
  walk_nrm
  refine Way.op2 rfl rfl (by decide) (op_neqI rfl rfl rfl hs) ?_
  walk_nrm
  refine Way.op0 rfl rfl (by decide) (fun _ => by go_simp; rfl) (fun _ => by simp [go_sem]) ?_
  walk_nrm
  refine Way.op0 rfl rfl (by decide) (fun _ => by go_simp; rfl) (fun _ => by simp [go_sem]) ?_
  walk_nrm
  refine Way.op0 rfl rfl (by decide) (fun _ => by go_simp; rfl) (fun _ => by simp [go_sem]) ?_
  walk_nrm
  refine Way.op2 rfl rfl (by decide) (op_iaddr24 (j := 1) rfl rfl rfl (by decide)) ?_
  walk_nrm
  refine Way.load hH (.tail _ (.head _)) rfl rfl (by decide) (op_load1 (.inl rfl) rfl rfl rfl) ?_
  walk_nrm
  refine Way.op0 rfl rfl (by decide) (fun _ => by go_simp; rfl) (fun _ => by simp [go_sem]) ?_
  walk_nrm
  refine Way.op2 rfl rfl (by decide) (op_neqE rfl rfl rfl (hq 1 (by decide))) ?_
  walk_nrm
  refine Way.op0 rfl rfl (by decide) (fun _ => by go_simp; rfl) (fun _ => by simp [go_sem]) ?_
  walk_nrm
  refine Way.ctl rfl (fun _ => stepG_region_end) ?_
  refine Way.ctl rfl (fun _ => stepG_cond (t := false) rfl) ?_
  simp only [if_true, if_false, Bool.false_eq_true, ↓reduceIte]
  refine Way.ctl rfl (fun _ => stepG_skip) ?_
  refine Way.ctl rfl (fun _ => stepG_inBlock) ?_
  refine Way.ctl rfl (fun _ => stepG_region) ?_
  simp only [List.size_toArray, List.length_cons, List.length_nil, Nat.reduceAdd, Nat.zero_add, List.range, List.range.loop]
  refine Way.op0 rfl rfl (by decide) (fun _ => by go_simp; rfl) (fun _ => by simp [go_sem]) ?_
  walk_nrm
  refine Way.op0 rfl rfl (by decide) (fun _ => by go_simp; rfl) (fun _ => by simp [go_sem]) ?_
  walk_nrm
  refine Way.op0 rfl rfl (by decide) (fun _ => by go_simp; rfl) (fun _ => by simp [go_sem]) ?_
  walk_nrm
  refine Way.ctl rfl (fun _ => stepG_region_end) ?_
  refine Way.ctl rfl (fun _ => stepG_inLoop) ?_
  refine Way.ctl rfl (fun _ => stepG_seq) ?_
  refine Way.ctl rfl (fun _ => stepG_seq) ?_
  refine Way.ctl rfl (fun _ => stepG_region) ?_
  simp only [List.size_toArray, List.length_cons, List.length_nil, Nat.reduceAdd, Nat.zero_add, List.range, List.range.loop]
  refine Way.op0 rfl rfl (by decide) (fun _ => by go_simp; rfl) (fun _ => by simp [go_sem]) ?_
  walk_nrm
  refine Way.op0 rfl rfl (by decide) (fun _ => by go_simp; rfl) (fun _ => by simp [go_sem]) ?_
  walk_nrm
  refine Way.op0 rfl rfl (by decide) (fun _ => by go_simp; rfl) (fun _ => by simp [go_sem]) ?_
  walk_nrm
  refine Way.op0 rfl rfl (by decide) (fun _ => by go_simp; rfl) (fun _ => by simp [go_sem]) ?_
  walk_nrm
  refine Way.ctl rfl (fun _ => stepG_region_end) ?_
  refine Way.ctl rfl (fun _ => stepG_cond (t := true) rfl) ?_
  simp only [if_true, if_false, Bool.false_eq_true, ↓reduceIte]
  refine Way.ctl rfl (fun _ => stepG_skip) ?_
  refine Way.ctl rfl (fun _ => stepG_seq) ?_
  refine Way.ctl rfl (fun _ => stepG_block) ?_
  refine Way.ctl rfl (fun _ => stepG_seq) ?_
  refine Way.ctl rfl (fun _ => stepG_region) ?_
  simp only [List.size_toArray, List.length_cons, List.length_nil, Nat.reduceAdd, Nat.zero_add, List.range, List.range.loop]
  refine Way.op0 rfl rfl (by decide) (fun _ => by go_simp; rfl) (fun _ => by simp [go_sem]) ?_
  walk_nrm
  refine Way.op2 rfl rfl (by decide) (op_neqI rfl rfl rfl hs) ?_
  walk_nrm
  refine Way.op0 rfl rfl (by decide) (fun _ => by go_simp; rfl) (fun _ => by simp [go_sem]) ?_
  walk_nrm
  refine Way.op0 rfl rfl (by decide) (fun _ => by go_simp; rfl) (fun _ => by simp [go_sem]) ?_
  walk_nrm
  refine Way.op0 rfl rfl (by decide) (fun _ => by go_simp; rfl) (fun _ => by simp [go_sem]) ?_
  walk_nrm
  refine Way.op2 rfl rfl (by decide) (op_iaddr24 (j := 2) rfl rfl rfl (by decide)) ?_
  walk_nrm
  refine Way.load hH (.tail _ (.head _)) rfl rfl (by decide) (op_load1 (.inl rfl) rfl rfl rfl) ?_
  walk_nrm
  refine Way.op0 rfl rfl (by decide) (fun _ => by go_simp; rfl) (fun _ => by simp [go_sem]) ?_
  walk_nrm
  refine Way.op2 rfl rfl (by decide) (op_neqE rfl rfl rfl (hq 2 (by decide))) ?_
  walk_nrm
  refine Way.op0 rfl rfl (by decide) (fun _ => by go_simp; rfl) (fun _ => by simp [go_sem]) ?_
  walk_nrm
  refine Way.ctl rfl (fun _ => stepG_region_end) ?_
  refine Way.ctl rfl (fun _ => stepG_cond (t := false) rfl) ?_
  simp only [if_true, if_false, Bool.false_eq_true, ↓reduceIte]
  refine Way.ctl rfl (fun _ => stepG_skip) ?_
  refine Way.ctl rfl (fun _ => stepG_inBlock) ?_
  refine Way.ctl rfl (fun _ => stepG_region) ?_
  simp only [List.size_toArray, List.length_cons, List.length_nil, Nat.reduceAdd, Nat.zero_add, List.range, List.range.loop]
  refine Way.op0 rfl rfl (by decide) (fun _ => by go_simp; rfl) (fun _ => by simp [go_sem]) ?_
  walk_nrm
  refine Way.op0 rfl rfl (by decide) (fun _ => by go_simp; rfl) (fun _ => by simp [go_sem]) ?_
  walk_nrm
  refine Way.op0 rfl rfl (by decide) (fun _ => by go_simp; rfl) (fun _ => by simp [go_sem]) ?_
  walk_nrm
  refine Way.ctl rfl (fun _ => stepG_region_end) ?_
  refine Way.ctl rfl (fun _ => stepG_inLoop) ?_
  refine Way.ctl rfl (fun _ => stepG_seq) ?_
  refine Way.ctl rfl (fun _ => stepG_seq) ?_
  refine Way.ctl rfl (fun _ => stepG_region) ?_
  simp only [List.size_toArray, List.length_cons, List.length_nil, Nat.reduceAdd, Nat.zero_add, List.range, List.range.loop]
  refine Way.op0 rfl rfl (by decide) (fun _ => by go_simp; rfl) (fun _ => by simp [go_sem]) ?_
  walk_nrm
  refine Way.op0 rfl rfl (by decide) (fun _ => by go_simp; rfl) (fun _ => by simp [go_sem]) ?_
  walk_nrm
  refine Way.op0 rfl rfl (by decide) (fun _ => by go_simp; rfl) (fun _ => by simp [go_sem]) ?_
  walk_nrm
  refine Way.op0 rfl rfl (by decide) (fun _ => by go_simp; rfl) (fun _ => by simp [go_sem]) ?_
  walk_nrm
  refine Way.ctl rfl (fun _ => stepG_region_end) ?_
  refine Way.ctl rfl (fun _ => stepG_cond (t := true) rfl) ?_
  simp only [if_true, if_false, Bool.false_eq_true, ↓reduceIte]
  refine Way.ctl rfl (fun _ => stepG_skip) ?_
  refine Way.ctl rfl (fun _ => stepG_seq) ?_
  refine Way.ctl rfl (fun _ => stepG_block) ?_
  refine Way.ctl rfl (fun _ => stepG_seq) ?_
  refine Way.ctl rfl (fun _ => stepG_region) ?_
  simp only [List.size_toArray, List.length_cons, List.length_nil, Nat.reduceAdd, Nat.zero_add, List.range, List.range.loop]
  refine Way.op0 rfl rfl (by decide) (fun _ => by go_simp; rfl) (fun _ => by simp [go_sem]) ?_
  walk_nrm
  refine Way.op2 rfl rfl (by decide) (op_neqI rfl rfl rfl hs) ?_
  walk_nrm
  refine Way.op0 rfl rfl (by decide) (fun _ => by go_simp; rfl) (fun _ => by simp [go_sem]) ?_
  walk_nrm
  refine Way.op0 rfl rfl (by decide) (fun _ => by go_simp; rfl) (fun _ => by simp [go_sem]) ?_
  walk_nrm
  refine Way.op0 rfl rfl (by decide) (fun _ => by go_simp; rfl) (fun _ => by simp [go_sem]) ?_
  walk_nrm
  refine Way.op2 rfl rfl (by decide) (op_iaddr24 (j := 3) rfl rfl rfl (by decide)) ?_
  walk_nrm
  refine Way.load hH (.tail _ (.head _)) rfl rfl (by decide) (op_load1 (.inl rfl) rfl rfl rfl) ?_
  walk_nrm
  refine Way.op0 rfl rfl (by decide) (fun _ => by go_simp; rfl) (fun _ => by simp [go_sem]) ?_
  walk_nrm
  refine Way.op2 rfl rfl (by decide) (op_neqE rfl rfl rfl (hq 3 (by decide))) ?_
  walk_nrm
  refine Way.op0 rfl rfl (by decide) (fun _ => by go_simp; rfl) (fun _ => by simp [go_sem]) ?_
  walk_nrm
  refine Way.ctl rfl (fun _ => stepG_region_end) ?_
  refine Way.ctl rfl (fun _ => stepG_cond (t := false) rfl) ?_
  simp only [if_true, if_false, Bool.false_eq_true, ↓reduceIte]
  refine Way.ctl rfl (fun _ => stepG_skip) ?_
  refine Way.ctl rfl (fun _ => stepG_inBlock) ?_
  refine Way.ctl rfl (fun _ => stepG_region) ?_
  simp only [List.size_toArray, List.length_cons, List.length_nil, Nat.reduceAdd, Nat.zero_add, List.range, List.range.loop]
  refine Way.op0 rfl rfl (by decide) (fun _ => by go_simp; rfl) (fun _ => by simp [go_sem]) ?_
  walk_nrm
  refine Way.op0 rfl rfl (by decide) (fun _ => by go_simp; rfl) (fun _ => by simp [go_sem]) ?_
  walk_nrm
  refine Way.op0 rfl rfl (by decide) (fun _ => by go_simp; rfl) (fun _ => by simp [go_sem]) ?_
  walk_nrm
  refine Way.ctl rfl (fun _ => stepG_region_end) ?_
  refine Way.ctl rfl (fun _ => stepG_inLoop) ?_
  refine Way.ctl rfl (fun _ => stepG_seq) ?_
  refine Way.ctl rfl (fun _ => stepG_seq) ?_
  refine Way.ctl rfl (fun _ => stepG_region) ?_
  simp only [List.size_toArray, List.length_cons, List.length_nil, Nat.reduceAdd, Nat.zero_add, List.range, List.range.loop]
  refine Way.op0 rfl rfl (by decide) (fun _ => by go_simp; rfl) (fun _ => by simp [go_sem]) ?_
  walk_nrm
  refine Way.op0 rfl rfl (by decide) (fun _ => by go_simp; rfl) (fun _ => by simp [go_sem]) ?_
  walk_nrm
  refine Way.op0 rfl rfl (by decide) (fun _ => by go_simp; rfl) (fun _ => by simp [go_sem]) ?_
  walk_nrm
  refine Way.op0 rfl rfl (by decide) (fun _ => by go_simp; rfl) (fun _ => by simp [go_sem]) ?_
  walk_nrm
  refine Way.ctl rfl (fun _ => stepG_region_end) ?_
  refine Way.ctl rfl (fun _ => stepG_cond (t := false) rfl) ?_
  simp only [if_true, if_false, Bool.false_eq_true, ↓reduceIte]
  refine Way.ctl rfl (fun _ => stepG_exit rfl) ?_
  refine Way.ctl rfl (fun _ => stepG_seq) ?_
  refine Way.ctl rfl (fun _ => stepG_region) ?_
  simp only [List.size_toArray, List.length_cons, List.length_nil, Nat.reduceAdd, Nat.zero_add, List.range, List.range.loop]
  refine Way.op0 rfl rfl (by decide) (fun _ => by go_simp; rfl) (fun _ => by simp [go_sem]) ?_
  walk_nrm
  refine Way.op0 rfl rfl (by decide) (fun _ => by go_simp; rfl) (fun _ => by simp [go_sem]) ?_
  walk_nrm
  refine Way.op0 rfl rfl (by decide) (fun _ => by go_simp; rfl) (fun _ => by simp [go_sem]) ?_
  walk_nrm
  refine Way.op0 rfl rfl (by decide) (fun _ => by go_simp; rfl) (fun _ => by simp [go_sem]) ?_
  walk_nrm
  refine Way.op0 rfl rfl (by decide) (fun _ => by go_simp; rfl) (fun _ => by simp [go_sem]) ?_
  walk_nrm
  refine Way.op0 rfl rfl (by decide) (fun _ => by go_simp; rfl) (fun _ => by simp [go_sem]) ?_
  walk_nrm
  refine Way.op0 rfl rfl (by decide) (fun _ => by go_simp; rfl) (fun _ => by simp [go_sem]) ?_
  walk_nrm
  refine Way.ctl rfl (fun _ => stepG_region_end) ?_
  refine Way.ctl rfl (fun _ => stepG_ret') ?_
  exact .stop fun w₁ h1 _ => done_tmp rfl rfl Try.func4 rfl (by kernel_rfl) ⟨rfl, (hH.moved h1).holds.tail.tail.tail⟩
end
end Go.Proofs.Ytjbpaejjpamcpaa.Sim
