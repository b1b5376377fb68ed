import Derived.Test.YtjbpaejjpamcpaaMCm
import Derived.Test.YtjbpaejjpamcpaaCd1
import Derived.Conc.WgWords
/- The worker of CellSplit: from its birth to its release: it reads what it was handed, gets the state of its quarter, sends it; then Done. -/
set_option linter.unusedSectionVars false
namespace Go.Proofs.Ytjbpaejjpamcpaa.Sim
set_option linter.unusedSimpArgs false
set_option linter.unusedVariables false
open Go Go.Conc Go.RowKit Go.Conc.Lib Go.ConcN.Gen Go.ConcR.Gen
open Go.ConcN (WgLive)

theorem live_lt {ty : TypeId} {Wg : Nat} {w : World} (h : WgLive ty Wg w) : Wg < w.heap.size := by
  obtain ⟨st, sm, h⟩ := h
  exact (Array.getElem?_eq_some_iff.1 h).1
theorem live_ne {ty : TypeId} {Wg c : Nat} {w : World} {n s r : Nat} {buf : Array Value} {cl tm : Bool} (h : WgLive ty Wg w) (hc : w.heap[c]? = some (.chan n buf cl s r tm)) : Wg ≠ c := by
  rintro rfl
  obtain ⟨st, sm, h⟩ := h
  unfold Go.ConcR.WgAt Go.ConcR.wgBlock at h
  rw [hc] at h; cases h
theorem stabW {ty : TypeId} {Wg : Nat} {F : Nat → Prop} {W : World} (hF : ∀ b, F b → b < W.heap.size) : Stab (fun b => b = Wg ∨ F b) (InvW ty Wg F W) := by
  refine ⟨fun w w' h hi => ⟨?_, fun b hb => (h b (.inr hb)).trans (hi.2 b hb)⟩, fun w b hi hb => ?_⟩
  · obtain ⟨st, sm, hl⟩ := hi.1
    exact ⟨st, sm, hl.of_block (h Wg (.inl rfl))⟩
  · rcases hb with rfl | hb
    · exact live_lt hi.1
    · have := hi.2 b hb
      rw [Array.getElem?_eq_getElem (hF b hb)] at this
      exact (Array.getElem?_eq_some_iff.1 this).1

theorem flat_bx (a b c d : Int) : flatB (bx a b c d) = true := by simp [flatB, bx, atomB]
theorem ar_bxm {S : FuncId → Prop} {r : Ren} (a b c d m : Int) : AR S r #[bx a b c d, .int .i64 m] #[bx a b c d, .int .i64 m] := AR.ofList (.cons (flat_refl (flat_bx a b c d)) (.cons (.int _ _) .nil))
theorem ar_bx1 {S : FuncId → Prop} {r : Ren} (a b c d : Int) : AR S r #[bx a b c d] #[bx a b c d] := AR.ofList (.cons (flat_refl (flat_bx a b c d)) .nil)
def b18 : Frame := baseD 18
noncomputable def bot18 : Frame := { (default : Frame) with fn := Try.prog.funcs.size, defers := [], mode := .panicking [goexitEntry] }
noncomputable def body18 : Code := Try.f18.body.getD .skip
/-- The go statement's call. -/
def call18 (Wg Bq Bm Ba : Nat) : Deferred := { target := .fn (.func 18) #[.pointer (some ⟨Wg, 0, none⟩), .pointer (some ⟨Bq, 0, none⟩), .pointer (some ⟨Bm, 0, none⟩), .pointer (some ⟨Ba, 0, none⟩)], args := #[] }

/-- The literal's own way out, once Done has left: it only leaves. -/
theorem quits18 (T : Array Value) : QuitsD Try.prog 2 0 (G { b18.at ⟨T, []⟩ [] with mode := .returning } [bot18]) := by
  refine QuitsD.ctl (g' := G bot18 []) rfl (fun w => ?_) ?_
  · simp [G, stepG, unwind, doReturn, results, Frame.at, b18, baseD, bot18, Try.func18, Try.f18, seen, GStep.after, goexitEntry]
  refine QuitsD.ctl (g' := { G bot18 [] with status := .finished }) rfl (fun w => ?_) ⟨rfl, rfl⟩
  simp [G, stepG, unwind, bot18, goexitEntry, Frame.catches]
  rfl
theorem born18 (Wg Bq Bm Ba : Nat) (w : World) : stepG Try.prog false (born Try.prog (call18 Wg Bq Bm Ba)) w =
    .go (G (b18.at ⟨#[.pointer (some ⟨Wg, 0, none⟩), .pointer (some ⟨Bq, 0, none⟩), .pointer (some ⟨Bm, 0, none⟩), .pointer (some ⟨Ba, 0, none⟩), undef, undef, undef, undef, undef, undef, undef, undef, undef, undef], []⟩ [.code body18]) [bot18]) w #[] := by
  simp [born, call18, stepG, unwind, callDeferred, invoke, callFunc, Try.func18, Try.f18, seen, GStep.after, G, Frame.enter, Frame.at, b18, baseD, bot18, body18]

set_option maxRecDepth 100000 in
set_option maxHeartbeats 4000000 in
theorem works18 {Wg Bq Bm Ba c : Nat} {x0 x1 x2 x3 m : Int} {F : Nat → Prop} {W : World} (hFq : F Bq) (hFm : F Bm) (hFa : F Ba) (hFo : ∀ b, F b → b < W.heap.size ∧ b ≠ c) (hG : Try.prog.globals.size ≤ W.heap.size) (hlive : WgLive 51 Wg W)
    (hq : W.heap[Bq]? = some (.cells #[.int .i64 x0, .int .i64 x1, .int .i64 x2, .int .i64 x3] 27)) (hm : W.heap[Bm]? = some (.cells #[.int .i64 m] 3)) (ha : W.heap[Ba]? = some (.cells #[.chan (some c)] 52)) (hc : W.heap[c]? = some (.chan 1 #[] false 0 0 false)) :
    Way Try.prog false F (InvW 51 Wg F W) (SR0 Try.prog 51 Wg F W c (.int .i64 (cstv x0 x1 x2 x3 m))) (fun b => b = c) (born Try.prog (call18 Wg Bq Bm Ba)) W := by
  have hI := stabW (ty := 51) (Wg := Wg) (fun b hb => (hFo b hb).1)
  have hH : Has Try.prog.globals.size (fun b => b = Wg ∨ F b) (fun b => b = c) W [(c, .chan 1 #[] false 0 0 false)] := ⟨fun p hp => by simp at hp; subst hp; exact ⟨rfl, hc⟩, by simp, fun b hb e => by
    rcases hb with rfl | hb
    · exact live_ne hlive hc e
    · exact (hFo b hb).2 e, fun b hb => by subst hb; exact (Array.getElem?_eq_some_iff.1 hc).1, hG⟩
  refine Way.ctl rfl (fun w => born18 Wg Bq Bm Ba w) ?_
  simp only [body18, Try.f18, Option.getD_some]
  refine Way.ctl rfl (fun _ => stepG_seq) ?_
  refine Way.ctl rfl (fun _ => stepG_region) ?_
  simp only [List.size_toArray, List.length_cons, List.length_nil, Nat.reduceAdd, Nat.zero_add, List.range, List.range.loop]
  refine Way.ctl rfl (fun _ => stepG_defer rfl rfl (by decide) rfl) ?_
  walk_nrm
  refine Way.ctl rfl (fun _ => stepG_region_end) ?_
  refine Way.ctl rfl (fun _ => stepG_seq) ?_
  refine Way.ctl rfl (fun _ => stepG_region) ?_
  simp only [List.size_toArray, List.length_cons, List.length_nil, Nat.reduceAdd, Nat.zero_add, List.range, List.range.loop]
  refine Way.loadFr (fun w hi => (hi.2 Bq hFq).trans hq) hFq rfl rfl (by decide) (op_load27 rfl rfl rfl rfl rfl rfl) ?_
  walk_nrm
  refine Way.loadFr (fun w hi => (hi.2 Bm hFm).trans hm) hFm rfl rfl (by decide) (op_load1 (.inl rfl) rfl rfl rfl) ?_
  walk_nrm
  refine Way.call hI hH (f := 13) rfl (args := #[bx x0 x1 x2 x3, .int .i64 m]) (ar_bxm x0 x1 x2 x3 m) (calls_state x0 x1 x2 x3 m) (fun _ _ _ h => ⟨_, h.1⟩) rfl rfl (by decide) rfl (by simp [Act.eval, bx]) Try.func13 (by kernel_rfl) (by rfl) (fun v' E' w' hr => ?_)
  obtain rfl := hr.two
  walk_nrm
  refine Way.op0 rfl rfl (by decide) (fun _ => by go_simp; rfl) (fun _ => by simp [go_sem]) ?_
  walk_nrm
  refine Way.op0 rfl rfl (by decide) (fun _ => by go_simp; rfl) (fun _ => by simp [go_sem]) ?_
  walk_nrm
  refine Way.op0 rfl rfl (by decide) (fun _ => by go_simp; rfl) (fun _ => by simp [go_sem]) ?_
  walk_nrm
  refine Way.op0 rfl rfl (by decide) (fun _ => by go_simp; rfl) (fun _ => by simp [go_sem]) ?_
  walk_nrm
  refine Way.op0 rfl rfl (by decide) (fun _ => by go_simp; rfl) (fun _ => by simp [go_sem]) ?_
  walk_nrm
  refine Way.ctl rfl (fun _ => stepG_region_end) ?_
  refine Way.ctl rfl (fun _ => stepG_region) ?_
  simp only [List.size_toArray, List.length_cons, List.length_nil, Nat.reduceAdd, Nat.zero_add, List.range, List.range.loop]
  refine Way.loadFr (fun w hi => (hi.2 Ba hFa).trans ha) hFa rfl rfl (by decide) (op_load1 (.inr rfl) rfl rfl rfl) ?_
  walk_nrm
  refine Way.op0 rfl rfl (by decide) (fun _ => by go_simp; rfl) (fun _ => by simp [go_sem]) ?_
  walk_nrm
  refine Way.send (v := .int .i64 (cstv x0 x1 x2 x3 m)) (z := undef) hI hr.has rfl rfl (by decide) (by decide) (fun _ => by go_simp; rfl) (fun _ => by simp [go_sem]) (fun w' hH => ?_)
  walk_nrm
  refine Way.ctl rfl (fun _ => stepG_region_end) ?_
  refine Way.ctl rfl (fun _ => stepG_end) ?_
  refine Way.ctl rfl (fun _ => stepG_unwind_enter rfl Try.func19 (nm_done lnk) rfl) ?_
  walk_nrmf Try.f19
  refine Way.rely fun w₁ h1 hi => ?_
  have hc₁ := (hH.moved h1).head
  have hA := @doneS lnk Try.prog wgLib Wg c F W E' (.int .i64 (cstv x0 x1 x2 x3 m)) hc₁.1
  simp only [body_done, doneFn, Option.getD_some] at hA
  refine (way_of_goes _ _ _ (hA rfl (quits18 _) w₁ ⟨hi.1, hc₁.2⟩)).mono fun _ g w ⟨e, h⟩ => ?_
  subst e
  exact h
end Go.Proofs.Ytjbpaejjpamcpaa.Sim
/- CellSplit: from its entry to where its group is laid; the whole of it at an invalid box. -/
set_option linter.unusedSectionVars false
namespace Go.Proofs.Ytjbpaejjpamcpaa.Sim
set_option linter.unusedSimpArgs false
set_option linter.unusedVariables false
open Go Go.Conc Go.RowKit Go.Conc.Lib Go.ConcN.Gen Go.ConcR.Gen
open Go.ConcN (WgLive)

section
variable {P : Program} {mn : Bool} {Fr : Nat → Prop} {Inv : World → Prop} {Stop : (Nat → Prop) → Goroutine → World → Prop} {E : Nat → Prop} {g g' : Goroutine} {w : World} {b b₀ : Frame} {a a₀ : Act} {kk : List Item} {cs : List Frame} {ops : Array Oper} {i : Nat} {rest : List Nat} {o : Oper}
/-- A step told by 'goes'. -/
theorem Way.goes (hs : g.status = .running) (h : ∀ w, (stepG P mn g w).goes fun g₁ w' es => g₁ = g' ∧ w' = w ∧ es = #[]) (k : Way P mn Fr Inv Stop E g' w) : Way P mn Fr Inv Stop E g w := by
  refine .ctl hs (fun w => ?_) k
  have := h w
  cases e : stepG P mn g w with
  | go g₁ w' es => rw [e] at this; obtain ⟨rfl, rfl, rfl⟩ := this; rfl
  | _ => rw [e] at this; exact this.elim
/-- A call walked in place. -/
theorem Way.enter {f : FuncId} {fn : Func} {c : Code} {aa : Array Operand} {ats : Array TypeId} (ho : ops[i]? = some o) (hw : Region.wanted o (yielded ops a.tmps) = true) (hk : b.kind ≠ .early) (hop : o.op = .call { callee := .value (.func f), args := aa, argTypes := ats })
    (hf : P.funcs[f]? = some fn) (hname : (fn.name == "runtime.NumGoroutine") = false) (hb : fn.body = some c)
    (k : Way P mn Fr Inv Stop E (G ((base f).at { tmps := aa.map a.eval ++ Array.replicate (fn.ntmps - (aa.map a.eval).size) undef, defers := [] } [.code c]) (b.at a (.inRegion ops (i :: rest) :: kk) :: cs)) w) :
    Way P mn Fr Inv Stop E (G (b.at a (.inRegion ops (i :: rest) :: kk)) cs) w :=
  .goes rfl (fun _ => goes_call ho hw hk hop hf hname hb ⟨rfl, rfl, rfl⟩) k
theorem Way.leave1 {fn : Func} {todo : List Item} {t : Tmp} (hn : b.kind = .normal) (hd : a.defers = []) (hf : P.funcs[b.fn]? = some fn) (hr : fn.results = #[.tmp t])
    (k : Way P mn Fr Inv Stop E (G (b₀.at (a₀.put ((ops[i]?).bind (·.dst)) (a.tmps.getD t undef)) (.inRegion ops rest :: kk)) cs) w) :
    Way P mn Fr Inv Stop E (G { b.at a todo with mode := .returning } (b₀.at a₀ (.inRegion ops (i :: rest) :: kk) :: cs)) w :=
  .goes rfl (fun _ => goes_leave1 hn hd hf hr ⟨rfl, rfl, rfl⟩) k
theorem Way.leave2 {fn : Func} {todo : List Item} {t u : Tmp} (hn : b.kind = .normal) (hd : a.defers = []) (hf : P.funcs[b.fn]? = some fn) (hr : fn.results = #[.tmp t, .tmp u])
    (k : Way P mn Fr Inv Stop E (G (b₀.at (a₀.put ((ops[i]?).bind (·.dst)) (.tuple #[a.tmps.getD t undef, a.tmps.getD u undef])) (.inRegion ops rest :: kk)) cs) w) :
    Way P mn Fr Inv Stop E (G { b.at a todo with mode := .returning } (b₀.at a₀ (.inRegion ops (i :: rest) :: kk) :: cs)) w :=
  .goes rfl (fun _ => goes_leave2 hn hd hf hr ⟨rfl, rfl, rfl⟩) k
end
/-- Parts of a code. -/
def c1 : Code → Code
  | .seq a _ => a
  | .block _ a => a
  | .loop a => a
  | _ => .skip
def c2 : Code → Code
  | .seq _ b => b
  | _ => .skip
def cops : Code → Array Oper
  | .region _ o _ => o
  | _ => #[]
noncomputable def body7 : Code := Try.f7.body.getD .skip
noncomputable def c5 : Code := c2 (c2 (c2 (c2 body7)))
noncomputable def at5 (a b c d m : Int) (Bb Bm Q An qc : Nat) : Frame := (base 7).at ⟨#[bx a b c d, .int .i64 m, .pointer (some ⟨Bb, 0, none⟩), .pointer (some ⟨Bm, 0, none⟩), .slice none 0 0, .bool false, .slice (some ⟨Q, 0, none⟩) 4 qc, .bool true, .slice (some ⟨An, 0, none⟩) 4 4, undef, undef, undef, undef, undef, undef, undef, .tuple #[.slice (some ⟨Q, 0, none⟩) 4 qc, .bool true], bx a b c d, .tuple #[.slice (some ⟨Q, 0, none⟩) 4 qc, .bool true], .slice (some ⟨Q, 0, none⟩) 4 qc, .bool true, .bool true, .bool false, undef, .slice (some ⟨Q, 0, none⟩) 4 qc, .int .i64 4, .slice (some ⟨An, 0, none⟩) 4 4, undef, undef, undef, undef, undef, undef, undef, undef, undef, undef, undef, undef, undef, undef, undef, undef, undef, undef, undef, undef, undef, undef, undef, undef, undef, undef, undef, undef, undef, undef, undef, undef], []⟩ [.inRegion (cops (c1 c5)) [0], .code (c2 c5)]
section
variable {Fr : Nat → Prop} {Inv : World → Prop} {Stop : (Nat → Prop) → Goroutine → World → Prop} {E : Nat → Prop} {w : World} {Fx : Nat → Prop} {L : List (Nat × Obj)} {b₀ : Frame} {a₀ : Act} {ops₀ : Array Oper} {i₀ : Nat} {rest₀ : List Nat} {k₀ : List Item} {cs : List Frame}
set_option maxRecDepth 100000 in
set_option maxHeartbeats 4000000 in
theorem splitN (hI : Stab Fx Inv) (hH : Has Try.prog.globals.size Fx E w L) {a b c d m : Int} (hv : BV a b c d = false)
    (k : ∀ B E' w', Has Try.prog.globals.size Fx E' w' L → Way Try.prog true Fr Inv Stop E' (G (b₀.at (a₀.put ((ops₀[i₀]?).bind (·.dst)) (.tuple #[.slice (some ⟨B, 0, none⟩) 0 0, .bool false])) (.inRegion ops₀ rest₀ :: k₀)) cs) w') :
    Way Try.prog true Fr Inv Stop E (G ((base 7).at ⟨#[bx a b c d, .int .i64 m, undef, undef, undef, undef, undef, undef, undef, undef, undef, undef, undef, undef, undef, undef, undef, undef, undef, undef, undef, undef, undef, undef, undef, undef, undef, undef, undef, undef, undef, undef, undef, undef, undef, undef, undef, undef, undef, undef, undef, undef, undef, undef, undef, undef, undef, undef, undef, undef, undef, undef, undef, undef, undef, undef, undef, undef, undef], []⟩ [.code body7]) (b₀.at a₀ (.inRegion ops₀ (i₀ :: rest₀) :: k₀) :: cs)) w := by
  simp only [body7, Try.f7, Option.getD_some]
  refine Way.ctl rfl (fun _ => stepG_seq) ?_
  refine Way.ctl rfl (fun _ => stepG_region) ?_
  simp only [List.size_toArray, List.length_cons, List.length_nil, Nat.reduceAdd, Nat.zero_add, List.range, List.range.loop]
  refine Way.alloc (f := fun B => .pointer (some ⟨B, 0, none⟩)) hI hH rfl rfl (by decide) (op_box27 rfl rfl) (fun Bb E w hH hBb => ?_)
  walk_nrm
  refine Way.alloc (f := fun B => .pointer (some ⟨B, 0, none⟩)) hI hH rfl rfl (by decide) (op_box3 rfl rfl) (fun Bm E w hH hBm => ?_)
  walk_nrm
  refine Way.op0 rfl rfl (by decide) (fun _ => by go_simp; rfl) (fun _ => by simp [go_sem]) ?_
  walk_nrm
  refine Way.op0 rfl rfl (by decide) (fun _ => by go_simp; rfl) (fun _ => by simp [go_sem]) ?_
  walk_nrm
  refine Way.ctl rfl (fun _ => stepG_region_end) ?_
  refine Way.ctl rfl (fun _ => stepG_seq) ?_
  refine Way.ctl rfl (fun _ => stepG_region) ?_
  simp only [List.size_toArray, List.length_cons, List.length_nil, Nat.reduceAdd, Nat.zero_add, List.range, List.range.loop]
  refine Way.load hH (.tail _ (.head _)) rfl rfl (by decide) (op_load27 rfl rfl rfl rfl rfl rfl) ?_
  walk_nrm
  refine Way.call hI hH (f := 16) rfl (args := #[bx a b c d]) (ar_bx1 a b c d) (calls_cutN hv) (fun _ _ _ h => by first | exact ⟨_, h.1⟩ | exact ⟨_, h.2.choose_spec.choose_spec.choose_spec.1⟩) rfl rfl (by decide) rfl (by simp [Act.eval, bx]) Try.func16 (by kernel_rfl) (by rfl) (fun v' E w hr => ?_)
  obtain ⟨B, cap, qs, rfl, hBE, hEB, hBc, hz⟩ := hr.row
  replace hH := hr.has
  walk_nrm
  refine Way.op0 rfl rfl (by decide) (fun _ => by go_simp; rfl) (fun _ => by simp [go_sem]) ?_
  walk_nrm
  refine Way.op0 rfl rfl (by decide) (fun _ => by go_simp; rfl) (fun _ => by simp [go_sem]) ?_
  walk_nrm
  refine Way.op0 rfl rfl (by decide) (fun _ => by go_simp; rfl) (fun _ => by simp [go_sem]) ?_
  walk_nrm
  refine Way.op0 rfl rfl (by decide) (fun _ => by go_simp; rfl) (fun _ => by simp [go_sem]) ?_
  walk_nrm
  refine Way.op0 rfl rfl (by decide) (fun _ => by go_simp; rfl) (fun _ => by simp [go_sem]) ?_
  walk_nrm
  refine Way.ctl rfl (fun _ => stepG_region_end) ?_
  refine Way.ctl rfl (fun _ => stepG_seq) ?_
  refine Way.ctl rfl (fun _ => stepG_seq) ?_
  refine Way.ctl rfl (fun _ => stepG_region) ?_
  simp only [List.size_toArray, List.length_cons, List.length_nil, Nat.reduceAdd, Nat.zero_add, List.range, List.range.loop]
  refine Way.op0 rfl rfl (by decide) (fun _ => by go_simp; rfl) (fun _ => by simp [go_sem]) ?_
  walk_nrm
  refine Way.op0 rfl rfl (by decide) (fun _ => by go_simp; rfl) (fun _ => by simp [go_sem]) ?_
  walk_nrm
  refine Way.ctl rfl (fun _ => stepG_region_end) ?_
  refine Way.ctl rfl (fun _ => stepG_cond (t := true) rfl) ?_
  simp only [if_true, if_false, Bool.false_eq_true, ↓reduceIte]
  refine Way.ctl rfl (fun _ => stepG_seq) ?_
  refine Way.ctl rfl (fun _ => stepG_region) ?_
  simp only [List.size_toArray, List.length_cons, List.length_nil, Nat.reduceAdd, Nat.zero_add, List.range, List.range.loop]
  refine Way.alloc (f := fun B => .slice (some ⟨B, 0, none⟩) 0 0) hI hH rfl rfl (by decide) (op_build0 rfl) (fun Bz E w hH hBz => ?_)
  walk_nrm
  refine Way.op0 rfl rfl (by decide) (fun _ => by go_simp; rfl) (fun _ => by simp [go_sem]) ?_
  walk_nrm
  refine Way.op0 rfl rfl (by decide) (fun _ => by go_simp; rfl) (fun _ => by simp [go_sem]) ?_
  walk_nrm
  refine Way.ctl rfl (fun _ => stepG_region_end) ?_
  refine Way.ctl rfl (fun _ => stepG_ret') ?_
  refine Way.leave2 rfl rfl Try.func7 rfl ?_
  walk_nrm
  exact k _ _ _ hH.tail.tail.tail

set_option maxRecDepth 100000 in
set_option maxHeartbeats 4000000 in
theorem splitA (hI : Stab Fx Inv) (hH : Has Try.prog.globals.size Fx E w L) {a b c d m : Int} (hv : BV a b c d = true)
    (k : ∀ Bb Bm Q An qc cq E' w', Has Try.prog.globals.size Fx E' w' ([(An, .cells #[.chan none, .chan none, .chan none, .chan none] 52), (Q, .cells cq 27), (Bm, .cells #[.int .i64 m] 3), (Bb, .cells #[.int .i64 a, .int .i64 b, .int .i64 c, .int .i64 d] 27)] ++ L) → (∀ k j, k < 4 → j < 4 → cq[k * 4 + j]? = some (.int .i64 (qv j a b c d k))) →
      Way Try.prog true Fr Inv Stop E' (G (at5 a b c d m Bb Bm Q An qc) (b₀.at a₀ (.inRegion ops₀ (i₀ :: rest₀) :: k₀) :: cs)) w') :
    Way Try.prog true Fr Inv Stop E (G ((base 7).at ⟨#[bx a b c d, .int .i64 m, undef, undef, undef, undef, undef, undef, undef, undef, undef, undef, undef, undef, undef, undef, undef, undef, undef, undef, undef, undef, undef, undef, undef, undef, undef, undef, undef, undef, undef, undef, undef, undef, undef, undef, undef, undef, undef, undef, undef, undef, undef, undef, undef, undef, undef, undef, undef, undef, undef, undef, undef, undef, undef, undef, undef, undef, undef], []⟩ [.code body7]) (b₀.at a₀ (.inRegion ops₀ (i₀ :: rest₀) :: k₀) :: cs)) w := by
  simp only [body7, Try.f7, Option.getD_some]
  refine Way.ctl rfl (fun _ => stepG_seq) ?_
  refine Way.ctl rfl (fun _ => stepG_region) ?_
  simp only [List.size_toArray, List.length_cons, List.length_nil, Nat.reduceAdd, Nat.zero_add, List.range, List.range.loop]
  refine Way.alloc (f := fun B => .pointer (some ⟨B, 0, none⟩)) hI hH rfl rfl (by decide) (op_box27 rfl rfl) (fun Bb E w hH hBb => ?_)
  walk_nrm
  refine Way.alloc (f := fun B => .pointer (some ⟨B, 0, none⟩)) hI hH rfl rfl (by decide) (op_box3 rfl rfl) (fun Bm E w hH hBm => ?_)
  walk_nrm
  refine Way.op0 rfl rfl (by decide) (fun _ => by go_simp; rfl) (fun _ => by simp [go_sem]) ?_
  walk_nrm
  refine Way.op0 rfl rfl (by decide) (fun _ => by go_simp; rfl) (fun _ => by simp [go_sem]) ?_
  walk_nrm
  refine Way.ctl rfl (fun _ => stepG_region_end) ?_
  refine Way.ctl rfl (fun _ => stepG_seq) ?_
  refine Way.ctl rfl (fun _ => stepG_region) ?_
  simp only [List.size_toArray, List.length_cons, List.length_nil, Nat.reduceAdd, Nat.zero_add, List.range, List.range.loop]
  refine Way.load hH (.tail _ (.head _)) rfl rfl (by decide) (op_load27 rfl rfl rfl rfl rfl rfl) ?_
  walk_nrm
  refine Way.call hI hH (f := 16) rfl (args := #[bx a b c d]) (ar_bx1 a b c d) (calls_cut hv) (fun _ _ _ h => by first | exact ⟨_, h.1⟩ | exact ⟨_, h.2.choose_spec.choose_spec.choose_spec.1⟩) rfl rfl (by decide) rfl (by simp [Act.eval, bx]) Try.func16 (by kernel_rfl) (by rfl) (fun v' E w hr => ?_)
  obtain ⟨Q, qc, cq, rfl, hQE, hEQ, hQc, hz⟩ := hr.row
  replace hH := hr.has.add hEQ hQc (fun p hp => Nat.lt_of_lt_of_le (hH.lt hp) hQE)
  walk_nrm
  refine Way.op0 rfl rfl (by decide) (fun _ => by go_simp; rfl) (fun _ => by simp [go_sem]) ?_
  walk_nrm
  refine Way.op0 rfl rfl (by decide) (fun _ => by go_simp; rfl) (fun _ => by simp [go_sem]) ?_
  walk_nrm
  refine Way.op0 rfl rfl (by decide) (fun _ => by go_simp; rfl) (fun _ => by simp [go_sem]) ?_
  walk_nrm
  refine Way.op0 rfl rfl (by decide) (fun _ => by go_simp; rfl) (fun _ => by simp [go_sem]) ?_
  walk_nrm
  refine Way.op0 rfl rfl (by decide) (fun _ => by go_simp; rfl) (fun _ => by simp [go_sem]) ?_
  walk_nrm
  refine Way.ctl rfl (fun _ => stepG_region_end) ?_
  refine Way.ctl rfl (fun _ => stepG_seq) ?_
  refine Way.ctl rfl (fun _ => stepG_seq) ?_
  refine Way.ctl rfl (fun _ => stepG_region) ?_
  simp only [List.size_toArray, List.length_cons, List.length_nil, Nat.reduceAdd, Nat.zero_add, List.range, List.range.loop]
  refine Way.op0 rfl rfl (by decide) (fun _ => by go_simp; rfl) (fun _ => by simp [go_sem]) ?_
  walk_nrm
  refine Way.op0 rfl rfl (by decide) (fun _ => by go_simp; rfl) (fun _ => by simp [go_sem]) ?_
  walk_nrm
  refine Way.ctl rfl (fun _ => stepG_region_end) ?_
  refine Way.ctl rfl (fun _ => stepG_cond (t := false) rfl) ?_
  simp only [if_true, if_false, Bool.false_eq_true, ↓reduceIte]
  refine Way.ctl rfl (fun _ => stepG_skip) ?_
  refine Way.ctl rfl (fun _ => stepG_seq) ?_
  refine Way.ctl rfl (fun _ => stepG_region) ?_
  simp only [List.size_toArray, List.length_cons, List.length_nil, Nat.reduceAdd, Nat.zero_add, List.range, List.range.loop]
  refine Way.op0 rfl rfl (by decide) (fun _ => by go_simp; rfl) (fun _ => by simp [go_sem]) ?_
  walk_nrm
  refine Way.op0 rfl rfl (by decide) (fun _ => by go_simp; rfl) (fun _ => by simp [go_sem]) ?_
  walk_nrm
  refine Way.alloc (f := fun B => .slice (some ⟨B, 0, none⟩) 4 4) hI hH rfl rfl (by decide) (op_make41 rfl rfl rfl) (fun An E w hH hAn => ?_)
  walk_nrm
  refine Way.op0 rfl rfl (by decide) (fun _ => by go_simp; rfl) (fun _ => by simp [go_sem]) ?_
  walk_nrm
  refine Way.ctl rfl (fun _ => stepG_region_end) ?_
  refine Way.ctl rfl (fun _ => stepG_seq) ?_
  refine Way.ctl rfl (fun _ => stepG_region) ?_
  simp only [List.size_toArray, List.length_cons, List.length_nil, Nat.reduceAdd, Nat.zero_add, List.range, List.range.loop]
  exact k _ _ _ _ _ _ _ _ (hH.perm (by simp)) hz

end
end Go.Proofs.Ytjbpaejjpamcpaa.Sim
/- CellSplit's loops: what its operations yield; what is known at the head of the starting loop ('LpS'). -/
set_option linter.unusedSectionVars false
namespace Go.Proofs.Ytjbpaejjpamcpaa.Sim
set_option linter.unusedSimpArgs false
set_option linter.unusedVariables false
open Go Go.Conc Go.RowKit Go.Conc.Lib Go.ConcN.Gen Go.ConcR.Gen
open Go.ConcN (WgLive)

section
variable {a : Act} {o : Oper}
theorem op_lss {x y : Operand} {n i : Nat} (ho : o.op = .binOp .lss 3 x y 3) (hx : a.eval x = .int .i64 (i : Int)) (hy : a.eval y = .int .i64 (n : Int)) (w : World) : (execOp a.eval o).run Try.prog w = .ok (.value (.bool (decide (i < n)))) w ∧ (execOp a.eval o).events Try.prog w #[] = #[] := by
  unfold execOp
  simp only [ho, hx, hy]
  exact ⟨by go_simp, by simp [go_sem]⟩
theorem op_inc {x : Operand} {i : Nat} (ho : o.op = .binOp .add 3 x (.const (.int .i64 1)) 3) (hx : a.eval x = .int .i64 (i : Int)) (hi : i < 4) (w : World) : (execOp a.eval o).run Try.prog w = .ok (.value (.int .i64 ((i + 1 : Nat) : Int))) w ∧ (execOp a.eval o).events Try.prog w #[] = #[] := by
  unfold execOp
  simp only [ho, hx]
  refine ⟨?_, by simp [go_sem]⟩
  match i, hi with
  | 0, _ => go_simp; rfl
  | 1, _ => go_simp; rfl
  | 2, _ => go_simp; rfl
  | 3, _ => go_simp; rfl
end

section
variable {P : Program} {mn : Bool} {Fr : Nat → Prop} {Inv : World → Prop} {Stop : (Nat → Prop) → Goroutine → World → Prop} {E : Nat → Prop} {g g' : Goroutine} {w : World} {Gl : Nat} {Fx : Nat → Prop}
  {b : Frame} {a : Act} {kk : List Item} {cs : List Frame} {ops : Array Oper} {i : Nat} {rest : List Nat} {o : Oper} {v : Value} {L : List (Nat × Obj)} {B : Nat} {o₁ o₂ : Obj}
/-- A write to a block of one's own. -/
theorem Way.store (hI : Stab Fx Inv) (hH : Has Gl Fx E w ((B, o₁) :: L)) (ho : ops[i]? = some o) (hw : Region.wanted o (yielded ops a.tmps) = true) (hk : b.kind ≠ .early)
    (hr : ∀ w, w.heap[B]? = some o₁ → ∃ w', (execOp a.eval o).run P w = .ok .skip w' ∧ SetTo w w' B o₂ ∧ ∀ e ∈ (execOp a.eval o).events P w #[], ∃ ad, e.loc = .cell ad ∧ ad.block = B)
    (k : ∀ w', Has Gl Fx E w' ((B, o₂) :: L) → Way P mn Fr Inv Stop E (G (b.at (a.put o.dst undef) (.inRegion ops rest :: kk)) cs) w') : Way P mn Fr Inv Stop E (G (b.at a (.inRegion ops (i :: rest) :: kk)) cs) w :=
  .set hI hH ho hw hk (fun w E h => let ⟨w', r, s, e⟩ := hr w h.head.2; ⟨w', .inr ⟨r, rfl⟩, s, fun x hx => let ⟨ad, e1, e2⟩ := e x hx; .inl ⟨ad, e1, by rw [e2]; exact h.head.1⟩⟩) k
/-- A go statement. -/
theorem stepG_go {d : Deferred} {f : Fn} {c : Array Value} (ho : ops[i]? = some o) (hw : Region.wanted o (yielded ops a.tmps) = true) (hk : b.kind ≠ .early) (hr : ∀ w, (execOp a.eval o).run P w = .ok (.spawn d) w) (he : ∀ w, (execOp a.eval o).events P w #[] = #[]) (hd : d.target = .fn f c) (w : World) :
    stepG P mn (G (b.at a (.inRegion ops (i :: rest) :: kk)) cs) w = .spawn (G (b.at (a.put o.dst undef) (.inRegion ops rest :: kk)) cs) (born P d) w #[] := by
  have hl : listed P b.fn a o w = #[] := by unfold listed; rw [he]; exact seen_none _ _
  exact (stepG_spawn ho hw hk (hr w) hd).trans (by rw [hl])
end

/-- What the starter's steps keep: the group is there, the old blocks stand, the channels handed out lie below. -/
def FxW (Wg : Nat) (x : Xs) : Nat → Prop := fun b => b = Wg ∨ x.Z b ∨ b ∈ x.cbs
/-- What is known at the head of the starting loop. -/
structure LpS (L : List (Nat × Obj)) (m : Int) (Bm Q An Wg : Nat) (cq : Array Value) (x : Xs) (E : Nat → Prop) (w : World) : Prop where
  has : ∃ arr : Array Value, Has Try.prog.globals.size (FxW Wg x) E w ((An, .cells arr 52) :: (Q, .cells cq 27) :: L) ∧ arr.size = 4 ∧ ∀ (i c : Nat), x.cbs[i]? = some c → arr[i]? = some (Value.chan (some c))
  nd : x.cbs.Nodup
  own : ∀ c ∈ x.cbs, ∃ b, x.Z b ∧ c < b
  zlt : ∀ b, x.Z b → b < x.W.heap.size
  zm : x.Z Bm ∧ x.W.heap[Bm]? = some (.cells #[.int .i64 m] 3)
theorem LpS.moved {L : List (Nat × Obj)} {m : Int} {Bm Q An Wg : Nat} {cq : Array Value} {x : Xs} {E : Nat → Prop} {w w₁ : World} (h : LpS L m Bm Q An Wg cq x E w) (hr : Rely E w w₁) : LpS L m Bm Q An Wg cq x E w₁ :=
  ⟨let ⟨arr, h1, h2⟩ := h.has; ⟨arr, h1.moved hr, h2⟩, h.nd, h.own, h.zlt, h.zm⟩
theorem stabX {ty : TypeId} {Wg : Nat} {x : Xs} (hz : ∀ b, x.Z b → b < x.W.heap.size) (ho : ∀ c ∈ x.cbs, ∃ b, x.Z b ∧ c < b) : Stab (FxW Wg x) (InvW ty Wg x.Z x.W) := by
  have h := stabW (ty := ty) (Wg := Wg) hz
  refine ⟨fun w w' hw hi => h.hI w w' (fun b hb => hw b (hb.imp id .inl)) hi, fun w b hi hb => ?_⟩
  rcases hb with hb | hb | hb
  · exact h.hlt w b hi (.inl hb)
  · exact h.hlt w b hi (.inr hb)
  · obtain ⟨z, hz, hlt⟩ := ho b hb
    exact Nat.lt_trans hlt (h.hlt w z hi (.inr hz))
/-- The next stop of the starter: a worker more, or the wait. -/
def NS (P : Program) (ty : TypeId) (Wg N : Nat) (val : Nat → Value) (AnchW : Xs → St) : Nat → Xs → St
  | 0, x => JKd P ty Wg AnchW x
  | r + 1, x => MKd P ty Wg val (N - (r + 1)) x (Spawns P ty Wg N val (Into P ty Wg AnchW) r)
theorem spawns_ns (P : Program) (ty : TypeId) (Wg N : Nat) (val : Nat → Value) (AnchW : Xs → St) (r : Nat) : Spawns P ty Wg N val (Into P ty Wg AnchW) r = fun x => MW P ty Wg x (NS P ty Wg N val AnchW r x) := by
  cases r <;> rfl
end Go.Proofs.Ytjbpaejjpamcpaa.Sim
