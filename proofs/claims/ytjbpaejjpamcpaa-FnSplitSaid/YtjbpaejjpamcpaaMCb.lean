import Derived.Test.YtjbpaejjpamcpaaMCx
import Derived.Conc.Own
import Derived.Test.YtjbpaejjpamcpaaMCw
import Derived.Calls
/- Two runs of the same code under a renaming of blocks: frames; one operation of a goroutine ('apply_sim'). -/
namespace Go.Proofs.Ytjbpaejjpamcpaa.Sim
set_option linter.unusedSimpArgs false
set_option linter.unusedVariables false
open Go Go.Conc
section
variable (P : Program) (Sb : FuncId → Bool)
/-- Code that is let by. -/
def okCode : Code → Bool
  | .skip | .ret | .exit _ => true
  | .region _ ops _ => ops.all fun o => okOp P Sb o.op
  | .seq a b => okCode a && okCode b
  | .cond c a b => okOpd Sb c && okCode a && okCode b
  | .block _ c | .loop c => okCode c
  | .rangeFunc f _ a b => (okOpd Sb f && (P.info? J0).isNone) && okCode a && okCode b
  | _ => false
/-- A function that is let by. -/
def okFn (f : FuncId) : Bool := match P.funcs[f]? with
  | some fn => !(fn.name == "runtime.NumGoroutine") && (match fn.body with | some c => okCode P Sb c | none => false)
  | none => false
abbrev SS : FuncId → Prop := fun f => Sb f = true
abbrev KK : Code → Prop := fun c => okCode P Sb c = true
end
variable {P : Program} {Sb : FuncId → Bool} {r r' : Ren}
theorem fnsOk (h : ∀ f, Sb f = true → okFn P Sb f = true) : FnsOk P (SS Sb) (KK P Sb) := by
  intro f hf
  have := h f hf
  unfold okFn at this
  split at this
  · rename_i fn e
    simp only [Bool.and_eq_true, Bool.not_eq_true'] at this
    cases eb : fn.body with
    | none => rw [eb] at this; exact absurd this.2 (by simp)
    | some c => rw [eb] at this; exact ⟨fn, e, this.1, c, eb, this.2⟩
  · cases this

inductive IR (P : Program) (Sb : FuncId → Bool) (r : Ren) : Item → Item → Prop
  | code {c : Code} : okCode P Sb c = true → IR P Sb r (.code c) (.code c)
  | inBlock (id : Nat) : IR P Sb r (.inBlock id) (.inBlock id)
  | inLoop {c : Code} : okCode P Sb c = true → IR P Sb r (.inLoop c) (.inLoop c)
  | inRegion {ops : Array Oper} (l : List Nat) : (ops.all fun o => okOp P Sb o.op) = true → IR P Sb r (.inRegion ops l) (.inRegion ops l)
  | inRange {l l' : Nat} : r l = some l' → IR P Sb r (.inRangeFunc l) (.inRangeFunc l')
  | endRange {l l' : Nat} : r l = some l' → IR P Sb r (.endRangeFunc l) (.endRangeFunc l')
  | beginRound : IR P Sb r .beginRound .beginRound
inductive DR (r : Ren) : Deferred → Deferred → Prop
  | mk {b b' : Nat} : r b = some b' → DR r { target := .collected b, args := #[] } { target := .collected b', args := #[] }
inductive RoR (r : Ren) : Option Nat → Option Nat → Prop
  | none : RoR r none none
  | some {l l' : Nat} : r l = some l' → RoR r (some l) (some l')
theorem IR.mono {i i' : Item} (h : IR P Sb r i i') (hr : Ren.le r r') : IR P Sb r' i i' := by
  cases h with
  | code h => exact .code h
  | inBlock id => exact .inBlock id
  | inLoop h => exact .inLoop h
  | inRegion l h => exact .inRegion l h
  | inRange h => exact .inRange (hr _ _ h)
  | endRange h => exact .endRange (hr _ _ h)
  | beginRound => exact .beginRound
theorem DR.mono {i i' : Deferred} (h : DR r i i') (hr : Ren.le r r') : DR r' i i' := by cases h with | mk h => exact .mk (hr _ _ h)
theorem RoR.mono {i i' : Option Nat} (h : RoR r i i') (hr : Ren.le r r') : RoR r' i i' := by
  cases h with
  | none => exact .none
  | some h => exact .some (hr _ _ h)

structure FR (P : Program) (Sb : FuncId → Bool) (r : Ren) (fr fr' : Frame) : Prop where
  fn : fr.fn = fr'.fn
  fnS : Sb fr.fn = true
  tmps : AR (SS Sb) r fr.tmps fr'.tmps
  todo : L2 (IR P Sb r) fr.todo fr'.todo
  defers : L2 (DR r) fr.defers fr'.defers
  mode : fr.mode = fr'.mode
  kind : fr.kind = .normal
  kind' : fr'.kind = .normal
  round : RoR r fr.roundOf fr'.roundOf
theorem FR.mono {fr fr' : Frame} (h : FR P Sb r fr fr') (hr : Ren.le r r') : FR P Sb r' fr fr' :=
  ⟨h.fn, h.fnS, h.tmps.mono hr, h.todo.mono fun _ _ x => x.mono hr, h.defers.mono fun _ _ x => x.mono hr, h.mode, h.kind, h.kind', h.round.mono hr⟩
theorem frs_mono {fs fs' : List Frame} (h : L2 (FR P Sb r) fs fs') (hr : Ren.le r r') : L2 (FR P Sb r') fs fs' := h.mono fun _ _ x => x.mono hr
/-- The lowest frame is no loop's round. -/
def Bot : Frame → List Frame → Prop
  | fr, [] => fr.roundOf = none
  | _, c :: cs => Bot c cs

theorem FR.eval {fr fr' : Frame} (h : FR P Sb r fr fr') {x : Operand} (hx : okOpd Sb x = true) : VR (SS Sb) r (fr.eval x) (fr'.eval x) := by
  cases x with
  | tmp t => exact h.tmps.getD t .undef
  | const v => exact flat_refl hx
  | global g => cases hx
  | func f => exact .func (.func hx) rfl (fun i h => absurd h (by simp)) rfl (fun i h => absurd h (by simp))
theorem FR.finish {fr fr' : Frame} (h : FR P Sb r fr fr') {v v' : Value} (hv : VR (SS Sb) r v v') : FR P Sb r (fr.finish v) (fr'.finish v') := by
  obtain ⟨fn, tmps, todo, defers, mode, kind, ro⟩ := fr
  obtain ⟨fn', tmps', todo', defers', mode', kind', ro'⟩ := fr'
  obtain ⟨h1, h2, h3, h4, h5, h6, h7, h8, h9⟩ := h
  simp only at h1 h2 h3 h4 h5 h6 h7 h8 h9
  cases h4 with
  | nil => exact ⟨h1, h2, h3, .nil, h5, h6, h7, h8, h9⟩
  | cons hi ht =>
    cases hi with
    | @inRegion ops l ho =>
      cases l with
      | nil => exact ⟨h1, h2, h3, .cons (.inRegion _ ho) ht, h5, h6, h7, h8, h9⟩
      | cons i l =>
        refine ⟨h1, h2, ?_, .cons (.inRegion _ ho) ht, h5, h6, h7, h8, h9⟩
        simp only [Frame.finish]
        cases (ops[i]?).bind (·.dst) with
        | none => exact h3
        | some d => exact h3.set d hv
    | inRange hl => exact ⟨h1, h2, h3, .cons (.endRange hl) ht, h5, h6, h7, h8, h9⟩
    | beginRound => exact ⟨h1, h2, h3, ht, h5, h6, h7, h8, h9⟩
    | code ho => exact ⟨h1, h2, h3, .cons (.code ho) ht, h5, h6, h7, h8, h9⟩
    | inBlock id => exact ⟨h1, h2, h3, .cons (.inBlock id) ht, h5, h6, h7, h8, h9⟩
    | inLoop ho => exact ⟨h1, h2, h3, .cons (.inLoop ho) ht, h5, h6, h7, h8, h9⟩
    | endRange hl => exact ⟨h1, h2, h3, .cons (.endRange hl) ht, h5, h6, h7, h8, h9⟩
theorem FR.raise {fr fr' : Frame} (h : FR P Sb r fr fr') (vs : List PanicEntry) : FR P Sb r (fr.raise vs) (fr'.raise vs) := by
  obtain ⟨fn, tmps, todo, defers, mode, kind, ro⟩ := fr
  obtain ⟨fn', tmps', todo', defers', mode', kind', ro'⟩ := fr'
  obtain ⟨h1, h2, h3, h4, h5, h6, h7, h8, h9⟩ := h
  simp only at h1 h2 h3 h4 h5 h6 h7 h8 h9
  subst h6
  cases mode <;> exact ⟨h1, h2, h3, h4, h5, rfl, h7, h8, h9⟩
theorem finish_round (fr : Frame) (v : Value) : (fr.finish v).roundOf = fr.roundOf := by
  obtain ⟨fn, tmps, todo, defers, mode, kind, ro⟩ := fr
  unfold Frame.finish
  dsimp only
  split <;> rfl
theorem raise_round (fr : Frame) (vs : List PanicEntry) : (fr.raise vs).roundOf = fr.roundOf := by
  obtain ⟨fn, tmps, todo, defers, mode, kind, ro⟩ := fr
  cases mode <;> rfl
theorem Bot.same {fr fr₂ : Frame} {fs : List Frame} (h : Bot fr fs) (e : fr₂.roundOf = fr.roundOf) : Bot fr₂ fs := by
  cases fs with
  | nil => exact e.trans h
  | cons c cs => exact h
theorem FR.enter (hS : FnsOk P (SS Sb) (KK P Sb)) {f : FuncId} (hf : Sb f = true) {c c' : Array Value} (hc : AR (SS Sb) r c c') : FR P Sb r (Frame.enter P f c .normal) (Frame.enter P f c' .normal) := by
  obtain ⟨fn, e, _, b, eb, hk⟩ := hS f hf
  refine ⟨rfl, hf, ?_, ?_, .nil, rfl, rfl, rfl, .none⟩
  · unfold Frame.enter
    dsimp only
    rw [hc.size]
    refine hc.append (.of (by simp) fun i v v' h h' => ?_)
    rw [h] at h'
    simp only [Option.some.injEq] at h'
    subst h'
    rw [Array.getElem?_replicate] at h
    split at h
    · simp only [Option.some.injEq] at h; subst h; exact .undef
    · cases h
  · unfold Frame.enter
    dsimp only
    rw [e]
    simp only [Option.bind_some, eb, Option.getD_some]
    exact .cons (.code hk) .nil

theorem mem_seen {P : Program} {fn : FuncId} {es : Array Event} {e : Event} (h : e ∈ seen P fn es) : e ∈ es := by
  have key : ∀ (l : List Event) (q : Bool) (kept : Array Event),
      e ∈ (l.foldl (fun (x : Bool × Array Event) e => match e.loc with | .mark (.extern f) => ((P.funcs[f]?).any (·.norace), x.2) | _ => (x.1, if x.1 && !e.sync then x.2 else x.2.push e)) (q, kept)).2 → e ∈ kept ∨ e ∈ l := by
    intro l
    induction l with
    | nil => exact fun q kept h => .inl h
    | cons y l ih =>
      intro q kept h
      rw [List.foldl_cons] at h
      rcases ih _ _ h with h' | h'
      · have : e ∈ kept ∨ e = y := by
          split at h'
          · exact .inl h'
          · dsimp only at h'
            split at h'
            · exact .inl h'
            · simpa using h'
        rcases this with h2 | h2
        · exact .inl h2
        · exact .inr (by simp [h2])
      · exact .inr (by simp [h'])
  unfold seen at h
  dsimp only at h
  rw [← Array.foldl_toList] at h
  rcases key es.toList _ _ h with h' | h'
  · simp at h'
  · exact Array.mem_toList_iff.1 h'
theorem Grow.seen {r r₂ : Ren} {w w₂ : World} {es : Array Event} {fn : FuncId} (h : Grow r r₂ w w₂ es) : Grow r r₂ w w₂ (seen P fn es) :=
  ⟨h.le, h.tape, h.os, h.output, h.size, h.other, h.new, h.own, fun e he => h.ev e (mem_seen he)⟩

/-- One step, on both sides. 'X': of the run alone; 'X'' : in company. -/
inductive SO (P : Program) (Sb : FuncId → Bool) (r : Ren) (h : Array Obj) (w : World) (base base' : List Frame) (X : World → GStep) (X' : GStep) : Prop
  | go (bs : List Nat) (h₂ : Array Obj) (r₂ : Ren) (fr : Frame) (fs : List Frame) (fr' : Frame) (fs' : List Frame) (w₂ : World) (es : Array Event) :
      FR P Sb r₂ fr fr' → L2 (FR P Sb r₂) fs fs' → Bot fr fs → WR (SS Sb) (KK P Sb) P.globals.size r₂ h₂ w₂ → Grow r r₂ w w₂ es →
      (∀ wb T d, Says T d bs → ∃ es, X (LW wb h T d) = .go (G fr (fs ++ base)) (LW wb h₂ T (d + bs.length)) es) → X' = .go (G fr' (fs' ++ base')) w₂ es → SO P Sb r h w base base' X X'
  | dead (bs : List Nat) : (∀ wb T d, Says T d bs → ∃ o w₂ es, X (LW wb h T d) = .ended o w₂ es) → SO P Sb r h w base base' X X'

section
variable {h : Array Obj} {w : World} {base base' : List Frame}
theorem kind_of {fr fr' : Frame} (hR : FR P Sb r fr fr') : (match fr.todo with | .call _ true _ _ :: _ => CallKind.wrapped | _ => .normal) = .normal ∧ (match fr'.todo with | .call _ true _ _ :: _ => CallKind.wrapped | _ => .normal) = .normal := by
  have := hR.todo
  generalize fr.todo = a at this
  generalize fr'.todo = b at this
  cases this with
  | nil => exact ⟨rfl, rfl⟩
  | cons hi _ => cases hi <;> exact ⟨rfl, rfl⟩

theorem apply_sim (hS : FnsOk P (SS Sb) (KK P Sb)) {fr fr' : Frame} {fs fs' : List Frame} (hR : FR P Sb r fr fr') (hcs : L2 (FR P Sb r) fs fs') (hB : Bot fr fs) (hW : WR (SS Sb) (KK P Sb) P.globals.size r h w)
    {s s' : Sem Next} (hs : SemR P (SS Sb) (KK P Sb) (NR (SS Sb) (KK P Sb)) r s s') :
    SO P Sb r h w base base' (fun W => stepG.apply P true fr (fs ++ base) none s W) (stepG.apply P true fr' (fs' ++ base') none s' w) := by
  obtain ⟨k1, k2⟩ := kind_of hR
  have e1 : (fr.kind == CallKind.early) = false := by rw [hR.kind]; rfl
  have e2 : (fr'.kind == CallKind.early) = false := by rw [hR.kind']; rfl
  cases hs.runs h w hW with
  | ok bs h₂ r₂ a b w₂ es hA hW₂ hG f1 f2 =>
    have f2' : s'.runT P w #[] = (.ok b w₂, es) := by rw [f2]; simp
    cases hA with
    | value hv =>
      refine .go bs h₂ r₂ _ fs _ fs' w₂ (seen P fr'.fn es) ((hR.mono hG.le).finish hv) (frs_mono hcs hG.le) (hB.same (finish_round _ _)) hW₂ hG.seen (fun wb T d hT => ?_) ?_
      · have hr := f1 wb T d hT
        have hr' : s.runT P (LW wb h T d) #[] = (s.run P (LW wb h T d), s.events P (LW wb h T d) #[]) := Sem.runT_eq _ _ _ _
        rw [hr] at hr'
        unfold stepG.apply
        simp only [hr', if_true, e1, Bool.false_eq_true, if_false, GStep.after]
        exact ⟨_, rfl⟩
      · unfold stepG.apply
        simp only [f2', if_true, e2, Bool.false_eq_true, if_false, GStep.after, Array.append_empty]
        rfl
    | skip =>
      refine .go bs h₂ r₂ _ fs _ fs' w₂ (seen P fr'.fn es) ((hR.mono hG.le).finish .undef) (frs_mono hcs hG.le) (hB.same (finish_round _ _)) hW₂ hG.seen (fun wb T d hT => ?_) ?_
      · have hr := f1 wb T d hT
        have hr' : s.runT P (LW wb h T d) #[] = (s.run P (LW wb h T d), s.events P (LW wb h T d) #[]) := Sem.runT_eq _ _ _ _
        rw [hr] at hr'
        unfold stepG.apply
        simp only [hr', if_true, e1, Bool.false_eq_true, if_false, GStep.after]
        exact ⟨_, rfl⟩
      · unfold stepG.apply
        simp only [f2', if_true, e2, Bool.false_eq_true, if_false, GStep.after, Array.append_empty]
        rfl
    | enter hf hc =>
      refine .go bs h₂ r₂ _ (fr :: fs) _ (fr' :: fs') w₂ (seen P fr'.fn es) (.enter hS hf hc) (.cons (hR.mono hG.le) (frs_mono hcs hG.le)) hB hW₂ hG.seen (fun wb T d hT => ?_) ?_
      · have hr := f1 wb T d hT
        have hr' : s.runT P (LW wb h T d) #[] = (s.run P (LW wb h T d), s.events P (LW wb h T d) #[]) := Sem.runT_eq _ _ _ _
        rw [hr] at hr'
        unfold stepG.apply
        simp only [hr', if_true, e1, Bool.false_eq_true, if_false, GStep.after]
        exact ⟨_, congrArg (fun kd => GStep.go { frame := Frame.enter P _ _ kd, callers := fr :: (fs ++ base), status := .running, dying := none } _ _) k1⟩
      · unfold stepG.apply
        simp only [f2', if_true, e2, Bool.false_eq_true, if_false, GStep.after, Array.append_empty]
        exact congrArg (fun kd => GStep.go { frame := Frame.enter P _ _ kd, callers := fr' :: (fs' ++ base'), status := .running, dying := none } _ _) k2
    | @round l l' f c c' x y hl hf hx hy hc =>
      refine .go bs h₂ r₂ (Frame.round l f c x y .normal) (fr :: fs) (Frame.round l' f c' x y .normal) (fr' :: fs') w₂ (seen P fr'.fn es)
        ⟨rfl, hf, hc, .cons (.code hx) (.cons .beginRound (.cons (.code hy) .nil)), .nil, rfl, rfl, rfl, .some hl⟩ (.cons (hR.mono hG.le) (frs_mono hcs hG.le)) hB hW₂ hG.seen (fun wb T d hT => ?_) ?_
      · have hr := f1 wb T d hT
        have hr' : s.runT P (LW wb h T d) #[] = (s.run P (LW wb h T d), s.events P (LW wb h T d) #[]) := Sem.runT_eq _ _ _ _
        rw [hr] at hr'
        unfold stepG.apply
        simp only [hr', if_true, e1, Bool.false_eq_true, if_false, GStep.after]
        exact ⟨_, rfl⟩
      · unfold stepG.apply
        simp only [f2', if_true, e2, Bool.false_eq_true, if_false, GStep.after, Array.append_empty]
        rfl
  | panic bs h₂ r₂ v w₂ es hW₂ hG f1 f2 =>
    have f2' : s'.runT P w #[] = (.halt (.panic v) w₂, es) := by rw [f2]; simp
    refine .go bs h₂ r₂ _ fs _ fs' w₂ (seen P fr'.fn es) ((hR.mono hG.le).raise [{ v, recovered := false }]) (frs_mono hcs hG.le) (hB.same (raise_round _ _)) hW₂ hG.seen (fun wb T d hT => ?_) ?_
    · have hr := f1 wb T d hT
      have hr' : s.runT P (LW wb h T d) #[] = (s.run P (LW wb h T d), s.events P (LW wb h T d) #[]) := Sem.runT_eq _ _ _ _
      rw [hr] at hr'
      unfold stepG.apply
      simp only [hr', if_true, e1, Bool.false_eq_true, if_false, GStep.after]
      exact ⟨_, rfl⟩
    · unfold stepG.apply
      simp only [f2', if_true, e2, Bool.false_eq_true, if_false, GStep.after, Array.append_empty]
      rfl
  | dead bs hh hd f =>
    refine .dead bs fun wb T d hT => ?_
    obtain ⟨w₂, hr⟩ := f wb T d hT
    have hr' : s.runT P (LW wb h T d) #[] = (s.run P (LW wb h T d), s.events P (LW wb h T d) #[]) := Sem.runT_eq _ _ _ _
    rw [hr] at hr'
    unfold stepG.apply
    simp only [hr', if_true]
    cases hh <;> first
      | exact hd.elim
      | exact ⟨_, _, _, rfl⟩
      | (rename_i u
         cases u <;> first | exact hd.elim | exact ⟨_, _, _, rfl⟩)
end
end Go.Proofs.Ytjbpaejjpamcpaa.Sim
/- Two runs of the same code under a renaming of blocks: loops over functions, results; a run handed on to what follows. -/
namespace Go.Proofs.Ytjbpaejjpamcpaa.Sim
set_option linter.unusedSimpArgs false
set_option linter.unusedVariables false
open Go Go.Conc
variable {P : Program} {Sb : FuncId → Bool} {r : Ren}

structure EnterR (r : Ren) (x x' : Nat × List Deferred) : Prop where
  loop : r x.1 = some x'.1
  mark : L2 (DR r) x.2 x'.2
theorem sr_enterLoop {fn : FuncId} (hf : Sb fn = true) {c c' : Array Value} (hc : AR (SS Sb) r c c') {ps : Array Tmp} {x y : Code} (hx : okCode P Sb x = true) (hy : okCode P Sb y = true) {o o' : Option Nat} (ho : RoR r o o') :
    SemR P (SS Sb) (KK P Sb) EnterR r (Instr.enterLoop fn c ps x y o) (Instr.enterLoop fn c' ps x y o') := by
  have fin : ∀ {r₂ : Ren} {d d' : Nat} {m m' : List Deferred}, Ren.le r r₂ → r₂ d = some d' → L2 (DR r₂) m m' →
      SemR P (SS Sb) (KK P Sb) EnterR r₂ (do pure (← newObj (.loop { state := .ready, pending := none, fn, tmps := c, params := ps, assign := x, body := y, defers := d }), m))
        (do pure (← newObj (.loop { state := .ready, pending := none, fn, tmps := c', params := ps, assign := x, body := y, defers := d' }), m')) := fun hr hd hm =>
    by
      refine sr_new ?_ fun i b hi _ => .pure ⟨Ren.upd_self _ _ _, hm.mono fun _ _ h => h.mono (Ren.le_upd hi)⟩
      exact .loop ⟨rfl, rfl, fun _ h => (by cases h), rfl, hf, hc.mono hr, rfl, rfl, rfl, hx, hy, hd⟩
  unfold Instr.enterLoop
  cases ho with
  | none =>
    simp only [bind_assoc, pure_bind]
    exact sr_new .nil fun i b hi _ => fin (Ren.le_upd hi) (Ren.upd_self _ _ _) (.cons (.mk (Ren.upd_self _ _ _)) .nil)
  | some hl =>
    simp only [bind_assoc, pure_bind]
    exact sr_getLoop hl fun z z' hz => fin (Ren.le_refl _) hz.defers .nil
theorem sr_beginRound {l l' : Nat} (hl : r l = some l') : SemR P (SS Sb) (KK P Sb) (fun _ _ _ => True) r (Instr.beginRound l) (Instr.beginRound l') := by
  unfold Instr.beginRound
  refine sr_getLoop hl fun z z' hz => ?_
  refine sr_setObj hl ?_ ?_
  · exact .loop ⟨rfl, hz.pend, hz.pendOk, hz.fn, hz.fnS, hz.tmps, hz.params, hz.assign, hz.body, hz.assignK, hz.bodyK, hz.defers⟩
  rw [← hz.state]
  cases z.state with
  | ready => exact .pure trivial
  | _ => exact sr_rtp0 rfl
theorem sr_endRound {l l' : Nat} (hl : r l = some l') {j : Option Code} (hj : ∀ c, j = some c → okCode P Sb c = true) : SemR P (SS Sb) (KK P Sb) (VRq (SS Sb)) r (Instr.endRound l j) (Instr.endRound l' j) := by
  unfold Instr.endRound
  refine sr_getLoop hl fun z z' hz => ?_
  refine sr_setObj hl ?_ (.pure (VR.bool _))
  exact .loop ⟨rfl, rfl, hj, hz.fn, hz.fnS, hz.tmps, hz.params, hz.assign, hz.body, hz.assignK, hz.bodyK, hz.defers⟩
theorem sr_endLoop {l l' : Nat} (hl : r l = some l') : SemR P (SS Sb) (KK P Sb) (fun _ j j' => j = j' ∧ ∀ c, j = some c → okCode P Sb c = true) r (Instr.endLoop l) (Instr.endLoop l') := by
  unfold Instr.endLoop
  refine sr_getLoop hl fun z z' hz => ?_
  rw [← hz.state]
  split
  · exact sr_rtp rfl
  · refine sr_setObj hl ?_ (.pure ⟨hz.pend, hz.pendOk⟩)
    exact .loop ⟨rfl, hz.pend, hz.pendOk, hz.fn, hz.fnS, hz.tmps, hz.params, hz.assign, hz.body, hz.assignK, hz.bodyK, hz.defers⟩
theorem sr_take {b b' : Nat} (hb : r b = some b') : SemR P (SS Sb) (KK P Sb) (fun _ d d' => d = [] ∧ d' = []) r (Instr.takeDeferred b) (Instr.takeDeferred b') := by
  unfold Instr.takeDeferred
  refine sr_getObj hb fun o o' ho => ?_
  cases ho with
  | nil => exact sr_setObj hb .gone (.pure ⟨rfl, rfl⟩)
  | _ => exact .dead trivial
theorem sr_results {fn : Func} {c c' : Array Value} (hc : AR (SS Sb) r c c') : SemR P (SS Sb) (KK P Sb) (VRq (SS Sb)) r (results fn c) (results fn c') := by
  let g : Array Value → ResultVar → Sem Value := fun c => fun
    | .tmp t => pure (c.getD t undef)
    | .cell a t => do loadVar t (← asAddr (c.getD a undef))
  have one : ∀ (x : ResultVar) {f f' : Value → Sem Value}, (∀ v v', VR (SS Sb) r v v' → SemR P (SS Sb) (KK P Sb) (VRq (SS Sb)) r (f v) (f' v')) → SemR P (SS Sb) (KK P Sb) (VRq (SS Sb)) r (g c x >>= f) (g c' x >>= f') := fun x f f' h => by
    cases x with
    | tmp t => exact h _ _ (hc.getD t .undef)
    | cell a t =>
      have hv := hc.getD a (.undef (S := SS Sb) (r := r))
      show SemR P (SS Sb) (KK P Sb) (VRq (SS Sb)) r ((asAddr (c.getD a undef) >>= fun a => loadVar t a) >>= f) ((asAddr (c'.getD a undef) >>= fun a => loadVar t a) >>= f')
      generalize c.getD a undef = v at hv
      generalize c'.getD a undef = v' at hv
      rw [bind_assoc, bind_assoc]
      cases hv with
      | ptr hr => exact sr_loadVar (.mk hr) h
      | pnil => exact sr_rtp (e := .nilDeref) rfl
      | _ => exact .dead trivial
  have many : ∀ (l : List ResultVar) {f f' : List Value → Sem Value}, (∀ y y', L2 (VR (SS Sb) r) y y' → SemR P (SS Sb) (KK P Sb) (VRq (SS Sb)) r (f y) (f' y')) → SemR P (SS Sb) (KK P Sb) (VRq (SS Sb)) r (l.mapM (g c) >>= f) (l.mapM (g c') >>= f') := by
    intro l
    induction l with
    | nil => exact fun h => h [] [] .nil
    | cons x l ih =>
      intro f f' h
      rw [List.mapM_cons, List.mapM_cons, bind_assoc, bind_assoc]
      refine one x fun v v' hv => ?_
      rw [bind_assoc, bind_assoc]
      exact ih fun y y' hy => h _ _ (.cons hv hy)
  show SemR P (SS Sb) (KK P Sb) (VRq (SS Sb)) r (fn.results.mapM (g c) >>= fun vs => pure (if h : vs.size = 1 then vs[0] else .tuple vs)) (fn.results.mapM (g c') >>= fun vs => pure (if h : vs.size = 1 then vs[0] else .tuple vs))
  rw [Array.mapM_eq_mapM_toList, Array.mapM_eq_mapM_toList]
  simp only [map_eq_pure_bind, bind_assoc, pure_bind]
  refine many _ fun y y' hy => ?_
  have ha := AR.ofList hy
  have hs := ha.size
  refine .pure ?_
  by_cases h1 : y.toArray.size = 1
  · rw [dif_pos h1, dif_pos (hs ▸ h1)]
    exact ha.at_ 0 (by omega) (by omega)
  · rw [dif_neg h1, dif_neg (hs ▸ h1)]
    exact .toTuple ha

/-! ### what follows a run -/
section
variable {h : Array Obj} {w : World} {base base' : List Frame} {α β : Type} {A : Ren → α → β → Prop}
theorem SO.ahead {r₁ : Ren} {h₁ : Array Obj} {w₁ : World} {X X₁ : World → GStep} {X' X₁' : GStep} {bs₁ : List Nat} {es₁ : Array Event} (hg : Grow r r₁ w w₁ es₁)
    (e1 : ∀ wb T d, Says T d bs₁ → ∃ es, X (LW wb h T d) = GStep.after es (X₁ (LW wb h₁ T (d + bs₁.length)))) (e2 : X' = GStep.after es₁ X₁')
    (H : SO P Sb r₁ h₁ w₁ base base' X₁ X₁') : SO P Sb r h w base base' X X' := by
  cases H with
  | go bs h₂ r₂ fr fs fr' fs' w₂ es hR hfs hB hW hG f1 f2 =>
    refine .go (bs₁ ++ bs) h₂ r₂ fr fs fr' fs' w₂ (es₁ ++ es) hR hfs hB hW (hg.trans hG) (fun wb T d hs => ?_) ?_
    · obtain ⟨k1, k2⟩ := hs.app
      obtain ⟨es, e⟩ := e1 wb T d k1
      obtain ⟨es', e'⟩ := f1 wb T _ k2
      exact ⟨_, by rw [e, e', List.length_append, ← Nat.add_assoc]; rfl⟩
    · rw [e2, f2]; rfl
  | dead bs f =>
    refine .dead (bs₁ ++ bs) fun wb T d hs => ?_
    obtain ⟨k1, k2⟩ := hs.app
    obtain ⟨es, e⟩ := e1 wb T d k1
    obtain ⟨o, w₂, es', e'⟩ := f wb T _ k2
    exact ⟨o, w₂, _, by rw [e, e']; rfl⟩

theorem after_sim {s : Sem α} {s' : Sem β} (hs : SemR P (SS Sb) (KK P Sb) A r s s') (hW : WR (SS Sb) (KK P Sb) P.globals.size r h w) {k : Result α → GStep} {k' : Result β → GStep} {fn fn' : FuncId}
    (hok : ∀ r₂ h₂ w₂ a b, Ren.le r r₂ → A r₂ a b → WR (SS Sb) (KK P Sb) P.globals.size r₂ h₂ w₂ → SO P Sb r₂ h₂ w₂ base base' (fun W => k (.ok a W)) (k' (.ok b w₂)))
    (hp : ∀ r₂ h₂ w₂ v, Ren.le r r₂ → WR (SS Sb) (KK P Sb) P.globals.size r₂ h₂ w₂ → SO P Sb r₂ h₂ w₂ base base' (fun W => k (.halt (.panic v) W)) (k' (.halt (.panic v) w₂)))
    (hd : ∀ hh, Dead hh → ∀ W, ∃ o w₂ es, k (.halt hh W) = .ended o w₂ es) :
    SO P Sb r h w base base' (fun W => GStep.after (seen P fn (s.runT P W #[]).2) (k (s.runT P W #[]).1)) (GStep.after (seen P fn' (s'.runT P w #[]).2) (k' (s'.runT P w #[]).1)) := by
  cases hs.runs h w hW with
  | ok bs h₂ r₂ a b w₂ es hA hW₂ hG f1 f2 =>
    refine SO.ahead (bs₁ := bs) (h₁ := h₂) (w₁ := w₂) (es₁ := seen P fn' es) hG.seen (fun wb T d hT => ⟨seen P fn (s.runT P (LW wb h T d) #[]).2, ?_⟩) ?_ (hok r₂ h₂ w₂ a b hG.le hA hW₂)
    · have e : (s.runT P (LW wb h T d) #[]).1 = .ok a (LW wb h₂ T (d + bs.length)) := by rw [Sem.runT_eq]; exact f1 wb T d hT
      rw [e]
    · rw [f2]; simp
  | panic bs h₂ r₂ v w₂ es hW₂ hG f1 f2 =>
    refine SO.ahead (bs₁ := bs) (h₁ := h₂) (w₁ := w₂) (es₁ := seen P fn' es) hG.seen (fun wb T d hT => ⟨seen P fn (s.runT P (LW wb h T d) #[]).2, ?_⟩) ?_ (hp r₂ h₂ w₂ v hG.le hW₂)
    · have e : (s.runT P (LW wb h T d) #[]).1 = .halt (.panic v) (LW wb h₂ T (d + bs.length)) := by rw [Sem.runT_eq]; exact f1 wb T d hT
      rw [e]
    · rw [f2]; simp
  | dead bs hh hdd f =>
    refine .dead bs fun wb T d hT => ?_
    obtain ⟨w₂, hr⟩ := f wb T d hT
    have e : (s.runT P (LW wb h T d) #[]).1 = .halt hh w₂ := by rw [Sem.runT_eq]; exact hr
    obtain ⟨o, w₃, es, e'⟩ := hd hh hdd w₂
    exact ⟨o, w₃, _, by rw [e, e']; rfl⟩
/-- A step that asks nothing of the world. -/
theorem plain_sim {fr fr' : Frame} {fs fs' : List Frame} (hR : FR P Sb r fr fr') (hcs : L2 (FR P Sb r) fs fs') (hB : Bot fr fs) (hW : WR (SS Sb) (KK P Sb) P.globals.size r h w) {X : World → GStep} {X' : GStep}
    (e1 : ∀ W, X W = .go (G fr (fs ++ base)) W) (e2 : X' = .go (G fr' (fs' ++ base')) w) : SO P Sb r h w base base' X X' :=
  .go [] h r fr fs fr' fs' w #[] hR hcs hB hW (Grow.refl r w) (fun wb T d _ => ⟨#[], e1 _⟩) e2
end
end Go.Proofs.Ytjbpaejjpamcpaa.Sim
/- Two runs of the same code under a renaming of blocks: ONE STEP OF A GOROUTINE ('step_sim'). -/
namespace Go.Proofs.Ytjbpaejjpamcpaa.Sim
set_option linter.unusedSimpArgs false
set_option linter.unusedVariables false
open Go Go.Conc
variable {P : Program} {Sb : FuncId → Bool} {r : Ren} {h : Array Obj} {w : World} {base base' : List Frame} {mn : Bool}

theorem exit_rel {id : Nat} {k k' : List Item} (hk : L2 (IR P Sb r) k k') : (exitTo id k = none ∧ exitTo id k' = none) ∨ ∃ j j', exitTo id k = some j ∧ exitTo id k' = some j' ∧ L2 (IR P Sb r) j j' := by
  induction hk with
  | nil => exact .inl ⟨rfl, rfl⟩
  | cons hi ht ih =>
    cases hi with
    | inBlock id' =>
      by_cases e : (id' == id) = true
      · exact .inr ⟨_, _, by simp [exitTo, e], by simp [exitTo, e], ht⟩
      · have e : (id' == id) = false := by simpa using e
        rcases ih with ⟨h1, h2⟩ | ⟨j, j', h1, h2, h3⟩
        · exact .inl ⟨by simp [exitTo, e, h1], by simp [exitTo, e, h2]⟩
        · exact .inr ⟨j, j', by simp [exitTo, e, h1], by simp [exitTo, e, h2], h3⟩
    | _ =>
      rcases ih with ⟨h1, h2⟩ | ⟨j, j', h1, h2, h3⟩
      · exact .inl ⟨by simp [exitTo, h1], by simp [exitTo, h2]⟩
      · exact .inr ⟨j, j', by simp [exitTo, h1], by simp [exitTo, h2], h3⟩

/-- A return to a frame of one's own. -/
theorem ret_sim {fr fr' c c' : Frame} {fs fs' : List Frame} (hR : FR P Sb r fr fr') (hc : FR P Sb r c c') (hcs : L2 (FR P Sb r) fs fs') (hB : Bot c fs) (hW : WR (SS Sb) (KK P Sb) P.globals.size r h w) {v v' : Value} (hv : VR (SS Sb) r v v') :
    SO P Sb r h w base base' (fun W => doReturn P true fr ((c :: fs) ++ base) none v W) (doReturn P mn fr' ((c' :: fs') ++ base') none v' w) :=
  plain_sim (hc.finish hv) hcs (hB.same (finish_round _ _)) hW (fun W => by simp only [doReturn, List.cons_append, hR.kind]; rfl) (by simp only [doReturn, List.cons_append, hR.kind']; rfl)

/-- The way out of a loop's round. -/
theorem round_sim {fr fr' : Frame} {fs fs' : List Frame} (hR : FR P Sb r fr fr') (hcs : L2 (FR P Sb r) fs fs') (hB : Bot fr fs) (hW : WR (SS Sb) (KK P Sb) P.globals.size r h w) {l l' : Nat} (hl : r l = some l') (hf : fs ≠ []) {j : Option Code} (hj : ∀ c, j = some c → okCode P Sb c = true) :
    SO P Sb r h w base base'
      (fun W => GStep.after (seen P fr.fn ((Instr.endRound l j).runT P W #[]).2) (match ((Instr.endRound l j).runT P W #[]).1 with
        | .ok v W => doReturn P true fr (fs ++ base) none v W
        | .halt _ W => .ended (.stuck "range over a function: no such loop" (fr.pos P)) W))
      (GStep.after (seen P fr'.fn ((Instr.endRound l' j).runT P w #[]).2) (match ((Instr.endRound l' j).runT P w #[]).1 with
        | .ok v W => doReturn P mn fr' (fs' ++ base') none v W
        | .halt _ W => .ended (.stuck "range over a function: no such loop" (fr'.pos P)) W)) := by
  refine after_sim (k := fun q => match q with
        | .ok v W => doReturn P true fr (fs ++ base) none v W
        | .halt _ W => .ended (.stuck "range over a function: no such loop" (fr.pos P)) W)
      (k' := fun q => match q with
        | .ok v W => doReturn P mn fr' (fs' ++ base') none v W
        | .halt _ W => .ended (.stuck "range over a function: no such loop" (fr'.pos P)) W) (sr_endRound hl hj) hW (fun r₂ h₂ w₂ a b hr hv hW₂ => ?_) (fun r₂ h₂ w₂ v hr hW₂ => .dead [] fun wb T d _ => ⟨_, _, _, rfl⟩) (fun hh _ W => ⟨_, _, _, rfl⟩)
  cases hcs with
  | nil => exact absurd rfl hf
  | cons hc hcs => exact ret_sim (hR.mono hr) (hc.mono hr) (frs_mono hcs hr) hB hW₂ hv

theorem yielded_rel {ops : Array Oper} {c c' : Array Value} (hc : AR (SS Sb) r c c') (j : Nat) : yielded ops c j = yielded ops c' j := by
  unfold yielded
  cases ((ops[j]?).bind (·.dst)) with
  | none => rfl
  | some t =>
    simp only [Option.bind_some]
    cases e : c[t]? with
    | none => rw [hc.get_none e]
    | some v =>
      obtain ⟨v', e', hv⟩ := hc.get e
      rw [e']
      cases hv with
      | @junk v' h => cases v' <;> first | rfl | exact absurd h Bool.false_ne_true
      | _ => rfl

/-- The way out of a body: the end of a round, or of the function. -/
def outG (P : Program) (mn : Bool) (fr : Frame) (cs : List Frame) (j : Option Code) (W : World) : GStep :=
  match fr.roundOf with
  | none => .go (G { fr with mode := .returning } cs) W
  | some l => GStep.after (seen P fr.fn ((Instr.endRound l j).runT P W #[]).2) (match ((Instr.endRound l j).runT P W #[]).1 with
    | .ok v W => doReturn P mn fr cs none v W
    | .halt _ W => .ended (.stuck "range over a function: no such loop" (fr.pos P)) W)
theorem out_sim {fr fr' : Frame} {fs fs' : List Frame} (hR : FR P Sb r fr fr') (hcs : L2 (FR P Sb r) fs fs') (hB : Bot fr fs) (hW : WR (SS Sb) (KK P Sb) P.globals.size r h w) {j : Option Code} (hj : ∀ c, j = some c → okCode P Sb c = true) :
    SO P Sb r h w base base' (outG P true fr (fs ++ base) j) (outG P mn fr' (fs' ++ base') j w) := by
  have hr := hR.round
  unfold outG
  cases e : fr.roundOf with
  | none =>
    rw [e] at hr
    cases e' : fr'.roundOf with
    | none => exact plain_sim (fr := { fr with mode := .returning }) (fr' := { fr' with mode := .returning }) ⟨hR.fn, hR.fnS, hR.tmps, hR.todo, hR.defers, rfl, hR.kind, hR.kind', hR.round⟩ hcs (hB.same rfl) hW (fun W => by simp only [e]) (by simp only [e'])
    | some l => rw [e'] at hr; cases hr
  | some l =>
    rw [e] at hr
    cases e' : fr'.roundOf with
    | none => rw [e'] at hr; cases hr
    | some l' =>
      rw [e'] at hr
      cases hr with
      | some hl =>
        refine round_sim hR hcs hB hW hl ?_ hj
        rintro rfl
        rw [Bot, e] at hB; cases hB
/-- The frame has left its body. -/
def Left (fr : Frame) : Prop := match fr.mode with
  | .run => False
  | _ => True

theorem SO.congr {X Y : World → GStep} {X' Y' : GStep} (e1 : ∀ W, X W = Y W) (e2 : X' = Y') (h' : SO P Sb r h w base base' Y Y') : SO P Sb r h w base base' X X' := by
  rw [e2, show X = Y from funext e1]; exact h'
theorem exit_out {fr : Frame} {cs : List Frame} {W : World} {k : List Item} {id l : Nat} (hm : fr.mode = .run) (hk : fr.todo = .code (.exit id) :: k) (hr : fr.roundOf = some l) (he : exitTo id k = none) :
    stepG P mn (G fr cs) W = outG P mn fr cs (some (.exit id)) W := by
  obtain ⟨fn, tmps, todo, defers, mode, kind, ro⟩ := fr
  simp only at hm hk hr
  subst hm hk hr
  simp only [stepG, stepG.exec, G, he]
  rfl
theorem exit_lost {fr : Frame} {cs : List Frame} {W : World} {k : List Item} {id : Nat} (hm : fr.mode = .run) (hk : fr.todo = .code (.exit id) :: k) (hr : fr.roundOf = none) (he : exitTo id k = none) :
    ∃ o w₂ es, stepG P mn (G fr cs) W = .ended o w₂ es := by
  obtain ⟨fn, tmps, todo, defers, mode, kind, ro⟩ := fr
  simp only at hm hk hr
  subst hm hk hr
  simp only [stepG, stepG.exec, G, he]
  exact ⟨_, _, _, rfl⟩
theorem exit_in {fr : Frame} {cs : List Frame} {W : World} {k j : List Item} {id : Nat} (hm : fr.mode = .run) (hk : fr.todo = .code (.exit id) :: k) (he : exitTo id k = some j) :
    stepG P mn (G fr cs) W = .go (G { fr with todo := j } cs) W := by
  obtain ⟨fn, tmps, todo, defers, mode, kind, ro⟩ := fr
  simp only at hm hk
  subst hm hk
  simp only [stepG, stepG.exec, G, he]
  rfl
theorem draw_in {fr : Frame} {cs : List Frame} {W : World} {k : List Item} {id : Nat} {ops : Array Oper} (hm : fr.mode = .run) (hk : fr.todo = .code (.region id ops true) :: k) :
    stepG P mn (G fr cs) W = .go (G { fr with todo := .inRegion ops (Region.schedule (P.follows .mixedOrders) ops (W.tape W.drawn (.order fr.fn id))) :: k } cs) { W with drawn := W.drawn + 1 } := by
  obtain ⟨fn, tmps, todo, defers, mode, kind, ro⟩ := fr
  simp only at hm hk
  subst hm hk
  simp [stepG, stepG.exec, G, choose, Sem.run, Question.forced, Question.cut]
/-- What a range over a function goes on with. -/
def rangeK (P : Program) (fr : Frame) (cs : List Frame) (f : Operand) (k : List Item) (q : Result (Nat × List Deferred)) : GStep := match q with
  | .ok x W => stepG.apply P true { fr with todo := .inRangeFunc x.1 :: k, defers := x.2 ++ fr.defers } cs none
      (do let d ← resolve (Frame.eval { fr with todo := .inRangeFunc x.1 :: k, defers := x.2 ++ fr.defers }) { callee := .value f, args := #[.const (.func (.yield x.1) #[] #[])], argTypes := #[] } 0; invoke d.target d.args) W
  | .halt _ W => .ended (.stuck "range over a function: no such loop" (fr.pos P)) W
theorem range_in {fr : Frame} {cs : List Frame} {W : World} {k : List Item} {f : Operand} {ps : Array Tmp} {a b : Code} (hm : fr.mode = .run) (hk : fr.todo = .code (.rangeFunc f ps a b) :: k) :
    stepG P mn (G fr cs) W = GStep.after (seen P fr.fn ((Instr.enterLoop fr.fn fr.tmps ps a b fr.roundOf).runT P W #[]).2) (rangeK P fr cs f k ((Instr.enterLoop fr.fn fr.tmps ps a b fr.roundOf).runT P W #[]).1) := by
  obtain ⟨fn, tmps, todo, defers, mode, kind, ro⟩ := fr
  simp only at hm hk
  subst hm hk
  simp only [stepG, stepG.exec, G]
  generalize Sem.runT P (Instr.enterLoop fn tmps ps a b ro) W #[] = q
  obtain ⟨q, es⟩ := q
  cases q with
  | ok x W => obtain ⟨l, m⟩ := x; rfl
  | halt hh W => rfl
theorem resolve_one (fr : Frame) (f : Operand) (v : Value) : resolve fr.eval { callee := .value f, args := #[.const v], argTypes := #[] } 0 = Deferred.ofValue (fr.eval f) #[v] := by
  simp [resolve, Frame.eval]
theorem unwind_ret {f : Func} {fr : Frame} {cs : List Frame} {W : World} (hm : fr.mode = .returning) (hd : fr.defers = []) (hf : P.funcs[fr.fn]? = some f) :
    unwind P mn fr cs none W = GStep.after (seen P fr.fn ((results f fr.tmps).runT P W #[]).2) (match ((results f fr.tmps).runT P W #[]).1 with
      | .ok v W => doReturn P mn fr cs none v W
      | .halt (.stuck s) W => .ended (.stuck s (fr.pos P)) W
      | .halt _ W => .ended (.stuck "return: the result variables cannot be read" (fr.pos P)) W) := by
  unfold unwind
  simp only [hd, hm, hf]
  rfl
theorem unwind_pan {fr c : Frame} {cs : List Frame} {W : World} {ch : List PanicEntry} {f : Func} (hm : fr.mode = .panicking ch) (hd : fr.defers = []) (hf : P.funcs[fr.fn]? = some f) :
    unwind P mn fr (c :: cs) none W = .go (G (c.raise ch) cs) W := by
  unfold unwind
  have : fr.catches P = false := by unfold Frame.catches; rw [hf]
  simp only [hd, hm, this, Bool.false_eq_true, if_false]
  rfl
theorem unwind_take {fr : Frame} {cs : List Frame} {W : World} {b : Nat} {ds : List Deferred} (hd : fr.defers = { target := .collected b, args := #[] } :: ds) :
    unwind P mn fr cs none W = GStep.after (seen P fr.fn ((Instr.takeDeferred b).runT P W #[]).2) (match ((Instr.takeDeferred b).runT P W #[]).1 with
      | .ok calls W => .go (G { fr with defers := calls ++ ds } cs) W
      | .halt _ W => .ended (.stuck "the deferred calls of a range-over-func loop have been taken" (fr.pos P)) W) := by
  unfold unwind
  simp only [hd]
  rfl
theorem stepG_left {fr : Frame} {cs : List Frame} {W : World} (hm : Left fr) : stepG P mn (G fr cs) W = unwind P mn fr cs none W := by
  unfold Left at hm
  unfold stepG G
  dsimp only
  split at hm
  · exact hm.elim
  · rename_i x hx
    cases e : fr.mode with
    | run => exact absurd e hx
    | returning => rfl
    | panicking ch => rfl

set_option maxHeartbeats 4000000 in
/-- A frame that has left its body. -/
theorem left_sim (hS : FnsOk P (SS Sb) (KK P Sb)) {fr fr' : Frame} {fs fs' : List Frame} (hR : FR P Sb r fr fr') (hcs : L2 (FR P Sb r) fs fs') (hB : Bot fr fs) (hW : WR (SS Sb) (KK P Sb) P.globals.size r h w)
    (hl : Left fr) (hx : ¬ (fs = [] ∧ fr.defers = [])) :
    SO P Sb r h w base base' (fun W => stepG P true (G fr (fs ++ base)) W) (stepG P mn (G fr' (fs' ++ base')) w) := by
  have hl' : Left fr' := by unfold Left at *; rw [← hR.mode]; exact hl
  have hds := hR.defers
  simp only [stepG_left hl, stepG_left hl']
  cases hd : fr.defers with
  | nil =>
    rw [hd] at hds
    cases hd' : fr'.defers with
    | cons _ _ => rw [hd'] at hds; cases hds
    | nil =>
      cases hcs with
      | nil => exact absurd ⟨rfl, hd⟩ hx
      | @cons c c' fs fs' hc hcs =>
        obtain ⟨f, hf, _⟩ := hS _ hR.fnS
        have hf' : P.funcs[fr'.fn]? = some f := by rw [← hR.fn]; exact hf
        cases hm : fr.mode with
        | run => rw [Left, hm] at hl; exact hl.elim
        | returning =>
          have hm' : fr'.mode = .returning := by rw [← hR.mode]; exact hm
          simp only [unwind_ret hm hd hf, unwind_ret hm' hd' hf']
          refine after_sim (k := fun q => match q with
              | .ok v W => doReturn P true fr (c :: fs ++ base) none v W
              | .halt (.stuck s) W => .ended (.stuck s (fr.pos P)) W
              | .halt _ W => .ended (.stuck "return: the result variables cannot be read" (fr.pos P)) W)
            (k' := fun q => match q with
              | .ok v W => doReturn P mn fr' (c' :: fs' ++ base') none v W
              | .halt (.stuck s) W => .ended (.stuck s (fr'.pos P)) W
              | .halt _ W => .ended (.stuck "return: the result variables cannot be read" (fr'.pos P)) W)
            (sr_results hR.tmps) hW (fun r₂ h₂ w₂ a b hr hv hW₂ => ?_) (fun r₂ h₂ w₂ v hr hW₂ => .dead [] fun wb T d _ => ⟨_, _, _, rfl⟩) (fun hh _ W => by cases hh <;> exact ⟨_, _, _, rfl⟩)
          exact ret_sim (hR.mono hr) (hc.mono hr) (frs_mono hcs hr) hB hW₂ hv
        | panicking ch =>
          have hm' : fr'.mode = .panicking ch := by rw [← hR.mode]; exact hm
          simp only [List.cons_append, unwind_pan hm hd hf, unwind_pan hm' hd' hf']
          exact plain_sim (hc.raise ch) hcs (Bot.same (fr := c) hB (raise_round c ch)) hW (fun W => rfl) rfl
  | cons d ds =>
    rw [hd] at hds
    cases hd' : fr'.defers with
    | nil => rw [hd'] at hds; cases hds
    | cons d' ds' =>
      rw [hd'] at hds
      cases hds with
      | cons h1 h2 =>
        cases h1 with
        | @mk b b' hb =>
          simp only [unwind_take hd, unwind_take hd']
          refine after_sim (k := fun q => match q with
              | .ok calls W => .go (G { fr with defers := calls ++ ds } (fs ++ base)) W
              | .halt _ W => .ended (.stuck "the deferred calls of a range-over-func loop have been taken" (fr.pos P)) W)
            (k' := fun q => match q with
              | .ok calls W => .go (G { fr' with defers := calls ++ ds' } (fs' ++ base')) W
              | .halt _ W => .ended (.stuck "the deferred calls of a range-over-func loop have been taken" (fr'.pos P)) W)
            (sr_take hb) hW (fun r₂ h₂ w₂ a b hr hv hW₂ => ?_) (fun r₂ h₂ w₂ v hr hW₂ => .dead [] fun wb T d _ => ⟨_, _, _, rfl⟩) (fun hh _ W => ⟨_, _, _, rfl⟩)
          obtain ⟨rfl, rfl⟩ := hv
          have hR' := hR.mono hr
          exact plain_sim (fr := { fr with defers := ds }) (fr' := { fr' with defers := ds' }) ⟨hR'.fn, hR'.fnS, hR'.tmps, hR'.todo, h2.mono fun _ _ x => x.mono hr, hR'.mode, hR'.kind, hR'.kind', hR'.round⟩ (frs_mono hcs hr) (hB.same rfl) hW₂ (fun W => rfl) rfl

set_option maxHeartbeats 4000000 in
/-- ONE STEP. -/
theorem step_sim (hS : FnsOk P (SS Sb) (KK P Sb)) {fr fr' : Frame} {fs fs' : List Frame} (hR : FR P Sb r fr fr') (hcs : L2 (FR P Sb r) fs fs') (hB : Bot fr fs) (hW : WR (SS Sb) (KK P Sb) P.globals.size r h w)
    (hx : ¬ (fs = [] ∧ fr.defers = [] ∧ Left fr)) :
    SO P Sb r h w base base' (fun W => stepG P true (G fr (fs ++ base)) W) (stepG P mn (G fr' (fs' ++ base')) w) := by
  have hR0 := hR
  obtain ⟨fn, tmps, todo, defers, mode, kind, ro⟩ := fr
  obtain ⟨fn', tmps', todo', defers', mode', kind', ro'⟩ := fr'
  obtain ⟨h1, h2, h3, h4, h5, h6, h7, h8, h9⟩ := hR
  simp only at h1 h2 h3 h4 h5 h6 h7 h8 h9
  subst h1 h6 h7 h8
  have out : ∀ j : Option Code, (∀ c, j = some c → okCode P Sb c = true) → SO P Sb r h w base base' (outG P true _ (fs ++ base) j) (outG P mn _ (fs' ++ base') j w) := fun j hj => out_sim hR0 hcs hB hW hj
  have to : ∀ {k k' : List Item}, L2 (IR P Sb r) k k' → mode = .run → SO P Sb r h w base base' (fun W => .go (G { fn, tmps, todo := k, defers, mode, kind := .normal, roundOf := ro } (fs ++ base)) W)
      (.go (G { fn, tmps := tmps', todo := k', defers := defers', mode, kind := .normal, roundOf := ro' } (fs' ++ base')) w) := fun hk _ =>
    plain_sim (fr := { fn, tmps, todo := _, defers, mode, kind := .normal, roundOf := ro }) (fr' := { fn, tmps := tmps', todo := _, defers := defers', mode, kind := .normal, roundOf := ro' })
      ⟨rfl, h2, h3, hk, h5, rfl, rfl, rfl, h9⟩ hcs (hB.same rfl) hW (fun W => rfl) rfl
  cases mode with
  | returning => exact left_sim hS hR0 hcs hB hW trivial fun e => hx ⟨e.1, e.2, trivial⟩
  | panicking ch => exact left_sim hS hR0 hcs hB hW trivial fun e => hx ⟨e.1, e.2, trivial⟩
  | run =>
    cases h4 with
    | nil => exact out none (fun c e => by cases e)
    | @cons i i' k k' hi hk =>
      cases hi with
      | inBlock id => exact to hk rfl
      | inLoop hc => exact to (.cons (.code hc) (.cons (.inLoop hc) hk)) rfl
      | inRange hl => exact .dead [] fun wb T d _ => ⟨_, _, _, rfl⟩
      | beginRound =>
        refine apply_sim hS hR0 hcs hB hW (s := do ro.elim (stuck "beginRound: no round") Instr.beginRound; pure .skip) (s' := do ro'.elim (stuck "beginRound: no round") Instr.beginRound; pure .skip) ?_
        cases h9 with
        | none => exact .dead trivial
        | some hl => exact (sr_beginRound hl).bind fun _ _ _ _ _ => .pure .skip
      | @endRange l l' hl =>
        refine after_sim (k := fun q => match q with
            | .ok j W => .go (G { fn, tmps, todo := (j.map Item.code).toList ++ k, defers, mode := .run, kind := .normal, roundOf := ro } (fs ++ base)) W
            | .halt (.panic v) W => .go (G (({ fn, tmps, todo := .endRangeFunc l :: k, defers, mode := .run, kind := .normal, roundOf := ro } : Frame).raise [{ v, recovered := false }]) (fs ++ base)) W
            | .halt _ W => .ended (.stuck "range over a function: no such loop" (({ fn, tmps, todo := .endRangeFunc l :: k, defers, mode := .run, kind := .normal, roundOf := ro } : Frame).pos P)) W)
          (k' := fun q => match q with
            | .ok j W => .go (G { fn, tmps := tmps', todo := (j.map Item.code).toList ++ k', defers := defers', mode := .run, kind := .normal, roundOf := ro' } (fs' ++ base')) W
            | .halt (.panic v) W => .go (G (({ fn, tmps := tmps', todo := .endRangeFunc l' :: k', defers := defers', mode := .run, kind := .normal, roundOf := ro' } : Frame).raise [{ v, recovered := false }]) (fs' ++ base')) W
            | .halt _ W => .ended (.stuck "range over a function: no such loop" (({ fn, tmps := tmps', todo := .endRangeFunc l' :: k', defers := defers', mode := .run, kind := .normal, roundOf := ro' } : Frame).pos P)) W)
          (fn := fn) (fn' := fn) (sr_endLoop hl) hW (fun r₂ h₂ w₂ j j' hr hv hW₂ => ?_) (fun r₂ h₂ w₂ v hr hW₂ => ?_) (fun hh hd W => by cases hh <;> first | exact hd.elim | exact ⟨_, _, _, rfl⟩)
        · obtain ⟨rfl, hj⟩ := hv
          have hR' := hR0.mono hr
          refine plain_sim (fr := { fn, tmps, todo := (j.map Item.code).toList ++ k, defers, mode := .run, kind := .normal, roundOf := ro }) (fr' := { fn, tmps := tmps', todo := (j.map Item.code).toList ++ k', defers := defers', mode := .run, kind := .normal, roundOf := ro' })
            ⟨rfl, h2, hR'.tmps, ?_, hR'.defers, rfl, rfl, rfl, hR'.round⟩ (frs_mono hcs hr) (hB.same rfl) hW₂ (fun W => rfl) rfl
          have hk' := hk.mono fun _ _ x => IR.mono x hr
          cases j with
          | none => exact hk'
          | some c => exact .cons (.code (hj c rfl)) hk'
        · exact plain_sim ((hR0.mono hr).raise _) (frs_mono hcs hr) (hB.same (raise_round _ _)) hW₂ (fun W => rfl) rfl
      | @inRegion ops l ho =>
        cases l with
        | nil => exact to hk rfl
        | cons i rest =>
          have ey : (fun j => yielded ops tmps j) = fun j => yielded ops tmps' j := funext fun j => yielded_rel h3 j
          cases hw : ((ops[i]?).map (Region.wanted · (yielded ops tmps))).getD false with
          | false =>
            have hw' : ((ops[i]?).map (Region.wanted · (yielded ops tmps'))).getD false = false := by
              rw [← show yielded ops tmps = yielded ops tmps' from ey]; exact hw
            refine plain_sim (hR0.finish .undef) hcs (hB.same (finish_round _ _)) hW (fun W => ?_) ?_
            · simp only [stepG, stepG.exec, G, hw, Bool.false_eq_true, if_false]
            · simp only [stepG, stepG.exec, G, hw', Bool.false_eq_true, if_false]
          | true =>
            have hw' : ((ops[i]?).map (Region.wanted · (yielded ops tmps'))).getD false = true := by
              rw [← show yielded ops tmps = yielded ops tmps' from ey]; exact hw
            cases hoi : ops[i]? with
            | none => rw [hoi] at hw; cases hw
            | some o =>
              have hok : okOp P Sb o.op = true := (Array.all_eq_true_iff_forall_mem.1 ho) o (Array.mem_of_getElem? hoi)
              have hnd : ∀ c, o.op ≠ .defer c := fun c e => by rw [e] at hok; cases hok
              have key : ∀ (mn : Bool) (fr : Frame) (cs : List Frame) (W : World), fr.mode = .run → (∃ k, fr.todo = .inRegion ops (i :: rest) :: k) → ((ops[i]?).map (Region.wanted · (yielded ops fr.tmps))).getD false = true →
                  stepG P mn (G fr cs) W = stepG.apply P true fr cs none (execOp fr.eval o) W := by
                intro mn fr cs W hm hk hw
                obtain ⟨fn, tmps, todo, defers, mode, kind, ro⟩ := fr
                obtain ⟨k, hk⟩ := hk
                simp only at hm hk hw
                subst hm hk
                rw [hoi] at hw
                simp only [stepG, stepG.exec, G, stepG.oper, Frame.oper?, hoi, hw, if_true]
                cases ro with
                | none => rfl
                | some l =>
                  cases e : o.op with
                  | defer c => exact absurd e (hnd c)
                  | _ => rfl
              have e1 : (fun W => stepG P true (G ({ fn, tmps, todo := .inRegion ops (i :: rest) :: k, defers, mode := .run, kind := .normal, roundOf := ro } : Frame) (fs ++ base)) W) = fun W => stepG.apply P true ({ fn, tmps, todo := .inRegion ops (i :: rest) :: k, defers, mode := .run, kind := .normal, roundOf := ro } : Frame) (fs ++ base) none (execOp (Frame.eval { fn, tmps, todo := .inRegion ops (i :: rest) :: k, defers, mode := .run, kind := .normal, roundOf := ro }) o) W :=
                funext fun W => key true _ _ W rfl ⟨k, rfl⟩ hw
              rw [e1, key mn { fn, tmps := tmps', todo := .inRegion ops (i :: rest) :: k', defers := defers', mode := .run, kind := .normal, roundOf := ro' } _ w rfl ⟨k', rfl⟩ hw']
              exact apply_sim hS hR0 hcs hB hW (sr_execOp hS hW.good (fun f hf => hf) (fun x hx => hR0.eval hx) hok)
      | @code c hc =>
        cases c with
        | skip => exact to hk rfl
        | ret => exact out (some .ret) (fun c e => by cases e; rfl)
        | seq a b =>
          simp only [okCode, Bool.and_eq_true] at hc
          exact to (.cons (.code hc.1) (.cons (.code hc.2) hk)) rfl
        | block id c => exact to (.cons (.code hc) (.cons (.inBlock id) hk)) rfl
        | loop c => exact to (.cons (.code hc) (.cons (.inLoop hc) hk)) rfl
        | cond c a b =>
          simp only [okCode, Bool.and_eq_true] at hc
          have hv := hR0.eval hc.1.1
          have e1 : ∀ (mn : Bool) (fr : Frame) (cs : List Frame) (W : World) (k : List Item), fr.mode = .run → fr.todo = .code (.cond c a b) :: k → ∀ q, fr.eval c = .bool q → stepG P mn (G fr cs) W = .go (G { fr with todo := .code (if q then a else b) :: k } cs) W := by
            intro mn fr cs W k hm hk q hq
            obtain ⟨fn, tmps, todo, defers, mode, kind, ro⟩ := fr
            simp only at hm hk
            subst hm hk
            simp only [stepG, stepG.exec, G, hq]
          have e2 : ∀ (mn : Bool) (fr : Frame) (cs : List Frame) (W : World) (k : List Item), fr.mode = .run → fr.todo = .code (.cond c a b) :: k → (∀ q, fr.eval c ≠ .bool q) → ∃ o w₂ es, stepG P mn (G fr cs) W = .ended o w₂ es := by
            intro mn fr cs W k hm hk hq
            obtain ⟨fn, tmps, todo, defers, mode, kind, ro⟩ := fr
            simp only at hm hk
            subst hm hk
            cases e : Frame.eval { fn, tmps, todo := .code (.cond c a b) :: k, defers, mode := .run, kind, roundOf := ro } c with
            | bool q => exact absurd e (hq q)
            | _ => exact ⟨_, _, _, by simp only [stepG, stepG.exec, G, e]; rfl⟩
          generalize hev : Frame.eval { fn, tmps, todo := .code (.cond c a b) :: k, defers, mode := .run, kind := .normal, roundOf := ro } c = v at hv
          generalize hev' : Frame.eval { fn, tmps := tmps', todo := .code (.cond c a b) :: k', defers := defers', mode := .run, kind := .normal, roundOf := ro' } c = v' at hv
          cases hv with
          | bool q =>
            refine plain_sim (fr := { fn, tmps, todo := .code (if q then a else b) :: k, defers, mode := .run, kind := .normal, roundOf := ro }) (fr' := { fn, tmps := tmps', todo := .code (if q then a else b) :: k', defers := defers', mode := .run, kind := .normal, roundOf := ro' })
              ⟨rfl, h2, h3, .cons (.code ?_) hk, h5, rfl, rfl, rfl, h9⟩ hcs (hB.same rfl) hW (fun W => e1 true _ _ W k rfl rfl q hev) (e1 mn _ _ w k' rfl rfl q hev')
            cases q
            · exact hc.2
            · exact hc.1.2
          | _ => exact .dead [] fun wb T d _ => e2 true _ _ _ k rfl rfl fun q => by rw [hev]; simp
        | exit id =>
          rcases exit_rel (id := id) hk with ⟨g1, g2⟩ | ⟨j, j', g1, g2, g3⟩
          · cases h9 with
            | none => exact .dead [] fun wb T d _ => exit_lost rfl rfl rfl g1
            | some hl => exact SO.congr (fun W => exit_out rfl rfl rfl g1) (exit_out rfl rfl rfl g2) (out (some (.exit id)) (fun c e => by cases e; rfl))
          · exact SO.congr (fun W => exit_in rfl rfl g1) (exit_in rfl rfl g2) (to g3 rfl)
        | region id ops draw =>
          cases draw with
          | false => exact to (.cons (.inRegion _ hc) hk) rfl
          | true =>
            refine .go [w.tape w.drawn (.order fn id)] h r { fn, tmps, todo := .inRegion ops (Region.schedule (P.follows .mixedOrders) ops (w.tape w.drawn (.order fn id))) :: k, defers, mode := .run, kind := .normal, roundOf := ro } fs
              { fn, tmps := tmps', todo := .inRegion ops (Region.schedule (P.follows .mixedOrders) ops (w.tape w.drawn (.order fn id))) :: k', defers := defers', mode := .run, kind := .normal, roundOf := ro' } fs' { w with drawn := w.drawn + 1 } #[]
              ⟨rfl, h2, h3, .cons (.inRegion _ hc) hk, h5, rfl, rfl, rfl, h9⟩ hcs (hB.same rfl) ⟨hW.good, hW.big, hW.big', hW.at_⟩
              (grow_ev (w := w) (w' := { w with drawn := w.drawn + 1 }) rfl rfl rfl rfl (fun _ _ => rfl) (fun e he => absurd he (by simp))) (fun wb T d hs => ⟨#[], ?_⟩) (draw_in rfl rfl)
            have e : T d (.order fn id) = w.tape w.drawn (.order fn id) := hs.cons.1 _
            rw [draw_in rfl rfl, ← e]
            rfl
        | rangeFunc f ps a b =>
          simp only [okCode, Bool.and_eq_true] at hc
          refine SO.congr (fun W => range_in rfl rfl) (range_in rfl rfl) ?_
          refine after_sim (k := rangeK P _ (fs ++ base) f k) (k' := rangeK P _ (fs' ++ base') f k')
            (sr_enterLoop h2 h3 hc.1.2 hc.2 h9) hW (fun r₂ h₂ w₂ x x' hr hv hW₂ => ?_) (fun r₂ h₂ w₂ v hr hW₂ => .dead [] fun wb T d _ => ⟨_, _, _, rfl⟩) (fun hh hd W => ⟨_, _, _, rfl⟩)
          have hR' := hR0.mono hr
          have hR2 : FR P Sb r₂ { fn, tmps, todo := .inRangeFunc x.1 :: k, defers := x.2 ++ defers, mode := .run, kind := .normal, roundOf := ro } { fn, tmps := tmps', todo := .inRangeFunc x'.1 :: k', defers := x'.2 ++ defers', mode := .run, kind := .normal, roundOf := ro' } :=
            ⟨rfl, h2, hR'.tmps, .cons (.inRange hv.loop) (hk.mono fun _ _ x => IR.mono x hr), hv.mark.append hR'.defers, rfl, rfl, rfl, hR'.round⟩
          refine apply_sim hS hR2 (frs_mono hcs hr) (hB.same rfl) hW₂ ?_
          rw [resolve_one, resolve_one]
          exact sr_callValue hS hc.1.1.2 (hR2.eval hc.1.1.1) (AR.one (VR.toFunc (.yield hv.loop) .nil .nil))
        | _ => cases hc
end Go.Proofs.Ytjbpaejjpamcpaa.Sim
/- A contract of a function alone holds in company: the same code, its own blocks bearing other numbers. -/
namespace Go.Proofs.Ytjbpaejjpamcpaa.Sim
set_option linter.unusedSimpArgs false
set_option linter.unusedVariables false
open Go Go.Conc
variable {P : Program} {Sb : FuncId → Bool}

/-! ### runs alone -/
/-- The frame below: it ends whatever comes back to it. -/
def pit (f : FuncId) : Frame := { fn := f, tmps := #[], todo := [.code (.refuse "")], defers := [{ target := .nil, args := #[] }], mode := .run, kind := .normal }
theorem pit_finish (f : FuncId) (v : Value) (W : World) : ∃ o w₂ es, stepG P true (G ((pit f).finish v) []) W = .ended o w₂ es := ⟨_, _, _, rfl⟩
theorem pit_raise (f : FuncId) (ch : List PanicEntry) (W : World) : ∃ o w₂ es, stepG P true (G ((pit f).raise ch) []) W = .ended o w₂ es := by
  exact ⟨_, _, _, rfl⟩
theorem lone_go {fr fr' : Frame} {cs cs' : List Frame} {w w' : World} {es : Array Event} (h : stepG P true (G fr cs) w = .go (G fr' cs') w' es) : step P (lone fr cs w) = .next (lone fr' cs' w') :=
  step_lone_go (by show (stepG P true (G fr cs) w).bare = _; rw [h]; rfl)
theorem lone_ended {fr : Frame} {cs : List Frame} {w w' : World} {o : Outcome} {es : Array Event} (h : stepG P true (G fr cs) w = .ended o w' es) : step P (lone fr cs w) = .ended o w' :=
  step_lone_ended (by show (stepG P true (G fr cs) w).bare = _; rw [h]; rfl)
theorem runN_one {m m₁ : Machine} {n : Nat} (h : runN P n m = .next m₁) {m₂ : Machine} (h' : step P m₁ = .next m₂) : runN P (n + 1) m = .next m₂ := by
  rw [runN_add, h]; simp [runN, h']
theorem runN_over {m m₁ m₃ : Machine} {n k : Nat} (h : runN P n m = .next m₁) {o : Outcome} {w : World} (h' : step P m₁ = .ended o w) (hk : runN P k m = .next m₃) : k ≤ n := by
  rcases Nat.lt_or_ge n k with hlt | hge
  · exfalso
    obtain ⟨j, rfl⟩ : ∃ j, k = n + (j + 1) := ⟨k - n - 1, by omega⟩
    rw [runN_add, h] at hk
    simp [runN, h'] at hk
  · exact hge
theorem runN_det {m m₁ m₂ : Machine} {n : Nat} (h : runN P n m = .next m₁) (h' : runN P n m = .next m₂) : m₁ = m₂ := by rw [h] at h'; simpa using h'

/-- A frame that has left its body, with none of its own above the pit. -/
def Gone (fr : Frame) : Prop := fr.defers = [] ∧ Left fr
/-- From there the run alone lasts two steps at most, and comes back to the pit's own frame. -/
theorem gone_step {fr : Frame} (hf : Gone fr) {fn : Func} (hfn : P.funcs[fr.fn]? = some fn) (hk : fr.kind = .normal) {f : FuncId} {W : World} :
    (∃ o w₂, step P (lone fr [pit f] W) = .ended o w₂) ∨ ∃ c W', step P (lone fr [pit f] W) = .next (lone c [] W') ∧ ∃ o w₂, step P (lone c [] W') = .ended o w₂ := by
  obtain ⟨hd, hl⟩ := hf
  have e := stepG_left (P := P) (mn := true) (cs := [pit f]) (W := W) hl
  cases hm : fr.mode with
  | run => rw [Left, hm] at hl; exact hl.elim
  | returning =>
    rw [unwind_ret hm hd hfn] at e
    cases hq : ((results fn fr.tmps).runT P W #[]).1 with
    | ok v W' =>
      rw [hq] at e
      simp only [doReturn, hk] at e
      obtain ⟨o, w₂, es, e'⟩ := pit_finish (P := P) f v W'
      exact .inr ⟨_, W', lone_go (es := _) e, o, w₂, lone_ended e'⟩
    | halt hh W' =>
      rw [hq] at e
      cases hh <;> exact .inl ⟨_, _, lone_ended e⟩
  | panicking ch =>
    rw [unwind_pan hm hd hfn] at e
    obtain ⟨o, w₂, es, e'⟩ := pit_raise (P := P) f ch W
    exact .inr ⟨_, W, lone_go e, o, w₂, lone_ended e'⟩

section
variable {f : FuncId} {args : Array Value} {wb : World} {h0 : Array Obj} {R : (Nat → Question → Nat) → Ending → World → Prop}
/-- The run alone, whatever is drawn behind 'bs', stands here after n steps. -/
def LoneAt (P : Program) (f : FuncId) (args : Array Value) (wb : World) (h0 : Array Obj) (n : Nat) (bs : List Nat) (h : Array Obj) (fr : Frame) (fs : List Frame) : Prop :=
  ∀ T, Says T 0 bs → runN P n (lone (Frame.enter P f args .normal) [pit f] (LW wb h0 T 0)) = .next (lone fr (fs ++ [pit f]) (LW wb h T bs.length))

theorem ends_at (hC : ∀ T, Calls P f args (LW wb h0 T 0) (R T)) (hret : ∀ T e w, R T e w → ∃ v, e = .returned v) (T : Nat → Question → Nat) :
    ∃ N fr v w', runN P N (lone (Frame.enter P f args .normal) [pit f] (LW wb h0 T 0)) = .next (lone fr [pit f] w') ∧ fr.leaving P w' (.returned v) ∧ R T (.returned v) w' := by
  obtain ⟨e, w', fr, hR, hc, _, hl⟩ := hC T [pit f]
  obtain ⟨v, rfl⟩ := hret T e w' hR
  obtain ⟨N, hN⟩ := hc
  exact ⟨N, fr, v, w', hN, hl, hR⟩
theorem lone_frame {fr fr' : Frame} {cs cs' : List Frame} {w w' : World} (h : lone fr cs w = lone fr' cs' w') : fr = fr' ∧ cs = cs' ∧ w = w' := by
  simp [lone] at h
  obtain ⟨rfl, rfl, rfl⟩ := h
  exact ⟨rfl, rfl, rfl⟩
theorem before_end {m : Machine} {N n : Nat} {fr fr' : Frame} {cs : List Frame} {w w' : World} (h : runN P N m = .next (lone fr [pit f] w)) (hg : Gone fr) {fn : Func} (hfn : P.funcs[fr.fn]? = some fn) (hk : fr.kind = .normal)
    (h' : runN P n m = .next (lone fr' cs w')) (hcs : cs ≠ []) : n ≤ N := by
  rcases gone_step (P := P) hg hfn hk (f := f) (W := w) with ⟨o, w₂, e⟩ | ⟨c, W', e, o, w₂, e'⟩
  · exact runN_over h e h'
  · have h1 := runN_one h e
    have h2 := runN_over h1 e' h'
    rcases Nat.lt_or_ge N n with hlt | hge
    · obtain rfl : n = N + 1 := by omega
      exact absurd (lone_frame (runN_det h1 h')).2.1.symm hcs
    · exact hge
theorem gone_of_leaving {fr : Frame} {w : World} {v : Value} (h : fr.leaving P w (.returned v)) : Gone fr := ⟨h.2.1, by rw [Left, h.1]; trivial⟩

/-- Some tape says this. -/
def tapeOf (bs : List Nat) : Nat → Question → Nat := fun j _ => bs.getD j 0
theorem says_tapeOf (bs : List Nat) : Says (tapeOf bs) 0 bs := fun j b hj q => by simp [tapeOf, List.getD_eq_getElem?_getD, hj]

/-- Where the run alone has left the function, it stands where its contract says. -/
theorem at_end (hC : ∀ T, Calls P f args (LW wb h0 T 0) (R T)) (hret : ∀ T e w, R T e w → ∃ v, e = .returned v) {n : Nat} {bs : List Nat} {h : Array Obj} {fr : Frame} (hL : LoneAt P f args wb h0 n bs h fr []) (hg : Gone fr)
    {fn : Func} (hfn : P.funcs[fr.fn]? = some fn) (hk : fr.kind = .normal) (T : Nat → Question → Nat) (hT : Says T 0 bs) : ∃ v, fr.leaving P (LW wb h T bs.length) (.returned v) ∧ R T (.returned v) (LW wb h T bs.length) := by
  obtain ⟨N, fr1, v, w', hN, hl, hR⟩ := ends_at hC hret T
  have hn := hL T hT
  obtain ⟨fn1, hfn1, _⟩ := hl.2.2.2
  have h1 : n ≤ N := before_end hN (gone_of_leaving hl) hfn1 hl.2.2.1 hn (by simp)
  have h2 : N ≤ n := before_end hn hg hfn hk hN (by simp)
  obtain rfl : N = n := by omega
  obtain ⟨rfl, _, rfl⟩ := lone_frame (runN_det hN hn)
  exact ⟨v, hl, hR⟩
/-- Before that the run alone takes a step. -/
theorem not_ended (hC : ∀ T, Calls P f args (LW wb h0 T 0) (R T)) (hret : ∀ T e w, R T e w → ∃ v, e = .returned v) {n : Nat} {bs : List Nat} {h : Array Obj} {fr : Frame} {fs : List Frame} (hL : LoneAt P f args wb h0 n bs h fr fs)
    (hx : ¬ (fs = [] ∧ fr.defers = [] ∧ Left fr)) (T : Nat → Question → Nat) (hT : Says T 0 bs) {o : Outcome} {w₂ : World} {es : Array Event} : stepG P true (G fr (fs ++ [pit f])) (LW wb h T bs.length) ≠ .ended o w₂ es := by
  intro he
  obtain ⟨N, fr1, v, w', hN, hl, hR⟩ := ends_at hC hret T
  have hn := hL T hT
  have h1 : N ≤ n := runN_over hn (lone_ended he) hN
  obtain ⟨fn1, hfn1, _⟩ := hl.2.2.2
  have h2 : n ≤ N := before_end hN (gone_of_leaving hl) hfn1 hl.2.2.1 hn (by simp)
  obtain rfl : N = n := by omega
  obtain ⟨rfl, hcs, rfl⟩ := lone_frame (runN_det hN hn)
  refine hx ⟨?_, hl.2.1, (gone_of_leaving hl).2⟩
  have : ([pit f] : List Frame).length = (fs ++ [pit f]).length := by rw [← hcs]
  simp at this
  exact this
end
end Go.Proofs.Ytjbpaejjpamcpaa.Sim
/- A contract of a function alone holds in company ('way_of_calls'): the same code, its own blocks bearing other numbers; whatever is drawn. -/
namespace Go.Proofs.Ytjbpaejjpamcpaa.Sim
set_option linter.unusedSimpArgs false
set_option linter.unusedVariables false
open Go Go.Conc
variable {P : Program} {Sb : FuncId → Bool} {mn : Bool} {Fr : Nat → Prop} {Inv : World → Prop}

/-- The own blocks. -/
def own (r : Ren) : Nat → Prop := fun b => ∃ i, r i = some b
theorem WR.moved {r : Ren} {h : Array Obj} {w w₁ : World} {S : FuncId → Prop} {K : Code → Prop} {G : Nat} (hW : WR S K G r h w) (hr : Rely (own r) w w₁) : WR S K G r h w₁ :=
  ⟨hW.good, hW.big, Nat.le_trans hW.big' hr.size, fun i b e => by obtain ⟨o, o', h1, h2, h3⟩ := hW.at_ i b e; exact ⟨o, o', h1, (hr.keep b ⟨i, e⟩).trans h2, h3⟩⟩
theorem grown_own {r r₂ : Ren} {h₂ : Array Obj} {w w₂ : World} {es : Array Event} {S : FuncId → Prop} {K : Code → Prop} {G : Nat} (hG : Grow r r₂ w w₂ es) (hW : WR S K G r₂ h₂ w₂) : grown (own r) w w₂ = own r₂ := by
  funext b
  refine propext ⟨fun x => ?_, fun ⟨i, e⟩ => ?_⟩
  · rcases x with ⟨i, e⟩ | ⟨h1, h2⟩
    · exact ⟨i, hG.le _ _ e⟩
    · exact hG.own b h1 h2
  · rcases hG.new i b e with h | h
    · exact .inl ⟨i, h⟩
    · exact .inr ⟨h, (hW.lt e).2⟩
theorem gu_of_grow {r r₂ : Ren} {h₂ : Array Obj} {w w₂ : World} {es : Array Event} {S : FuncId → Prop} {K : Code → Prop} {G : Nat} (hG : Grow r r₂ w w₂ es) (hW : WR S K G r₂ h₂ w₂) : Gu Fr (own r) w w₂ es := by
  refine ⟨hG.tape, hG.os, hG.output, hG.size, fun b hb hlt => hG.other b (fun i e => hb ⟨i, e⟩) hlt, fun e he => ?_⟩
  rw [grown_own hG hW]
  have := hG.ev e he
  unfold EvOk at this
  unfold EvK
  split at this
  · rename_i a ea; rw [ea]; exact .inl this
  · rename_i b eb; rw [eb]; exact this
  · rename_i em; rw [em]; trivial
  · exact this.elim

/-- What is held from step to step. -/
structure Sta where
  n : Nat
  bs : List Nat
  r : Ren
  h : Array Obj
  fr : Frame
  fs : List Frame
  fr' : Frame
  fs' : List Frame
  w : World
section
variable {f : FuncId} {args args' : Array Value} {wb : World} {h0 : Array Obj} {r0 : Ren} {Fx : Nat → Prop} {R : (Nat → Question → Nat) → Ending → World → Prop} {c : Frame} {cs : List Frame}
structure Sta.ok (P : Program) (Sb : FuncId → Bool) (f : FuncId) (args : Array Value) (wb : World) (h0 : Array Obj) (r0 : Ren) (Fx : Nat → Prop) (s : Sta) : Prop where
  lone : LoneAt P f args wb h0 s.n s.bs s.h s.fr s.fs
  fr : FR P Sb s.r s.fr s.fr'
  fs : L2 (FR P Sb s.r) s.fs s.fs'
  bot : Bot s.fr s.fs
  w : WR (SS Sb) (KK P Sb) P.globals.size s.r s.h s.w
  le : Ren.le r0 s.r
  fx : ∀ i b, s.r i = some b → ¬ Fx b
/-- Where it comes back: the caller goes on with what the contract says. -/
def Back (P : Program) (Sb : FuncId → Bool) (wb : World) (r0 : Ren) (R : (Nat → Question → Nat) → Ending → World → Prop) (c : Frame) (cs : List Frame) (E : Nat → Prop) (g : Goroutine) (w : World) : Prop :=
  ∃ r h v v' T d, Ren.le r0 r ∧ E = own r ∧ WR (SS Sb) (KK P Sb) P.globals.size r h w ∧ VR (SS Sb) r v v' ∧ g = G (c.finish v') cs ∧ R T (.returned v) (LW wb h T d)

theorem next_bad (hS : FnsOk P (SS Sb) (KK P Sb)) (hC : ∀ T, Calls P f args (LW wb h0 T 0) (R T)) (hret : ∀ T e w, R T e w → ∃ v, e = .returned v)
    (hI : ∀ w w', (∀ b, Fx b → w'.heap[b]? = w.heap[b]?) → Inv w → Inv w') (hlt : ∀ w b, Inv w → Fx b → b < w.heap.size) {s : Sta} (hs : s.ok P Sb f args wb h0 r0 Fx)
    (hb : ¬ Way P mn Fr Inv (Back P Sb wb r0 R c cs) (own s.r) (G s.fr' (s.fs' ++ (c :: cs))) s.w) :
    ∃ s' : Sta, s'.ok P Sb f args wb h0 r0 Fx ∧ ¬ Way P mn Fr Inv (Back P Sb wb r0 R c cs) (own s'.r) (G s'.fr' (s'.fs' ++ (c :: cs))) s'.w ∧ s'.n = s.n + 1 ∧ ∃ l, s'.bs = s.bs ++ l := by
  have inv' : ∀ {r r₂ : Ren} {w w₂ : World} {es : Array Event}, Grow r r₂ w w₂ es → (∀ i b, r i = some b → ¬ Fx b) → Inv w → Inv w₂ := fun hG hfx hi =>
    hI _ _ (fun b hb => hG.other b (fun i e => hfx i b e hb) (hlt _ b hi hb)) hi
  obtain ⟨n, bs, r, h, fr, fs, fr', fs', w⟩ := s
  obtain ⟨hL, hR, hcs, hB, hW, hle, hfx⟩ := hs
  simp only at hL hR hcs hB hW hle hfx hb
  obtain ⟨fn, hfn, _⟩ := hS _ hR.fnS
  by_cases hx : fs = [] ∧ fr.defers = [] ∧ Left fr
  · -- THE RETURN
    refine absurd ?_ hb
    obtain ⟨rfl, hd, hl⟩ := hx
    cases hcs
    have hE := at_end hC hret hL ⟨hd, hl⟩ hfn hR.kind
    refine Way.one rfl fun w₁ hrel hinv => ?_
    have hW₁ := hW.moved hrel
    have hrun : ∀ T, Says T 0 bs → ∃ v, (results fn fr.tmps).run P (LW wb h T bs.length) = .ok v (LW wb h T bs.length) ∧ R T (.returned v) (LW wb h T bs.length) := fun T hT => by
      obtain ⟨v, hv, hRv⟩ := hE T hT
      obtain ⟨fn', hfn', hv'⟩ := hv.2.2.2
      rw [hfn] at hfn'
      simp only [Option.some.injEq] at hfn'
      subst hfn'
      exact ⟨v, hv', hRv⟩
    have hm : fr.mode = .returning := by
      obtain ⟨v, hv, _⟩ := hE (tapeOf bs) (says_tapeOf bs)
      exact hv.1
    have hm' : fr'.mode = .returning := by rw [← hR.mode]; exact hm
    have hd' : fr'.defers = [] := by
      have := hR.defers
      rw [hd] at this
      cases e : fr'.defers with
      | nil => rfl
      | cons _ _ => rw [e] at this; cases this
    have hfn' : P.funcs[fr'.fn]? = some fn := by rw [← hR.fn]; exact hfn
    have hl' : Left fr' := by rw [Left, hm']; trivial
    cases (sr_results (P := P) (fn := fn) hR.tmps).runs h w₁ hW₁ with
    | ok bs₂ h₂ r₂ a b w₂ es hA hW₂ hG f1 f2 =>
      have hT := says_tapeOf (bs ++ bs₂)
      obtain ⟨k1, k2⟩ := hT.app
      obtain ⟨v, e1, hRv⟩ := hrun _ k1
      have e2 := f1 wb (tapeOf (bs ++ bs₂)) bs.length (by simpa using k2)
      rw [e1] at e2
      simp only [Result.ok.injEq] at e2
      obtain ⟨rfl, e3⟩ := e2
      have e4 : h = h₂ := congrArg World.heap e3
      subst e4
      refine ⟨G (c.finish b) cs, w₂, seen P fr'.fn es, ?_, gu_of_grow hG.seen hW₂, inv' hG hfx hinv, .stop fun w₃ h3 _ => ?_⟩
      · show stepG P mn (G fr' (c :: cs)) w₁ = _
        rw [stepG_left hl', unwind_ret hm' hd' hfn', f2]
        simp only [doReturn, hR.kind', Array.empty_append, GStep.after, Array.append_empty]
        rfl
      · rw [grown_own hG hW₂] at h3 ⊢
        exact ⟨r₂, h, v, b, _, _, Ren.le_trans hle hG.le, rfl, hW₂.moved h3, hA, rfl, hRv⟩
    | panic bs₂ h₂ r₂ v w₂ es hW₂ hG f1 f2 =>
      have hT := says_tapeOf (bs ++ bs₂)
      obtain ⟨k1, k2⟩ := hT.app
      obtain ⟨v, e1, hRv⟩ := hrun _ k1
      have e2 := f1 wb (tapeOf (bs ++ bs₂)) bs.length (by simpa using k2)
      rw [e1] at e2
      cases e2
    | dead bs₂ hh hdd ff =>
      have hT := says_tapeOf (bs ++ bs₂)
      obtain ⟨k1, k2⟩ := hT.app
      obtain ⟨v, e1, hRv⟩ := hrun _ k1
      obtain ⟨w₂, e2⟩ := ff wb (tapeOf (bs ++ bs₂)) bs.length (by simpa using k2)
      rw [e1] at e2
      cases e2
  · -- A STEP
    refine Classical.byContradiction fun hno => hb ?_
    refine Way.one rfl fun w₁ hrel hinv => ?_
    have hW₁ := hW.moved hrel
    cases step_sim (mn := mn) (base := [pit f]) (base' := c :: cs) hS hR hcs hB hW₁ hx with
    | go bs₂ h₂ r₂ fr₂ fs₂ fr₂' fs₂' w₂ es hR₂ hcs₂ hB₂ hW₂ hG f1 f2 =>
      refine ⟨_, w₂, es, f2, gu_of_grow hG hW₂, inv' hG hfx hinv, ?_⟩
      rw [grown_own hG hW₂]
      refine Classical.byContradiction fun hb₂ => hno ⟨⟨n + 1, bs ++ bs₂, r₂, h₂, fr₂, fs₂, fr₂', fs₂', w₂⟩, ⟨?_, hR₂, hcs₂, hB₂, hW₂, Ren.le_trans hle hG.le, fun i b e => ?_⟩, hb₂, rfl, bs₂, rfl⟩
      · intro T hT
        obtain ⟨k1, k2⟩ := hT.app
        obtain ⟨es', e⟩ := f1 wb T bs.length (by simpa using k2)
        have := runN_one (hL T k1) (lone_go e)
        simpa [List.length_append] using this
      · rcases hG.new i b e with e' | e'
        · exact hfx i b e'
        · exact fun hb => absurd (hlt _ b hinv hb) (by omega)
    | dead bs₂ ff =>
      exfalso
      have hT := says_tapeOf (bs ++ bs₂)
      obtain ⟨k1, k2⟩ := hT.app
      obtain ⟨o, w₂, es, e⟩ := ff wb (tapeOf (bs ++ bs₂)) bs.length (by simpa using k2)
      exact not_ended hC hret hL hx _ k1 e

theorem way_of_calls (hS : FnsOk P (SS Sb) (KK P Sb)) (hC : ∀ T, Calls P f args (LW wb h0 T 0) (R T)) (hret : ∀ T e w, R T e w → ∃ v, e = .returned v)
    (hI : ∀ w w', (∀ b, Fx b → w'.heap[b]? = w.heap[b]?) → Inv w → Inv w') (hlt : ∀ w b, Inv w → Fx b → b < w.heap.size) (hf : Sb f = true) {w : World} (hW : WR (SS Sb) (KK P Sb) P.globals.size r0 h0 w)
    (ha : AR (SS Sb) r0 args args') (hfx : ∀ i b, r0 i = some b → ¬ Fx b) :
    Way P mn Fr Inv (Back P Sb wb r0 R c cs) (own r0) (G (Frame.enter P f args' .normal) (c :: cs)) w := by
  refine Classical.byContradiction fun hbad => ?_
  let Bad := { s : Sta // s.ok P Sb f args wb h0 r0 Fx ∧ ¬ Way P mn Fr Inv (Back P Sb wb r0 R c cs) (own s.r) (G s.fr' (s.fs' ++ (c :: cs))) s.w }
  let s0 : Bad := ⟨⟨0, [], r0, h0, Frame.enter P f args .normal, [], Frame.enter P f args' .normal, [], w⟩, ⟨fun T _ => rfl, FR.enter hS hf ha, .nil, rfl, hW, Ren.le_refl _, hfx⟩, hbad⟩
  have nx : ∀ s : Bad, ∃ s' : Bad, s'.1.n = s.1.n + 1 ∧ ∃ l, s'.1.bs = s.1.bs ++ l := fun s => by
    obtain ⟨s', h1, h2, h3, h4⟩ := next_bad hS hC hret hI hlt s.2.1 s.2.2
    exact ⟨⟨s', h1, h2⟩, h3, h4⟩
  let q : Nat → Bad := fun k => Nat.rec s0 (fun _ s => Classical.choose (nx s)) k
  have q1 : ∀ k, (q (k + 1)).1.n = (q k).1.n + 1 ∧ ∃ l, (q (k + 1)).1.bs = (q k).1.bs ++ l := fun k => Classical.choose_spec (nx (q k))
  have qn : ∀ k, (q k).1.n = k := fun k => by
    induction k with
    | zero => rfl
    | succ k ih => rw [(q1 k).1, ih]
  have qb : ∀ i k, i ≤ k → ∃ l, (q k).1.bs = (q i).1.bs ++ l := fun i k hik => by
    induction hik with
    | refl => exact ⟨[], by simp⟩
    | step _ ih =>
      obtain ⟨l, hl⟩ := ih
      obtain ⟨l', hl'⟩ := (q1 _).2
      exact ⟨l ++ l', by rw [hl', hl, List.append_assoc]⟩
  -- the tape that says all of it
  have agree : ∀ i k j x y, (q i).1.bs[j]? = some x → (q k).1.bs[j]? = some y → x = y := fun i k j x y hx hy => by
    have ext : ∀ a b, a ≤ b → ∀ z, (q a).1.bs[j]? = some z → (q b).1.bs[j]? = some z := fun a b hab z hz => by
      obtain ⟨l, hl⟩ := qb a b hab
      rw [hl, List.getElem?_append_left (List.getElem?_eq_some_iff.1 hz).1]; exact hz
    rcases Nat.le_total i k with h | h
    · have := ext i k h x hx; rw [hy] at this; simpa using this.symm
    · have := ext k i h y hy; rw [hx] at this; simpa using this
  classical
  let T : Nat → Question → Nat := fun j _ => if h : ∃ x, ∃ k, (q k).1.bs[j]? = some x then Classical.choose h else 0
  have hT : ∀ k, Says T 0 (q k).1.bs := fun k j b hj qq => by
    have hex : ∃ x, ∃ k, (q k).1.bs[j]? = some x := ⟨b, k, hj⟩
    have : T (0 + j) qq = Classical.choose hex := by simp only [Nat.zero_add, T]; rw [dif_pos hex]
    rw [this]
    obtain ⟨k', hk'⟩ := Classical.choose_spec hex
    exact agree k' k j _ _ hk' hj
  obtain ⟨N, fr1, v, w', hN, hl, _⟩ := ends_at hC hret T
  have hs := (q N).2.1
  have hn := hs.lone T (hT N)
  rw [qn N] at hn
  obtain ⟨e1, e2, _⟩ := lone_frame (runN_det hN hn)
  -- there the function has been left; one more step there is none
  have hs2 := (q (N + 1)).2.1
  have hn2 := hs2.lone T (hT (N + 1))
  rw [qn (N + 1)] at hn2
  obtain ⟨fn1, hfn1, _⟩ := hl.2.2.2
  have := before_end hN (gone_of_leaving hl) hfn1 hl.2.2.1 hn2 (by simp)
  omega
end
end Go.Proofs.Ytjbpaejjpamcpaa.Sim
