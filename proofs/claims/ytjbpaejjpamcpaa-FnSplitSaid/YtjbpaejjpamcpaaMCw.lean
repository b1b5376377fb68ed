import Derived.Test.YtjbpaejjpamcpaaKit
import Derived.Conc.CrowdComm
import Derived.Below
import Derived.Conc.Own4
import Derived.Conc.Listed
import Derived.Conc.DeferLaws
import Derived.Conc.CompanyDraw
/- A goroutine's own steps in whatever company, with blocks of its own that it may add to (a send with room and a receive from a buffer among them): the judgement 'Way'; its rank. No program in sight. -/
namespace Go.Proofs.Ytjbpaejjpamcpaa.Sim
set_option linter.unusedSimpArgs false
set_option linter.unusedVariables false
open Go Go.Conc

/-- What the others may do ahead of a step: they leave the goroutine's own blocks alone and only add to memory. -/
structure Rely (E : Nat → Prop) (w w₁ : World) : Prop where
  keep : ∀ b, E b → w₁.heap[b]? = w.heap[b]?
  size : w.heap.size ≤ w₁.heap.size
theorem Rely.refl (E : Nat → Prop) (w : World) : Rely E w w := ⟨fun _ _ => rfl, Nat.le_refl _⟩
theorem Rely.trans {E : Nat → Prop} {a b c : World} (h : Rely E a b) (k : Rely E b c) : Rely E a c := ⟨fun x hx => (k.keep x hx).trans (h.keep x hx), Nat.le_trans h.size k.size⟩
theorem Rely.sub {E E' : Nat → Prop} {a b : World} (h : Rely E a b) (hE : ∀ x, E' x → E x) : Rely E' a b := ⟨fun x hx => h.keep x (hE x hx), h.size⟩

/-- The own blocks behind a step: what was added is one's own. -/
def grown (E : Nat → Prop) (w w' : World) : Nat → Prop := fun b => E b ∨ (w.heap.size ≤ b ∧ b < w'.heap.size)
theorem grown_same {E : Nat → Prop} {w w' : World} (h : w'.heap.size = w.heap.size) : grown E w w' = E := by
  funext b
  refine propext ⟨fun x => x.elim id fun y => absurd y.2 (by omega), .inl⟩

/-- A step: it goes on; or it sends where there is room; or it receives what lies in the buffer. -/
inductive Mv (P : Program) (mn : Bool) (g : Goroutine) (w : World) : Goroutine → World → Array Event → Prop
  | go {g' : Goroutine} {w' : World} {es : Array Event} : stepG P mn g w = .go g' w' es → Mv P mn g w g' w' es
  | send {c cap s r : Nat} {buf : Array Value} {tm : Bool} {v z : Value} {g₂ : Goroutine} {es : Array Event} : stepG P mn g w = .comm g₂ #[scase c v z] true .send w es → w.heap[c]? = some (.chan cap buf false s r tm) → buf.size < cap →
      Mv P mn g w (Go.Conc.served g₂ undef) (w.setChan c cap (buf.push v) false (s + 1) r tm) es
  | recv {c cap s r : Nat} {buf : Array Value} {tm b : Bool} {z : Value} {g₂ : Goroutine} {es : Array Event} : stepG P mn g w = .comm g₂ #[rcase c z] true (.recv b) w es → w.heap[c]? = some (.chan cap buf false s r tm) → 0 < buf.size →
      Mv P mn g w (Go.Conc.served g₂ (recvd b (buf.getD 0 undef) true)) (w.setChan c cap (buf.extract 1 buf.size) false s (r + 1) tm) es
theorem Mv.det {P : Program} {mn : Bool} {g g₁ g₂ : Goroutine} {w w₁ w₂ : World} {es₁ es₂ : Array Event} (h : Mv P mn g w g₁ w₁ es₁) (k : Mv P mn g w g₂ w₂ es₂) : g₁ = g₂ ∧ w₁ = w₂ ∧ es₁ = es₂ := by
  cases h with
  | go h => cases k with
    | go k => rw [h] at k; simpa using k
    | send k _ _ => rw [h] at k; cases k
    | recv k _ _ => rw [h] at k; cases k
  | send h hc hr => cases k with
    | go k => rw [h] at k; cases k
    | send k hc' hr' =>
      rw [h] at k
      simp only [GStep.comm.injEq, scase, Array.mk.injEq, List.cons.injEq, CommCase.mk.injEq, Option.some.injEq, Value.chan.injEq, and_true, true_and] at k
      obtain ⟨rfl, ⟨rfl, rfl, rfl⟩, rfl⟩ := k
      rw [hc] at hc'
      simp only [Option.some.injEq, Obj.chan.injEq, true_and] at hc'
      obtain ⟨rfl, rfl, rfl, rfl, rfl⟩ := hc'
      exact ⟨rfl, rfl, rfl⟩
    | recv k _ _ => rw [h] at k; simp at k
  | recv h hc hr => cases k with
    | go k => rw [h] at k; cases k
    | send k _ _ => rw [h] at k; simp at k
    | recv k hc' hr' =>
      rw [h] at k
      simp only [GStep.comm.injEq, rcase, Array.mk.injEq, List.cons.injEq, CommCase.mk.injEq, Option.some.injEq, Value.chan.injEq, CommShape.recv.injEq, and_true, true_and] at k
      obtain ⟨rfl, ⟨rfl, rfl⟩, rfl, rfl⟩ := k
      rw [hc] at hc'
      simp only [Option.some.injEq, Obj.chan.injEq, true_and] at hc'
      obtain ⟨rfl, rfl, rfl, rfl, rfl⟩ := hc'
      exact ⟨rfl, rfl, rfl⟩

/-- What a step may list: touches of one's own blocks, reads of blocks that nobody writes. -/
def EvK (Fr : Nat → Prop) (E : Nat → Prop) (e : Event) : Prop := match e.loc with
  | .cell a => E a.block ∨ (Fr a.block ∧ e.write = false)
  | .obj b => E b
  | .mark .noRoom => True
  | _ => False

structure Gu (Fr : Nat → Prop) (E : Nat → Prop) (w w' : World) (es : Array Event) : Prop where
  tape : w'.tape = w.tape
  os : w'.os = w.os
  output : w'.output = w.output
  size : w.heap.size ≤ w'.heap.size
  other : ∀ b, ¬ E b → b < w.heap.size → w'.heap[b]? = w.heap[b]?
  ev : ∀ e ∈ es, EvK Fr (grown E w w') e
theorem Gu.still (Fr E : Nat → Prop) (w : World) : Gu Fr E w w #[] := ⟨rfl, rfl, rfl, Nat.le_refl _, fun _ _ _ => rfl, fun e he => absurd he (by simp)⟩

inductive Way (P : Program) (mn : Bool) (Fr : Nat → Prop) (Inv : World → Prop) (Stop : (Nat → Prop) → Goroutine → World → Prop) : (Nat → Prop) → Goroutine → World → Prop
  | stop {E : Nat → Prop} {g : Goroutine} {w : World} : (∀ w₁, Rely E w w₁ → Inv w₁ → Stop E g w₁) → Way P mn Fr Inv Stop E g w
  | step {E : Nat → Prop} {g : Goroutine} {w : World} : g.status = .running →
      (∀ w₁, Rely E w w₁ → Inv w₁ → ∃ g' w' es, Mv P mn g w₁ g' w' es ∧ Gu Fr E w₁ w' es ∧ Inv w') →
      (∀ w₁ g' w' es, Rely E w w₁ → Inv w₁ → Mv P mn g w₁ g' w' es → Way P mn Fr Inv Stop (grown E w₁ w') g' w') → Way P mn Fr Inv Stop E g w
  | rely {E : Nat → Prop} {g : Goroutine} {w : World} : (∀ w₁, Rely E w w₁ → Inv w₁ → Way P mn Fr Inv Stop E g w₁) → Way P mn Fr Inv Stop E g w

section
variable {P : Program} {mn : Bool} {Fr : Nat → Prop} {Inv : World → Prop} {Stop Stop' : (Nat → Prop) → Goroutine → World → Prop} {E : Nat → Prop} {g : Goroutine} {w : World}
theorem Way.mv (hs : g.status = .running) (h : ∀ w₁, Rely E w w₁ → Inv w₁ → ∃ g' w' es, Mv P mn g w₁ g' w' es ∧ Gu Fr E w₁ w' es ∧ Inv w' ∧ Way P mn Fr Inv Stop (grown E w₁ w') g' w') : Way P mn Fr Inv Stop E g w :=
  .step hs (fun w₁ h1 h2 => let ⟨g', w', es, e, gu, i, _⟩ := h w₁ h1 h2; ⟨g', w', es, e, gu, i⟩)
    (fun w₁ g' w' es h1 h2 e => by
      obtain ⟨g₂, w₂, es₂, e₂, _, _, hw⟩ := h w₁ h1 h2
      obtain ⟨rfl, rfl, rfl⟩ := e.det e₂
      exact hw)
theorem Way.one (hs : g.status = .running) (h : ∀ w₁, Rely E w w₁ → Inv w₁ → ∃ g' w' es, stepG P mn g w₁ = .go g' w' es ∧ Gu Fr E w₁ w' es ∧ Inv w' ∧ Way P mn Fr Inv Stop (grown E w₁ w') g' w') : Way P mn Fr Inv Stop E g w :=
  .mv hs fun w₁ h1 h2 => let ⟨g', w', es, e, x⟩ := h w₁ h1 h2; ⟨g', w', es, .go e, x⟩
/-- The others' doing does not unseat it. -/
theorem Way.moved (h : Way P mn Fr Inv Stop E g w) {w₁ : World} (hr : Rely E w w₁) : Way P mn Fr Inv Stop E g w₁ := by
  cases h with
  | stop h => exact .stop fun w₂ h2 hi => h w₂ (hr.trans h2) hi
  | step hs h k => exact .step hs (fun w₂ h2 hi => h w₂ (hr.trans h2) hi) (fun w₂ g' w' es h2 hi => k w₂ g' w' es (hr.trans h2) hi)
  | rely h => exact .rely fun w₂ h2 hi => h w₂ (hr.trans h2) hi
/-- One way behind another. -/
theorem Way.bind (h : Way P mn Fr Inv Stop E g w) (k : ∀ E g w, Stop E g w → Way P mn Fr Inv Stop' E g w) : Way P mn Fr Inv Stop' E g w := by
  induction h with
  | stop h => exact .rely fun w₁ h1 hi => k _ _ _ (h w₁ h1 hi)
  | step hs h _ ih => exact .step hs h ih
  | rely _ ih => exact .rely ih
theorem Way.mono (h : Way P mn Fr Inv Stop E g w) (k : ∀ E g w, Stop E g w → Stop' E g w) : Way P mn Fr Inv Stop' E g w := by
  induction h with
  | stop h => exact .stop fun w₁ h1 hi => k _ _ _ (h w₁ h1 hi)
  | step hs h _ ih => exact .step hs h ih
  | rely _ ih => exact .rely ih

/-- A walk of the library's that turns nothing and lists nothing. -/
theorem way_of_goes {S : Goroutine → World → Prop} : ∀ (n : Nat) (g : Goroutine) (w : World), Goes P mn (fun w w₁ => Rely E w w₁ ∧ Inv w₁) (fun w w' es => w' = w ∧ es = #[]) S n g w →
    Way P mn Fr Inv (fun E' g w => E' = E ∧ S g w) E g w
  | 0, g, w, h => .stop fun w₁ h1 hi => ⟨rfl, h w₁ ⟨h1, hi⟩⟩
  | n + 1, g, w, h => by
    rcases h with h | ⟨hs, h⟩
    · exact .stop fun w₁ h1 hi => ⟨rfl, h w₁ ⟨h1, hi⟩⟩
    · refine .one hs fun w₁ h1 hi => ?_
      have := h w₁ ⟨h1, hi⟩
      cases e : stepG P mn g w₁ with
      | go g' w' es =>
        rw [e, goes_go] at this
        obtain ⟨⟨rfl, rfl⟩, hg⟩ := this
        refine ⟨g', w', #[], rfl, Gu.still _ _ _, hi, ?_⟩
        rw [grown_same rfl]
        exact way_of_goes n g' w' hg
      | _ => rw [e] at this; exact this.elim
end

/-! ### ranks -/
/-- How far the stop is: a tree that parts at whatever world a step meets. -/
inductive Rk : Type
  | leaf : Rk
  | node : (World → Rk) → Rk
def Rk.lt (a b : Rk) : Prop := match b with
  | .leaf => False
  | .node f => ∃ w, a = f w
theorem Rk.acc : ∀ a : Rk, Acc Rk.lt a
  | .leaf => ⟨_, fun b h => h.elim⟩
  | .node f => ⟨_, fun b h => by obtain ⟨w, rfl⟩ := h; exact Rk.acc (f w)⟩
theorem Rk.wf : WellFounded Rk.lt := ⟨Rk.acc⟩

def WayR (P : Program) (mn : Bool) (Fr : Nat → Prop) (Inv : World → Prop) (Stop : (Nat → Prop) → Goroutine → World → Prop) : Rk → (Nat → Prop) → Goroutine → World → Prop
  | .leaf, E, g, w => ∀ w₁, Rely E w w₁ → Inv w₁ → Stop E g w₁
  | .node f, E, g, w => g.status = .running ∧ ∀ w₁, Rely E w w₁ → Inv w₁ → ∃ g' w' es, Mv P mn g w₁ g' w' es ∧ Gu Fr E w₁ w' es ∧ Inv w' ∧ WayR P mn Fr Inv Stop (f w₁) (grown E w₁ w') g' w'
section
variable {P : Program} {mn : Bool} {Fr : Nat → Prop} {Inv : World → Prop} {Stop : (Nat → Prop) → Goroutine → World → Prop} {E : Nat → Prop} {g : Goroutine} {w : World}
theorem WayR.moved {k : Rk} (h : WayR P mn Fr Inv Stop k E g w) {w₁ : World} (hr : Rely E w w₁) : WayR P mn Fr Inv Stop k E g w₁ := by
  cases k with
  | leaf => exact fun w₂ h2 hi => h w₂ (hr.trans h2) hi
  | node f => exact ⟨h.1, fun w₂ h2 hi => h.2 w₂ (hr.trans h2) hi⟩
/-- Where the invariant holds, a way has a rank. -/
theorem Way.ranked (h : Way P mn Fr Inv Stop E g w) (hi : Inv w) : ∃ k, WayR P mn Fr Inv Stop k E g w := by
  classical
  induction h with
  | stop h => exact ⟨.leaf, h⟩
  | @step E g w hs h _ ih =>
    have key : ∀ w₁, ∃ k : Rk, Rely E w w₁ → Inv w₁ → ∃ g' w' es, Mv P mn g w₁ g' w' es ∧ Gu Fr E w₁ w' es ∧ Inv w' ∧ WayR P mn Fr Inv Stop k (grown E w₁ w') g' w' := fun w₁ => by
      by_cases hc : Rely E w w₁ ∧ Inv w₁
      · obtain ⟨g', w', es, e, gu, i⟩ := h w₁ hc.1 hc.2
        obtain ⟨k, hk⟩ := ih w₁ g' w' es hc.1 hc.2 e i
        exact ⟨k, fun _ _ => ⟨g', w', es, e, gu, i, hk⟩⟩
      · exact ⟨.leaf, fun h1 h2 => absurd ⟨h1, h2⟩ hc⟩
    exact ⟨.node fun w₁ => Classical.choose (key w₁), hs, fun w₁ h1 h2 => Classical.choose_spec (key w₁) h1 h2⟩
  | rely _ ih => exact ih _ (Rely.refl _ _) hi hi
theorem WayR.running {k : Rk} (h : WayR P mn Fr Inv Stop k E g w) (hi : Inv w) (hs : ∀ E g w, Stop E g w → g.status = .running) : g.status = .running := by
  cases k with
  | leaf => exact hs _ _ _ (h w (Rely.refl _ _) hi)
  | node f => exact h.1
end
end Go.Proofs.Ytjbpaejjpamcpaa.Sim
/- Ways, step by step: moves of control, operations that look at one's own blocks, add to them, send, receive; a way in a smaller share of blocks within a greater. No program in sight. -/
namespace Go.Proofs.Ytjbpaejjpamcpaa.Sim
set_option linter.unusedSimpArgs false
set_option linter.unusedVariables false
open Go Go.Conc Go.RowKit

/-- What is held: these blocks are one's own and hold this; those that the invariant speaks of are not. -/
structure Has (Gl : Nat) (Fx E : Nat → Prop) (w : World) (L : List (Nat × Obj)) : Prop where
  at_ : ∀ p ∈ L, E p.1 ∧ w.heap[p.1]? = some p.2
  nd : L.Pairwise (fun p q => p.1 ≠ q.1)
  fx : ∀ b, Fx b → ¬ E b
  bd : ∀ b, E b → b < w.heap.size
  gl : Gl ≤ w.heap.size
/-- An invariant of these blocks alone. -/
structure Stab (Fx : Nat → Prop) (Inv : World → Prop) : Prop where
  hI : ∀ w w', (∀ b, Fx b → w'.heap[b]? = w.heap[b]?) → Inv w → Inv w'
  hlt : ∀ w b, Inv w → Fx b → b < w.heap.size

section
variable {Gl : Nat} {Fx E : Nat → Prop} {w w₁ w' : World} {L L' : List (Nat × Obj)} {b : Nat} {o o' : Obj}
theorem Has.lt (h : Has Gl Fx E w L) {p : Nat × Obj} (hp : p ∈ L) : p.1 < w.heap.size := (Array.getElem?_eq_some_iff.1 (h.at_ p hp).2).1
theorem Has.moved (h : Has Gl Fx E w L) (hr : Rely E w w₁) : Has Gl Fx E w₁ L := ⟨fun p hp => ⟨(h.at_ p hp).1, (hr.keep _ (h.at_ p hp).1).trans (h.at_ p hp).2⟩, h.nd, h.fx, fun b hb => Nat.lt_of_lt_of_le (h.bd b hb) hr.size, Nat.le_trans h.gl hr.size⟩
theorem Has.perm (h : Has Gl Fx E w L) (hp : L.Perm L') : Has Gl Fx E w L' :=
  ⟨fun p hq => h.at_ p (hp.mem_iff.2 hq), (hp.pairwise_iff fun hne e => hne e.symm).1 h.nd, h.fx, h.bd, h.gl⟩
theorem Has.tail {p : Nat × Obj} (h : Has Gl Fx E w (p :: L)) : Has Gl Fx E w L := ⟨fun q hq => h.at_ q (.tail _ hq), (List.pairwise_cons.1 h.nd).2, h.fx, h.bd, h.gl⟩
theorem Has.head {p : Nat × Obj} (h : Has Gl Fx E w (p :: L)) : E p.1 ∧ w.heap[p.1]? = some p.2 := h.at_ p (.head _)
theorem Has.add (h : Has Gl Fx E w L) (hE : E b) (ho : w.heap[b]? = some o) (hn : ∀ p ∈ L, p.1 < b) : Has Gl Fx E w ((b, o) :: L) :=
  ⟨fun p hp => by
    rcases List.mem_cons.1 hp with rfl | hp
    · exact ⟨hE, ho⟩
    · exact h.at_ p hp, List.pairwise_cons.2 ⟨fun q hq e => by have := hn q hq; omega, h.nd⟩, h.fx, h.bd, h.gl⟩
theorem Has.alloc (h : Has Gl Fx E w L) (hb : ∀ b, Fx b → b < w.heap.size) (o : Obj) : Has Gl Fx (grown E w (w.alloc o)) (w.alloc o) ((w.heap.size, o) :: L) := by
  have hs : (w.alloc o).heap.size = w.heap.size + 1 := World.size_alloc _ _
  refine ⟨fun p hp => ?_, List.pairwise_cons.2 ⟨fun q hq e => ?_, h.nd⟩, fun b hf hb' => ?_, fun b hb' => ?_, by rw [hs]; exact Nat.le_succ_of_le h.gl⟩
  · rcases List.mem_cons.1 hp with rfl | hp
    · exact ⟨.inr ⟨Nat.le_refl _, by omega⟩, heap_alloc_new _ _⟩
    · exact ⟨.inl (h.at_ p hp).1, by rw [Below.heap_alloc _ _ _ (h.lt hp)]; exact (h.at_ p hp).2⟩
  · have := h.lt hq
    omega
  · rcases hb' with hb' | ⟨h1, _⟩
    · exact h.fx b hf hb'
    · have := hb b hf; omega
  · rcases hb' with hb' | ⟨_, h2⟩
    · have := h.bd b hb'; omega
    · exact h2
theorem Has.put (h : Has Gl Fx E w ((b, o) :: L)) (h1 : w'.heap[b]? = some o') (h2 : ∀ j, j ≠ b → w'.heap[j]? = w.heap[j]?) (h3 : w'.heap.size = w.heap.size) : Has Gl Fx E w' ((b, o') :: L) := by
  obtain ⟨n1, n2⟩ := List.pairwise_cons.1 h.nd
  refine ⟨fun p hp => ?_, List.pairwise_cons.2 ⟨n1, n2⟩, h.fx, fun x hx => by rw [h3]; exact h.bd x hx, by rw [h3]; exact h.gl⟩
  rcases List.mem_cons.1 hp with rfl | hp
  · exact ⟨h.head.1, h1⟩
  · have hq := h.at_ p (.tail _ hp)
    exact ⟨hq.1, by rw [h2 _ (fun e => n1 p hp e.symm)]; exact hq.2⟩
end

theorem EvK.mono {Fr E E' : Nat → Prop} {e : Event} (h : EvK Fr E e) (hE : ∀ b, E b → E' b) : EvK Fr E' e := by
  obtain ⟨l, wr, sy⟩ := e
  cases l with
  | cell a => exact Or.imp (hE _) id h
  | obj b => exact hE _ h
  | mark m => cases m <;> first | exact h | exact h.elim
  | output => exact h.elim
  | goroutines => exact h.elim

section
variable {P : Program} {mn : Bool} {Fr : Nat → Prop} {Inv : World → Prop} {Stop : (Nat → Prop) → Goroutine → World → Prop} {E : Nat → Prop} {g g' : Goroutine} {w : World} {Gl : Nat} {Fx : Nat → Prop}
  {b : Frame} {a : Act} {kk : List Item} {cs : List Frame} {ops : Array Oper} {i : Nat} {rest : List Nat} {o : Oper} {v : Value} {L : List (Nat × Obj)} {B : Nat} {o₁ o₂ : Obj}

/-- A step that is the same in every world and lists nothing. -/
theorem Way.ctl (hs : g.status = .running) (h : ∀ w, stepG P mn g w = .go g' w #[]) (k : Way P mn Fr Inv Stop E g' w) : Way P mn Fr Inv Stop E g w := by
  refine .one hs fun w₁ h1 hi => ⟨g', w₁, #[], h w₁, Gu.still _ _ _, hi, ?_⟩
  rw [grown_same rfl]
  exact k.moved h1

/-- An operation. -/
theorem Way.op (ho : ops[i]? = some o) (hw : Region.wanted o (yielded ops a.tmps) = true) (hk : b.kind ≠ .early)
    (h : ∀ w₁, Rely E w w₁ → Inv w₁ → ∃ v w', ((execOp a.eval o).run P w₁ = .ok (.value v) w' ∨ ((execOp a.eval o).run P w₁ = .ok .skip w' ∧ v = undef)) ∧ Gu Fr E w₁ w' ((execOp a.eval o).events P w₁ #[]) ∧ Inv w' ∧
      Way P mn Fr Inv Stop (grown E w₁ w') (G (b.at (a.put o.dst v) (.inRegion ops rest :: kk)) cs) w') :
    Way P mn Fr Inv Stop E (G (b.at a (.inRegion ops (i :: rest) :: kk)) cs) w := by
  refine .one rfl fun w₁ h1 hi => ?_
  obtain ⟨v, w', hr, hgu, hi', hw'⟩ := h w₁ h1 hi
  have hgu' : Gu Fr E w₁ w' (listed P b.fn a o w₁) := ⟨hgu.tape, hgu.os, hgu.output, hgu.size, hgu.other, fun e he => hgu.ev e (Go.Conc.mem_listed he)⟩
  rcases hr with hr | ⟨hr, rfl⟩
  · exact ⟨_, w', _, stepG_value ho hw hk hr, hgu', hi', hw'⟩
  · exact ⟨_, w', _, stepG_none ho hw hk hr, hgu', hi', hw'⟩

/-- An operation that asks nothing of the world. -/
theorem Way.op0 (ho : ops[i]? = some o) (hw : Region.wanted o (yielded ops a.tmps) = true) (hk : b.kind ≠ .early) (hr : ∀ w, (execOp a.eval o).run P w = .ok (.value v) w) (he : ∀ w, (execOp a.eval o).events P w #[] = #[])
    (k : Way P mn Fr Inv Stop E (G (b.at (a.put o.dst v) (.inRegion ops rest :: kk)) cs) w) : Way P mn Fr Inv Stop E (G (b.at a (.inRegion ops (i :: rest) :: kk)) cs) w := by
  refine .op ho hw hk fun w₁ h1 hi => ⟨v, w₁, .inl (hr w₁), by rw [he]; exact Gu.still _ _ _, hi, ?_⟩
  rw [grown_same rfl]
  exact k.moved h1

theorem Way.op2 (ho : ops[i]? = some o) (hw : Region.wanted o (yielded ops a.tmps) = true) (hk : b.kind ≠ .early) (hr : ∀ w, (execOp a.eval o).run P w = .ok (.value v) w ∧ (execOp a.eval o).events P w #[] = #[])
    (k : Way P mn Fr Inv Stop E (G (b.at (a.put o.dst v) (.inRegion ops rest :: kk)) cs) w) : Way P mn Fr Inv Stop E (G (b.at a (.inRegion ops (i :: rest) :: kk)) cs) w :=
  .op0 ho hw hk (fun w => (hr w).1) (fun w => (hr w).2) k
/-- An operation that lays a new block. -/
theorem Way.alloc {f : Nat → Value} (hI : Stab Fx Inv) (hH : Has Gl Fx E w L) (ho : ops[i]? = some o) (hw : Region.wanted o (yielded ops a.tmps) = true) (hk : b.kind ≠ .early)
    (hr : ∀ w, (execOp a.eval o).run P w = .ok (.value (f w.heap.size)) (w.alloc o₁) ∧ (execOp a.eval o).events P w #[] = #[])
    (k : ∀ B E' w', Has Gl Fx E' w' ((B, o₁) :: L) → w.heap.size ≤ B → Way P mn Fr Inv Stop E' (G (b.at (a.put o.dst (f B)) (.inRegion ops rest :: kk)) cs) w') : Way P mn Fr Inv Stop E (G (b.at a (.inRegion ops (i :: rest) :: kk)) cs) w := by
  refine .op ho hw hk fun w₁ h1 hi => ⟨_, w₁.alloc o₁, .inl (hr w₁).1, ?_, ?_, k _ _ _ ((hH.moved h1).alloc (fun b => hI.hlt w₁ b hi) o₁) h1.size⟩
  · rw [(hr w₁).2]
    exact ⟨rfl, rfl, rfl, by rw [World.size_alloc]; omega, fun b _ hb => Below.heap_alloc _ _ _ hb, fun e he => absurd he (by simp)⟩
  · exact hI.hI _ _ (fun b hb => Below.heap_alloc _ _ _ (hI.hlt w₁ b hi hb)) hi

/-- An operation that reads a block of one's own. -/
theorem Way.load (hH : Has Gl Fx E w L) (hm : (B, o₁) ∈ L) (ho : ops[i]? = some o) (hw : Region.wanted o (yielded ops a.tmps) = true) (hk : b.kind ≠ .early)
    (hr : ∀ w, w.heap[B]? = some o₁ → (execOp a.eval o).run P w = .ok (.value v) w ∧ ∀ e ∈ (execOp a.eval o).events P w #[], ∃ ad, e.loc = .cell ad ∧ ad.block = B ∧ e.write = false)
    (k : Way P mn Fr Inv Stop E (G (b.at (a.put o.dst v) (.inRegion ops rest :: kk)) cs) w) : Way P mn Fr Inv Stop E (G (b.at a (.inRegion ops (i :: rest) :: kk)) cs) w := by
  refine .op ho hw hk fun w₁ h1 hi => ?_
  have hb := (hH.moved h1).at_ _ hm
  obtain ⟨r1, r2⟩ := hr w₁ hb.2
  refine ⟨v, w₁, .inl r1, ⟨rfl, rfl, rfl, Nat.le_refl _, fun _ _ _ => rfl, fun e he => ?_⟩, hi, by rw [grown_same rfl]; exact k.moved h1⟩
  obtain ⟨ad, e1, e2, _⟩ := r2 e he
  unfold EvK
  rw [e1]
  exact .inl (.inl (by rw [e2]; exact hb.1))
/-- .. a block that nobody writes. -/
theorem Way.loadFr (hf : ∀ w, Inv w → w.heap[B]? = some o₁) (hF : Fr B) (ho : ops[i]? = some o) (hw : Region.wanted o (yielded ops a.tmps) = true) (hk : b.kind ≠ .early)
    (hr : ∀ w, w.heap[B]? = some o₁ → (execOp a.eval o).run P w = .ok (.value v) w ∧ ∀ e ∈ (execOp a.eval o).events P w #[], ∃ ad, e.loc = .cell ad ∧ ad.block = B ∧ e.write = false)
    (k : Way P mn Fr Inv Stop E (G (b.at (a.put o.dst v) (.inRegion ops rest :: kk)) cs) w) : Way P mn Fr Inv Stop E (G (b.at a (.inRegion ops (i :: rest) :: kk)) cs) w := by
  refine .op ho hw hk fun w₁ h1 hi => ?_
  obtain ⟨r1, r2⟩ := hr w₁ (hf w₁ hi)
  refine ⟨v, w₁, .inl r1, ⟨rfl, rfl, rfl, Nat.le_refl _, fun _ _ _ => rfl, fun e he => ?_⟩, hi, by rw [grown_same rfl]; exact k.moved h1⟩
  obtain ⟨ad, e1, e2, e3⟩ := r2 e he
  unfold EvK
  rw [e1]
  exact .inr ⟨by rw [e2]; exact hF, e3⟩

/-- A block of one's own is laid anew. -/
structure SetTo (w w' : World) (B : Nat) (o : Obj) : Prop where
  tape : w'.tape = w.tape
  os : w'.os = w.os
  output : w'.output = w.output
  size : w'.heap.size = w.heap.size
  at_ : w'.heap[B]? = some o
  other : ∀ j, j ≠ B → w'.heap[j]? = w.heap[j]?
theorem SetTo.gu {w w' : World} (h : SetTo w w' B o₂) (hB : E B) {es : Array Event} (he : ∀ e ∈ es, EvK Fr E e) : Gu Fr E w w' es :=
  ⟨h.tape, h.os, h.output, Nat.le_of_eq h.size.symm, fun b hb _ => h.other b (fun e => hb (e ▸ hB)), fun e hx => by rw [grown_same h.size]; exact he e hx⟩
theorem SetTo.inv {w w' : World} (h : SetTo w w' B o₂) (hI : Stab Fx Inv) (hB : ¬ Fx B) (hi : Inv w) : Inv w' := hI.hI _ _ (fun b hb => h.other b (fun e => hB (e ▸ hb))) hi

/-- An operation that writes a block of one's own (and may read others of one's own). -/
theorem Way.set (hI : Stab Fx Inv) (hH : Has Gl Fx E w ((B, o₁) :: L)) (ho : ops[i]? = some o) (hw : Region.wanted o (yielded ops a.tmps) = true) (hk : b.kind ≠ .early)
    (hr : ∀ w E, Has Gl Fx E w ((B, o₁) :: L) → ∃ w', ((execOp a.eval o).run P w = .ok (.value v) w' ∨ ((execOp a.eval o).run P w = .ok .skip w' ∧ v = undef)) ∧ SetTo w w' B o₂ ∧ ∀ e ∈ (execOp a.eval o).events P w #[], (∃ ad, e.loc = .cell ad ∧ E ad.block) ∨ e.loc = .mark .noRoom)
    (k : ∀ w', Has Gl Fx E w' ((B, o₂) :: L) → Way P mn Fr Inv Stop E (G (b.at (a.put o.dst v) (.inRegion ops rest :: kk)) cs) w') : Way P mn Fr Inv Stop E (G (b.at a (.inRegion ops (i :: rest) :: kk)) cs) w := by
  refine .op ho hw hk fun w₁ h1 hi => ?_
  have hH₁ := hH.moved h1
  obtain ⟨w', r1, r2, r3⟩ := hr w₁ E hH₁
  have hB : E B := hH₁.head.1
  refine ⟨v, w', r1, r2.gu hB fun e he => ?_, r2.inv hI (fun hf => hH.fx B hf hB) hi, ?_⟩
  · rcases r3 e he with ⟨ad, e1, e2⟩ | e1
    · unfold EvK
      rw [e1]
      exact .inl e2
    · unfold EvK
      rw [e1]
      trivial
  · rw [grown_same r2.size]
    exact k w' (hH₁.put r2.at_ r2.other r2.size)

/-- A send where there is room. -/
theorem Way.send {z : Value} {buf : Array Value} {cap s r : Nat} {tm : Bool} (hI : Stab Fx Inv) (hH : Has Gl Fx E w ((B, .chan cap buf false s r tm) :: L)) (ho : ops[i]? = some o) (hw : Region.wanted o (yielded ops a.tmps) = true) (hk : b.kind ≠ .early) (hroom : buf.size < cap)
    (hr : ∀ w, (execOp a.eval o).run P w = .ok (.comm #[scase B v z] true .send) w) (he : ∀ w, (execOp a.eval o).events P w #[] = #[])
    (k : ∀ w', Has Gl Fx E w' ((B, .chan cap (buf.push v) false (s + 1) r tm) :: L) → Way P mn Fr Inv Stop E (G (b.at (a.put o.dst undef) (.inRegion ops rest :: kk)) cs) w') : Way P mn Fr Inv Stop E (G (b.at a (.inRegion ops (i :: rest) :: kk)) cs) w := by
  refine .mv rfl fun w₁ h1 hi => ?_
  have hH₁ := hH.moved h1
  have hB : E B := hH₁.head.1
  have hlt := hH₁.lt (.head _)
  have hst : SetTo w₁ (w₁.setChan B cap (buf.push v) false (s + 1) r tm) B (.chan cap (buf.push v) false (s + 1) r tm) := ⟨rfl, rfl, rfl, by simp [World.setChan], by simp [World.setChan, hlt], fun j hj => by simp [World.setChan, Array.getElem?_setIfInBounds_ne (Ne.symm hj)]⟩
  refine ⟨_, _, _, .send (stepG_comm ho hw hk (hr w₁)) hH₁.head.2 hroom, hst.gu hB fun e hx => ?_, hst.inv hI (fun hf => hH.fx B hf hB) hi, ?_⟩
  · have := Go.Conc.mem_listed hx; rw [he] at this; simp at this
  · rw [grown_same hst.size, served_G, ho]
    exact k _ (hH₁.put hst.at_ hst.other hst.size)
/-- A receive of what lies in the buffer. -/
theorem Way.recv {z : Value} {buf : Array Value} {cap s r : Nat} {tm two : Bool} (hI : Stab Fx Inv) (hH : Has Gl Fx E w ((B, .chan cap buf false s r tm) :: L)) (ho : ops[i]? = some o) (hw : Region.wanted o (yielded ops a.tmps) = true) (hk : b.kind ≠ .early) (hsome : 0 < buf.size)
    (hr : ∀ w, (execOp a.eval o).run P w = .ok (.comm #[rcase B z] true (.recv two)) w) (he : ∀ w, (execOp a.eval o).events P w #[] = #[])
    (k : ∀ w', Has Gl Fx E w' ((B, .chan cap (buf.extract 1 buf.size) false s (r + 1) tm) :: L) → Way P mn Fr Inv Stop E (G (b.at (a.put o.dst (recvd two (buf.getD 0 undef) true)) (.inRegion ops rest :: kk)) cs) w') : Way P mn Fr Inv Stop E (G (b.at a (.inRegion ops (i :: rest) :: kk)) cs) w := by
  refine .mv rfl fun w₁ h1 hi => ?_
  have hH₁ := hH.moved h1
  have hB : E B := hH₁.head.1
  have hlt := hH₁.lt (.head _)
  have hst : SetTo w₁ (w₁.setChan B cap (buf.extract 1 buf.size) false s (r + 1) tm) B (.chan cap (buf.extract 1 buf.size) false s (r + 1) tm) := ⟨rfl, rfl, rfl, by simp [World.setChan], by simp [World.setChan, hlt], fun j hj => by simp [World.setChan, Array.getElem?_setIfInBounds_ne (Ne.symm hj)]⟩
  refine ⟨_, _, _, .recv (stepG_comm ho hw hk (hr w₁)) hH₁.head.2 hsome, hst.gu hB fun e hx => ?_, hst.inv hI (fun hf => hH.fx B hf hB) hi, ?_⟩
  · have := Go.Conc.mem_listed hx; rw [he] at this; simp at this
  · rw [grown_same hst.size, served_G, ho]
    exact k _ (hH₁.put hst.at_ hst.other hst.size)

/-- A way in a smaller share of blocks is one in a greater; what lies beside is as it was. -/
theorem Way.widen {E1 : Nat → Prop} (h : Way P mn Fr Inv Stop E1 g w) (hE : ∀ b, E1 b → E b) (hbd : ∀ b, E b → b < w.heap.size) :
    Way P mn Fr Inv (fun E' g' w' => ∃ E1', Stop E1' g' w' ∧ (∀ b, E1' b → E' b) ∧ (∀ b, E b → E' b) ∧ (∀ b, E b → ¬ E1 b → w'.heap[b]? = w.heap[b]?) ∧ (∀ b, E1' b → E1 b ∨ w.heap.size ≤ b) ∧ (∀ b, E' b → E b ∨ w.heap.size ≤ b) ∧ (∀ b, E' b → b < w'.heap.size) ∧ w.heap.size ≤ w'.heap.size) E g w := by
  suffices H : ∀ {E1c g wc}, Way P mn Fr Inv Stop E1c g wc → ∀ Ec, (∀ b, E1c b → Ec b) → (∀ b, E b → Ec b) → (∀ b, E b → ¬ E1 b → wc.heap[b]? = w.heap[b]?) → (∀ b, E1c b → E1 b ∨ w.heap.size ≤ b) → (∀ b, Ec b → E b ∨ w.heap.size ≤ b) → (∀ b, Ec b → b < wc.heap.size) → w.heap.size ≤ wc.heap.size →
      Way P mn Fr Inv (fun E' g' w' => ∃ E1', Stop E1' g' w' ∧ (∀ b, E1' b → E' b) ∧ (∀ b, E b → E' b) ∧ (∀ b, E b → ¬ E1 b → w'.heap[b]? = w.heap[b]?) ∧ (∀ b, E1' b → E1 b ∨ w.heap.size ≤ b) ∧ (∀ b, E' b → E b ∨ w.heap.size ≤ b) ∧ (∀ b, E' b → b < w'.heap.size) ∧ w.heap.size ≤ w'.heap.size) Ec g wc from
    H h E hE (fun _ h => h) (fun _ _ _ => rfl) (fun _ h => .inl h) (fun _ h => .inl h) hbd (Nat.le_refl _)
  intro E1c g wc h
  induction h with
  | stop h => exact fun Ec h1 h2 h3 h4 h5 h6 h7 => .stop fun w₁ hr hi => ⟨_, h w₁ (hr.sub h1) hi, h1, h2, fun b hb hn => (hr.keep b (h2 b hb)).trans (h3 b hb hn), h4, h5, fun b hb => Nat.lt_of_lt_of_le (h6 b hb) hr.size, Nat.le_trans h7 hr.size⟩
  | @step E1c g wc hs h _ ih =>
    intro Ec h1 h2 h3 h4 h5 h6 h7
    refine .step hs (fun w₁ hr hi => ?_) (fun w₁ g' w' es hr hi hmv => ?_)
    · obtain ⟨g', w', es, hmv, hgu, hi'⟩ := h w₁ (hr.sub h1) hi
      exact ⟨g', w', es, hmv, ⟨hgu.tape, hgu.os, hgu.output, hgu.size, fun b hb hlt => hgu.other b (fun x => hb (h1 b x)) hlt, fun e he => (hgu.ev e he).mono fun b hb => hb.imp (h1 b) id⟩, hi'⟩
    · obtain ⟨g₂, w₂, es₂, hmv₂, hgu, _⟩ := h w₁ (hr.sub h1) hi
      obtain ⟨rfl, rfl, rfl⟩ := hmv.det hmv₂
      refine ih w₁ g' w' es (hr.sub h1) hi hmv (grown Ec w₁ w') (fun b hb => hb.imp (h1 b) id) (fun b hb => .inl (h2 b hb)) (fun b hb hn => ?_) (fun b hb => ?_) (fun b hb => ?_) (fun b hb => ?_) (Nat.le_trans h7 (Nat.le_trans hr.size hgu.size))
      · have hlt : b < w.heap.size := hbd b hb
        rw [hgu.other b (fun x => (h4 b x).elim hn (fun h => by omega)) (by have := hr.size; omega)]
        exact (hr.keep b (h2 b hb)).trans (h3 b hb hn)
      · rcases hb with hb | ⟨hb, _⟩
        · exact h4 b hb
        · exact .inr (by have := hr.size; omega)
      · rcases hb with hb | ⟨hb, _⟩
        · exact h5 b hb
        · exact .inr (by have := hr.size; omega)
      · rcases hb with hb | ⟨_, hb⟩
        · have := h6 b hb; have := hr.size; have := hgu.size; omega
        · exact hb
  | rely _ ih => exact fun Ec h1 h2 h3 h4 h5 h6 h7 => .rely fun w₁ hr hi => ih w₁ (hr.sub h1) hi Ec h1 h2 (fun b hb hn => (hr.keep b (h2 b hb)).trans (h3 b hb hn)) h4 h5 (fun b hb => Nat.lt_of_lt_of_le (h6 b hb) hr.size) (Nat.le_trans h7 hr.size)
end
end Go.Proofs.Ytjbpaejjpamcpaa.Sim
/- A region whose order is drawn, by a Way: 'Way.drawn'. No program in sight but its rule of orders. -/
namespace Go.Proofs.Ytjbpaejjpamcpaa.Sim
set_option linter.unusedSimpArgs false
set_option linter.unusedVariables false
open Go Go.Conc Go.RowKit

section
variable {P : Program} {mn : Bool} {Fr : Nat → Prop} {Inv : World → Prop} {Stop : (Nat → Prop) → Goroutine → World → Prop} {E : Nat → Prop} {w : World} {Gl : Nat} {Fx : Nat → Prop}
  {b : Frame} {a a' : Act} {kk : List Item} {cs : List Frame} {ops : Array Oper} {L : List (Nat × Obj)}
/-- What the others may do; what a step may do that turns no memory. -/
abbrev DRw (Inv : World → Prop) (E : Nat → Prop) (w w₁ : World) : Prop := Rely E w w₁ ∧ Inv w₁
abbrev DDw (Fr E : Nat → Prop) (w w' : World) (es : Array Event) : Prop := w'.heap = w.heap ∧ w'.tape = w.tape ∧ w'.os = w.os ∧ w'.output = w.output ∧ ∀ e ∈ es, EvK Fr E e
theorem terms_dd : Terms (DRw Inv E) (DDw Fr E) := ⟨fun _ _ _ h k => ⟨h.1.trans k.1, k.2⟩, fun _ => ⟨rfl, rfl, rfl, rfl, fun e he => absurd he (by simp)⟩⟩
theorem way_of_goesD (hI : Stab Fx Inv) {S : Goroutine → World → Prop} : ∀ (n : Nat) (g : Goroutine) (w : World), Goes P mn (DRw Inv E) (DDw Fr E) S n g w → Way P mn Fr Inv (fun E' g w => E' = E ∧ S g w) E g w
  | 0, g, w, h => .stop fun w₁ h1 hi => ⟨rfl, h w₁ ⟨h1, hi⟩⟩
  | n + 1, g, w, h => by
    rcases h with h | ⟨hs, h⟩
    · exact .stop fun w₁ h1 hi => ⟨rfl, h w₁ ⟨h1, hi⟩⟩
    · refine .one hs fun w₁ h1 hi => ?_
      have := h w₁ ⟨h1, hi⟩
      cases e : stepG P mn g w₁ with
      | go g' w' es =>
        rw [e, goes_go] at this
        obtain ⟨⟨d1, d2, d3, d4, d5⟩, hg⟩ := this
        refine ⟨g', w', es, rfl, ⟨d2, d3, d4, by rw [d1]; exact Nat.le_refl _, fun b _ _ => by rw [d1], fun e he => (d5 e he).mono fun b hb => .inl hb⟩, hI.hI _ _ (fun b _ => by rw [d1]) hi, ?_⟩
        rw [grown_same (by rw [d1])]
        exact way_of_goesD hI n g' w' hg
      | _ => rw [e] at this; exact this.elim
/-- A drawn region. -/
theorem Way.drawn {id : Nat} (hI : Stab Fx Inv) (hH : Has Gl Fx E w L) (hm : P.follows .mixedOrders = true) (hk : b.kind ≠ .early)
    (h : ∀ w₁, Has Gl Fx E w₁ L → AnyCH P (DRw Inv E) (DDw Fr E) b.fn .any ops (fun e a₁ w₁ => e = .normal ∧ a₁ = a' ∧ Has Gl Fx E w₁ L) (fun w => Has Gl Fx E w L) ops.size (Array.replicate ops.size false) a w₁)
    (k : ∀ w', Has Gl Fx E w' L → Way P mn Fr Inv Stop E (G (b.at a' kk) cs) w') :
    Way P mn Fr Inv Stop E (G (b.at a (.code (.region id ops true) :: kk)) cs) w := by
  have hwp : (Code.region id ops true).wpC P mn (DRw Inv E) (DDw Fr E) b.fn (ops.size + 1 + 1) (fun e a₁ w₁ => e = .normal ∧ a₁ = a' ∧ Has Gl Fx E w₁ L) a w :=
    wpC_region_held (S := fun w => Has Gl Fx E w L) terms_dd (fun w => ⟨rfl, rfl, rfl, rfl, fun e he => absurd he (by simp)⟩) hm fun w₁ h1 => h _ (by
      have := hH.moved h1.1
      exact ⟨this.at_, this.nd, this.fx, this.bd, this.gl⟩)
  refine (way_of_goesD hI _ _ _ (hwp b kk cs (fun g w => g = G (b.at a' kk) cs ∧ Has Gl Fx E w L) 0 rfl hk fun e a₁ w₁ ⟨e1, e2, e3⟩ => ?_)).bind fun E' g w' ⟨e, e2, e3⟩ => ?_
  · subst e1
    subst e2
    exact fun w₂ h2 => ⟨rfl, e3.moved h2.1⟩
  · subst e
    subst e2
    exact k w' e3
/-- Take number i first: an operation that only yields. -/
theorem take_val {i fuel : Nat} {oi : Oper} {v : Value} {fn : FuncId} {listed : Array Bool} {Q : Exit → Act → World → Prop} (hi : ops[i]? = some oi) (hs : Region.noSelect ops = true) (hf : Region.free .any ops listed i = true) (hr : (Region.ready .any ops listed).contains i = true)
    (hQ : ∀ a x y, Q .normal a x → DRw Inv E x y → Q .normal a y) (hw : Region.wanted oi (yielded ops a.tmps) = true)
    (hy : ∀ w, Has Gl Fx E w L → (execOp a.eval oi).run P w = .ok (.value v) w ∧ ∀ e ∈ (execOp a.eval oi).events P w #[], EvK Fr E e) (hS : Has Gl Fx E w L)
    (h : AnyCH P (DRw Inv E) (DDw Fr E) fn .any ops Q (fun w => Has Gl Fx E w L) fuel (listed.setIfInBounds i true) (a.put oi.dst v) w) : AnyCH P (DRw Inv E) (DDw Fr E) fn .any ops Q (fun w => Has Gl Fx E w L) (fuel + 1) listed a w :=
  anyCH_take terms_dd (fun _ _ h r => h.moved r.1) hQ hi hs hf hr (.inl ⟨hw, fun w hS => ⟨(hy w hS).1, rfl, rfl, rfl, rfl, fun e he => (hy w hS).2 e (Go.Conc.mem_listed he)⟩⟩) hS h
theorem take_pure {i fuel : Nat} {oi : Oper} {v : Value} {fn : FuncId} {listed : Array Bool} {Q : Exit → Act → World → Prop} (hi : ops[i]? = some oi) (hs : Region.noSelect ops = true) (hf : Region.free .any ops listed i = true) (hr : (Region.ready .any ops listed).contains i = true)
    (hQ : ∀ a x y, Q .normal a x → DRw Inv E x y → Q .normal a y) (hw : Region.wanted oi (yielded ops a.tmps) = true)
    (hy : ∀ w, (execOp a.eval oi).run P w = .ok (.value v) w ∧ (execOp a.eval oi).events P w #[] = #[]) (hS : Has Gl Fx E w L)
    (h : AnyCH P (DRw Inv E) (DDw Fr E) fn .any ops Q (fun w => Has Gl Fx E w L) fuel (listed.setIfInBounds i true) (a.put oi.dst v) w) : AnyCH P (DRw Inv E) (DDw Fr E) fn .any ops Q (fun w => Has Gl Fx E w L) (fuel + 1) listed a w :=
  take_val hi hs hf hr hQ hw (fun w _ => ⟨(hy w).1, fun e he => by rw [(hy w).2] at he; simp at he⟩) hS h
theorem take_load {i fuel B : Nat} {o₁ : Obj} {oi : Oper} {v : Value} {fn : FuncId} {listed : Array Bool} {Q : Exit → Act → World → Prop} (hi : ops[i]? = some oi) (hs : Region.noSelect ops = true) (hf : Region.free .any ops listed i = true) (hr : (Region.ready .any ops listed).contains i = true)
    (hQ : ∀ a x y, Q .normal a x → DRw Inv E x y → Q .normal a y) (hw : Region.wanted oi (yielded ops a.tmps) = true) (hm : (B, o₁) ∈ L)
    (hy : ∀ w, w.heap[B]? = some o₁ → (execOp a.eval oi).run P w = .ok (.value v) w ∧ ∀ e ∈ (execOp a.eval oi).events P w #[], ∃ ad, e.loc = .cell ad ∧ ad.block = B ∧ e.write = false) (hS : Has Gl Fx E w L)
    (h : AnyCH P (DRw Inv E) (DDw Fr E) fn .any ops Q (fun w => Has Gl Fx E w L) fuel (listed.setIfInBounds i true) (a.put oi.dst v) w) : AnyCH P (DRw Inv E) (DDw Fr E) fn .any ops Q (fun w => Has Gl Fx E w L) (fuel + 1) listed a w :=
  take_val hi hs hf hr hQ hw (fun w hH => ⟨(hy w (hH.at_ _ hm).2).1, fun e he => by
    obtain ⟨ad, e1, e2, _⟩ := (hy w (hH.at_ _ hm).2).2 e he
    unfold EvK
    rw [e1]
    exact .inl (by rw [e2]; exact (hH.at_ _ hm).1)⟩) hS h
theorem take_done {fn : FuncId} {fuel : Nat} {listed : Array Bool} {Q : Exit → Act → World → Prop} {S : World → Prop} (hr : Region.ready .any ops listed = []) (h : Q .normal a w) : AnyCH P (DRw Inv E) (DDw Fr E) fn .any ops Q S fuel listed a w := anyCH_done hr h fuel
theorem keepQ {a' : Act} : ∀ (a : Act) (x y : World), (fun (e : Exit) a₁ w₁ => e = .normal ∧ a₁ = a' ∧ Has Gl Fx E w₁ L) .normal a x → DRw Inv E x y → (fun (e : Exit) a₁ w₁ => e = .normal ∧ a₁ = a' ∧ Has Gl Fx E w₁ L) .normal a y := fun _ _ _ h r => ⟨h.1, h.2.1, h.2.2.moved r.1⟩
end
end Go.Proofs.Ytjbpaejjpamcpaa.Sim
