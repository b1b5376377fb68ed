import Derived.Test.YtjbpaejjpamcpaaMCw
import Derived.Conc.CrowdRun
import Derived.Conc.Beside
/- Many goroutines, each with blocks of its own that it adds to as it goes: the trace's law under a growing share; a step of the machine's. No program in sight. -/
namespace Go.Proofs.Ytjbpaejjpamcpaa.Sim
set_option linter.unusedSimpArgs false
set_option linter.unusedVariables false
open Go Go.Conc
open Go.ConcN (CT Apart OkW Ok0 PermW RelBy fork_knows)

/-- The places of these blocks. -/
def Blk (E : Nat → Prop) (l : Loc) : Prop := (∃ a, l = .cell a ∧ E a.block) ∨ (∃ b, l = .obj b ∧ E b)
/-- The cells of these blocks. -/
def Cl (E : Nat → Prop) (l : Loc) : Prop := ∃ a, l = .cell a ∧ E a.block
theorem Blk.mono {E E' : Nat → Prop} (h : ∀ b, E b → E' b) {l : Loc} (k : Blk E l) : Blk E' l := k.imp (fun ⟨a, e, x⟩ => ⟨a, e, h _ x⟩) (fun ⟨a, e, x⟩ => ⟨a, e, h _ x⟩)

section
variable {Sh : Loc → Prop} {Own Own' Rd Rd' : Nat → Loc → Prop} {t : Trace} {j : Nat}
/-- Nobody has touched the place. -/
def Untouched (t : Trace) (l : Loc) : Prop := ∀ op ∈ t, ∀ x, op.act.touch? = some x → x.loc ≠ l
theorem untouched_of_low {B : Nat} (h : ∀ op ∈ t, op.act.low B) {l : Loc} (hl : ¬ l.low B) : Untouched t l := by
  intro op hop x hx e
  subst e
  have := h op hop
  cases ea : op.act with
  | access ev =>
    rw [ea] at hx this
    simp only [MemAct.touch?, Option.some.injEq] at hx
    subst hx
    exact hl this
  | mark m =>
    rw [ea] at hx this
    cases m <;> simp only [MemAct.touch?, Option.some.injEq] at hx <;> first | (subst hx; exact hl this) | cases hx
  | _ => rw [ea] at hx; cases hx
theorem perm_untouched {l : Loc} (h : Untouched t l) (g : Nat) : Perm t g l := by
  intro i a ha hl
  obtain ⟨x, hx, hxa⟩ := touch_of ha
  exact absurd hl (h x (mem_of_getElem? hx) a hxa)

/-- Shares may grow by places that nobody has touched. -/
theorem ct_reown (h : CT Sh Own Rd t j) (hle : ∀ k, 1 ≤ k → k ≤ j → ∀ l, Own k l → Own' k l) (hnew : ∀ k, 1 ≤ k → k ≤ j → ∀ l, Own' k l → Own k l ∨ Untouched t l) (hrd : ∀ k, 1 ≤ k → k ≤ j → ∀ l, Rd' k l ↔ Rd k l) : CT Sh Own' Rd' t j := by
  refine ⟨h.quiet, fun k k1 kj l hl => ?_, fun k k1 kj l hl => h.rd k k1 kj l ((hrd k k1 kj l).1 hl), fun l hs hl => h.free l hs fun k k1 kj => ⟨fun ho => (hl k k1 kj).1 (hle k k1 kj l ho), fun hr => (hl k k1 kj).2 ((hrd k k1 kj l).2 hr)⟩,
    fun l hs hl => h.mine l hs fun k k1 kj ho => hl k k1 kj (hle k k1 kj l ho), h.nr, h.gs⟩
  rcases hnew k k1 kj l hl with ho | hu
  · exact h.own k k1 kj l ho
  · exact perm_untouched hu k
/-- .. and the shared places by such. -/
theorem ct_reshare {Sh' : Loc → Prop} (h : CT Sh Own Rd t j) (hle : ∀ l, Sh l → Sh' l) (hnew : ∀ l, Sh' l → Sh l ∨ Untouched t l) : CT Sh' Own Rd t j := by
  refine ⟨fun i op x hi hx hs => ?_, h.own, h.rd, fun l hs => h.free l fun x => hs (hle l x), fun l hs => h.mine l fun x => hs (hle l x), h.nr, h.gs⟩
  rcases hnew _ hs with hs | hu
  · exact h.quiet i op x hi hx hs
  · exact absurd rfl (hu op (mem_of_getElem? hi) x hx)
/-- All is the starter's again. -/
theorem ct_join (h : CT Sh Own Rd t j) (hk : ∀ i a, touchAt t i = some a → ¬ Sh a.loc → Knows t 0 i) : CT Sh (fun _ _ => False) (fun _ _ => False) t j :=
  ⟨h.quiet, fun _ _ _ _ x => x.elim, fun _ _ _ _ x => x.elim, fun l hs _ i a ha hl => hk i a ha (by rw [hl]; exact hs), fun l hs _ i a ha hl _ => hk i a ha (by rw [hl]; exact hs), h.nr, h.gs⟩
end

/-! ### what a step lists -/
/-- Entries of a communication. -/
def Cm (B : Nat) (x : MemAct) : Prop := (∃ c n, c < B ∧ (x = .send c n ∨ x = .sendDone c n)) ∨ ∃ c n k, c < B ∧ (x = .recv c n k ∨ x = .recvDone c n)
theorem Cm.touch {B : Nat} {x : MemAct} (h : Cm B x) : x.touch? = none := by
  rcases h with ⟨c, n, _, rfl | rfl⟩ | ⟨c, n, k, _, rfl | rfl⟩ <;> rfl
theorem Cm.low {B : Nat} {x : MemAct} (h : Cm B x) : x.low B := by
  rcases h with ⟨c, n, h, rfl | rfl⟩ | ⟨c, n, k, h, rfl | rfl⟩ <;> exact h
theorem Cm.nomark {B : Nat} {x : MemAct} (h : Cm B x) (m : Mark) : x ≠ .mark m := by
  rcases h with ⟨c, n, h, rfl | rfl⟩ | ⟨c, n, k, h, rfl | rfl⟩ <;> simp

section
variable {Fr E : Nat → Prop} {e : Event}
theorem EvK.touch (h : EvK Fr E e) {x : Touch} (hx : (MemAct.ofEvent e).touch? = some x) : Blk E x.loc ∨ (Cl Fr x.loc ∧ x.write = false) := by
  obtain ⟨l, wr, sy⟩ := e
  cases l with
  | cell a =>
    simp only [ofEvent_cell0, MemAct.touch?, Option.some.injEq] at hx
    subst hx
    rcases h with h | ⟨h, hw⟩
    · exact .inl (.inl ⟨a, rfl, h⟩)
    · exact .inr ⟨⟨a, rfl, h⟩, hw⟩
  | obj b =>
    cases wr <;> cases sy <;> simp only [MemAct.ofEvent, MemAct.touch?, Option.some.injEq] at hx <;> first | (subst hx; exact .inl (.inr ⟨b, rfl, h⟩)) | cases hx
  | mark m => cases m <;> first | exact h.elim | (simp [MemAct.ofEvent, MemAct.touch?] at hx)
  | output => exact h.elim
  | goroutines => exact h.elim
theorem EvK.low (h : EvK Fr E e) {B : Nat} (hE : ∀ b, E b → b < B) (hF : ∀ b, Fr b → b < B) : (MemAct.ofEvent e).low B := by
  obtain ⟨l, wr, sy⟩ := e
  cases l with
  | cell a => rcases h with h | ⟨h, _⟩
              · exact hE _ h
              · exact hF _ h
  | obj b => cases wr <;> cases sy <;> exact hE _ h
  | mark m => cases m <;> first | exact h.elim | trivial
  | output => exact h.elim
  | goroutines => exact h.elim
theorem EvK.still (h : EvK Fr E e) : e.loc ≠ .mark .disable ∧ e.loc ≠ .mark .enable ∧ ∀ a, e.loc ≠ .mark (.release a) := by
  refine ⟨fun x => ?_, fun x => ?_, fun a x => ?_⟩ <;> (unfold EvK at h; rw [x] at h; exact h)
end

/-! ### a step of the machine's -/
theorem partners_still {gs : Array Goroutine} {i : Nat} (h : ∀ g ∈ gs, g.status = .blocked → g.offers = none) (c : Nat) (s : Bool) : partners (gs.setIfInBounds i ph) c s = [] := by
  refine partners_nil fun j g hg => ?_
  rcases getElem?_stand gs i j g hg with ⟨_, rfl⟩ | ⟨_, hj⟩
  · rfl
  · by_cases hb : g.status = .blocked
    · have := h g (Array.mem_of_getElem? hj) hb
      unfold offersAt
      rw [hb, this]
    · exact offersAt_of_not_blocked hb c s

/-- Goroutine i's step: the others stand, or are let try again. -/
theorem runT_mv {P : Program} {gs : Array Goroutine} {w w' : World} {sl : Option (Nat × Nat)} {i : Nat} {g g' : Goroutine} {es : Array Event} (hi : gs[i]? = some g) (h : Mv P (i == 0) g w g' w' es)
    (hoff : ∀ g ∈ gs, g.status = .blocked → g.offers = none) :
    ∃ gs' f, runT P (crowd gs w sl) i = (.next (crowd gs' w' sl), MemOp.ofEvents i g.frame.fn g.frame.place es ++ f) ∧ gs'.size = gs.size ∧ gs'[i]? = some g' ∧
      ((∀ j x, j ≠ i → gs[j]? = some x → gs'[j]? = some (woken P g g' w' x)) ∨ (∀ j, j ≠ i → gs'[j]? = gs[j]?)) ∧ (∀ op ∈ f, op.g = i ∧ Cm w.heap.size op.act) := by
  have hlt : i < gs.size := (Array.getElem?_eq_some_iff.1 hi).1
  cases h with
  | go h =>
    refine ⟨_, #[], by rw [Array.append_empty]; exact runT_crowd_go hi h, by simp, by simp [hlt], .inl fun j x hj hx => ?_, fun op hop => absurd hop (by simp)⟩
    rw [Array.getElem?_setIfInBounds_ne (Ne.symm hj), Array.getElem?_map, hx]; rfl
  | send h hc hr =>
    have hcs : _ < w.heap.size := (Array.getElem?_eq_some_iff.1 hc).1
    refine ⟨_, _, crowd_send_room hi h hc hr (partners_still hoff _ _), by simp, by rw [finishComm_send]; simp [hlt], .inr fun j hj => by rw [Array.getElem?_setIfInBounds_ne (Ne.symm hj)], fun op hop => ?_⟩
    simp only [List.mem_toArray, List.mem_cons, List.not_mem_nil, or_false] at hop
    rcases hop with rfl | rfl
    · exact ⟨rfl, .inl ⟨_, _, hcs, .inl rfl⟩⟩
    · exact ⟨rfl, .inl ⟨_, _, hcs, .inr rfl⟩⟩
  | recv h hc hr =>
    have hcs : _ < w.heap.size := (Array.getElem?_eq_some_iff.1 hc).1
    refine ⟨_, _, crowd_recv_buf hi h hc hr (partners_still hoff _ _), by simp, by rw [finishComm_recv]; simp [hlt], .inr fun j hj => by rw [Array.getElem?_setIfInBounds_ne (Ne.symm hj)], fun op hop => ?_⟩
    simp only [List.mem_toArray, List.mem_cons, List.not_mem_nil, or_false] at hop
    rcases hop with rfl | rfl
    · exact ⟨rfl, .inr ⟨_, _, _, hcs, .inl rfl⟩⟩
    · exact ⟨rfl, .inr ⟨_, _, 0, hcs, .inr rfl⟩⟩
end Go.Proofs.Ytjbpaejjpamcpaa.Sim
/- Goroutine 0 on its way beside others that only leave ('Fra'): to its stop ('walk_way'); to the run's end ('ends_way'). No program in sight. -/
namespace Go.Proofs.Ytjbpaejjpamcpaa.Sim
set_option linter.unusedSimpArgs false
set_option linter.unusedVariables false
open Go Go.Conc
open Go.ConcN (CT Apart OkW Ok0 sumTo upd sumTo_upd upd_ne upd_same Deaf_still)

abbrev No : Nat → Loc → Prop := fun _ _ => False
/-- All but goroutine 0 only leave; the trace so far is clean and known to goroutine 0 (but for the cells of old groups, blocks Q). 'E': goroutine 0's own blocks. -/
structure Fra (P : Program) (Q : Nat → Prop) (J : Nat) (gs : Array Goroutine) (w : World) (t : Trace) (q : Nat → Nat) (E : Nat → Prop) : Prop where
  size : gs.size = J + 1
  wk : ∀ i g, i < J → gs[i + 1]? = some g → QuitsD P (q i) (Deaf t (i + 1)) g
  ct : CT (Cl Q) No No t J
  deaf0 : Deaf t 0 = 0
  seen : ∀ op ∈ t, op.act.low w.heap.size
  over : t.HandedOver
  norel : ∀ a, NoRelease a t
  eB : ∀ b, E b → b < w.heap.size ∧ ¬ Q b
  qB : ∀ b, Q b → b < w.heap.size

theorem apart_no (Q : Nat → Prop) : Apart (Cl Q) No No := ⟨fun _ _ _ h => h.elim, fun _ _ _ h => h.elim, fun _ _ h => h.elim, fun _ _ h => h.elim⟩

section
variable {P : Program} {Q : Nat → Prop} {J : Nat} {gs : Array Goroutine} {w : World} {t : Trace} {q : Nat → Nat} {E : Nat → Prop} {a : Goroutine} {sl : Option (Nat × Nat)}
theorem Fra.awake (h : Fra P Q J gs w t q E) (h0 : gs[0]? = some a) (hr : a.status = .running) : (∀ g ∈ gs, Go.Conc.awake g) ∧ ∀ g ∈ gs, g.status = .blocked → g.offers = none := by
  have key : ∀ g ∈ gs, g.status = .running ∨ g.status = .finished := by
    intro g hg
    obtain ⟨i, hi⟩ := Array.mem_iff_getElem?.1 hg
    cases i with
    | zero => rw [h0] at hi; cases hi; exact .inl hr
    | succ i =>
      have : i < J := by have := (Array.getElem?_eq_some_iff.1 hi).1; rw [h.size] at this; omega
      exact (h.wk i g this hi).status
  refine ⟨fun g hg tm => ?_, fun g hg hb => ?_⟩
  · rcases key g hg with h | h <;> rw [h] <;> simp
  · rcases key g hg with h | h <;> rw [h] at hb <;> cases hb
theorem Fra.at (h : Fra P Q J gs w t q E) (d : Nat) : Fra P Q J gs (w.at d) t q E := ⟨h.size, h.wk, h.ct, h.deaf0, h.seen, h.over, h.norel, h.eB, h.qB⟩

theorem ofE_cases {g : Nat} {fn : FuncId} {pos : String} {es : Array Event} {f : Trace} {op : MemOp} (h : op ∈ MemOp.ofEvents g fn pos es ++ f) : (∃ e ∈ es, op = { g, fn, pos, act := .ofEvent e }) ∨ op ∈ f :=
  (Array.mem_append.1 h).imp Go.Conc.mem_ofEvents id
theorem ofEvent_mark_loc {e : Event} {m : Mark} (h : MemAct.ofEvent e = .mark m) : e.loc = .mark m := by
  obtain ⟨l, wr, sy⟩ := e
  cases l <;> cases wr <;> cases sy <;> simp_all [MemAct.ofEvent]

/-- Goroutine 0 steps. -/
theorem Fra.own (h : Fra P Q J gs w t q E) {Fr : Nat → Prop} (hF : ∀ b, Fr b → b < w.heap.size ∧ ¬ Q b) {gs' : Array Goroutine} {a a' : Goroutine} {w' : World} {fn : FuncId} {pos : String} {es : Array Event} {f : Trace}
    (hgu : Gu Fr E w w' es) (hz : gs'.size = gs.size) (hg : (∀ j x, j ≠ 0 → gs[j]? = some x → gs'[j]? = some (woken P a a' w' x)) ∨ (∀ j, j ≠ 0 → gs'[j]? = gs[j]?)) (hf : ∀ op ∈ f, op.g = 0 ∧ Cm w.heap.size op.act) :
    Fra P Q J gs' w' (t ++ (MemOp.ofEvents 0 fn pos es ++ f)) q (grown E w w') := by
  have hEB : ∀ b, grown E w w' b → b < w'.heap.size ∧ ¬ Q b := fun b hb => by
    rcases hb with hb | ⟨h1, h2⟩
    · exact ⟨Nat.lt_of_lt_of_le (h.eB b hb).1 hgu.size, (h.eB b hb).2⟩
    · exact ⟨h2, fun hq => by have := h.qB b hq; omega⟩
  have hg0 : ∀ op ∈ MemOp.ofEvents 0 fn pos es ++ f, op.g = 0 := fun op hop => by
    rcases ofE_cases hop with ⟨e, _, rfl⟩ | hx
    · rfl
    · exact (hf op hx).1
  have hmk : ∀ op ∈ MemOp.ofEvents 0 fn pos es ++ f, op.act ≠ .mark .disable ∧ op.act ≠ .mark .enable ∧ ∀ a, op.act ≠ .mark (.release a) := fun op hop => by
    rcases ofE_cases hop with ⟨e, he, rfl⟩ | hx
    · obtain ⟨k1, k2, k3⟩ := (hgu.ev e he).still
      exact ⟨fun x => k1 (ofEvent_mark_loc x), fun x => k2 (ofEvent_mark_loc x), fun a x => k3 a (ofEvent_mark_loc x)⟩
    · exact ⟨(hf op hx).2.nomark _, (hf op hx).2.nomark _, fun a => (hf op hx).2.nomark _⟩
  have hdf : ∀ g, Deaf (t ++ (MemOp.ofEvents 0 fn pos es ++ f)) g = Deaf t g := fun g => Deaf_still t g _ fun op hop => ⟨(hmk op hop).1, (hmk op hop).2.1⟩
  refine ⟨hz.trans h.size, fun i g hi hx => ?_, h.ct.app0 (apart_no Q) fun op hop => ⟨hg0 op hop, fun x hx => .inr ?_⟩, (hdf 0).trans h.deaf0, fun op hop => ?_, handedOver_app h.over fun op hop => .inl (hg0 op hop), fun a => (h.norel a).app fun op hop => (hmk op hop).2.2 a, hEB, fun b hb => Nat.lt_of_lt_of_le (h.qB b hb) hgu.size⟩
  · rw [hdf]
    have hlt : i + 1 < gs.size := by rw [h.size]; omega
    have hq := h.wk i _ hi (Array.getElem?_eq_getElem hlt)
    rcases hg with hg | hg
    · have := hg (i + 1) _ (by omega) (Array.getElem?_eq_getElem hlt)
      rw [this, woken_quitsD hq] at hx
      cases hx
      exact hq
    · rw [hg (i + 1) (by omega)] at hx
      exact h.wk i g hi hx
  · refine ⟨fun ⟨ad, e, hq⟩ => ?_, fun _ _ _ x => x.elim, fun _ _ _ _ x => x.elim⟩
    rcases ofE_cases hop with ⟨ev, he, rfl⟩ | hxf
    · rcases (hgu.ev ev he).touch hx with hb | ⟨⟨ad', e', hfr⟩, _⟩
      · rcases hb with ⟨ad', e', hb⟩ | ⟨b, e', _⟩
        · rw [e] at e'; cases e'; exact (hEB _ hb).2 hq
        · rw [e] at e'; cases e'
      · rw [e] at e'; cases e'; exact (hF _ hfr).2 hq
    · rw [(hf op hxf).2.touch] at hx; cases hx
  · rcases Array.mem_append.1 hop with hop | hop
    · exact MemAct.low_mono hgu.size (h.seen op hop)
    · rcases ofE_cases hop with ⟨ev, he, rfl⟩ | hxf
      · exact (hgu.ev ev he).low (fun b hb => (hEB b hb).1) (fun b hb => Nat.lt_of_lt_of_le (hF b hb).1 hgu.size)
      · exact MemAct.low_mono hgu.size (hf op hxf).2.low

/-- A leaver slips. -/
theorem Fra.slip (h : Fra P Q J gs w t q E) {i : Nat} (hi : i < J) {g g' : Goroutine} (hg : gs[i + 1]? = some g) {fn : FuncId} {pos : String} {es : Array Event} {k : Nat} (hm : ∀ e ∈ es, Event.mute e = true) (hq' : QuitsD P k (deafBehind (Deaf t (i + 1)) es) g') :
    Fra P Q J ((gs.map (woken P g g' w)).setIfInBounds (i + 1) g') w (t ++ MemOp.ofEvents (i + 1) fn pos es) (upd q i k) E := by
  have hlt : i + 1 < gs.size := by rw [h.size]; omega
  have hno : ∀ op ∈ MemOp.ofEvents (i + 1) fn pos es, op.act.touch? = none ∧ op.g = i + 1 ∧ ∀ a, op.act ≠ .mark (.release a) := fun op hop => by
    obtain ⟨e, he, rfl⟩ := Go.Conc.mem_ofEvents hop
    refine ⟨touch_mute (hm e he), rfl, fun a x => ?_⟩
    have := ofEvent_mark_loc x
    have hm' := hm e he
    obtain ⟨l, wr, sy⟩ := e
    cases this
    simp [Event.mute] at hm'
  refine ⟨by simp [h.size], fun j x hj hx => ?_, h.ct.appW (apart_no Q) (k := i + 1) (by omega) (by omega) fun op hop => ⟨(hno op hop).2.1, fun x hx => by rw [(hno op hop).1] at hx; cases hx⟩,
    (Deaf_other t (by omega) _ fun op hop => (hno op hop).2.1).trans h.deaf0, fun op hop => ?_, handedOver_app h.over fun op hop => .inr (hno op hop).1, fun a => (h.norel a).app fun op hop => (hno op hop).2.2 a, h.eB, h.qB⟩
  · by_cases hji : i = j
    · subst hji
      rw [Array.getElem?_setIfInBounds_self_of_lt (by simpa using hlt)] at hx
      cases hx
      rw [upd_same, Deaf_own]
      exact hq'
    · rw [Array.getElem?_setIfInBounds_ne (by omega), Array.getElem?_map] at hx
      obtain ⟨y, hy, rfl⟩ := Option.map_eq_some_iff.1 hx
      have hqj := h.wk j y hj hy
      rw [woken_quitsD hqj, upd_ne q k (Ne.symm hji), Deaf_other t (by omega) _ fun op hop => (hno op hop).2.1]
      exact hqj
  · rcases Array.mem_append.1 hop with hop | hop
    · exact h.seen op hop
    · obtain ⟨e, he, rfl⟩ := Go.Conc.mem_ofEvents hop
      exact low_mute (hm e he) _

/-- Who moves. -/
theorem Fra.pick (h : Fra P Q J gs w t q E) (h0 : gs[0]? = some a) (hr : a.status = .running) :
    ∃ d sl', stepT P (crowd gs w sl) = runT P (crowd gs (w.at d) sl') 0 ∨
      ∃ gs' ops q', stepT P (crowd gs w sl) = (.next (crowd gs' (w.at d) sl'), ops) ∧ gs'[0]? = some a ∧ Fra P Q J gs' (w.at d) (t ++ ops) q' E ∧ sumTo J q' < sumTo J q := by
  obtain ⟨haw, _⟩ := h.awake h0 hr
  obtain ⟨i, g, d, sl', hi, hg, hst⟩ := crowd_pick (P := P) (w := w) (sl := sl) haw ⟨0, a, h0, hr⟩
  refine ⟨d, sl', ?_⟩
  cases i with
  | zero => exact .inl hst
  | succ i =>
    have hlt : i < J := by have := (Array.getElem?_eq_some_iff.1 hi).1; rw [h.size] at this; omega
    have hq := h.wk i g hlt hi
    cases hqi : q i with
    | zero => rw [hqi] at hq; rw [hq.1] at hg; cases hg
    | succ k =>
      rw [hqi] at hq
      rcases hq with ⟨hf, _⟩ | ⟨_, g', es, hm, hstp, hq'⟩
      · rw [hf] at hg; cases hg
      have hrunT := runT_crowd_go (P := P) (sl := sl') (i := i + 1) hi (by simpa using hstp (w.at d))
      refine .inr ⟨_, _, upd q i k, hst.trans hrunT, ?_, (h.at d).slip hlt hi hm hq', ?_⟩
      · rw [Array.getElem?_setIfInBounds_ne (by omega), Array.getElem?_map, h0]
        simp [woken_run hr]
      · have := sumTo_upd q k id hlt
        simp only [id, hqi] at this
        show sumTo J (fun a => upd q i k a) < sumTo J (fun a => q a)
        omega

abbrev Lt2R : Nat × Rk → Nat × Rk → Prop := Prod.Lex (· < ·) Rk.lt
theorem lt2R_wf : WellFounded Lt2R := (Prod.lex ⟨_, Nat.lt_wfRel.wf⟩ ⟨_, Rk.wf⟩).wf
theorem rely_at (E : Nat → Prop) (w : World) (d : Nat) : Rely E w (w.at d) := ⟨fun _ _ => rfl, Nat.le_refl _⟩

variable {Fr : Nat → Prop} {Inv : World → Prop} {Stop : (Nat → Prop) → Goroutine → World → Prop}
/-- ████ GOROUTINE 0 COMES TO ITS STOP, ON WHATEVER TAPE. ████ -/
theorem walk_rank (hAt : ∀ w d, Inv w → Inv (w.at d)) {N : Nat} (hF : ∀ b, Fr b → b < N ∧ ¬ Q b) : ∀ (μ : Nat × Rk) (gs : Array Goroutine) (w : World) (sl : Option (Nat × Nat)) (t : Trace) (q : Nat → Nat) (E : Nat → Prop) (a : Goroutine),
    sumTo J q = μ.1 → N ≤ w.heap.size → gs[0]? = some a → Fra P Q J gs w t q E → Inv w → WayR P true Fr Inv Stop μ.2 E a w →
    ∃ n gs' w' sl' t' q' E' a', runNT P n (crowd gs w sl) t = (.next (crowd gs' w' sl'), t') ∧ gs'[0]? = some a' ∧ Fra P Q J gs' w' t' q' E' ∧ w.heap.size ≤ w'.heap.size ∧ w'.tape = w.tape ∧ w'.os = w.os ∧ w'.output = w.output ∧ Inv w' ∧ ∀ d, Stop E' a' (w'.at d) := by
  intro μ
  induction μ using lt2R_wf.induction with
  | _ μ ih =>
    obtain ⟨M, κ⟩ := μ
    intro gs w sl t q E a hM hN h0 hfr hi hw
    cases κ with
    | leaf => exact ⟨0, gs, w, sl, t, q, E, a, rfl, h0, hfr, Nat.le_refl _, rfl, rfl, rfl, hi, fun d => hw _ (rely_at E w d) (hAt w d hi)⟩
    | node f =>
      obtain ⟨hr, hstep⟩ := hw
      obtain ⟨d, sl', hp⟩ := hfr.pick (sl := sl) h0 hr
      rcases hp with hst | ⟨gs', ops, q', hst, h0', hfr', hlt⟩
      · obtain ⟨a', w', es, hmv, hgu, hi', hw'⟩ := hstep (w.at d) (rely_at E w d) (hAt w d hi)
        obtain ⟨gs', f', hrun, hz, hg', hoth, hcm⟩ := runT_mv (sl := sl') (i := 0) h0 hmv (hfr.awake h0 hr).2
        have hfr' := (hfr.at d).own (fun b hb => ⟨Nat.lt_of_lt_of_le (hF b hb).1 hN, (hF b hb).2⟩) (fn := a.frame.fn) (pos := a.frame.place) hgu hz hoth hcm
        have hsz : w.heap.size ≤ w'.heap.size := hgu.size
        obtain ⟨n, gs₂, w₂, sl₂, t₂, q₂, E₂, a₂, r1, r2, r3, r4, r5, r6, r7, r8, r9⟩ := ih (M, f (w.at d)) (Prod.Lex.right _ ⟨_, rfl⟩) gs' w' sl' _ q _ a' hM (Nat.le_trans hN hsz) hg' hfr' hi' hw'
        exact ⟨n + 1, gs₂, w₂, sl₂, t₂, q₂, E₂, a₂, by simp only [runNT, hst, hrun]; exact r1, r2, r3, Nat.le_trans hsz r4, r5.trans hgu.tape, r6.trans hgu.os, r7.trans hgu.output, r8, r9⟩
      · obtain ⟨n, gs₂, w₂, sl₂, t₂, q₂, E₂, a₂, r1, r2, r3, r4, r5, r6, r7, r8, r9⟩ := ih (sumTo J q', .node f) (Prod.Lex.left _ _ (by omega)) gs' (w.at d) sl' _ q' E a rfl hN h0' hfr' (hAt w d hi) (WayR.moved (k := .node f) ⟨hr, hstep⟩ (rely_at E w d))
        exact ⟨n + 1, gs₂, w₂, sl₂, t₂, q₂, E₂, a₂, by simp only [runNT, hst]; exact r1, r2, r3, r4, r5, r6, r7, r8, r9⟩

theorem walk_way (hAt : ∀ w d, Inv w → Inv (w.at d)) {N : Nat} (hF : ∀ b, Fr b → b < N ∧ ¬ Q b) (hN : N ≤ w.heap.size) (h0 : gs[0]? = some a) (hfr : Fra P Q J gs w t q E) (hi : Inv w) (hw : Way P true Fr Inv Stop E a w) (sl : Option (Nat × Nat)) :
    ∃ n gs' w' sl' t' q' E' a', runNT P n (crowd gs w sl) t = (.next (crowd gs' w' sl'), t') ∧ gs'[0]? = some a' ∧ Fra P Q J gs' w' t' q' E' ∧ w.heap.size ≤ w'.heap.size ∧ w'.tape = w.tape ∧ w'.os = w.os ∧ w'.output = w.output ∧ Inv w' ∧ ∀ d, Stop E' a' (w'.at d) := by
  obtain ⟨κ, hκ⟩ := hw.ranked hi
  exact walk_rank hAt hF (sumTo J q, κ) gs w sl t q E a rfl hN h0 hfr hi hκ

/-- Goroutine 0's next step, which lays a new block and lists nothing. -/
theorem step_new {o : Obj} : ∀ (M : Nat) (gs : Array Goroutine) (w : World) (sl : Option (Nat × Nat)) (t : Trace) (q : Nat → Nat), sumTo J q = M → gs[0]? = some a → a.status = .running → Fra P Q J gs w t q E →
    (∀ d, ∃ a', stepG P true a (w.at d) = .go a' ((w.at d).alloc o) #[]) →
    ∃ n gs' sl' t' q' a' d, runNT P n (crowd gs w sl) t = (.next (crowd gs' ((w.at d).alloc o) sl'), t') ∧ gs'[0]? = some a' ∧ stepG P true a (w.at d) = .go a' ((w.at d).alloc o) #[] ∧ Fra P Q J gs' ((w.at d).alloc o) t' q' E ∧ (∀ op ∈ t', op.act.low w.heap.size) := by
  intro M
  induction M using Nat.strongRecOn with
  | _ M ih =>
    intro gs w sl t q hM h0 hr hfr hst
    obtain ⟨d, sl', hp⟩ := hfr.pick (sl := sl) h0 hr
    rcases hp with hpk | ⟨gs', ops, q', hpk, h0', hfr', hlt⟩
    · obtain ⟨a', hgo⟩ := hst d
      have hgu : Gu (fun _ => False) E (w.at d) ((w.at d).alloc o) #[] := ⟨rfl, rfl, rfl, by rw [World.size_alloc]; omega, fun b _ hb => Go.RowKit.Below.heap_alloc _ _ _ hb, fun e he => absurd he (by simp)⟩
      obtain ⟨gs', f', hrun, hz, hg', hoth, hcm⟩ := runT_mv (sl := sl') (i := 0) h0 (.go hgo) (hfr.awake h0 hr).2
      have hrun' := runT_crowd_go (P := P) (sl := sl') (i := 0) h0 (show stepG P (0 == 0) a (w.at d) = _ from hgo)
      have hfr' := (hfr.at d).own (f := #[]) (fun b hb => hb.elim) (fn := a.frame.fn) (pos := a.frame.place) hgu (gs' := (gs.map (woken P a a' ((w.at d).alloc o))).setIfInBounds 0 a') (by simp) (a := a) (a' := a') (.inl fun j x hj hx => by
        rw [Array.getElem?_setIfInBounds_ne (Ne.symm hj), Array.getElem?_map, hx]; rfl) (fun op hop => absurd hop (by simp))
      have hlt : 0 < gs.size := (Array.getElem?_eq_some_iff.1 h0).1
      rw [Array.append_empty] at hfr'
      refine ⟨1, _, sl', _, q, a', d, by simp only [runNT, hpk, hrun'], by simp [hlt], hgo, ⟨hfr'.size, hfr'.wk, hfr'.ct, hfr'.deaf0, hfr'.seen, hfr'.over, hfr'.norel, fun b hb => hfr'.eB b (.inl hb), hfr'.qB⟩, fun op hop => ?_⟩
      rcases Array.mem_append.1 hop with hop | hop
      · exact hfr.seen op hop
      · obtain ⟨e, he, _⟩ := Go.Conc.mem_ofEvents hop
        simp at he
    · obtain ⟨n, gs₂, sl₂, t₂, q₂, a₂, d₂, r1, r2, r3, r4, r5⟩ := ih _ (by omega) gs' (w.at d) sl' (t ++ ops) q' rfl h0' hr hfr' (fun d' => hst d')
      exact ⟨n + 1, gs₂, sl₂, t₂, q₂, a₂, d₂, by simp only [runNT, hpk]; exact r1, r2, r3, r4, r5⟩

/-- Goroutine 0 stands at the step that ends the run. -/
def AtEndW (P : Program) (Fr : Nat → Prop) (Post : Value → World → Prop) : (Nat → Prop) → Goroutine → World → Prop := fun E g w =>
  g.status = .running ∧ ∃ v es, stepG P true g w = .ended (.done v) w es ∧ (∀ e ∈ es, EvK Fr E e) ∧ Post v w

def EInv (P : Program) (Q : Nat → Prop) (J N : Nat) (Fr : Nat → Prop) (Inv : World → Prop) (Post : Value → World → Prop) (μ : Nat × Rk) (m : Machine) (t : Trace) : Prop :=
  ∃ gs w sl q E a, m = crowd gs w sl ∧ sumTo J q = μ.1 ∧ N ≤ w.heap.size ∧ gs[0]? = some a ∧ Fra P Q J gs w t q E ∧ Inv w ∧ WayR P true Fr Inv (AtEndW P Fr Post) μ.2 E a w

theorem ends_step {Post : Value → World → Prop} (hAt : ∀ w d, Inv w → Inv (w.at d)) {N : Nat} (hF : ∀ b, Fr b → b < N ∧ ¬ Q b) (μ : Nat × Rk) (m : Machine) (t : Trace) (h : EInv P Q J N Fr Inv Post μ m t) :
    (∃ o w ops, stepT P m = (.ended o w, ops) ∧ Go.Conc.Good P Post m o w (t ++ ops)) ∨ (∃ m' ops μ', stepT P m = (.next m', ops) ∧ Lt2R μ' μ ∧ EInv P Q J N Fr Inv Post μ' m' (t ++ ops)) := by
  obtain ⟨gs, w, sl, q, E, a, rfl, hM, hN, h0, hfr, hi, hw⟩ := h
  obtain ⟨M, κ⟩ := μ
  have hr := hw.running hi fun _ _ _ x => x.1
  obtain ⟨d, sl', hp⟩ := hfr.pick (sl := sl) h0 hr
  rcases hp with hst | ⟨gs', ops, q', hst, h0', hfr', hlt⟩
  · cases κ with
    | leaf =>
      obtain ⟨_, v, es, hend, hev, hpost⟩ := hw (w.at d) (rely_at E w d) (hAt w d hi)
      have hrunT := runT_many_ended (P := P) (sl := sl') (i := 0) h0 (show stepG P (0 == 0) a (w.at d) = _ from hend)
      have hgu : Gu Fr E (w.at d) (w.at d) es := ⟨rfl, rfl, rfl, Nat.le_refl _, fun _ _ _ => rfl, fun e he => by rw [grown_same rfl]; exact hev e he⟩
      have hfr' := (hfr.at d).own (gs' := gs) (a := a) (a' := a) (f := #[]) (fun b hb => ⟨Nat.lt_of_lt_of_le (hF b hb).1 hN, (hF b hb).2⟩) (fn := a.frame.fn) (pos := a.frame.place) hgu rfl (.inr fun _ _ => rfl) (fun op hop => absurd hop (by simp))
      rw [Array.append_empty] at hfr'
      refine .inl ⟨_, _, _, hst.trans hrunT, v, rfl, hpost, hfr'.ct.nr, hfr'.over, ⟨fun x hx => ?_, rfl⟩, fun j x hx hj => ?_⟩
      · obtain ⟨j, hj⟩ := List.mem_iff_getElem?.1 hx
        rw [List.getElem?_drop] at hj
        have hj' : gs[j + 1]? = some x := by simpa [crowd, Nat.add_comm] using hj
        exact ⟨_, (hfr.wk j x (by have := (Array.getElem?_eq_some_iff.1 hj').1; rw [hfr.size] at this; omega) hj').leaves⟩
      · obtain ⟨j, rfl⟩ : ∃ i, j = i + 1 := ⟨j - 1, by omega⟩
        have hx' : gs[j + 1]? = some x := hx
        have hq := hfr'.wk j x (by have := (Array.getElem?_eq_some_iff.1 hx').1; rw [hfr.size] at this; omega) hx'
        exact ⟨q j, hq.hears _⟩
    | node f =>
      obtain ⟨_, hstep⟩ := hw
      obtain ⟨a', w', es, hmv, hgu, hi', hw'⟩ := hstep (w.at d) (rely_at E w d) (hAt w d hi)
      obtain ⟨gs', f', hrun, hz, hg', hoth, hcm⟩ := runT_mv (sl := sl') (i := 0) h0 hmv (hfr.awake h0 hr).2
      have hfr' := (hfr.at d).own (fun b hb => ⟨Nat.lt_of_lt_of_le (hF b hb).1 hN, (hF b hb).2⟩) (fn := a.frame.fn) (pos := a.frame.place) hgu hz hoth hcm
      exact .inr ⟨_, _, (M, f (w.at d)), hst.trans hrun, Prod.Lex.right _ ⟨_, rfl⟩, gs', w', sl', q, _, a', rfl, hM, Nat.le_trans hN hgu.size, hg', hfr', hi', hw'⟩
  · exact .inr ⟨_, _, (sumTo J q', κ), hst, Prod.Lex.left _ _ (by simp only at hM; omega), gs', w.at d, sl', q', E, a, rfl, rfl, hN, h0', hfr', hAt w d hi, hw.moved (rely_at E w d)⟩

/-- ████ .. TO THE RUN's END. ████ -/
theorem ends_way {Post : Value → World → Prop} (hAt : ∀ w d, Inv w → Inv (w.at d)) {N : Nat} (hF : ∀ b, Fr b → b < N ∧ ¬ Q b) (hN : N ≤ w.heap.size) (h0 : gs[0]? = some a) (hfr : Fra P Q J gs w t q E) (hi : Inv w)
    (hw : Way P true Fr Inv (AtEndW P Fr Post) E a w) (sl : Option (Nat × Nat)) :
    ∃ n last o w' t', runNT P (n + 1) (crowd gs w sl) t = (.ended o w', t') ∧ runN P n (crowd gs w sl) = .next last ∧ step P last = .ended o w' ∧ Go.Conc.Good P Post last o w' t' := by
  obtain ⟨κ, hκ⟩ := hw.ranked hi
  exact run_of_inv lt2R_wf (EInv P Q J N Fr Inv Post) (Go.Conc.Good P Post) (ends_step hAt hF) (sumTo J q, κ) _ _ ⟨gs, w, sl, q, E, a, rfl, rfl, hN, h0, hfr, hi, hκ⟩

/-- The first frame: nothing has been done; goroutine 0 is alone. -/
theorem fra_first (P : Program) (a : Goroutine) (w : World) (E : Nat → Prop) (hE : ∀ b, E b → b < w.heap.size) : Fra P (fun _ => False) 0 #[a] w #[] (fun _ => 0) E := by
  refine ⟨rfl, fun i g hi => by omega, ?_, rfl, by simp, fun i g hg => by simp [Trace.g?] at hg, fun a i => by simp [Trace.act?], fun b hb => ⟨hE b hb, id⟩, fun b hb => hb.elim⟩
  refine ⟨fun i op x hi => by simp at hi, fun _ _ _ _ x => x.elim, fun _ _ _ _ x => x.elim, fun l _ _ i a ha => by simp [touchAt, Trace.act?] at ha, fun l _ _ i a ha => by simp [touchAt, Trace.act?] at ha, fun said => Go.ConcN.noRace_nil said, fun i op hi => by simp at hi⟩
end
end Go.Proofs.Ytjbpaejjpamcpaa.Sim
/- Workers that are started one by one, joined by a WaitGroup, each with blocks of its own and a channel that it fills; their starter: what is asked of each ('SR0' .., 'Spawns', 'JW1' ..); where each stands. No program in sight. -/
namespace Go.Proofs.Ytjbpaejjpamcpaa.Sim
set_option linter.unusedSimpArgs false
set_option linter.unusedVariables false
open Go Go.Conc
open Go.ConcN (WgLive CTag)
open Go.ConcR (KK WgAt stA smA rd wr mk DC0)

/-- The group is there; these blocks are as they were. -/
def InvW (ty : TypeId) (Wg : Nat) (F : Nat → Prop) (W w : World) : Prop := WgLive ty Wg w ∧ ∀ b, F b → w.heap[b]? = W.heap[b]?
def RI (ty : TypeId) (Wg : Nat) (F : Nat → Prop) (W : World) (E : Nat → Prop) (w w₁ : World) : Prop := Rely E w w₁ ∧ InvW ty Wg F W w₁
theorem InvW.at {ty : TypeId} {Wg : Nat} {F : Nat → Prop} {W w : World} (h : InvW ty Wg F W w) (d : Nat) : InvW ty Wg F W (w.at d) := h
theorem RI.trans {ty : TypeId} {Wg : Nat} {F : Nat → Prop} {W : World} {E : Nat → Prop} (a b c : World) (h : RI ty Wg F W E a b) (k : RI ty Wg F W E b c) : RI ty Wg F W E a c := ⟨h.1.trans k.1, k.2⟩

/-- A channel of room one that holds a value. -/
abbrev full1 (v : Value) : Obj := .chan 1 #[v] false 1 0 false

abbrev St := (Nat → Prop) → Goroutine → World → Prop

/-! ### a worker, from its end backwards -/
section
variable (P : Program) (ty : TypeId) (Wg : Nat) (F : Nat → Prop) (W : World) (c : Nat) (v : Value) (E : Nat → Prop)
abbrev GW (S : Goroutine → World → Prop) (m : Nat) (g : Goroutine) (w : World) : Prop := Goes P false (RI ty Wg F W E) DC0 S m g w
def SD4 (g : Goroutine) (w : World) : Prop :=
  g.status = .running ∧ mayWake P g = true ∧ (WgAt ty Wg w 0 0 → ∃ g', stepG P false g w = .go g' (w.setCell (smA Wg) (.int .u32 1)) (semEvents (smA Wg)) ∧ ∃ q, QuitsD P q 1 g')
def SD3 (g : Goroutine) (w : World) : Prop :=
  g.status = .running ∧ (WgAt ty Wg w 1 0 → ∃ g', stepG P false g w = .go g' (w.setCell (stA Wg) (.int .u64 0)) #[wr (stA Wg)] ∧ ∃ m, GW P ty Wg F W E (SD4 P ty Wg) m g' (w.setCell (stA Wg) (.int .u64 0)))
def SD2 (g : Goroutine) (w : World) : Prop :=
  g.status = .running ∧ (WgAt ty Wg w 1 0 → ∃ g', stepG P false g w = .go g' w #[rd (stA Wg)] ∧ ∃ m, GW P ty Wg F W E (SD3 P ty Wg F W E) m g' w)
def SD1 (g : Goroutine) (w : World) : Prop :=
  g.status = .running ∧ ∀ v wt : Nat, wt ≤ 1 → v < 2147483647 → WgAt ty Wg w ((v + 1) * KK + wt) 0 →
    ∃ g', stepG P false g w = .go g' (w.setCell (stA Wg) (.int .u64 (v * KK + wt))) #[rd (stA Wg), wr (stA Wg)] ∧
      ((v = 0 ∧ wt = 1) → ∃ m, GW P ty Wg F W E (SD2 P ty Wg F W E) m g' (w.setCell (stA Wg) (.int .u64 (v * KK + wt)))) ∧ (¬ (v = 0 ∧ wt = 1) → ∃ q, QuitsD P q 1 g')
def SK1 (g : Goroutine) (w : World) : Prop :=
  g.status = .running ∧ ∃ g', stepG P false g w = .go g' w #[mk .disable] ∧ ∃ m, GW P ty Wg F W E (SD1 P ty Wg F W E) m g' w
/-- Ahead of the release: the channel is filled. -/
def SR0 : St := fun E g w =>
  g.status = .running ∧ E c ∧ w.heap[c]? = some (full1 v) ∧ ∃ g', stepG P false g w = .go g' w #[mk (.releaseMerge (stA Wg))] ∧ ∃ m, GW P ty Wg F W E (SK1 P ty Wg F W E) m g' w

/-- Where a worker stands: stage, fuel, deafness, rank. -/
inductive WS : Nat → Nat → Nat → Rk → (Nat → Prop) → Goroutine → World → Prop
  | r0 {κ : Rk} {E : Nat → Prop} {g : Goroutine} {w : World} : WayR P false F (InvW ty Wg F W) (SR0 P ty Wg F W c v) κ E g w → WS 7 0 0 κ E g w
  | k1 {m : Nat} {κ : Rk} {E : Nat → Prop} {g : Goroutine} {w : World} : GW P ty Wg F W E (SK1 P ty Wg F W E) m g w → WS 6 m 0 κ E g w
  | d1 {m : Nat} {κ : Rk} {E : Nat → Prop} {g : Goroutine} {w : World} : GW P ty Wg F W E (SD1 P ty Wg F W E) m g w → WS 5 m 1 κ E g w
  | d2 {m : Nat} {κ : Rk} {E : Nat → Prop} {g : Goroutine} {w : World} : GW P ty Wg F W E (SD2 P ty Wg F W E) m g w → WS 4 m 1 κ E g w
  | d3 {m : Nat} {κ : Rk} {E : Nat → Prop} {g : Goroutine} {w : World} : GW P ty Wg F W E (SD3 P ty Wg F W E) m g w → WS 3 m 1 κ E g w
  | d4 {m : Nat} {κ : Rk} {E : Nat → Prop} {g : Goroutine} {w : World} : GW P ty Wg F W E (SD4 P ty Wg) m g w → WS 2 m 1 κ E g w
  | quit {q d : Nat} {κ : Rk} {E : Nat → Prop} {g : Goroutine} {w : World} : QuitsD P q d g → WS 1 q d κ E g w
end

/-! ### the starter, from its end backwards -/
/-- The channels handed out; the blocks that nobody writes any more; the world in which this was last said. -/
structure Xs where
  cbs : List Nat
  Z : Nat → Prop
  W : World

section
variable (P : Program) (ty : TypeId) (Wg N j0 : Nat) (val : Nat → Value) (Anch : St) (AnchW : Xs → St)
abbrev MW (x : Xs) (S : St) : St := fun E g w => Way P true x.Z (InvW ty Wg x.Z x.W) S E g w
def JAcq (x : Xs) : St := fun E g w =>
  g.status = .running ∧ ∃ g', stepG P true g w = .go g' w #[mk (.acquire (stA Wg))] ∧ ((∀ i c, x.cbs[i]? = some c → w.heap[c]? = some (full1 (val (j0 + i)))) → Anch (fun b => E b ∨ b ∈ x.cbs) g' w)
def JKe (x : Xs) : St := fun E g w =>
  g.status = .running ∧ ∃ g', stepG P true g w = .go g' w #[mk .enable] ∧ MW P ty Wg x (JAcq P Wg j0 val Anch x) E g' w
def JW4 (x : Xs) : St := fun E g w =>
  g.status = .running ∧ (WgAt ty Wg w 0 0 → ∃ g', stepG P true g w = .go g' w #[rd (stA Wg)] ∧ MW P ty Wg x (JKe P ty Wg j0 val Anch x) E g' w)
def JW3 (x : Xs) : St := fun E g w =>
  g.status = .running ∧ g.offers = none ∧
    ((∃ st, WgAt ty Wg w st 0) → stepG P true g w = .go { g with status := .blocked } w #[]) ∧
    (WgAt ty Wg w 0 1 → ∃ g', stepG P true g w = .go g' (w.setCell (smA Wg) (.int .u32 0)) (semEvents (smA Wg)) ∧ MW P ty Wg x (JW4 P ty Wg j0 val Anch x) E g' (w.setCell (smA Wg) (.int .u32 0)))
def JSd (x : Xs) : St := fun E g w =>
  g.status = .running ∧ ∃ g', stepG P true g w = .go g' w #[mk (.write (smA Wg))] ∧ MW P ty Wg x (JW3 P ty Wg j0 val Anch x) E g' w
def JW2 (x : Xs) (vs : Nat) : St := fun E g w =>
  g.status = .running ∧ ∀ v : Nat, v < 2147483648 → WgAt ty Wg w (v * KK) 0 →
    (v = vs → ∃ g', stepG P true g w = .go g' (w.setCell (stA Wg) (.int .u64 (v * KK + 1))) #[rd (stA Wg), wr (stA Wg)] ∧ MW P ty Wg x (JSd P ty Wg j0 val Anch x) E g' (w.setCell (stA Wg) (.int .u64 (v * KK + 1)))) ∧
    (v ≠ vs → ∃ g', stepG P true g w = .go g' w #[rd (stA Wg)] ∧ MW P ty Wg x (AnchW x) E g' w)
def JW1 (x : Xs) : St := fun E g w =>
  g.status = .running ∧ ∀ v : Nat, v < 2147483648 → WgAt ty Wg w (v * KK) 0 → ∃ g', stepG P true g w = .go g' w #[rd (stA Wg)] ∧
    (v = 0 → MW P ty Wg x (JKe P ty Wg j0 val Anch x) E g' w) ∧ (v ≠ 0 → MW P ty Wg x (JW2 P ty Wg j0 val Anch AnchW x v) E g' w)
def JKd (x : Xs) : St := fun E g w =>
  g.status = .running ∧ ∃ g', stepG P true g w = .go g' w #[mk .disable] ∧ MW P ty Wg x (AnchW x) E g' w

/-! #### while it starts them -/
def MGo (k : Nat) (x : Xs) (Next : Xs → St) : St := fun E g w =>
  g.status = .running ∧ ∃ g' child c F, stepG P true g w = .spawn g' child w #[] ∧ E c ∧ (∀ b, F b → (E b ∧ b ≠ c) ∨ x.Z b) ∧
    Way P false F (InvW ty Wg F w) (SR0 P ty Wg F w c (val k)) (fun b => b = c) child w ∧ Next ⟨x.cbs ++ [c], fun b => x.Z b ∨ F b, w⟩ (fun b => E b ∧ b ≠ c ∧ ¬ F b) g' w
def MKe (k : Nat) (x : Xs) (Next : Xs → St) : St := fun E g w =>
  g.status = .running ∧ ∃ g', stepG P true g w = .go g' w #[mk .enable] ∧ MW P ty Wg x (MGo P ty Wg val k x Next) E g' w
def MSd (k : Nat) (x : Xs) (Next : Xs → St) : St := fun E g w =>
  g.status = .running ∧ ∃ g', stepG P true g w = .go g' w #[mk (.read (smA Wg))] ∧ MW P ty Wg x (MKe P ty Wg val k x Next) E g' w
def MA1 (k : Nat) (x : Xs) (Next : Xs → St) : St := fun E g w =>
  g.status = .running ∧ ∀ v : Nat, v < 2147483647 → WgAt ty Wg w (v * KK) 0 →
    ∃ g', stepG P true g w = .go g' (w.setCell (stA Wg) (.int .u64 ((v + 1) * KK))) #[rd (stA Wg), wr (stA Wg)] ∧
      (MW P ty Wg x (MSd P ty Wg val k x Next) E g' (w.setCell (stA Wg) (.int .u64 ((v + 1) * KK))) ∨ MW P ty Wg x (MKe P ty Wg val k x Next) E g' (w.setCell (stA Wg) (.int .u64 ((v + 1) * KK))))
def MKd (k : Nat) (x : Xs) (Next : Xs → St) : St := fun E g w =>
  g.status = .running ∧ ∃ g', stepG P true g w = .go g' w #[mk .disable] ∧ MW P ty Wg x (MA1 P ty Wg val k x Next) E g' w
/-- r workers are still to be started. -/
def Spawns (Fin : Xs → St) : Nat → Xs → St
  | 0, x => Fin x
  | r + 1, x => MW P ty Wg x (MKd P ty Wg val (N - (r + 1)) x (Spawns Fin r))
/-- Into Wait. -/
def Into (x : Xs) : St := MW P ty Wg x (JKd P ty Wg AnchW x)

abbrev MR (x : Xs) (S : St) (κ : Rk) : St := fun E g w => WayR P true x.Z (InvW ty Wg x.Z x.W) S κ E g w
/-- Where the starter stands: tag, how many are started, fuel, deafness, rank. -/
inductive CS : CTag → Nat → Nat → Nat → Rk → Xs → (Nat → Prop) → Goroutine → World → Prop
  | skd {r : Nat} {κ : Rk} {x : Xs} {E : Nat → Prop} {g : Goroutine} {w : World} : r < N → MR P ty Wg x (MKd P ty Wg val (N - (r + 1)) x (Spawns P ty Wg N val (Into P ty Wg AnchW) r)) κ E g w → CS (.sp r 5) (N - (r + 1)) 0 0 κ x E g w
  | sa1 {r : Nat} {κ : Rk} {x : Xs} {E : Nat → Prop} {g : Goroutine} {w : World} : r < N → MR P ty Wg x (MA1 P ty Wg val (N - (r + 1)) x (Spawns P ty Wg N val (Into P ty Wg AnchW) r)) κ E g w → CS (.sp r 4) (N - (r + 1)) 0 1 κ x E g w
  | ssd {r : Nat} {κ : Rk} {x : Xs} {E : Nat → Prop} {g : Goroutine} {w : World} : r < N → MR P ty Wg x (MSd P ty Wg val (N - (r + 1)) x (Spawns P ty Wg N val (Into P ty Wg AnchW) r)) κ E g w → CS (.sp r 3) (N - (r + 1)) 1 1 κ x E g w
  | ske {r : Nat} {κ : Rk} {x : Xs} {E : Nat → Prop} {g : Goroutine} {w : World} : r < N → MR P ty Wg x (MKe P ty Wg val (N - (r + 1)) x (Spawns P ty Wg N val (Into P ty Wg AnchW) r)) κ E g w → CS (.sp r 3) (N - (r + 1)) 0 1 κ x E g w
  | sgo {r : Nat} {κ : Rk} {x : Xs} {E : Nat → Prop} {g : Goroutine} {w : World} : r < N → MR P ty Wg x (MGo P ty Wg val (N - (r + 1)) x (Spawns P ty Wg N val (Into P ty Wg AnchW) r)) κ E g w → CS (.sp r 2) (N - (r + 1)) 0 0 κ x E g w
  | kd {κ : Rk} {x : Xs} {E : Nat → Prop} {g : Goroutine} {w : World} : MR P ty Wg x (JKd P ty Wg AnchW x) κ E g w → CS .kd N 0 0 κ x E g w
  | anch {κ : Rk} {x : Xs} {E : Nat → Prop} {g : Goroutine} {w : World} : MR P ty Wg x (AnchW x) κ E g w → CS .anch N 0 1 κ x E g w
  | w1 {κ : Rk} {x : Xs} {E : Nat → Prop} {g : Goroutine} {w : World} : MR P ty Wg x (JW1 P ty Wg j0 val Anch AnchW x) κ E g w → CS .w1 N 0 1 κ x E g w
  | w2 {vs : Nat} {κ : Rk} {x : Xs} {E : Nat → Prop} {g : Goroutine} {w : World} : MR P ty Wg x (JW2 P ty Wg j0 val Anch AnchW x vs) κ E g w → CS (.w2 vs) N 0 1 κ x E g w
  | wsd {κ : Rk} {x : Xs} {E : Nat → Prop} {g : Goroutine} {w : World} : MR P ty Wg x (JSd P ty Wg j0 val Anch x) κ E g w → CS .w3 N 2 1 κ x E g w
  | w3 {κ : Rk} {x : Xs} {E : Nat → Prop} {g : Goroutine} {w : World} : MR P ty Wg x (JW3 P ty Wg j0 val Anch x) κ E g w → CS .w3 N 1 1 κ x E g w
  | blk {κ : Rk} {x : Xs} {E : Nat → Prop} {g : Goroutine} {w : World} : (∀ w₁, Rely E w w₁ → InvW ty Wg x.Z x.W w₁ → JW3 P ty Wg j0 val Anch x E g w₁) → CS .blk N 0 1 κ x E { g with status := .blocked } w
  | w4 {κ : Rk} {x : Xs} {E : Nat → Prop} {g : Goroutine} {w : World} : MR P ty Wg x (JW4 P ty Wg j0 val Anch x) κ E g w → CS .w4 N 0 1 κ x E g w
  | ke {κ : Rk} {x : Xs} {E : Nat → Prop} {g : Goroutine} {w : World} : MR P ty Wg x (JKe P ty Wg j0 val Anch x) κ E g w → CS .ke N 0 1 κ x E g w
  | acq {κ : Rk} {x : Xs} {E : Nat → Prop} {g : Goroutine} {w : World} : MR P ty Wg x (JAcq P Wg j0 val Anch x) κ E g w → CS .acq N 0 0 κ x E g w
end

section
variable {P : Program} {ty : TypeId} {Wg : Nat} {F : Nat → Prop} {W : World} {c : Nat} {v : Value} {s m d : Nat} {κ : Rk} {E : Nat → Prop} {g : Goroutine} {w w₁ : World}
theorem WS.rely (h : WS P ty Wg F W c v s m d κ E g w) (hr : RI ty Wg F W E w w₁) : WS P ty Wg F W c v s m d κ E g w₁ := by
  cases h with
  | r0 h => exact .r0 (h.moved hr.1)
  | k1 h => exact .k1 (Goes.rely RI.trans h hr)
  | d1 h => exact .d1 (Goes.rely RI.trans h hr)
  | d2 h => exact .d2 (Goes.rely RI.trans h hr)
  | d3 h => exact .d3 (Goes.rely RI.trans h hr)
  | d4 h => exact .d4 (Goes.rely RI.trans h hr)
  | quit h => exact .quit h
theorem WS.status (h : WS P ty Wg F W c v s m d κ E g w) (hi : InvW ty Wg F W w) : g.status = .running ∨ g.status = .finished := by
  have hrf : RI ty Wg F W E w w := ⟨Rely.refl _ _, hi⟩
  cases h with
  | r0 h => exact .inl (h.running hi fun _ _ _ x => x.1)
  | k1 h => exact .inl (Goes.running (fun _ _ x => x.1) w hrf h)
  | d1 h => exact .inl (Goes.running (fun _ _ x => x.1) w hrf h)
  | d2 h => exact .inl (Goes.running (fun _ _ x => x.1) w hrf h)
  | d3 h => exact .inl (Goes.running (fun _ _ x => x.1) w hrf h)
  | d4 h => exact .inl (Goes.running (fun _ _ x => x.1) w hrf h)
  | quit h => exact h.status
theorem WS.running_of (h : WS P ty Wg F W c v s m d κ E g w) (hi : InvW ty Wg F W w) (hs : s ≠ 1) : g.status = .running := by
  have hrf : RI ty Wg F W E w w := ⟨Rely.refl _ _, hi⟩
  cases h with
  | r0 h => exact h.running hi fun _ _ _ x => x.1
  | k1 h => exact Goes.running (fun _ _ x => x.1) w hrf h
  | d1 h => exact Goes.running (fun _ _ x => x.1) w hrf h
  | d2 h => exact Goes.running (fun _ _ x => x.1) w hrf h
  | d3 h => exact Goes.running (fun _ _ x => x.1) w hrf h
  | d4 h => exact Goes.running (fun _ _ x => x.1) w hrf h
  | quit _ => exact absurd rfl hs
theorem WS.quits (h : WS P ty Wg F W c v s m d κ E g w) (hs : s = 1) : QuitsD P m d g := by
  cases h <;> first | (exact absurd hs (by decide)) | assumption
theorem WS.woken (h : WS P ty Wg F W c v s m d κ E g w) (hi : InvW ty Wg F W w) (a a' : Goroutine) (w' : World) : Go.Conc.woken P a a' w' g = g := by
  unfold Go.Conc.woken
  split
  · exact again_running _ (h.status hi)
  · rfl
end

section
variable {P : Program} {ty : TypeId} {Wg N j0 : Nat} {val : Nat → Value} {Anch : St} {AnchW : Xs → St} {tag : CTag} {j f d : Nat} {κ : Rk} {x : Xs} {E : Nat → Prop} {a : Goroutine} {w w' : World}
theorem CS.rely (h : CS P ty Wg N j0 val Anch AnchW tag j f d κ x E a w) (hr : Rely E w w') : CS P ty Wg N j0 val Anch AnchW tag j f d κ x E a w' := by
  cases h with
  | skd hn h => exact .skd hn (h.moved hr)
  | sa1 hn h => exact .sa1 hn (h.moved hr)
  | ssd hn h => exact .ssd hn (h.moved hr)
  | ske hn h => exact .ske hn (h.moved hr)
  | sgo hn h => exact .sgo hn (h.moved hr)
  | kd h => exact .kd (h.moved hr)
  | anch h => exact .anch (h.moved hr)
  | w1 h => exact .w1 (h.moved hr)
  | w2 h => exact .w2 (h.moved hr)
  | wsd h => exact .wsd (h.moved hr)
  | w3 h => exact .w3 (h.moved hr)
  | blk h => exact .blk (fun w₂ h₂ hi => h w₂ (hr.trans h₂) hi)
  | w4 h => exact .w4 (h.moved hr)
  | ke h => exact .ke (h.moved hr)
  | acq h => exact .acq (h.moved hr)
/-- It is running, or it is blocked at the semaphore. -/
theorem CS.status (hAr : ∀ x E g w, AnchW x E g w → g.status = .running) (h : CS P ty Wg N j0 val Anch AnchW tag j f d κ x E a w) (hi : InvW ty Wg x.Z x.W w) : (a.status = .running ∧ tag ≠ .blk) ∨ (a.status = .blocked ∧ a.offers = none ∧ tag = .blk) := by
  cases h with
  | skd _ h => exact .inl ⟨h.running hi (fun _ _ _ x => x.1), by simp⟩
  | sa1 _ h => exact .inl ⟨h.running hi (fun _ _ _ x => x.1), by simp⟩
  | ssd _ h => exact .inl ⟨h.running hi (fun _ _ _ x => x.1), by simp⟩
  | ske _ h => exact .inl ⟨h.running hi (fun _ _ _ x => x.1), by simp⟩
  | sgo _ h => exact .inl ⟨h.running hi (fun _ _ _ x => x.1), by simp⟩
  | kd h => exact .inl ⟨h.running hi (fun _ _ _ x => x.1), by simp⟩
  | anch h => exact .inl ⟨h.running hi (hAr _), by simp⟩
  | w1 h => exact .inl ⟨h.running hi (fun _ _ _ x => x.1), by simp⟩
  | w2 h => exact .inl ⟨h.running hi (fun _ _ _ x => x.1), by simp⟩
  | wsd h => exact .inl ⟨h.running hi (fun _ _ _ x => x.1), by simp⟩
  | w3 h => exact .inl ⟨h.running hi (fun _ _ _ x => x.1), by simp⟩
  | blk h => exact .inr ⟨rfl, (h w (Rely.refl _ _) hi).2.1, rfl⟩
  | w4 h => exact .inl ⟨h.running hi (fun _ _ _ x => x.1), by simp⟩
  | ke h => exact .inl ⟨h.running hi (fun _ _ _ x => x.1), by simp⟩
  | acq h => exact .inl ⟨h.running hi (fun _ _ _ x => x.1), by simp⟩
/-- Under another's step it stands; or, blocked, it is let try again. -/
theorem CS.wokenBy (hAr : ∀ x E g w, AnchW x E g w → g.status = .running) (h : CS P ty Wg N j0 val Anch AnchW tag j f d κ x E a w) (hr : Rely E w w') (hi : InvW ty Wg x.Z x.W w') (g g' : Goroutine) :
    ∃ tag' f' κ', CS P ty Wg N j0 val Anch AnchW tag' j f' d κ' x E (woken P g g' w' a) w' ∧ (tag' = tag ∨ (tag = .blk ∧ tag' = .w3)) ∧ (mayWake P g = true → g'.status = .running → tag' ≠ .blk) := by
  have h' := h.rely hr
  unfold Go.Conc.woken
  split
  · rcases h'.status hAr hi with ⟨hs, hne⟩ | ⟨_, _, rfl⟩
    · exact ⟨tag, f, κ, by rw [again_running _ (.inl hs)]; exact h', .inl rfl, fun _ _ => hne⟩
    · cases h' with
      | blk hb =>
        have h3 := hb w' (Rely.refl _ _) hi
        exact ⟨.w3, 1, .leaf, by rw [Go.ConcR.again_blocked h3.1 h3.2.1]; exact .w3 (show WayR P true x.Z (InvW ty Wg x.Z x.W) _ .leaf E _ w' from hb), .inr ⟨rfl, rfl⟩, fun _ _ => by simp⟩
  · rename_i hc
    exact ⟨tag, f, κ, h', .inl rfl, fun h1 h2 => absurd (by simp [h1, h2]) hc⟩
theorem CS.bound (h : CS P ty Wg N j0 val Anch AnchW tag j f d κ x E a w) : j + Go.ConcN.pend tag ≤ N := by
  cases h <;> simp only [Go.ConcN.pend] <;> (try simp) <;> omega
end
end Go.Proofs.Ytjbpaejjpamcpaa.Sim
