import Derived.Test.YtjbpaejjpamcpaaKit
/- Two runs of the same code, one alone and one in company, whose own blocks bear other numbers: values, objects, worlds that say the same (a renaming 'Ren' of blocks); programs of the model that do the same ('SemR'); what follows for their runs. No program in sight. -/
namespace Go.Proofs.Ytjbpaejjpamcpaa.Sim
set_option linter.unusedSimpArgs false
set_option linter.unusedVariables false
open Go

/-- Which block of the world in company stands for which block of the world alone. -/
abbrev Ren := Nat → Option Nat
def Ren.le (r r' : Ren) : Prop := ∀ i b, r i = some b → r' i = some b
def Ren.upd (r : Ren) (i b : Nat) : Ren := fun j => if j = i then some b else r j
theorem Ren.le_refl (r : Ren) : Ren.le r r := fun _ _ h => h
theorem Ren.le_trans {a b c : Ren} (h : Ren.le a b) (h' : Ren.le b c) : Ren.le a c := fun i x e => h' i x (h i x e)
theorem Ren.le_upd {r : Ren} {i b : Nat} (h : r i = none) : Ren.le r (r.upd i b) := by
  intro j x e
  unfold Ren.upd
  split
  · rename_i hj; subst hj; rw [h] at e; cases e
  · exact e
theorem Ren.upd_self (r : Ren) (i b : Nat) : r.upd i b i = some b := by simp [Ren.upd]

/-- What stands alone for a value that nobody may use: a method of a type that there is not. -/
abbrev J0 : TypeId := 1000000007
abbrev JF (v : Value) : Value := .func (.method "") #[.iface J0 v] #[]
def JJ (v : Value) : Prop := ∃ z, v = JF z
/-- What it may stand for. -/
def junky : Value → Bool
  | .agg _ | .tuple _ | .bool _ => false
  | _ => true
variable (S : FuncId → Prop)

/-- Function values: a function of the set S, or the body of a loop. -/
inductive FnR (r : Ren) : Fn → Fn → Prop
  | func {f : FuncId} : S f → FnR r (.func f) (.func f)
  | yield {l l' : Nat} : r l = some l' → FnR r (.yield l) (.yield l')

inductive VR (r : Ren) : Value → Value → Prop
  | bool (b : Bool) : VR r (.bool b) (.bool b)
  | int (k : IntKind) (n : Int) : VR r (.int k n) (.int k n)
  | pnil : VR r (.pointer none) (.pointer none)
  | ptr {x b o : Nat} {s : Option Nat} : r x = some b → VR r (.pointer (some ⟨x, o, s⟩)) (.pointer (some ⟨b, o, s⟩))
  | snil (l c : Nat) : VR r (.slice none l c) (.slice none l c)
  | slc {x b o : Nat} {s : Option Nat} (l c : Nat) : r x = some b → VR r (.slice (some ⟨x, o, s⟩) l c) (.slice (some ⟨b, o, s⟩) l c)
  | func {fn fn' : Fn} {f f' c c' : Array Value} : FnR S r fn fn' → f.size = f'.size → (∀ i (h : i < f.size) (h' : i < f'.size), VR r f[i] f'[i]) →
      c.size = c'.size → (∀ i (h : i < c.size) (h' : i < c'.size), VR r c[i] c'[i]) → VR r (.func fn f c) (.func fn' f' c')
  | nilFunc : VR r .nilFunc .nilFunc
  | agg {c c' : Array Value} : c.size = c'.size → (∀ i (h : i < c.size) (h' : i < c'.size), VR r c[i] c'[i]) → VR r (.agg c) (.agg c')
  | tuple {c c' : Array Value} : c.size = c'.size → (∀ i (h : i < c.size) (h' : i < c'.size), VR r c[i] c'[i]) → VR r (.tuple c) (.tuple c')
  | junk {v' : Value} : junky v' = true → VR r (JF v') v'

/-- Rows of values. -/
structure AR (r : Ren) (c c' : Array Value) : Prop where
  size : c.size = c'.size
  at_ : ∀ i (h : i < c.size) (h' : i < c'.size), VR S r c[i] c'[i]

inductive AdR (r : Ren) : Addr → Addr → Prop
  | mk {x b o : Nat} {s : Option Nat} : r x = some b → AdR r ⟨x, o, s⟩ ⟨b, o, s⟩

variable {S} {r r' : Ren}
theorem FnR.mono {f f' : Fn} (h : FnR S r f f') (hr : Ren.le r r') : FnR S r' f f' := by
  cases h with
  | func h => exact .func h
  | yield h => exact .yield (hr _ _ h)
theorem VR.mono {v v' : Value} (h : VR S r v v') (hr : Ren.le r r') : VR S r' v v' := by
  induction h with
  | bool b => exact .bool b
  | int k n => exact .int k n
  | pnil => exact .pnil
  | ptr h => exact .ptr (hr _ _ h)
  | snil l c => exact .snil l c
  | slc l c h => exact .slc l c (hr _ _ h)
  | func hf s1 _ s2 _ ih1 ih2 => exact .func (hf.mono hr) s1 ih1 s2 ih2
  | nilFunc => exact .nilFunc
  | agg s _ ih => exact .agg s ih
  | tuple s _ ih => exact .tuple s ih
  | junk h => exact .junk h
theorem AR.mono {c c' : Array Value} (h : AR S r c c') (hr : Ren.le r r') : AR S r' c c' := ⟨h.size, fun i a b => (h.at_ i a b).mono hr⟩
theorem AdR.mono {a a' : Addr} (h : AdR r a a') (hr : Ren.le r r') : AdR r' a a' := by cases h with | mk h => exact .mk (hr _ _ h)
theorem VR.toAgg {c c' : Array Value} (h : AR S r c c') : VR S r (.agg c) (.agg c') := .agg h.size h.at_
theorem VR.toTuple {c c' : Array Value} (h : AR S r c c') : VR S r (.tuple c) (.tuple c') := .tuple h.size h.at_
theorem VR.toFunc {fn fn' : Fn} {f f' c c' : Array Value} (hn : FnR S r fn fn') (h : AR S r f f') (h' : AR S r c c') : VR S r (.func fn f c) (.func fn' f' c') := .func hn h.size h.at_ h'.size h'.at_
theorem AR.get {c c' : Array Value} (h : AR S r c c') {i : Nat} {v : Value} (hi : c[i]? = some v) : ∃ v', c'[i]? = some v' ∧ VR S r v v' := by
  obtain ⟨hlt, rfl⟩ := Array.getElem?_eq_some_iff.1 hi
  have hlt' : i < c'.size := h.size ▸ hlt
  exact ⟨c'[i], Array.getElem?_eq_getElem hlt', h.at_ i hlt hlt'⟩
theorem AR.get_none {c c' : Array Value} (h : AR S r c c') {i : Nat} (hi : c[i]? = none) : c'[i]? = none := by
  rw [Array.getElem?_eq_none_iff] at hi ⊢; have := h.size; omega
theorem AR.of {c c' : Array Value} (hs : c.size = c'.size) (h : ∀ (i : Nat) v v', c[i]? = some v → c'[i]? = some v' → VR S r v v') : AR S r c c' :=
  ⟨hs, fun i a b => h i _ _ (Array.getElem?_eq_getElem a) (Array.getElem?_eq_getElem b)⟩
theorem AR.nil : AR S r #[] #[] := ⟨rfl, fun i h => absurd h (by simp)⟩
theorem VR.undef : VR S r undef undef := .toTuple .nil
theorem AR.getD {c c' : Array Value} (h : AR S r c c') (i : Nat) {d d' : Value} (hd : VR S r d d') : VR S r (c.getD i d) (c'.getD i d') := by
  rw [Array.getD_eq_getD_getElem?, Array.getD_eq_getD_getElem?]
  cases e : c[i]? with
  | none => rw [h.get_none e]; exact hd
  | some v => obtain ⟨v', e', hv⟩ := h.get e; rw [e']; exact hv
theorem AR.push {c c' : Array Value} (h : AR S r c c') {v v' : Value} (hv : VR S r v v') : AR S r (c.push v) (c'.push v') := by
  refine .of (by simp [h.size]) fun i x x' hx hx' => ?_
  rw [Array.getElem?_push] at hx hx'
  have := h.size
  split at hx
  · rw [if_pos (by omega)] at hx'
    simp only [Option.some.injEq] at hx hx'; subst hx hx'; exact hv
  · rw [if_neg (by omega)] at hx'
    obtain ⟨y, hy, hv⟩ := h.get hx
    rw [hy] at hx'; simp only [Option.some.injEq] at hx'; subst hx'; exact hv
theorem AR.append {c c' d d' : Array Value} (h : AR S r c c') (k : AR S r d d') : AR S r (c ++ d) (c' ++ d') := by
  refine .of (by simp [h.size, k.size]) fun i x x' hx hx' => ?_
  have := h.size
  rw [Array.getElem?_append] at hx hx'
  split at hx
  · rw [if_pos (by omega)] at hx'
    obtain ⟨y, hy, hv⟩ := h.get hx
    rw [hy] at hx'; simp only [Option.some.injEq] at hx'; subst hx'; exact hv
  · rw [if_neg (by omega)] at hx'
    obtain ⟨y, hy, hv⟩ := k.get hx
    rw [← this, hy] at hx'; simp only [Option.some.injEq] at hx'; subst hx'; exact hv
theorem AR.set {c c' : Array Value} (h : AR S r c c') (i : Nat) {v v' : Value} (hv : VR S r v v') : AR S r (c.setIfInBounds i v) (c'.setIfInBounds i v') := by
  refine .of (by simp [h.size]) fun j x x' hx hx' => ?_
  rw [Array.getElem?_setIfInBounds] at hx hx'
  have := h.size
  split at hx
  · rename_i hj
    rw [if_pos hj] at hx'
    split at hx
    · rw [if_pos (by omega)] at hx'
      simp only [Option.some.injEq] at hx hx'; subst hx hx'; exact hv
    · cases hx
  · rename_i hj
    rw [if_neg hj] at hx'
    obtain ⟨y, hy, hv⟩ := h.get hx
    rw [hy] at hx'; simp only [Option.some.injEq] at hx'; subst hx'; exact hv
theorem AR.extract {c c' : Array Value} (h : AR S r c c') (i j : Nat) : AR S r (c.extract i j) (c'.extract i j) := by
  refine .of (by simp [h.size]) fun k x x' hx hx' => ?_
  rw [Array.getElem?_extract] at hx hx'
  split at hx
  · rename_i hlt
    rw [if_pos (by have := h.size; omega)] at hx'
    obtain ⟨y, hy, hv⟩ := h.get hx
    rw [hy] at hx'; simp only [Option.some.injEq] at hx'; subst hx'; exact hv
  · cases hx
theorem AR.one {v v' : Value} (hv : VR S r v v') : AR S r #[v] #[v'] := by
  have := (AR.nil (S := S) (r := r)).push hv
  simpa using this
theorem VR.cells {v v' : Value} (h : VR S r v v') : AR S r v.cells v'.cells := by
  cases h with
  | agg s a => exact ⟨s, a⟩
  | bool b => exact .one (.bool b)
  | int k n => exact .one (.int k n)
  | pnil => exact .one .pnil
  | ptr h => exact .one (.ptr h)
  | snil l c => exact .one (.snil l c)
  | slc l c h => exact .one (.slc l c h)
  | func hf s1 a1 s2 a2 => exact .one (.func hf s1 a1 s2 a2)
  | nilFunc => exact .one .nilFunc
  | tuple s a => exact .one (.tuple s a)
  | @junk v' h => cases v' <;> first | exact absurd h Bool.false_ne_true | exact .one (.junk h)
theorem VR.ptrOf {a a' : Addr} (h : AdR r a a') : VR S r (.pointer (some a)) (.pointer (some a')) := by cases h with | mk h => exact .ptr h
theorem VR.slcOf {a a' : Addr} (h : AdR r a a') (l c : Nat) : VR S r (.slice (some a) l c) (.slice (some a') l c) := by cases h with | mk h => exact .slc l c h
theorem AdR.add {a a' : Addr} (h : AdR r a a') (n : Nat) : AdR r (a.add n) (a'.add n) := by
  cases h with
  | mk h => unfold Addr.add; split <;> exact .mk h

/-- Lists that are related one by one. -/
inductive L2 {α β : Type} (R : α → β → Prop) : List α → List β → Prop
  | nil : L2 R [] []
  | cons {a b l l'} : R a b → L2 R l l' → L2 R (a :: l) (b :: l')
theorem L2.length {α β : Type} {R : α → β → Prop} {l : List α} {l' : List β} (h : L2 R l l') : l.length = l'.length := by
  induction h with
  | nil => rfl
  | cons _ _ ih => simp [ih]
theorem L2.mono {α β : Type} {R R' : α → β → Prop} (hR : ∀ a b, R a b → R' a b) {l : List α} {l' : List β} (h : L2 R l l') : L2 R' l l' := by
  induction h with
  | nil => exact .nil
  | cons a _ ih => exact .cons (hR _ _ a) ih
theorem L2.append {α β : Type} {R : α → β → Prop} {l k : List α} {l' k' : List β} (h : L2 R l l') (h' : L2 R k k') : L2 R (l ++ k) (l' ++ k') := by
  induction h with
  | nil => exact h'
  | cons a _ ih => exact .cons a ih

/-- A list of values is related elementwise. -/
theorem AR.ofList {l l' : List Value} (h : L2 (VR S r) l l') : AR S r l.toArray l'.toArray := by
  refine .of (by simpa using h.length) fun i v v' hv hv' => ?_
  simp only [List.getElem?_toArray] at hv hv'
  induction h generalizing i with
  | nil => simp at hv
  | cons a _ ih =>
    cases i with
    | zero => simp only [List.getElem?_cons_zero, Option.some.injEq] at hv hv'; subst hv hv'; exact a
    | succ i => exact ih i (by simpa using hv) (by simpa using hv')
theorem AR.toList {c c' : Array Value} (h : AR S r c c') : L2 (VR S r) c.toList c'.toList := by
  obtain ⟨l⟩ := c
  obtain ⟨l'⟩ := c'
  have hs : l.length = l'.length := by simpa using h.size
  have ha : ∀ (i : Nat) v v', l[i]? = some v → l'[i]? = some v' → VR S r v v' := fun i v v' e e' => by
    obtain ⟨y, hy, hv⟩ := h.get (i := i) (v := v) (by simpa using e)
    have : l'[i]? = some y := by simpa using hy
    rw [this] at e'; simp only [Option.some.injEq] at e'; subst e'; exact hv
  clear h
  show L2 _ l l'
  induction l generalizing l' with
  | nil => cases l' with
    | nil => exact .nil
    | cons => simp at hs
  | cons x l ih => cases l' with
    | nil => simp at hs
    | cons x' l' => exact .cons (ha 0 x x' rfl rfl) (ih l' (by simpa using hs) fun i v v' e e' => ha (i + 1) v v' (by simpa using e) (by simpa using e'))

end Go.Proofs.Ytjbpaejjpamcpaa.Sim
/- Two runs of the same code under a renaming of blocks: objects, worlds, programs of the model ('SemR'), and the law of their runs. -/
namespace Go.Proofs.Ytjbpaejjpamcpaa.Sim
set_option linter.unusedSimpArgs false
set_option linter.unusedVariables false
open Go

section
variable (S : FuncId → Prop) (K : Code → Prop)

structure LoopR (r : Ren) (l l' : Loop) : Prop where
  state : l.state = l'.state
  pend : l.pending = l'.pending
  pendOk : ∀ c, l.pending = some c → K c
  fn : l.fn = l'.fn
  fnS : S l.fn
  tmps : AR S r l.tmps l'.tmps
  params : l.params = l'.params
  assign : l.assign = l'.assign
  body : l.body = l'.body
  assignK : K l.assign
  bodyK : K l.body
  defers : r l.defers = some l'.defers

inductive OR (r : Ren) : Obj → Obj → Prop
  | cells {c c' : Array Value} {e : TypeId} {f : Nat × Nat} : AR S r c c' → OR r (.cells c e f) (.cells c' e f)
  | loop {l l' : Loop} : LoopR S K r l l' → OR r (.loop l) (.loop l')
  | gone : OR r (.deferred none) (.deferred none)
  | nil : OR r (.deferred (some [])) (.deferred (some []))
  | number {a a' : Addr} {b : Bool} : AdR r a a' → OR r (.number a b) (.number a' b)

/-- One block for one block; those below G for those below G. -/
structure Good (G : Nat) (r : Ren) : Prop where
  side : ∀ i b, r i = some b → (i < G ↔ b < G)
  inj : ∀ i j b, r i = some b → r j = some b → i = j

structure WR (G : Nat) (r : Ren) (h : Array Obj) (w : World) : Prop where
  good : Good G r
  big : G ≤ h.size
  big' : G ≤ w.heap.size
  at_ : ∀ i b, r i = some b → ∃ o o', h[i]? = some o ∧ w.heap[b]? = some o' ∧ OR S K r o o'
theorem WR.inj {G : Nat} {r : Ren} {h : Array Obj} {w : World} {S : FuncId → Prop} {K : Code → Prop} (H : WR S K G r h w) : ∀ i j b, r i = some b → r j = some b → i = j := H.good.inj
end

variable {S : FuncId → Prop} {K : Code → Prop} {r r' : Ren}

theorem LoopR.mono {l l' : Loop} (h : LoopR S K r l l') (hr : Ren.le r r') : LoopR S K r' l l' :=
  ⟨h.state, h.pend, h.pendOk, h.fn, h.fnS, h.tmps.mono hr, h.params, h.assign, h.body, h.assignK, h.bodyK, hr _ _ h.defers⟩
theorem OR.mono {o o' : Obj} (h : OR S K r o o') (hr : Ren.le r r') : OR S K r' o o' := by
  cases h with
  | cells h => exact .cells (h.mono hr)
  | loop h => exact .loop (h.mono hr)
  | gone => exact .gone
  | nil => exact .nil
  | number h => exact .number (h.mono hr)

/-- Halts that end the run. -/
def Dead : Halt → Prop
  | .stuck _ => True
  | .unsupported (.initOrder _) => False
  | .unsupported _ => True
  | _ => False

inductive SemR (P : Program) (S : FuncId → Prop) (K : Code → Prop) {α β : Type} (A : Ren → α → β → Prop) : Ren → Sem α → Sem β → Prop
  | pure {r a b} : A r a b → SemR P S K A r (.pure a) (.pure b)
  | load {r m a a' k k'} : AdR r a a' → (∀ v v', VR S r v v' → SemR P S K A r (k v) (k' v')) → SemR P S K A r (.load m a k) (.load m a' k')
  | store {r m a a' v v' k k'} : AdR r a a' → VR S r v v' → SemR P S K A r k k' → SemR P S K A r (.store m a v k) (.store m a' v' k')
  | new {r o o' k k'} : OR S K r o o' → (∀ i b, r i = none → (∀ j, r j ≠ some b) → SemR P S K A (r.upd i b) (k i) (k' b)) → SemR P S K A r (.new o k) (.new o' k')
  | shape {r x y k k'} : r x = some y → (∀ s, SemR P S K A r (k s) (k' s)) → SemR P S K A r (.shape x k) (.shape y k')
  | frozen {r a a' k k'} : AdR r a a' → (∀ b, SemR P S K A r (k b) (k' b)) → SemR P S K A r (.frozen a k) (.frozen a' k')
  | getObj {r x y k k'} : r x = some y → (∀ o o', OR S K r o o' → SemR P S K A r (k o) (k' o')) → SemR P S K A r (.getObj x k) (.getObj y k')
  | setObj {r x y o o' k k'} : r x = some y → OR S K r o o' → SemR P S K A r k k' → SemR P S K A r (.setObj x o k) (.setObj y o' k')
  | choose {r q k k'} : (∀ n, SemR P S K A r (k n) (k' n)) → SemR P S K A r (.choose q k) (.choose q k')
  | program {r k k'} : SemR P S K A r (k P) (k' P) → SemR P S K A r (.program k) (.program k')
  | progL {r k s'} : SemR P S K A r (k P) s' → SemR P S K A r (.program k) s'
  | room {r k k'} : SemR P S K A r k k' → SemR P S K A r (.mark .noRoom k) (.mark .noRoom k')
  | panic {r v} : SemR P S K A r (.halt (.panic v)) (.halt (.panic v))
  | dead {r h s'} : Dead h → SemR P S K A r (.halt h) s'
  | roomDead {r h s'} : Dead h → SemR P S K A r (.mark .noRoom (.halt h)) s'

theorem SemR.bind' {P : Program} {α β γ δ : Type} {A : Ren → α → β → Prop} {B : Ren → γ → δ → Prop} {s : Sem α} {s' : Sem β} {f : α → Sem γ} {f' : β → Sem δ}
    (h : SemR P S K A r s s') (hf : ∀ r₂ a b, Ren.le r r₂ → A r₂ a b → SemR P S K B r₂ (f a) (f' b)) : SemR P S K B r (s.bind f) (s'.bind f') := by
  induction h with
  | pure h => exact hf _ _ _ (Ren.le_refl _) h
  | load a _ ih => exact .load a fun v v' hv => ih v v' hv hf
  | store a v _ ih => exact .store a v (ih hf)
  | new o _ ih => exact .new o fun i b hi hb => ih i b hi hb fun r₂ x y hr hA => hf _ _ _ (Ren.le_trans (Ren.le_upd hi) hr) hA
  | shape a _ ih => exact .shape a fun s => ih s hf
  | frozen a _ ih => exact .frozen a fun s => ih s hf
  | getObj a _ ih => exact .getObj a fun o o' h => ih o o' h hf
  | setObj a o _ ih => exact .setObj a o (ih hf)
  | choose _ ih => exact .choose fun n => ih n hf
  | program _ ih => exact .program (ih hf)
  | progL _ ih => exact .progL (ih hf)
  | room _ ih => exact .room (ih hf)
  | panic => exact .panic
  | dead h => exact .dead h
  | roomDead h => exact .roomDead h
theorem SemR.bind {P : Program} {α β γ δ : Type} {A : Ren → α → β → Prop} {B : Ren → γ → δ → Prop} {s : Sem α} {s' : Sem β} {f : α → Sem γ} {f' : β → Sem δ}
    (h : SemR P S K A r s s') (hf : ∀ r₂ a b, Ren.le r r₂ → A r₂ a b → SemR P S K B r₂ (f a) (f' b)) : SemR P S K B r (s >>= f) (s' >>= f') := h.bind' hf
theorem SemR.mono {P : Program} {α β : Type} {A B : Ren → α → β → Prop} {s : Sem α} {s' : Sem β} (h : SemR P S K A r s s') (hf : ∀ r₂ a b, Ren.le r r₂ → A r₂ a b → B r₂ a b) : SemR P S K B r s s' := by
  induction h with
  | pure h => exact .pure (hf _ _ _ (Ren.le_refl _) h)
  | load a _ ih => exact .load a fun v v' hv => ih v v' hv hf
  | store a v _ ih => exact .store a v (ih hf)
  | new o _ ih => exact .new o fun i b hi hb => ih i b hi hb fun r₂ x y hr hA => hf _ _ _ (Ren.le_trans (Ren.le_upd hi) hr) hA
  | shape a _ ih => exact .shape a fun s => ih s hf
  | frozen a _ ih => exact .frozen a fun s => ih s hf
  | getObj a _ ih => exact .getObj a fun o o' h => ih o o' h hf
  | setObj a o _ ih => exact .setObj a o (ih hf)
  | choose _ ih => exact .choose fun n => ih n hf
  | program _ ih => exact .program (ih hf)
  | progL _ ih => exact .progL (ih hf)
  | room _ ih => exact .room (ih hf)
  | panic => exact .panic
  | dead h => exact .dead h
  | roomDead h => exact .roomDead h

/-! ### runs -/
/-- The world alone: the heap h, the tape T from d on. -/
def LW (wb : World) (h : Array Obj) (T : Nat → Question → Nat) (d : Nat) : World := { wb with heap := h, tape := T, drawn := d }
/-- The tape T says bs from d on. -/
def Says (T : Nat → Question → Nat) (d : Nat) (bs : List Nat) : Prop := ∀ j b, bs[j]? = some b → ∀ q, T (d + j) q = b
theorem Says.nil (T : Nat → Question → Nat) (d : Nat) : Says T d [] := fun j b h => by simp at h
theorem Says.cons {T : Nat → Question → Nat} {d b : Nat} {bs : List Nat} (h : Says T d (b :: bs)) : (∀ q, T d q = b) ∧ Says T (d + 1) bs :=
  ⟨fun q => h 0 b rfl q, fun j x hj q => by have := h (j + 1) x (by simpa using hj) q; rwa [show d + (j + 1) = d + 1 + j by omega] at this⟩
theorem Says.app {T : Nat → Question → Nat} {d : Nat} {cs bs : List Nat} (h : Says T d (cs ++ bs)) : Says T d cs ∧ Says T (d + cs.length) bs := by
  refine ⟨fun j b hj q => h j b ?_ q, fun j b hj q => ?_⟩
  · have : j < cs.length := (List.getElem?_eq_some_iff.1 hj).1
    rw [List.getElem?_append_left this]; exact hj
  · have := h (cs.length + j) b (by rw [List.getElem?_append_right (by omega)]; simpa using hj) q
    rwa [show d + (cs.length + j) = d + cs.length + j by omega] at this

/-- What the run in company may list: touches of its own blocks. -/
def EvOk (r : Ren) (e : Event) : Prop := match e.loc with
  | .cell a => ∃ i, r i = some a.block
  | .obj b => ∃ i, r i = some b
  | .mark .noRoom => True
  | _ => False
theorem EvOk.mono {e : Event} (h : EvOk r e) (hr : Ren.le r r') : EvOk r' e := by
  unfold EvOk at *
  split at h
  · obtain ⟨i, h⟩ := h; exact ⟨i, hr _ _ h⟩
  · obtain ⟨i, h⟩ := h; exact ⟨i, hr _ _ h⟩
  · trivial
  · exact h.elim

structure Grow (r r₂ : Ren) (w w₂ : World) (es : Array Event) : Prop where
  le : Ren.le r r₂
  tape : w₂.tape = w.tape
  os : w₂.os = w.os
  output : w₂.output = w.output
  size : w.heap.size ≤ w₂.heap.size
  other : ∀ b, (∀ i, r i ≠ some b) → b < w.heap.size → w₂.heap[b]? = w.heap[b]?
  new : ∀ i b, r₂ i = some b → r i = some b ∨ w.heap.size ≤ b
  own : ∀ b, w.heap.size ≤ b → b < w₂.heap.size → ∃ i, r₂ i = some b
  ev : ∀ e ∈ es, EvOk r₂ e

theorem Grow.refl (r : Ren) (w : World) : Grow r r w w #[] := ⟨Ren.le_refl r, rfl, rfl, rfl, Nat.le_refl _, fun _ _ _ => rfl, fun _ _ h => .inl h, fun b h h' => absurd h (by omega), fun e he => by simp at he⟩
theorem Grow.trans {r₁ r₂ r₃ : Ren} {w₁ w₂ w₃ : World} {es es' : Array Event} (h : Grow r₁ r₂ w₁ w₂ es) (k : Grow r₂ r₃ w₂ w₃ es') : Grow r₁ r₃ w₁ w₃ (es ++ es') := by
  refine ⟨Ren.le_trans h.le k.le, k.tape.trans h.tape, k.os.trans h.os, k.output.trans h.output, Nat.le_trans h.size k.size, fun b hb hlt => ?_, fun i b hi => ?_, fun b h1 h2 => ?_, fun e he => ?_⟩
  · rw [k.other b (fun i hi => ?_) (Nat.lt_of_lt_of_le hlt h.size)]
    · exact h.other b hb hlt
    · rcases h.new i b hi with h' | h'
      · exact hb i h'
      · omega
  · rcases k.new i b hi with h' | h'
    · exact h.new i b h'
    · exact .inr (Nat.le_trans h.size h')
  · rcases Nat.lt_or_ge b w₂.heap.size with hlt | hge
    · obtain ⟨i, hi⟩ := h.own b h1 hlt
      exact ⟨i, k.le _ _ hi⟩
    · exact k.own b hge h2
  · rcases Array.mem_append.1 he with he | he
    · exact (h.ev e he).mono k.le
    · exact k.ev e he

section worlds
variable {G : Nat} {h : Array Obj} {w : World}
theorem WR.lt (H : WR S K G r h w) {i b : Nat} (e : r i = some b) : i < h.size ∧ b < w.heap.size := by
  obtain ⟨o, o', h1, h2, _⟩ := H.at_ i b e
  exact ⟨(Array.getElem?_eq_some_iff.1 h1).1, (Array.getElem?_eq_some_iff.1 h2).1⟩

/-- A cell alone: in company the same cell. -/
theorem WR.cell (H : WR S K G r h w) {a a' : Addr} (ha : AdR r a a') {wb : World} {T : Nat → Question → Nat} {d : Nat} :
    (∃ v v', (LW wb h T d).cell? a = some v ∧ w.cell? a' = some v' ∧ VR S r v v' ∧ (LW wb h T d).frozen? a = w.frozen? a') ∨
    ((LW wb h T d).cell? a = none ∧ ∀ what, ∃ s, (LW wb h T d).noCell a what = .stuck s) ∧ (∀ at_ u, (LW wb h T d).heap[a.block]? ≠ some (.view at_ u)) := by
  cases ha with
  | @mk x b o s hr =>
    obtain ⟨ob, ob', h1, h2, hO⟩ := H.at_ x b hr
    cases hO with
    | @cells c c' e f hc =>
      cases s with
      | some s => exact .inr ⟨⟨by simp [World.cell?, LW, h1], fun what => ⟨_, by simp [World.noCell, LW, h1]; rfl⟩⟩, by simp [LW, h1]⟩
      | none =>
        cases e1 : c[o]? with
        | none => exact .inr ⟨⟨by simp [World.cell?, LW, h1, e1], fun what => ⟨_, by simp [World.noCell, LW, h1]; rfl⟩⟩, by simp [LW, h1]⟩
        | some v =>
          obtain ⟨v', e2, hv⟩ := hc.get e1
          exact .inl ⟨v, v', by simp [World.cell?, LW, h1, e1], by simp [World.cell?, h2, e2], hv, by simp [World.frozen?, LW, h1, h2]⟩
    | loop _ => exact .inr ⟨⟨by simp [World.cell?, LW, h1], fun what => ⟨_, by simp [World.noCell, LW, h1]; rfl⟩⟩, by simp [LW, h1]⟩
    | gone => exact .inr ⟨⟨by simp [World.cell?, LW, h1], fun what => ⟨_, by simp [World.noCell, LW, h1]; rfl⟩⟩, by simp [LW, h1]⟩
    | nil => exact .inr ⟨⟨by simp [World.cell?, LW, h1], fun what => ⟨_, by simp [World.noCell, LW, h1]; rfl⟩⟩, by simp [LW, h1]⟩
    | number _ => exact .inr ⟨⟨by simp [World.cell?, LW, h1], fun what => ⟨_, by simp [World.noCell, LW, h1]; rfl⟩⟩, by simp [LW, h1]⟩

/-- An own block is laid anew, on both sides. -/
theorem WR.put (H : WR S K G r h w) {x b : Nat} (hx : r x = some b) {o o' : Obj} (ho : OR S K r o o') {h₂ : Array Obj} {w₂ : World} (e1 : h₂[x]? = some o) (e2 : ∀ j, j ≠ x → h₂[j]? = h[j]?)
    (e3 : w₂.heap[b]? = some o') (e4 : ∀ j, j ≠ b → w₂.heap[j]? = w.heap[j]?) : WR S K G r h₂ w₂ := by
  have key : ∀ (g g₂ : Array Obj) (z : Nat) (q : Obj), z < g.size → g₂[z]? = some q → (∀ j, j ≠ z → g₂[j]? = g[j]?) → g₂.size = g.size := fun g g₂ z q hz f1 f2 => by
    have h1 : g₂[g.size]? = none := by rw [f2 _ (by omega)]; simp
    have h2 : g₂[g.size - 1]? ≠ none := by
      by_cases hj : g.size - 1 = z
      · rw [hj, f1]; simp
      · rw [f2 _ hj, Array.getElem?_eq_getElem (show g.size - 1 < g.size by omega)]; simp
    rw [Array.getElem?_eq_none_iff] at h1
    have : g.size - 1 < g₂.size := Nat.lt_of_not_le fun hle => h2 (Array.getElem?_eq_none_iff.2 hle)
    omega
  have hl := H.lt hx
  refine ⟨H.good, by rw [key h h₂ x o hl.1 e1 e2]; exact H.big, by rw [key w.heap w₂.heap b o' hl.2 e3 e4]; exact H.big', fun i c hi => ?_⟩
  by_cases hix : i = x
  · subst hix
    rw [hx] at hi; simp only [Option.some.injEq] at hi; subst hi
    exact ⟨o, o', e1, e3, ho⟩
  · have hcb : c ≠ b := fun e => hix (H.inj i x b (e ▸ hi) hx)
    rw [e2 i hix, e4 c hcb]
    exact H.at_ i c hi

/-- A new block, on both sides. -/
theorem WR.push (H : WR S K G r h w) {o o' : Obj} (ho : OR S K r o o') {w₂ : World} (e : w₂.heap = w.heap.push o') : WR S K G (r.upd h.size w.heap.size) (h.push o) w₂ := by
  have hnew : r h.size = none := by
    cases e : r h.size with
    | none => rfl
    | some b => have := (H.lt e).1; omega
  have hle := Ren.le_upd (b := w.heap.size) hnew
  refine ⟨⟨fun i b hi => ?_, fun i j b hi hj => ?_⟩, by have := H.big; simp; omega, by have := H.big'; rw [e]; simp; omega, fun i b hi => ?_⟩
  · unfold Ren.upd at hi
    split at hi
    · simp only [Option.some.injEq] at hi; have := H.big; have := H.big'; omega
    · exact H.good.side i b hi
  · unfold Ren.upd at hi hj
    split at hi <;> split at hj
    · omega
    · simp only [Option.some.injEq] at hi; have := (H.lt hj).2; omega
    · simp only [Option.some.injEq] at hj; have := (H.lt hi).2; omega
    · exact H.good.inj i j b hi hj
  · unfold Ren.upd at hi
    split at hi
    · rename_i hi'; subst hi'
      simp only [Option.some.injEq] at hi; subst hi
      exact ⟨o, o', by simp, by simp [e], ho.mono hle⟩
    · obtain ⟨p, p', h1, h2, hp⟩ := H.at_ i b hi
      have := H.lt hi
      exact ⟨p, p', by rw [Array.getElem?_push, if_neg (by omega)]; exact h1, by rw [e, Array.getElem?_push, if_neg (by omega)]; exact h2, hp.mono hle⟩
end worlds
end Go.Proofs.Ytjbpaejjpamcpaa.Sim
/- Two runs of the same code under a renaming of blocks: THE LAW OF THEIR RUNS: what the run in company draws, the run alone may be told beforehand. -/
namespace Go.Proofs.Ytjbpaejjpamcpaa.Sim
set_option linter.unusedSimpArgs false
set_option linter.unusedVariables false
open Go
variable {S : FuncId → Prop} {K : Code → Prop} {G : Nat}

/-- The run in company and the run alone come out alike: with a value, with a panic; or the run alone ends. 'bs': what was drawn. -/
inductive Out (P : Program) (S : FuncId → Prop) (K : Code → Prop) (G : Nat) {α β : Type} (A : Ren → α → β → Prop) (r : Ren) (h : Array Obj) (w : World) (s : Sem α) (s' : Sem β) : Prop
  | ok (bs : List Nat) (h₂ : Array Obj) (r₂ : Ren) (a : α) (b : β) (w₂ : World) (es : Array Event) : A r₂ a b → WR S K G r₂ h₂ w₂ → Grow r r₂ w w₂ es →
      (∀ wb T d, Says T d bs → s.run P (LW wb h T d) = .ok a (LW wb h₂ T (d + bs.length))) → (∀ es0, s'.runT P w es0 = (.ok b w₂, es0 ++ es)) → Out P S K G A r h w s s'
  | panic (bs : List Nat) (h₂ : Array Obj) (r₂ : Ren) (v : Value) (w₂ : World) (es : Array Event) : WR S K G r₂ h₂ w₂ → Grow r r₂ w w₂ es →
      (∀ wb T d, Says T d bs → s.run P (LW wb h T d) = .halt (.panic v) (LW wb h₂ T (d + bs.length))) → (∀ es0, s'.runT P w es0 = (.halt (.panic v) w₂, es0 ++ es)) → Out P S K G A r h w s s'
  | dead (bs : List Nat) (hh : Halt) : Dead hh → (∀ wb T d, Says T d bs → ∃ w₂, s.run P (LW wb h T d) = .halt hh w₂) → Out P S K G A r h w s s'

variable {P : Program} {α β : Type} {A : Ren → α → β → Prop}

/-- One step ahead of both runs. -/
theorem Out.ahead {r r₁ : Ren} {h h₁ : Array Obj} {w w₁ : World} {s s₁ : Sem α} {s' s₁' : Sem β} {bs₁ : List Nat} {es₁ : Array Event} (hg : Grow r r₁ w w₁ es₁)
    (e1 : ∀ wb T d, Says T d bs₁ → s.run P (LW wb h T d) = s₁.run P (LW wb h₁ T (d + bs₁.length))) (e2 : ∀ es0, s'.runT P w es0 = s₁'.runT P w₁ (es0 ++ es₁))
    (H : Out P S K G A r₁ h₁ w₁ s₁ s₁') : Out P S K G A r h w s s' := by
  cases H with
  | ok bs h₂ r₂ a b w₂ es hA hW hG f1 f2 =>
    refine .ok (bs₁ ++ bs) h₂ r₂ a b w₂ (es₁ ++ es) hA hW (hg.trans hG) (fun wb T d hs => ?_) (fun es0 => ?_)
    · obtain ⟨k1, k2⟩ := hs.app
      rw [e1 wb T d k1, f1 wb T _ k2, List.length_append, Nat.add_assoc]
    · rw [e2, f2, Array.append_assoc]
  | panic bs h₂ r₂ v w₂ es hW hG f1 f2 =>
    refine .panic (bs₁ ++ bs) h₂ r₂ v w₂ (es₁ ++ es) hW (hg.trans hG) (fun wb T d hs => ?_) (fun es0 => ?_)
    · obtain ⟨k1, k2⟩ := hs.app
      rw [e1 wb T d k1, f1 wb T _ k2, List.length_append, Nat.add_assoc]
    · rw [e2, f2, Array.append_assoc]
  | dead bs hh hd f =>
    refine .dead (bs₁ ++ bs) hh hd (fun wb T d hs => ?_)
    obtain ⟨k1, k2⟩ := hs.app
    rw [e1 wb T d k1]
    exact f wb T _ k2

theorem grow_ev {r : Ren} {w w' : World} (hh : w'.heap.size = w.heap.size) (ht : w'.tape = w.tape) (ho : w'.os = w.os) (hu : w'.output = w.output)
    (hb : ∀ b, (∀ i, r i ≠ some b) → w'.heap[b]? = w.heap[b]?) {es : Array Event} (he : ∀ e ∈ es, EvOk r e) : Grow r r w w' es :=
  ⟨Ren.le_refl r, ht, ho, hu, by omega, fun b h _ => hb b h, fun _ _ h => .inl h, fun b h1 h2 => absurd h1 (by omega), he⟩

theorem runT_store_cell {m : Mode} {a : Addr} {v : Value} {k : Sem β} {w : World} {es : Array Event} (h1 : ∀ c, v ≠ .agg c) (h2 : ∀ c, v ≠ .tuple c) {u : Value} (hc : w.cell? a = some u) (hf : w.frozen? a = false) :
    (Sem.store m a v k).runT P w es = k.runT P (w.setCell a v) (es.push ⟨.cell a, true, m == .atomic⟩) := by
  cases v <;> first | exact absurd rfl (h1 _) | exact absurd rfl (h2 _) | simp [Sem.runT, hc, hf]
theorem run_store_cell {m : Mode} {a : Addr} {v : Value} {k : Sem β} {w : World} (h1 : ∀ c, v ≠ .agg c) (h2 : ∀ c, v ≠ .tuple c) {u : Value} (hc : w.cell? a = some u) (hf : w.frozen? a = false) :
    (Sem.store m a v k).run P w = k.run P (w.setCell a v) := by
  cases v <;> first | exact absurd rfl (h1 _) | exact absurd rfl (h2 _) | simp [Sem.run, hc, hf]

theorem far_load {w : World} {a : Addr} {at_ : Bool} {s : String} (hv : ∀ x u, w.heap[a.block]? ≠ some (.view x u)) (hs : w.noCell a "load: no such cell" = .stuck s) : w.farLoad P a at_ = .error (.stuck s) := by
  unfold World.farLoad
  split
  · rename_i x u e; exact absurd e (hv x u)
  · rw [hs]
theorem far_store {w : World} {a : Addr} {v : Value} {at_ : Bool} {s : String} (hv : ∀ x u, w.heap[a.block]? ≠ some (.view x u)) (hs : w.noCell a "store: no such cell" = .stuck s) : w.farStore P a v at_ = .error (.stuck s) := by
  unfold World.farStore
  split
  · rename_i x u e; exact absurd e (hv x u)
  · rw [hs]

theorem setCell_heap_self {w : World} {a : Addr} {v : Value} {c : Array Value} {e : TypeId} {f : Nat × Nat} (h : w.heap[a.block]? = some (.cells c e f)) :
    (w.setCell a v).heap[a.block]? = some (.cells (if a.spot.isSome then c else c.setIfInBounds a.off v) e f) := by
  simp [World.setCell, Array.getElem?_modify, h]
theorem setCell_heap_ne {w : World} {a : Addr} {v : Value} {j : Nat} (h : j ≠ a.block) : (w.setCell a v).heap[j]? = w.heap[j]? := by
  simp [World.setCell, Array.getElem?_modify, Ne.symm h]

theorem SemR.runs {r : Ren} {s : Sem α} {s' : Sem β} (H : SemR P S K A r s s') : ∀ (h : Array Obj) (w : World), WR S K G r h w → Out P S K G A r h w s s' := by
  induction H with
  | @pure r a b hA => exact fun h w hW => .ok [] h r a b w #[] hA hW (Grow.refl r w) (fun wb T d _ => rfl) (fun es0 => by simp only [Sem.runT, Array.append_empty])
  | @load r m a a' k k' ha _ ih =>
    intro h w hW
    rcases hW.cell ha (wb := w) (T := fun _ _ => 0) (d := 0) with ⟨v, v', e1, e2, hv, _⟩ | ⟨⟨e1, e2⟩, e3⟩
    · refine Out.ahead (bs₁ := []) (es₁ := #[⟨.cell a', false, m == .atomic⟩]) (grow_ev rfl rfl rfl rfl (fun _ _ => rfl) ?_) (fun wb T d _ => ?_) (fun es0 => ?_) (ih v v' hv h w hW)
      · intro e he
        simp only [List.mem_toArray, List.mem_cons, List.not_mem_nil, or_false] at he
        subst he
        cases ha with | mk hr => exact ⟨_, hr⟩
      · have e1' : (LW wb h T d).cell? a = some v := e1
        simp [Sem.run, e1']
      · simp only [Sem.runT, e2, Array.push_eq_append]
    · obtain ⟨s, hs⟩ := e2 "load: no such cell"
      refine .dead [] (.stuck s) trivial fun wb T d _ => ⟨LW wb h T d, ?_⟩
      have e1' : (LW wb h T d).cell? a = none := e1
      have e4 : (LW wb h T d).farLoad P a (m == .atomic) = .error (.stuck s) := far_load e3 hs
      simp only [Sem.run, e1', e4]
  | @store r m a a' v v' k k' ha hv _ ih =>
    intro h w hW
    by_cases hag : (∃ c, v = .agg c) ∨ ∃ c, v = .tuple c
    · refine .dead [] (.stuck "store: not the value of one cell") trivial fun wb T d _ => ?_
      rcases hag with ⟨c, rfl⟩ | ⟨c, rfl⟩ <;> exact ⟨LW wb h T d, by simp only [Sem.run]⟩
    have n1 : ∀ c, v ≠ .agg c := fun c e => hag (.inl ⟨c, e⟩)
    have n2 : ∀ c, v ≠ .tuple c := fun c e => hag (.inr ⟨c, e⟩)
    have n1' : ∀ c, v' ≠ .agg c := fun c e => by subst e; cases hv <;> first | exact n1 _ rfl | exact n2 _ rfl | (rename_i h; exact absurd h Bool.false_ne_true)
    have n2' : ∀ c, v' ≠ .tuple c := fun c e => by subst e; cases hv <;> first | exact n1 _ rfl | exact n2 _ rfl | (rename_i h; exact absurd h Bool.false_ne_true)
    rcases hW.cell ha (wb := w) (T := fun _ _ => 0) (d := 0) with ⟨u, u', e1, e2, hu, ef⟩ | ⟨⟨e1, e2⟩, e3⟩
    · by_cases hf : w.frozen? a' = true
      · refine .dead [] (.unsupported (.unsafePointer "a write to bytes that a string shares")) trivial fun wb T d _ => ⟨LW wb h T d, ?_⟩
        have e1' : (LW wb h T d).cell? a = some u := e1
        have ef' : (LW wb h T d).frozen? a = true := ef.trans hf
        cases v <;> first | exact absurd rfl (n1 _) | exact absurd rfl (n2 _) | simp [Sem.run, e1', ef']
      · have hf : w.frozen? a' = false := by simpa using hf
        cases ha with
        | @mk x b o s hr =>
          obtain ⟨ob, ob', h1, h2, hO⟩ := hW.at_ x b hr
          cases hO with
          | @cells c c' e f hc =>
            cases s with
            | some s => simp [World.cell?, LW, h1] at e1
            | none =>
              have hW' : WR S K G r (LW w h (fun _ _ => 0) 0 |>.setCell ⟨x, o, none⟩ v).heap (w.setCell ⟨b, o, none⟩ v') :=
                hW.put hr (o := .cells (c.setIfInBounds o v) e f) (o' := .cells (c'.setIfInBounds o v') e f) (.cells (hc.set o hv))
                  (setCell_heap_self (w := LW w h (fun _ _ => 0) 0) (a := ⟨x, o, none⟩) h1) (fun j hj => setCell_heap_ne (w := LW w h (fun _ _ => 0) 0) (a := ⟨x, o, none⟩) hj)
                  (setCell_heap_self (a := ⟨b, o, none⟩) h2) (fun j hj => setCell_heap_ne (a := ⟨b, o, none⟩) hj)
              refine Out.ahead (bs₁ := []) (es₁ := #[⟨.cell ⟨b, o, none⟩, true, m == .atomic⟩]) (w₁ := w.setCell ⟨b, o, none⟩ v') (grow_ev (w := w) (w' := w.setCell ⟨b, o, none⟩ v') (by simp [World.setCell]) rfl rfl rfl (fun j hj => setCell_heap_ne (fun e' => hj x (e' ▸ hr))) ?_)
                (fun wb T d _ => ?_) (fun es0 => ?_) (ih _ _ hW')
              · intro e' he
                simp only [List.mem_toArray, List.mem_cons, List.not_mem_nil, or_false] at he
                subst he
                exact ⟨_, hr⟩
              · have e1' : (LW wb h T d).cell? ⟨x, o, none⟩ = some u := e1
                have ef' : (LW wb h T d).frozen? ⟨x, o, none⟩ = false := ef.trans hf
                rw [run_store_cell n1 n2 e1' ef']
                rfl
              · rw [runT_store_cell n1' n2' e2 hf, Array.push_eq_append]
          | loop _ => simp [World.cell?, LW, h1] at e1
          | gone => simp [World.cell?, LW, h1] at e1
          | nil => simp [World.cell?, LW, h1] at e1
          | number _ => simp [World.cell?, LW, h1] at e1
    · obtain ⟨s, hs⟩ := e2 "store: no such cell"
      refine .dead [] (.stuck s) trivial fun wb T d _ => ⟨LW wb h T d, ?_⟩
      have e1' : (LW wb h T d).cell? a = none := e1
      have e4 : (LW wb h T d).farStore P a v (m == .atomic) = .error (.stuck s) := far_store e3 hs
      cases v <;> first | exact absurd rfl (n1 _) | exact absurd rfl (n2 _) | simp only [Sem.run, e1', e4]
  | @new r o o' k k' ho _ ih =>
    intro h w hW
    have hnew : r h.size = none := by
      cases e : r h.size with
      | none => rfl
      | some b => have := (hW.lt e).1; omega
    have hfresh : ∀ j, r j ≠ some w.heap.size := fun j e => by have := (hW.lt e).2; omega
    refine Out.ahead (bs₁ := []) (es₁ := #[]) (h₁ := h.push o) (w₁ := { w with heap := w.heap.push o' }) ?_ (fun wb T d _ => ?_) (fun es0 => ?_) (ih h.size w.heap.size hnew hfresh _ _ (hW.push ho rfl))
    · refine ⟨Ren.le_upd hnew, rfl, rfl, rfl, by simp, fun b _ hlt => by rw [Array.getElem?_push, if_neg (by omega)], fun i b hi => ?_, fun b h1 h2 => ⟨h.size, ?_⟩, fun e he => by simp at he⟩
      · unfold Ren.upd at hi
        split at hi
        · simp only [Option.some.injEq] at hi; exact .inr (by omega)
        · exact .inl hi
      · simp only [Array.size_push] at h2
        rw [Ren.upd_self, show b = w.heap.size by omega]
    · simp [Sem.run, LW]
    · simp only [Sem.runT, Array.append_empty]
  | @shape r x y k k' hx _ ih =>
    intro h w hW
    have e : (LW w h (fun _ _ => 0) 0).shape? x = w.shape? y := by
      obtain ⟨o, o', h1, h2, hO⟩ := hW.at_ x y hx
      cases hO with
      | cells hc => simp [World.shape?, LW, h1, h2, hc.size]
      | loop _ => simp [World.shape?, LW, h1, h2]
      | gone => simp [World.shape?, LW, h1, h2]
      | nil => simp [World.shape?, LW, h1, h2]
      | number _ => simp [World.shape?, LW, h1, h2]
    refine Out.ahead (bs₁ := []) (es₁ := #[]) (Grow.refl r w) (fun wb T d _ => ?_) (fun es0 => ?_) (ih (w.shape? y) h w hW)
    · have e' : (LW wb h T d).shape? x = w.shape? y := e
      simp [Sem.run, e']
    · simp only [Sem.runT, Array.append_empty]
  | @frozen r a a' k k' ha _ ih =>
    intro h w hW
    have e : (LW w h (fun _ _ => 0) 0).frozen? a = w.frozen? a' := by
      cases ha with
      | @mk x b o s hr =>
        obtain ⟨ob, ob', h1, h2, hO⟩ := hW.at_ x b hr
        cases hO <;> simp [World.frozen?, LW, h1, h2]
    refine Out.ahead (bs₁ := []) (es₁ := #[]) (Grow.refl r w) (fun wb T d _ => ?_) (fun es0 => ?_) (ih (w.frozen? a') h w hW)
    · have e' : (LW wb h T d).frozen? a = w.frozen? a' := e
      simp [Sem.run, e']
    · simp only [Sem.runT, Array.append_empty]
  | @getObj r x y k k' hx _ ih =>
    intro h w hW
    obtain ⟨o, o', h1, h2, hO⟩ := hW.at_ x y hx
    have h1' : ∀ wb T d, (LW wb h T d).heap[x]? = some o := fun _ _ _ => h1
    cases hO with
    | cells hc => exact .dead [] (.stuck "getObj: a row of cells") trivial fun wb T d _ => ⟨LW wb h T d, by simp [Sem.run, h1']⟩
    | loop hl =>
      refine Out.ahead (bs₁ := []) (es₁ := #[⟨.obj y, false, false⟩]) (grow_ev rfl rfl rfl rfl (fun _ _ => rfl) ?_) (fun wb T d _ => by simp [Sem.run, h1']) (fun es0 => by simp only [Sem.runT, h2, Obj.isChan, Array.push_eq_append]) (ih _ _ (.loop hl) h w hW)
      intro e he; simp at he; subst he; exact ⟨_, hx⟩
    | gone =>
      refine Out.ahead (bs₁ := []) (es₁ := #[⟨.obj y, false, false⟩]) (grow_ev rfl rfl rfl rfl (fun _ _ => rfl) ?_) (fun wb T d _ => by simp [Sem.run, h1']) (fun es0 => by simp only [Sem.runT, h2, Obj.isChan, Array.push_eq_append]) (ih _ _ .gone h w hW)
      intro e he; simp at he; subst he; exact ⟨_, hx⟩
    | nil =>
      refine Out.ahead (bs₁ := []) (es₁ := #[⟨.obj y, false, false⟩]) (grow_ev rfl rfl rfl rfl (fun _ _ => rfl) ?_) (fun wb T d _ => by simp [Sem.run, h1']) (fun es0 => by simp only [Sem.runT, h2, Obj.isChan, Array.push_eq_append]) (ih _ _ .nil h w hW)
      intro e he; simp at he; subst he; exact ⟨_, hx⟩
    | @number p p' bb ha =>
      refine Out.ahead (bs₁ := []) (es₁ := #[⟨.obj y, false, false⟩]) (grow_ev rfl rfl rfl rfl (fun _ _ => rfl) ?_) (fun wb T d _ => by simp [Sem.run, h1']) (fun es0 => by simp only [Sem.runT, h2, Obj.isChan, Array.push_eq_append]) (ih _ _ (.number (b := bb) ha) h w hW)
      intro e he; simp at he; subst he; exact ⟨_, hx⟩
  | @setObj r x y p p' k k' hx hp _ ih =>
    intro h w hW
    obtain ⟨o, o', h1, h2, hO⟩ := hW.at_ x y hx
    have h1' : ∀ wb T d, (LW wb h T d).heap[x]? = some o := fun _ _ _ => h1
    have hl := hW.lt hx
    have hW' : WR S K G r (h.setIfInBounds x p) { w with heap := w.heap.setIfInBounds y p' } := hW.put hx hp (by simp [hl.1]) (fun j hj => by simp [Array.getElem?_setIfInBounds_ne (Ne.symm hj)]) (by simp [hl.2]) (fun j hj => by simp [Array.getElem?_setIfInBounds_ne (Ne.symm hj)])
    have hch : p'.isChan = false := by cases hp <;> rfl
    have hg : ∀ sy, Grow r r w { w with heap := w.heap.setIfInBounds y p' } #[⟨.obj y, true, sy⟩] := fun sy => by
      refine grow_ev (w := w) (w' := { w with heap := w.heap.setIfInBounds y p' }) (by simp) rfl rfl rfl (fun j hj => ?_) (fun e he => ?_)
      · have : y ≠ j := fun e => hj x (e ▸ hx)
        simp [Array.getElem?_setIfInBounds_ne this]
      · simp at he; subst he; exact ⟨_, hx⟩
    cases hO with
    | cells hc => exact .dead [] (.stuck "setObj: a row of cells") trivial fun wb T d _ => ⟨LW wb h T d, by simp [Sem.run, h1']⟩
    | loop _ => exact Out.ahead (bs₁ := []) (hg false) (fun wb T d _ => by simp [Sem.run, h1']; rfl) (fun es0 => by simp only [Sem.runT, h2, hch, Array.push_eq_append]) (ih _ _ hW')
    | gone => exact Out.ahead (bs₁ := []) (hg false) (fun wb T d _ => by simp [Sem.run, h1']; rfl) (fun es0 => by simp only [Sem.runT, h2, hch, Array.push_eq_append]) (ih _ _ hW')
    | nil => exact Out.ahead (bs₁ := []) (hg false) (fun wb T d _ => by simp [Sem.run, h1']; rfl) (fun es0 => by simp only [Sem.runT, h2, hch, Array.push_eq_append]) (ih _ _ hW')
    | number _ => exact Out.ahead (bs₁ := []) (hg false) (fun wb T d _ => by simp [Sem.run, h1']; rfl) (fun es0 => by simp only [Sem.runT, h2, hch, Array.push_eq_append]) (ih _ _ hW')
  | @choose r q k k' _ ih =>
    intro h w hW
    by_cases hq : q.forced = true
    · exact Out.ahead (bs₁ := []) (es₁ := #[]) (Grow.refl r w) (fun wb T d _ => by simp [Sem.run, hq]) (fun es0 => by simp only [Sem.runT, hq, if_true, Array.append_empty]) (ih 0 h w hW)
    · have hW' : WR S K G r h { w with drawn := w.drawn + 1 } := ⟨hW.good, hW.big, hW.big', hW.at_⟩
      refine Out.ahead (bs₁ := [w.tape w.drawn q]) (es₁ := #[]) (w₁ := { w with drawn := w.drawn + 1 }) (grow_ev (w := w) (w' := { w with drawn := w.drawn + 1 }) rfl rfl rfl rfl (fun _ _ => rfl) (fun e he => absurd he (by simp))) (fun wb T d hs => ?_) (fun es0 => ?_)
        (ih (q.cut (w.tape w.drawn q)) h _ hW')
      · have e : T d q = w.tape w.drawn q := hs.cons.1 q
        simp [Sem.run, hq, LW, e]
      · simp only [Sem.runT, hq, if_false, Bool.false_eq_true, Array.append_empty]
  | @program r k k' _ ih => exact fun h w hW => Out.ahead (bs₁ := []) (es₁ := #[]) (Grow.refl r w) (fun wb T d _ => by simp [Sem.run]) (fun es0 => by simp only [Sem.runT, Array.append_empty]) (ih h w hW)
  | @progL r k s' _ ih => exact fun h w hW => Out.ahead (bs₁ := []) (es₁ := #[]) (Grow.refl r w) (fun wb T d _ => by simp [Sem.run]) (fun es0 => by simp only [Array.append_empty]) (ih h w hW)
  | @room r k k' _ ih =>
    intro h w hW
    refine Out.ahead (bs₁ := []) (es₁ := #[⟨.mark .noRoom, false, true⟩]) (grow_ev rfl rfl rfl rfl (fun _ _ => rfl) ?_) (fun wb T d _ => by simp [Sem.run]) (fun es0 => by simp only [Sem.runT, Array.push_eq_append]) (ih h w hW)
    intro e he; simp at he; subst he; trivial
  | @panic r v => exact fun h w hW => .panic [] h r v w #[] hW (Grow.refl r w) (fun wb T d _ => rfl) (fun es0 => by simp only [Sem.runT, Array.append_empty])
  | @dead r hh s' hd => exact fun h w hW => .dead [] hh hd fun wb T d _ => ⟨_, rfl⟩
  | @roomDead r hh s' hd => exact fun h w hW => .dead [] hh hd fun wb T d _ => ⟨_, rfl⟩
end Go.Proofs.Ytjbpaejjpamcpaa.Sim
/- Two runs of the same code under a renaming of blocks: the model's small programs (types, loads, stores, new rows, parts) do the same on both sides. -/
namespace Go.Proofs.Ytjbpaejjpamcpaa.Sim
set_option linter.unusedSimpArgs false
set_option linter.unusedVariables false
open Go
variable {S : FuncId → Prop} {K : Code → Prop} {P : Program} {α β γ δ : Type} {A : Ren → γ → δ → Prop} {r : Ren}

/-- Values that name no block. -/
def atomB : Value → Bool
  | .bool _ | .int _ _ | .pointer none | .slice none _ _ | .nilFunc => true
  | _ => false
def flatB : Value → Bool
  | .agg cs | .tuple cs => cs.all atomB
  | v => atomB v
theorem atom_refl {v : Value} (h : atomB v = true) : VR S r v v := by
  unfold atomB at h
  split at h
  · exact .bool _
  · exact .int _ _
  · exact .pnil
  · exact .snil _ _
  · exact .nilFunc
  · cases h
theorem atoms_refl {cs : Array Value} (h : cs.all atomB = true) : AR S r cs cs :=
  ⟨rfl, fun i h1 _ => atom_refl (Array.all_eq_true.1 h i h1)⟩
theorem flat_refl {v : Value} (h : flatB v = true) : VR S r v v := by
  unfold flatB at h
  split at h
  · exact .toAgg (atoms_refl h)
  · exact .toTuple (atoms_refl h)
  · exact atom_refl h

theorem sr_stuck {x : Sem δ} {w : String} : SemR P S K A r (stuck w : Sem γ) x := .dead trivial
theorem sr_stuck' {f : α → Sem γ} {x : Sem δ} {w : String} : SemR P S K A r ((stuck w : Sem α) >>= f) x := .dead trivial
def UOk : Unsupported → Prop
  | .initOrder _ => False
  | _ => True
theorem sr_uns {x : Sem δ} {u : Unsupported} (h : UOk u) : SemR P S K A r (unsupported u : Sem γ) x := .dead (by cases u <;> first | exact h.elim | trivial)
theorem sr_uns' {f : α → Sem γ} {x : Sem δ} {u : Unsupported} (h : UOk u) : SemR P S K A r ((unsupported u : Sem α) >>= f) x := .dead (by cases u <;> first | exact h.elim | trivial)
theorem sr_panic {v : Value} : SemR P S K A r (goPanic v : Sem γ) (goPanic v) := .panic
theorem sr_panic' {v : Value} {f : α → Sem γ} {f' : β → Sem δ} : SemR P S K A r ((goPanic v : Sem α) >>= f) ((goPanic v : Sem β) >>= f') := .panic

section
variable {f : α → Sem γ} {f' : α → Sem δ}
theorem sr_program {f : Program → Sem γ} {f' : Program → Sem δ} (h : SemR P S K A r (f P) (f' P)) : SemR P S K A r (program >>= f) (program >>= f') := .program h
theorem sr_choose {q : Question} {f : Nat → Sem γ} {f' : Nat → Sem δ} (h : ∀ n, SemR P S K A r (f n) (f' n)) : SemR P S K A r (choose q >>= f) (choose q >>= f') := .choose h
theorem und_eq {t : TypeId} {f : TypeDesc → Sem γ} : (underlying t >>= f) = .program fun p => (p.underlying t).elim (.halt (.stuck "no such type")) f := by
  show Sem.program _ = _
  congr 1; funext p
  show Sem.bind (match p.underlying t with | some d => pure d | none => stuck "no such type") f = _
  cases p.underlying t <;> rfl
theorem info_eq {t : TypeId} {f : TypeInfo → Sem γ} : (typeInfo t >>= f) = .program fun p => (p.info? t).elim (.halt (.stuck "no such type")) f := by
  show Sem.program _ = _
  congr 1; funext p
  show Sem.bind (match p.info? t with | some d => pure d | none => stuck "no such type") f = _
  cases p.info? t <;> rfl
theorem sr_und {t : TypeId} {f : TypeDesc → Sem γ} {f' : TypeDesc → Sem δ} (h : ∀ d, P.underlying t = some d → SemR P S K A r (f d) (f' d)) : SemR P S K A r (underlying t >>= f) (underlying t >>= f') := by
  rw [und_eq, und_eq]
  refine SemR.program ?_
  cases e : P.underlying t with
  | none => exact .dead trivial
  | some d => exact h d e
theorem sr_info {t : TypeId} {f : TypeInfo → Sem γ} {f' : TypeInfo → Sem δ} (h : ∀ d, P.info? t = some d → SemR P S K A r (f d) (f' d)) : SemR P S K A r (typeInfo t >>= f) (typeInfo t >>= f') := by
  rw [info_eq, info_eq]
  refine SemR.program ?_
  cases e : P.info? t with
  | none => exact .dead trivial
  | some d => exact h d e
theorem sr_size {t : TypeId} {f : Nat → Sem γ} {f' : Nat → Sem δ} (h : ∀ n, (P.info? t).map (·.size) = some n → SemR P S K A r (f n) (f' n)) : SemR P S K A r (sizeOf t >>= f) (sizeOf t >>= f') := by
  unfold sizeOf
  simp only [bind_assoc, pure_bind]
  exact sr_info fun d e => h _ (by rw [e]; rfl)
theorem sr_isAgg {t : TypeId} {f : Bool → Sem γ} {f' : Bool → Sem δ} (h : ∀ b, SemR P S K A r (f b) (f' b)) : SemR P S K A r (isAgg t >>= f) (isAgg t >>= f') := by
  unfold isAgg
  simp only [bind_assoc]
  refine sr_und fun d _ => ?_
  cases d <;> first | exact h true | exact h false
/-- The zero of a type, where it names no block. -/
def zeroOk (P : Program) (t : TypeId) : Bool := match (P.info? t).bind (·.zero) with | some v => flatB v | none => true
theorem sr_zero {t : TypeId} (hz : zeroOk P t = true) {f : Value → Sem γ} {f' : Value → Sem δ} (h : ∀ v, flatB v = true → SemR P S K A r (f v) (f' v)) : SemR P S K A r (zeroValue t >>= f) (zeroValue t >>= f') := by
  unfold zeroValue
  simp only [bind_assoc]
  refine sr_info fun d e => ?_
  cases ez : d.zero with
  | none => exact .dead trivial
  | some v =>
    refine h v ?_
    have : zeroOk P t = flatB v := by simp [zeroOk, e, ez]
    rw [← this]; exact hz
theorem sr_shape {x y : Nat} (hx : r x = some y) {f : Option (TypeId × Nat) → Sem γ} {f' : Option (TypeId × Nat) → Sem δ} (h : ∀ s, SemR P S K A r (f s) (f' s)) : SemR P S K A r (shape x >>= f) (shape y >>= f') := .shape hx h
theorem sr_frozen {a a' : Addr} (hx : AdR r a a') {f : Bool → Sem γ} {f' : Bool → Sem δ} (h : ∀ s, SemR P S K A r (f s) (f' s)) : SemR P S K A r (frozen a >>= f) (frozen a' >>= f') := .frozen hx h
theorem sr_getObj {x y : Nat} (hx : r x = some y) {f : Obj → Sem γ} {f' : Obj → Sem δ} (h : ∀ o o', OR S K r o o' → SemR P S K A r (f o) (f' o')) : SemR P S K A r (getObj x >>= f) (getObj y >>= f') := .getObj hx h
theorem sr_setObj {x y : Nat} (hx : r x = some y) {o o' : Obj} (ho : OR S K r o o') {f : Unit → Sem γ} {f' : Unit → Sem δ} (h : SemR P S K A r (f ()) (f' ())) : SemR P S K A r (setObj x o >>= f) (setObj y o' >>= f') := .setObj hx ho h
theorem sr_load {m : Mode} {a a' : Addr} (ha : AdR r a a') {f : Value → Sem γ} {f' : Value → Sem δ} (h : ∀ v v', VR S r v v' → SemR P S K A r (f v) (f' v')) : SemR P S K A r (load a m >>= f) (load a' m >>= f') := .load ha h
theorem sr_store {m : Mode} {a a' : Addr} (ha : AdR r a a') {v v' : Value} (hv : VR S r v v') {f : Unit → Sem γ} {f' : Unit → Sem δ} (h : SemR P S K A r (f ()) (f' ())) : SemR P S K A r (store a v m >>= f) (store a' v' m >>= f') := .store ha hv h
theorem sr_new {o o' : Obj} (ho : OR S K r o o') {f : Nat → Sem γ} {f' : Nat → Sem δ} (h : ∀ i b, r i = none → (∀ j, r j ≠ some b) → SemR P S K A (r.upd i b) (f i) (f' b)) : SemR P S K A r (newObj o >>= f) (newObj o' >>= f') := .new ho h
theorem sr_newRow {e : TypeId} {c c' : Array Value} (hc : AR S r c c') {f : Addr → Sem γ} {f' : Addr → Sem δ} (h : ∀ r₂ a a', Ren.le r r₂ → AdR r₂ a a' → SemR P S K A r₂ (f a) (f' a')) :
    SemR P S K A r (newRow e c >>= f) (newRow e c' >>= f') :=
  .new (.cells hc) fun i b hi _ => h _ _ _ (Ren.le_upd hi) (.mk (Ren.upd_self r i b))
theorem sr_newVar {e : TypeId} {v v' : Value} (hv : VR S r v v') {f : Addr → Sem γ} {f' : Addr → Sem δ} (h : ∀ r₂ a a', Ren.le r r₂ → AdR r₂ a a' → SemR P S K A r₂ (f a) (f' a')) :
    SemR P S K A r (newVar e v >>= f) (newVar e v' >>= f') := sr_newRow hv.cells h

theorem sr_asBool {v v' : Value} (hv : VR S r v v') {f : Bool → Sem γ} {f' : Bool → Sem δ} (h : ∀ b, SemR P S K A r (f b) (f' b)) : SemR P S K A r (asBool v >>= f) (asBool v' >>= f') := by
  cases hv <;> first | exact h _ | exact .dead trivial
theorem sr_asIntOf {v v' : Value} (hv : VR S r v v') {f : IntKind × Int → Sem γ} {f' : IntKind × Int → Sem δ} (h : ∀ k n, SemR P S K A r (f (k, n)) (f' (k, n))) : SemR P S K A r (asIntOf v >>= f) (asIntOf v' >>= f') := by
  cases hv <;> first | exact h _ _ | exact .dead trivial
theorem sr_asInt {v v' : Value} (hv : VR S r v v') {f : Int → Sem γ} {f' : Int → Sem δ} (h : ∀ n, SemR P S K A r (f n) (f' n)) : SemR P S K A r (asInt v >>= f) (asInt v' >>= f') := by
  cases hv <;> first | exact h _ | exact .dead trivial
theorem sr_asAgg {v v' : Value} (hv : VR S r v v') {f : Array Value → Sem γ} {f' : Array Value → Sem δ} (h : ∀ c c', AR S r c c' → SemR P S K A r (f c) (f' c')) : SemR P S K A r (asAgg v >>= f) (asAgg v' >>= f') := by
  cases hv <;> first | exact .dead trivial | skip
  rename_i hs ha
  exact h _ _ ⟨hs, ha⟩
theorem sr_sure {v v' : Value} (hv : VR S r v v') {f : Addr → Sem γ} {f' : Addr → Sem δ} (h : ∀ a a', AdR r a a' → SemR P S K A r (f a) (f' a')) : SemR P S K A r (Instr.sureAddr v >>= f) (Instr.sureAddr v' >>= f') := by
  cases hv <;> first | exact .dead trivial | skip
  rename_i hr
  exact h _ _ (.mk hr)
theorem sr_rtp {e : RuntimeError} (he : (match e with | .bounds .. | .error _ | .plain _ | .nilDeref => true | _ => false) = true) {f : α → Sem γ} {f' : β → Sem δ} : SemR P S K A r (runtimePanic e >>= f) (runtimePanic e >>= f') := by
  refine SemR.program ?_
  cases e <;> first | exact .panic | cases he
theorem sr_rtp0 {e : RuntimeError} (he : (match e with | .bounds .. | .error _ | .plain _ | .nilDeref => true | _ => false) = true) : SemR P S K A r (runtimePanic e) (runtimePanic e) := by
  refine SemR.program ?_
  cases e <;> first | exact .panic | cases he
theorem sr_bounds {k : IntKind} {x y : Int} {c : BoundsCode} : SemR P S K A r (boundsPanic k x y c) (boundsPanic k x y c) := by
  unfold boundsPanic
  split
  · exact .choose fun n => .program .panic
  · exact .program .panic

theorem sr_loadCellsFrom {a a' : Addr} (ha : AdR r a a') {f : Array Value → Sem γ} {f' : Array Value → Sem δ} (h : ∀ c c', AR S r c c' → SemR P S K A r (f c) (f' c')) :
    ∀ (n i : Nat) (acc acc' : Array Value), AR S r acc acc' → SemR P S K A r (loadCellsFrom a i n acc >>= f) (loadCellsFrom a' i n acc' >>= f')
  | 0, _, _, _, hac => h _ _ hac
  | n + 1, i, _, _, hac => .load (ha.add i) fun _ _ hv => sr_loadCellsFrom ha h n (i + 1) _ _ (hac.push hv)
theorem sr_loadCells {a a' : Addr} (ha : AdR r a a') {n : Nat} {f : Array Value → Sem γ} {f' : Array Value → Sem δ} (h : ∀ c c', AR S r c c' → SemR P S K A r (f c) (f' c')) :
    SemR P S K A r (loadCells a n >>= f) (loadCells a' n >>= f') := sr_loadCellsFrom ha h n 0 _ _ .nil
theorem sr_storeCells {a a' : Addr} (ha : AdR r a a') {l l' : List Value} (hl : L2 (VR S r) l l') {f : Unit → Sem γ} {f' : Unit → Sem δ} (h : SemR P S K A r (f ()) (f' ())) :
    ∀ i, SemR P S K A r (storeCells a l i >>= f) (storeCells a' l' i >>= f') := by
  induction hl with
  | nil => exact fun _ => h
  | cons hv _ ih => exact fun i => .store (ha.add i) hv (ih (i + 1))
theorem sr_loadVar {t : TypeId} {a a' : Addr} (ha : AdR r a a') {f : Value → Sem γ} {f' : Value → Sem δ} (h : ∀ v v', VR S r v v' → SemR P S K A r (f v) (f' v')) :
    SemR P S K A r (loadVar t a >>= f) (loadVar t a' >>= f') := by
  unfold loadVar
  simp only [bind_assoc]
  refine sr_isAgg fun b => ?_
  cases b with
  | false => exact .load ha h
  | true =>
    simp only [if_true, bind_assoc, pure_bind]
    exact sr_size fun n _ => sr_loadCells ha fun c c' hc => h _ _ (.toAgg hc)
theorem sr_storeVar {t : TypeId} {a a' : Addr} (ha : AdR r a a') {v v' : Value} (hv : VR S r v v') {f : Unit → Sem γ} {f' : Unit → Sem δ} (h : SemR P S K A r (f ()) (f' ())) :
    SemR P S K A r (storeVar t a v >>= f) (storeVar t a' v' >>= f') := by
  unfold storeVar
  simp only [bind_assoc]
  refine sr_size fun n _ => ?_
  rw [hv.cells.size]
  by_cases hs : v'.cells.size ≠ n
  · simp only [hs, if_true, ne_eq, not_false_eq_true, ite_true]
    exact .dead trivial
  · simp only [hs, if_false, ite_false]
    exact sr_storeCells ha hv.cells.toList h 0
theorem sr_part {t : TypeId} {c c' : Array Value} (hc : AR S r c c') {o : Nat} {f : Value → Sem γ} {f' : Value → Sem δ} (h : ∀ v v', VR S r v v' → SemR P S K A r (f v) (f' v')) :
    SemR P S K A r (part t c o >>= f) (part t c' o >>= f') := by
  unfold part
  simp only [bind_assoc]
  refine sr_isAgg fun b => ?_
  cases b with
  | false =>
    simp only [if_false, Bool.false_eq_true]
    cases e : c[o]? with
    | none => exact .dead trivial
    | some v => obtain ⟨v', e', hv⟩ := hc.get e; rw [e']; exact h _ _ hv
  | true =>
    simp only [if_true, bind_assoc, pure_bind]
    exact sr_size fun n _ => h _ _ (.toAgg (hc.extract _ _))
end
end Go.Proofs.Ytjbpaejjpamcpaa.Sim
