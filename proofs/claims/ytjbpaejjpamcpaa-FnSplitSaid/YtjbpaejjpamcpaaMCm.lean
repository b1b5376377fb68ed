import Derived.Test.YtjbpaejjpamcpaaMCb
import Derived.Test.YtjbpaejjpamcpaaMCe
import Derived.Test.YtjbpaejjpamcpaaCe2
/- The functions that may be run in company as they run alone: the static check. -/
namespace Go.Proofs.Ytjbpaejjpamcpaa.Sim
set_option linter.unusedSimpArgs false
set_option linter.unusedVariables false
open Go Go.Conc Go.RowKit

def fset : List Nat := [5, 11, 13, 14, 15, 16, 21, 22, 23, 24, 25, 26, 27, 28, 29, 30, 49, 50, 51, 52, 53, 54, 55, 56, 57, 58, 59, 60, 61, 62, 63, 64, 65, 66, 67, 73, 74, 75, 76, 77, 78, 79, 80, 81]
def Sb (f : FuncId) : Bool := fset.elem f
theorem fset_ok : fset.all (fun f => okFn Try.prog Sb f) = true := by kernel_rfl
theorem hS : FnsOk Try.prog (SS Sb) (KK Try.prog Sb) := fnsOk fun f hf => List.all_eq_true.1 fset_ok f (List.elem_iff.1 hf)
end Go.Proofs.Ytjbpaejjpamcpaa.Sim
/- A call in company of a function whose contract is known alone. -/
namespace Go.Proofs.Ytjbpaejjpamcpaa.Sim
set_option linter.unusedSimpArgs false
set_option linter.unusedVariables false
open Go Go.Conc Go.RowKit

section
variable {S : FuncId → Prop} {r : Ren}
theorem vr_int {k : IntKind} {n : Int} {v' : Value} (h : VR S r (.int k n) v') : v' = .int k n := by cases h; rfl
theorem vr_bool {b : Bool} {v' : Value} (h : VR S r (.bool b) v') : v' = .bool b := by cases h; rfl
theorem vr_slc {x o l c : Nat} {s : Option Nat} {v' : Value} (h : VR S r (.slice (some ⟨x, o, s⟩) l c) v') : ∃ b, r x = some b ∧ v' = .slice (some ⟨b, o, s⟩) l c := by
  cases h with
  | slc l c h => exact ⟨_, h, rfl⟩
theorem ar_two {a b : Value} {c' : Array Value} (h : AR S r #[a, b] c') : ∃ a' b', c' = #[a', b'] ∧ VR S r a a' ∧ VR S r b b' := by
  obtain ⟨l⟩ := c'
  have hs := h.size
  match l, hs with
  | [x, y], _ => exact ⟨x, y, rfl, h.at_ 0 (by simp) (by simp), h.at_ 1 (by simp) (by simp)⟩
theorem vr_two {a b v' : Value} (h : VR S r (.tuple #[a, b]) v') : ∃ a' b', v' = .tuple #[a', b'] ∧ VR S r a a' ∧ VR S r b b' := by
  cases h with
  | tuple s e =>
    obtain ⟨a', b', rfl, h1, h2⟩ := ar_two ⟨s, e⟩
    exact ⟨a', b', rfl, h1, h2⟩
theorem vr_agg {c : Array Value} {v' : Value} (h : VR S r (.agg c) v') : ∃ c', v' = .agg c' ∧ AR S r c c' := by
  cases h with
  | agg s e => exact ⟨_, rfl, s, e⟩
theorem ar_ints {c c' : Array Value} (h : AR S r c c') (hi : ∀ (i : Nat) (v : Value), c[i]? = some v → ∃ k n, v = Value.int k n) : c' = c := by
  apply Array.ext_getElem?
  intro i
  cases e : c[i]? with
  | none => rw [h.get_none e]
  | some v =>
    obtain ⟨v', e', hv⟩ := h.get e
    obtain ⟨k, n, rfl⟩ := hi i v e
    rw [e', vr_int hv]
theorem or_cells {K : Code → Prop} {cs : Array Value} {t : TypeId} {f : Nat × Nat} {o' : Obj} (h : OR S K r (.cells cs t f) o') : ∃ cs', o' = .cells cs' t f ∧ AR S r cs cs' := by
  cases h with
  | cells h => exact ⟨_, rfl, h⟩
end
theorem wr_none {w : World} {S : FuncId → Prop} {K : Code → Prop} {G : Nat} (hG : G ≤ w.heap.size) : WR S K G (fun _ => none) w.heap w :=
  ⟨⟨fun _ _ h => (nomatch h), fun _ _ _ h => (nomatch h)⟩, hG, hG, fun _ _ h => (nomatch h)⟩

section
variable {mn : Bool} {Fr : Nat → Prop} {Inv : World → Prop} {Stop : (Nat → Prop) → Goroutine → World → Prop} {E : Nat → Prop} {w : World} {Fx : Nat → Prop}
  {b : Frame} {a : Act} {kk : List Item} {cs : List Frame} {ops : Array Oper} {i : Nat} {rest : List Nat} {o : Oper} {L : List (Nat × Obj)} {R : World → Ending → World → Prop}

/-- What is known where the callee comes back. -/
structure Ret (Fx : Nat → Prop) (L : List (Nat × Obj)) (E : Nat → Prop) (w : World) (R : World → Ending → World → Prop) (E' : Nat → Prop) (w' : World) (v' : Value) : Prop where
  has : Has Try.prog.globals.size Fx E' w' L
  ext : ∃ (r : Ren) (v : Value) (w0 W' : World), R w0 (.returned v) W' ∧ VR (SS Sb) r v v' ∧ WR (SS Sb) (KK Try.prog Sb) Try.prog.globals.size r W'.heap w' ∧ (∀ i b, r i = some b → E' b ∧ w.heap.size ≤ b)
  keep : ∀ b, E b → E' b ∧ w'.heap[b]? = w.heap[b]?
  size : w.heap.size ≤ w'.heap.size

/-- A call of a function whose arguments bear no memory. -/
theorem Way.call (hI : Stab Fx Inv) (hH : Has Try.prog.globals.size Fx E w L) {f : FuncId} (hf : Sb f = true) {args : Array Value} (ha : AR (SS Sb) (fun _ => none) args args) {aa : Array Operand} {ats : Array TypeId} {fn : Func}
    (hC : ∀ w, Calls Try.prog f args w (R w)) (hret : ∀ w e w', R w e w' → ∃ v, e = .returned v)
    (ho : ops[i]? = some o) (hw : Region.wanted o (yielded ops a.tmps) = true) (hk : b.kind ≠ .early) (hop : o.op = .call { callee := .value (.func f), args := aa, argTypes := ats }) (hargs : aa.map a.eval = args)
    (hfn : Try.prog.funcs[f]? = some fn) (hname : (fn.name == "runtime.NumGoroutine") = false) (hb : fn.body.isNone = false)
    (k : ∀ v' E' w', Ret Fx L E w R E' w' v' → Way Try.prog mn Fr Inv Stop E' (G (b.at (a.put o.dst v') (.inRegion ops rest :: kk)) cs) w') :
    Way Try.prog mn Fr Inv Stop E (G (b.at a (.inRegion ops (i :: rest) :: kk)) cs) w := by
  subst hargs
  refine .one rfl fun w₁ h1 hi => ?_
  have hH₁ := hH.moved h1
  refine ⟨_, w₁, _, stepG_enter ho hw hk (run_call_body hop hfn hname hb), ?_, hi, ?_⟩
  · have : listed Try.prog b.fn a o w₁ = #[] := by unfold listed; rw [events_call_body hop hfn hname hb]; exact seen_none _ _
    rw [this]; exact Gu.still _ _ _
  rw [grown_same rfl]
  have hG₁ : Try.prog.globals.size ≤ w₁.heap.size := hH₁.gl
  have hway := way_of_calls (mn := mn) (Fr := Fr) (c := b.at a (.inRegion ops (i :: rest) :: kk)) (cs := cs) (R := fun T => R (LW w₁ w₁.heap T 0)) hS (fun T => hC _) (fun T e w' h => hret _ _ _ h) hI.hI hI.hlt hf (wr_none (S := SS Sb) (K := KK Try.prog Sb) hG₁) ha (fun i b h => by cases h)
  refine (hway.widen (fun b ⟨i, h⟩ => by cases h) hH₁.bd).bind fun E' g' w' ⟨E1', hst, h2, h3, h4, h5, h6, h7, h8⟩ => ?_
  obtain ⟨r, h, v, v', T, d, hle, rfl, hWR, hv, rfl, hR⟩ := hst
  rw [Frame.finish_at, ho]
  have hkeep : ∀ b, E b → w'.heap[b]? = w₁.heap[b]? := fun b hb => h4 b hb (fun ⟨i, hh⟩ => by cases hh)
  refine k v' E' w' ⟨⟨fun p hp => ⟨h3 _ (hH₁.at_ p hp).1, (hkeep _ (hH₁.at_ p hp).1).trans (hH₁.at_ p hp).2⟩, hH.nd, fun b hf hb => ?_, h7, Nat.le_trans hH₁.gl h8⟩, ⟨r, v, _, _, hR, hv, hWR, fun i b hb => ⟨h2 b ⟨i, hb⟩, ?_⟩⟩, fun b hb => ⟨h3 b hb, (hkeep b hb).trans (h1.keep b hb)⟩, Nat.le_trans h1.size h8⟩
  · rcases h6 b hb with hb | hb
    · exact hH.fx b hf hb
    · have := hI.hlt w₁ b hi hf; omega
  · rcases h5 b ⟨i, hb⟩ with ⟨j, hj⟩ | hj
    · cases hj
    · have := h1.size; omega
end

/-! ### the contracts, as they are used -/
/-- The state of a box, as both sides give it. -/
def cstv (a b c d m : Int) : Int := if BV a b c d then CST a b c d m else 0
def bx (a b c d : Int) : Value := .agg #[.int .i64 a, .int .i64 b, .int .i64 c, .int .i64 d]
def pv0 : Int → Int → Int := fun _ _ => 0
theorem calls_state (a b c d m : Int) (w : World) : Calls Try.prog 13 #[bx a b c d, .int .i64 m] w (Gives (.tuple #[.int .i64 (cstv a b c d m), .bool (BV a b c d)]) w) :=
  (ok_iCellState (pv := pv0) w).2 [a, b, c, d, m] rfl (fun c h => by cases h) w (Eng.Hb.refl _)
theorem calls_stateS (a b c d m : Int) (w : World) : Calls Try.prog 15 #[bx a b c d, .int .i64 m] w (Gives (.tuple #[.int .i64 (cstv a b c d m), .bool (BV a b c d)]) w) :=
  (ok_sCellState (pv := pv0) w).2 [a, b, c, d, m] rfl (fun c h => by cases h) w (Eng.Hb.refl _)
/-- A new row of numbers. -/
def RowR (L : Nat) (m ty : Nat) (z : Nat → Nat → Int) (y : Bool) (w : World) (e : Ending) (w' : World) : Prop :=
  Below w.heap.size w w' ∧ ∃ B cap cs, e = .returned (.tuple #[.slice (some ⟨B, 0, none⟩) L cap, .bool y]) ∧ w.heap.size ≤ B ∧ w'.heap[B]? = some (.cells cs ty) ∧ ∀ k j, k < L → j < m → cs[k * m + j]? = some (.int .i64 (z k j))
theorem calls_cut {a b c d : Int} (h : BV a b c d = true) (w : World) : Calls Try.prog 16 #[bx a b c d] w (RowR 4 4 27 (fun k j => qv j a b c d k) true w) :=
  ((rok_iCut (pv := pv0) w).2 [a, b, c, d] rfl (fun c e => by cases e; exact h) w (Eng.Hb.refl _)).mono fun e w' ⟨hb, B, cap, he, hB, arr, h1, h2, h3, h4, h5, h6, h7⟩ => ⟨hb, B, cap, arr, he, hB, h1, fun k j hk hj => h6 k j hk hj⟩
theorem calls_cutN {a b c d : Int} (h : BV a b c d = false) (w : World) : Calls Try.prog 16 #[bx a b c d] w (RowR 0 4 27 (fun k j => qv j a b c d k) false w) :=
  ((rok_iCutN (pv := pv0) w).2 [a, b, c, d] rfl (fun c e => by cases e; exact (by show (!(BV a b c d)) = true; rw [h]; rfl)) w (Eng.Hb.refl _)).mono fun e w' ⟨hb, B, cap, he, hB, arr, h1, h2, h3, h4, h5, h6, h7⟩ => ⟨hb, B, cap, arr, he, hB, h1, fun k j hk hj => absurd hk (by omega)⟩
/-- The state of a quarter. -/
def qst (a b c d m : Int) (k : Nat) : Int := cstv (qv 0 a b c d k) (qv 1 a b c d k) (qv 2 a b c d k) (qv 3 a b c d k) m
theorem calls_split {a b c d : Int} (m : Int) (h : BV a b c d = true) (w : World) : Calls Try.prog 5 #[bx a b c d, .int .i64 m] w (RowR 4 1 3 (fun k _ => qst a b c d m k) true w) :=
  ((rok_sSpl (pv := pv0) w).2 [a, b, c, d, m] rfl (fun c e => by cases e; exact h) w (Eng.Hb.refl _)).mono fun e w' ⟨hb, B, cap, he, hB, arr, h1, h2, h3, h4, h5, h6, h7⟩ => ⟨hb, B, cap, arr, he, hB, h1, fun k j hk hj => by
    have := h6 k j hk hj
    obtain rfl : j = 0 := by omega
    exact this⟩
theorem calls_splitN {a b c d : Int} (m : Int) (h : BV a b c d = false) (w : World) : Calls Try.prog 5 #[bx a b c d, .int .i64 m] w (RowR 0 1 3 (fun k _ => qst a b c d m k) false w) :=
  ((rok_sSplN (pv := pv0) w).2 [a, b, c, d, m] rfl (fun c e => by cases e; exact (by show (!(BV a b c d)) = true; rw [h]; rfl)) w (Eng.Hb.refl _)).mono fun e w' ⟨hb, B, cap, he, hB, arr, h1, h2, h3, h4, h5, h6, h7⟩ => ⟨hb, B, cap, arr, he, hB, h1, fun k j hk hj => absurd hk (by omega)⟩

section
variable {Fx : Nat → Prop} {L : List (Nat × Obj)} {E : Nat → Prop} {w : World} {E' : Nat → Prop} {w' : World} {v' : Value}
/-- A call that gives plain values. -/
theorem Ret.two {x : Int} {y : Bool} (h : Ret Fx L E w (fun w => Gives (.tuple #[.int .i64 x, .bool y]) w) E' w' v') : v' = .tuple #[.int .i64 x, .bool y] := by
  obtain ⟨r, v, w0, W', hR, hv, _⟩ := h.ext
  obtain ⟨e, _⟩ := hR
  cases e
  obtain ⟨a', b', rfl, h1, h2⟩ := vr_two hv
  rw [vr_int h1, vr_bool h2]
/-- A call that gives a new row. -/
theorem Ret.row {l m ty : Nat} {z : Nat → Nat → Int} {y : Bool} (h : Ret Fx L E w (RowR l m ty z y) E' w' v') :
    ∃ B cap cs, v' = .tuple #[.slice (some ⟨B, 0, none⟩) l cap, .bool y] ∧ w.heap.size ≤ B ∧ E' B ∧ w'.heap[B]? = some (.cells cs ty) ∧ ∀ k j, k < l → j < m → cs[k * m + j]? = some (.int .i64 (z k j)) := by
  obtain ⟨r, v, w0, W', hR, hv, hW, hE⟩ := h.ext
  obtain ⟨_, B0, cap, cs, e, _, h1, h2⟩ := hR
  cases e
  obtain ⟨a', b', rfl, k1, k2⟩ := vr_two hv
  obtain ⟨B, hB, rfl⟩ := vr_slc k1
  rw [vr_bool k2]
  obtain ⟨o, o', g1, g2, g3⟩ := hW.at_ B0 B hB
  rw [h1] at g1
  cases g1
  obtain ⟨cs', rfl, hAR⟩ := or_cells g3
  refine ⟨B, cap, cs', rfl, (hE _ _ hB).2, (hE _ _ hB).1, g2, fun k j hk hj => ?_⟩
  obtain ⟨v', e', hv'⟩ := hAR.get (h2 k j hk hj)
  rw [e', vr_int hv']
end
end Go.Proofs.Ytjbpaejjpamcpaa.Sim
