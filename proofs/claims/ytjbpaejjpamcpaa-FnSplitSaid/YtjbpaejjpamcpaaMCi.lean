import Derived.Test.YtjbpaejjpamcpaaMCm
import Derived.Test.YtjbpaejjpamcpaaMCh
import Derived.Test.YtjbpaejjpamcpaaMSs
/- A call in company of a function that is given memory to read: that memory's block in the renaming ('Way.callM'). -/
namespace Go.Proofs.Ytjbpaejjpamcpaa.Sim
set_option linter.unusedSimpArgs false
set_option linter.unusedVariables false
open Go Go.Conc Go.RowKit

section
variable {S : FuncId → Prop} {r : Ren}
/-- What stands in company for a value alone is one thing. -/
theorem VR.det {v v1 v2 : Value} (h : VR S r v v1) (k : VR S r v v2) : v1 = v2 := by
  have rows : ∀ {c c1 c2 : Array Value}, c.size = c1.size → c.size = c2.size → (∀ (i : Nat) (a : i < c.size) (b : i < c1.size) (v2 : Value), VR S r c[i] v2 → c1[i] = v2) → (∀ (i : Nat) (a : i < c.size) (b : i < c2.size), VR S r c[i] c2[i]) → c1 = c2 := fun s1 s2 h1 h2 =>
    Array.ext (by omega) fun i a b => h1 i (by omega) a _ (h2 i (by omega) b)
  induction h generalizing v2 with
  | bool b => cases k; rfl
  | int k' n => cases k; rfl
  | pnil => cases k; rfl
  | ptr hx => cases k with | ptr hy => rw [hx] at hy; cases hy; rfl
  | snil l c => cases k; rfl
  | slc l c hx => cases k with | slc _ _ hy => rw [hx] at hy; cases hy; rfl
  | func hf s1 a1 s2 a2 ih1 ih2 =>
    cases k with
    | func hf' s1' a1' s2' a2' =>
      have e1 := rows s1 s1' (fun i a b v2 h => ih1 i a b h) a1'
      have e2 := rows s2 s2' (fun i a b v2 h => ih2 i a b h) a2'
      subst e1 e2
      cases hf with
      | func _ => cases hf'; rfl
      | yield hx => cases hf' with | yield hy => rw [hx] at hy; cases hy; rfl
    | junk _ => cases hf
  | nilFunc => cases k; rfl
  | agg s _ ih => cases k with | agg s' a' => rw [rows s s' (fun i a b v2 h => ih i a b h) a']
  | tuple s _ ih => cases k with | tuple s' a' => rw [rows s s' (fun i a b v2 h => ih i a b h) a']
  | junk h =>
    cases k with
    | func hf _ _ _ _ => cases hf
    | junk _ => rfl
theorem AR.det {c c1 c2 : Array Value} (h : AR S r c c1) (k : AR S r c c2) : c1 = c2 :=
  Array.ext (by rw [← h.size, k.size]) fun i a b => (h.at_ i (by have := h.size; omega) a).det (k.at_ i (by have := k.size; omega) b)
/-- For every value there is one that stands alone for it. -/
theorem vr_ex (S : FuncId → Prop) (r : Ren) : (v' : Value) → ∃ v, VR S r v v'
  | .bool b => ⟨_, .bool b⟩
  | .agg cs => by
    have h : ∀ i : Fin cs.size, ∃ v, VR S r v cs[i] := fun i => vr_ex S r cs[i]
    exact ⟨.agg (Array.ofFn fun i => Classical.choose (h i)), .agg (by simp) fun i a b => by simpa using Classical.choose_spec (h ⟨i, b⟩)⟩
  | .tuple cs => by
    have h : ∀ i : Fin cs.size, ∃ v, VR S r v cs[i] := fun i => vr_ex S r cs[i]
    exact ⟨.tuple (Array.ofFn fun i => Classical.choose (h i)), .tuple (by simp) fun i a b => by simpa using Classical.choose_spec (h ⟨i, b⟩)⟩
  | .int k n => ⟨_, .int k n⟩
  | .float k n => ⟨JF _, .junk rfl⟩
  | .complex k n m => ⟨JF _, .junk rfl⟩
  | .string s => ⟨JF _, .junk rfl⟩
  | .pointer a => ⟨JF _, .junk rfl⟩
  | .slice a l c => ⟨JF _, .junk rfl⟩
  | .map a => ⟨JF _, .junk rfl⟩
  | .chan a => ⟨JF _, .junk rfl⟩
  | .func a b c => ⟨JF _, .junk rfl⟩
  | .nilFunc => ⟨JF _, .junk rfl⟩
  | .iface t v => ⟨JF _, .junk rfl⟩
  | .nilIface => ⟨JF _, .junk rfl⟩
open Classical in
theorem lone_cells (S : FuncId → Prop) (r : Ren) (cs : Array Value) (ok : Nat → Prop) (hok : ∀ (i : Nat) (v : Value), ok i → cs[i]? = some v → VR S r v v) : ∃ c, AR S r c cs ∧ ∀ i, ok i → c[i]? = cs[i]? := by
  refine ⟨Array.ofFn fun i : Fin cs.size => if ok i then cs[i] else Classical.choose (vr_ex S r cs[i]), ⟨by simp, fun i a b => ?_⟩, fun i hi => ?_⟩
  · rw [Array.getElem_ofFn]
    split
    · rename_i h; exact hok i _ h (Array.getElem?_eq_getElem b)
    · exact Classical.choose_spec (vr_ex S r cs[i])
  · rw [Array.getElem?_ofFn]
    by_cases h : i < cs.size
    · rw [dif_pos h, Array.getElem?_eq_getElem h]
      exact congrArg some (if_pos hi)
    · rw [dif_neg h, Array.getElem?_eq_none (by omega)]
/-- This block alone, under its own number. -/
def sole (b0 : Nat) : Ren := fun i => if i = b0 then some b0 else none
theorem sole_iff {b0 i b : Nat} : sole b0 i = some b ↔ i = b0 ∧ b = b0 := by
  unfold sole
  split
  · rename_i h; simp [h]; exact eq_comm
  · rename_i h; simp [h]
end
section
variable {mn : Bool} {Fr : Nat → Prop} {Inv : World → Prop} {Stop : (Nat → Prop) → Goroutine → World → Prop} {E : Nat → Prop} {w : World} {Fx : Nat → Prop}
  {b : Frame} {a : Act} {kk : List Item} {cs : List Frame} {ops : Array Oper} {i : Nat} {rest : List Nat} {o : Oper} {L : List (Nat × Obj)} {R : World → Ending → World → Prop}
theorem Way.callM (hI : Stab Fx Inv) (hH : Has Try.prog.globals.size Fx E w L) {b0 : Nat} {c c' : Array Value} {t : TypeId} {fz : Nat × Nat} (hm : (b0, Obj.cells c' t fz) ∈ L) (hc : AR (SS Sb) (sole b0) c c')
    {f : FuncId} (hf : Sb f = true) {args : Array Value} (ha : AR (SS Sb) (sole b0) args args) {aa : Array Operand} {ats : Array TypeId} {fn : Func}
    (hC : ∀ w : World, w.heap[b0]? = some (.cells c t fz) → Calls Try.prog f args w (R w)) (hret : ∀ w e w', R w e w' → ∃ v, e = .returned v) (hkp : ∀ (w : World) e (w' : World), R w e w' → w.heap[b0]? = some (.cells c t fz) → w'.heap[b0]? = some (.cells c t fz))
    (ho : ops[i]? = some o) (hw : Region.wanted o (yielded ops a.tmps) = true) (hk : b.kind ≠ .early) (hop : o.op = .call { callee := .value (.func f), args := aa, argTypes := ats }) (hargs : aa.map a.eval = args)
    (hfn : Try.prog.funcs[f]? = some fn) (hname : (fn.name == "runtime.NumGoroutine") = false) (hb : fn.body.isNone = false)
    (k : ∀ v' E' w' (r : Ren) v w0 W', Has Try.prog.globals.size Fx E' w' L → R w0 (.returned v) W' → VR (SS Sb) r v v' → Way Try.prog mn Fr Inv Stop E' (G (b.at (a.put o.dst v') (.inRegion ops rest :: kk)) cs) w') :
    Way Try.prog mn Fr Inv Stop E (G (b.at a (.inRegion ops (i :: rest) :: kk)) cs) w := by
  subst hargs
  refine .one rfl fun w₁ h1 hi => ?_
  have hH₁ := hH.moved h1
  refine ⟨_, w₁, _, stepG_enter ho hw hk (run_call_body hop hfn hname hb), ?_, hi, ?_⟩
  · have : listed Try.prog b.fn a o w₁ = #[] := by unfold listed; rw [events_call_body hop hfn hname hb]; exact seen_none _ _
    rw [this]; exact Gu.still _ _ _
  rw [grown_same rfl]
  have hG₁ : Try.prog.globals.size ≤ w₁.heap.size := hH₁.gl
  obtain ⟨hE0, hb0⟩ := hH₁.at_ _ hm
  have hlt0 : b0 < w₁.heap.size := (Array.getElem?_eq_some_iff.1 hb0).1
  let h0 : Array Obj := w₁.heap.setIfInBounds b0 (.cells c t fz)
  have hh0 : h0[b0]? = some (.cells c t fz) := by simp [h0, hlt0]
  have hWR0 : WR (SS Sb) (KK Try.prog Sb) Try.prog.globals.size (sole b0) h0 w₁ := by
    refine ⟨⟨fun i b e => ?_, fun i j b e e' => ?_⟩, by simp only [h0, Array.size_setIfInBounds]; exact hG₁, hG₁, fun i b e => ?_⟩
    · obtain ⟨rfl, rfl⟩ := sole_iff.1 e; exact Iff.rfl
    · obtain ⟨rfl, rfl⟩ := sole_iff.1 e
      exact (sole_iff.1 e').1.symm
    · obtain ⟨rfl, rfl⟩ := sole_iff.1 e
      exact ⟨_, _, hh0, hb0, .cells hc⟩
  have hown : ∀ b, (∃ i, sole b0 i = some b) → b = b0 := fun b ⟨i, e⟩ => (sole_iff.1 e).2
  have hway := way_of_calls (mn := mn) (Fr := Fr) (c := b.at a (.inRegion ops (i :: rest) :: kk)) (cs := cs) (R := fun T => R (LW w₁ h0 T 0)) hS (fun T => hC _ hh0) (fun T e w' h => hret _ _ _ h) hI.hI hI.hlt hf hWR0 ha (fun i b e hf => by
    obtain ⟨rfl, rfl⟩ := sole_iff.1 e; exact hH₁.fx _ hf hE0)
  refine (hway.widen (fun b hb => by rw [hown b hb]; exact hE0) hH₁.bd).bind fun E' g' w' ⟨E1', hst, h2, h3, h4, h5, h6, h7, h8⟩ => ?_
  obtain ⟨r, h, v, v', T, d, hle, rfl, hWR, hv, rfl, hR⟩ := hst
  rw [Frame.finish_at, ho]
  have hk0 : w'.heap[b0]? = w₁.heap[b0]? := by
    obtain ⟨p, p', g1, g2, g3⟩ := hWR.at_ b0 b0 (hle b0 b0 (sole_iff.2 ⟨rfl, rfl⟩))
    have e := hkp _ _ _ hR hh0
    have e' : h[b0]? = some (.cells c t fz) := e
    rw [e'] at g1
    cases g1
    cases g3 with
    | cells hAR => rw [g2, hb0, hAR.det (hc.mono hle)]
  have hkeep : ∀ b, E b → w'.heap[b]? = w₁.heap[b]? := fun b hb => by
    by_cases e : b = b0
    · rw [e]; exact hk0
    · exact h4 b hb (fun ⟨i, hh⟩ => e (sole_iff.1 hh).2)
  refine k v' E' w' r v _ _ ⟨fun p hp => ⟨h3 _ (hH₁.at_ p hp).1, (hkeep _ (hH₁.at_ p hp).1).trans (hH₁.at_ p hp).2⟩, hH.nd, fun b hf hb => ?_, h7, Nat.le_trans hH₁.gl h8⟩ hR hv
  rcases h6 b hb with hb | hb
  · exact hH₁.fx b hf hb
  · have := hI.hlt w₁ b hi hf; omega
end
end Go.Proofs.Ytjbpaejjpamcpaa.Sim
/- DrawCellSplit, called in company: a drawn box and a number; nothing that is held is turned. -/
namespace Go.Proofs.Ytjbpaejjpamcpaa
set_option linter.unusedSimpArgs false
set_option linter.unusedVariables false
open Go.RowKit Eng
theorem draw_any {pv : Int → Int → Int} {p : Option Addr} {len cap : Nat} : ∃ m : Int, ∀ w : World, BytesOk w w.heap.size (.slice p len cap) → BytesV pv w w.heap.size (.slice p (min len 2000) cap) →
    Calls Try.prog 11 #[.slice p len cap] w (Gives (.tuple #[.agg #[.int .i64 (bxA pv 0), .int .i64 (bxB pv 0), .int .i64 (bxC pv 0), .int .i64 (bxD pv 0)], .int .i64 m]) w) :=
  ⟨_, fun w hb hv => by
    have hXD := drawn_ok (X := XH3) rfl (XH3_ok w (envD pv p len cap) rfl rfl) hb hv
    exact runFn_ok (kn := kn_dcs) (fun p hp => by cases hp) hXD mixed run_dcs⟩
namespace Sim
open Go Go.Conc
/-- A box that is drawn. -/
def Drn (a b c d : Int) : Prop := ∃ pv, PvOk pv ∧ a = bxA pv 0 ∧ b = bxB pv 0 ∧ c = bxC pv 0 ∧ d = bxD pv 0
/-- A slice of bytes in a block that is held. -/
def CodeV (L : List (Nat × Obj)) (p : Option Addr) (len cap : Nat) : Prop :=
  (p = none ∧ len = 0 ∧ cap = 0) ∨ ∃ (b0 off : Nat) (cs : Array Value) (t : TypeId) (fz : Nat × Nat) (f : Nat → Int), p = some ⟨b0, off, none⟩ ∧ len ≤ cap ∧ cap ≤ 9223372036854775807 ∧ (b0, Obj.cells cs t fz) ∈ L ∧ (∀ i, 0 ≤ f i ∧ f i ≤ 255) ∧ ∀ i, i < len → cs[off + i]? = some (.int .u8 (f i))
theorem vr_drawn {r : Ren} {a b c d m : Int} {v' : Value} (h : VR (SS Sb) r (.tuple #[.agg #[.int .i64 a, .int .i64 b, .int .i64 c, .int .i64 d], .int .i64 m]) v') : v' = .tuple #[.agg #[.int .i64 a, .int .i64 b, .int .i64 c, .int .i64 d], .int .i64 m] := by
  have one : AR (SS Sb) r #[.int .i64 a, .int .i64 b, .int .i64 c, .int .i64 d] #[.int .i64 a, .int .i64 b, .int .i64 c, .int .i64 d] := (((AR.nil.push (.int _ _)).push (.int _ _)).push (.int _ _)).push (.int _ _)
  have k : VR (SS Sb) r (.tuple #[.agg #[.int .i64 a, .int .i64 b, .int .i64 c, .int .i64 d], .int .i64 m]) (.tuple #[.agg #[.int .i64 a, .int .i64 b, .int .i64 c, .int .i64 d], .int .i64 m]) :=
    .toTuple ((AR.nil.push (.toAgg one)).push (.int _ _))
  exact h.det k
section
variable {mn : Bool} {Fr : Nat → Prop} {Inv : World → Prop} {Stop : (Nat → Prop) → Goroutine → World → Prop} {E : Nat → Prop} {w : World} {Fx : Nat → Prop}
  {b : Frame} {a : Act} {kk : List Item} {cs : List Frame} {ops : Array Oper} {i : Nat} {rest : List Nat} {o : Oper} {L : List (Nat × Obj)}
/-- The call. -/
theorem Way.draw (hI : Stab Fx Inv) (hH : Has Try.prog.globals.size Fx E w L) {p : Option Addr} {len cap : Nat} (hc : CodeV L p len cap) {x : Operand} {ats : Array TypeId}
    (ho : ops[i]? = some o) (hw : Region.wanted o (yielded ops a.tmps) = true) (hk : b.kind ≠ .early) (hop : o.op = .call { callee := .value (.func 11), args := #[x], argTypes := ats }) (hx : a.eval x = .slice p len cap)
    (k : ∀ a1 b1 c1 d1 m E' w', Drn a1 b1 c1 d1 → Has Try.prog.globals.size Fx E' w' L → Way Try.prog mn Fr Inv Stop E' (G (b.at (a.put o.dst (.tuple #[.agg #[.int .i64 a1, .int .i64 b1, .int .i64 c1, .int .i64 d1], .int .i64 m])) (.inRegion ops rest :: kk)) cs) w') :
    Way Try.prog mn Fr Inv Stop E (G (b.at a (.inRegion ops (i :: rest) :: kk)) cs) w := by
  rcases hc with ⟨rfl, rfl, rfl⟩ | ⟨b0, off, cs', t, fz, f, rfl, h1, h2, hm, hf, hcell⟩
  · obtain ⟨m, hC⟩ := draw_any (pv := fun _ _ => 0) (p := none) (len := 0) (cap := 0)
    refine Way.call hI hH (f := 11) rfl (args := #[.slice none 0 0]) (AR.one (.snil _ _)) (fun w => hC w (Or.inl ⟨none, 0, rfl⟩) (Or.inl ⟨⟨none, 0, rfl⟩, fun _ _ => rfl⟩)) (fun _ _ _ h => ⟨_, h.1⟩) ho hw hk hop (by simp [hx]) Try.func11 (by kernel_rfl) (by rfl) (fun v' E w hr => ?_)
    obtain ⟨r, v, w0, W', hR, hv, _⟩ := hr.ext
    obtain ⟨e, _⟩ := hR
    cases e
    rw [vr_drawn hv]
    exact k _ _ _ _ _ _ _ ⟨fun _ _ => 0, fun p n _ _ hn => ⟨Int.le_refl _, by show (0 : Int) < n; omega⟩, rfl, rfl, rfl, rfl⟩ hr.has
  · obtain ⟨m, hC⟩ := draw_any (pv := pickV (min len 2000) f) (p := some ⟨b0, off, none⟩) (len := len) (cap := cap)
    obtain ⟨c, hAR, hsame⟩ := lone_cells (SS Sb) (sole b0) cs' (fun i => ∃ j, j < len ∧ i = off + j) (fun i v ⟨j, hj, e⟩ hv => by
      rw [e, hcell j hj] at hv; cases hv; exact .int _ _)
    have hin : ∀ i, i < len → c[off + i]? = some (.int .u8 (f i)) := fun i hi => (hsame _ ⟨i, hi, rfl⟩).trans (hcell i hi)
    have hcl : ∀ w : World, w.heap[b0]? = some (.cells c t fz) → ∀ i, i < len → b0 < w.heap.size ∧ w.cell? ⟨b0, off + i, none⟩ = some (.int .u8 (f i)) := fun w h i hi =>
      ⟨(Array.getElem?_eq_some_iff.1 h).1, by simp [World.cell?, h, hin i hi]⟩
    refine Way.callM hI hH hm hAR (f := 11) rfl (args := #[.slice (some ⟨b0, off, none⟩) len cap]) (AR.one (.slc _ _ (sole_iff.2 ⟨rfl, rfl⟩))) (fun w h => hC w (Or.inr ⟨b0, off, len, cap, f, rfl, h1, h2, hf, hcl w h⟩)
      (Or.inr ⟨b0, off, min len 2000, cap, f, rfl, by omega, h2, hf, fun i hi => hcl w h i (by omega), fun _ _ => rfl⟩)) (fun _ _ _ h => ⟨_, h.1⟩) (fun w e w' h hb => by
        rw [h.2.block b0 (Array.getElem?_eq_some_iff.1 hb).1]; exact hb) ho hw hk hop (by simp [hx]) Try.func11 (by kernel_rfl) (by rfl) (fun v' E w r v w0 W' hH hR hv => ?_)
    obtain ⟨e, _⟩ := hR
    cases e
    rw [vr_drawn hv]
    exact k _ _ _ _ _ _ _ ⟨_, pickV_ok hf, rfl, rfl, rfl, rfl⟩ hH
end
end Sim
end Go.Proofs.Ytjbpaejjpamcpaa
