import Derived.Test.YtjpmpjcenajmbaaDoorKit
import Derived.RangeFuncNested
import Derived.RangeFuncBound
import Derived.RangeFuncCalls
import Derived.RangeFuncLeaves
import Derived.OwnWalkIn
import Derived.TacticsInMore
import Derived.LoopNIn
import Derived.LoopIn
import Derived.Test.YtjpmpjcenajmbaaDoorMFm
import Derived.Test.YtjpmpjcenajmbaaDoorEng
import Derived.Laws.MakeOwn
import Derived.WalkMore
import Derived.ScopeJumps
/- A range over a function whose iterator has no end: what the caller owes; one round. No program in sight. -/
namespace Go.Proofs.YtjpmpjcenajmbaaDoor
set_option linter.unusedSimpArgs false
set_option linter.unusedVariables false
open Go.RowKit
/-- The loop's record as it is laid. -/
def rec0 (fid : Nat) (tmps : Array Value) (ps : Array Tmp) (assign body : Code) (D : Nat) : Loop := { state := .ready, pending := none, fn := fid, tmps, params := ps, assign, body, defers := D }
/-- The statement, by the one call. -/
theorem range_calls {P : Program} {m : Nat} {g : Operand} {ps : Array Tmp} {assign body : Code} {Q : Exit → Act → World → Prop} {a : Act} {w : World} {gf : Nat} {lb : Array Value}
    (hg : a.eval g = .func (.func gf) #[] lb) (eg : ∀ args w, (callFunc gf args).run P w = .ok (.enter gf args) w)
    (hcall : ∀ fid, CallsIn Fence.wide (m + 1) P gf (#[.func (.yield (w.heap.size + 1)) #[] #[]] ++ lb) ((w.alloc (.deferred (some []))).alloc (.loop (rec0 fid a.tmps ps assign body w.heap.size)))
      (fun e W' => (∃ v, e = .returned v) ∧ ∃ r, W'.heap[w.heap.size + 1]? = some (.loop r) ∧ r.state ≠ .busy ∧
        (match r.pending with
         | none => Q .normal { a with defers := { target := .collected w.heap.size, args := #[] } :: a.defers } (W'.putObj (w.heap.size + 1) (.loop { r with state := .exhausted }))
         | some c => c.wpIn Fence.wide (m + 2) P Q { a with defers := { target := .collected w.heap.size, args := #[] } :: a.defers } (W'.putObj (w.heap.size + 1) (.loop { r with state := .exhausted }))))) :
    (Code.rangeFunc g ps assign body).wpIn Fence.wide (m + 2) P Q a w := by
  refine wpIn_rangeFunc ?_
  intro fid _
  obtain ⟨W1, hW1⟩ : ∃ W1, W1 = (w.alloc (.deferred (some []))).alloc (.loop (rec0 fid a.tmps ps assign body w.heap.size)) := ⟨_, rfl⟩
  have hc := hcall fid
  rw [← hW1] at hc
  refine ⟨w.heap.size + 1, [{ target := .collected w.heap.size, args := #[] }], W1, { target := .fn (.func gf) lb, args := #[.func (.yield (w.heap.size + 1)) #[] #[]] }, W1, gf,
    #[.func (.yield (w.heap.size + 1)) #[] #[]] ++ lb, W1, ?_, ?_, fun _ _ => trivial, ?_, fun h => absurd h (by simp [Fence.wide]), ?_⟩
  · rw [hW1]; exact run_enterLoop_outer _ _ _ _ _
  · simp only [resolve, hg]
    simp [go_sem]
  · simp [invoke, go_sem, eg]
  · refine hc.mono ?_
    rintro e W' ⟨⟨v, rfl⟩, r, h1, h2, h3⟩
    refine ⟨_, _, run_endLoop h1 h2, ?_⟩
    cases hp : r.pending with
    | none => rw [hp] at h3; exact h3
    | some c => rw [hp] at h3; exact h3
/-- A call of yield: one round. -/
theorem yield_round {P : Program} {m l : Nat} {r : Loop} {args : Array Value} {W : World} {R : Ending → World → Prop} (hl : W.heap[l]? = some (.loop r)) (hs : args.size = r.params.size)
    (h : r.assign.wpIn (Fence.wide.inRound l) m P (Exit.then (fun a₁ w₁ => ∃ w₂, (Instr.beginRound l).run P w₁ = .ok () w₂ ∧ r.body.wpIn (Fence.wide.inRound l) m P (roundPost P l R) a₁ w₂) (fun _ _ _ => False)) { tmps := (r.params.zip args).foldl (fun tmps (t, a) => tmps.setIfInBounds t a) r.tmps, defers := [] } W) :
    YieldAt Fence.wide m P l args W R :=
  ⟨_, _, _, _, run_yield hl hs, roundIn_of_wpIn trivial h⟩
end Go.Proofs.YtjpmpjcenajmbaaDoor
/- A step of a wide orbit, NaN allowed; the iterator of wide orbits: its contract. -/
namespace Go.Proofs.YtjpmpjcenajmbaaDoor
set_option linter.unusedSimpArgs false
set_option linter.unusedVariables false
open Go.RowKit
attribute [local go_sem] Oper.semAt_some
/-- A drawn NaN. -/
def nanD (t : Nat) : Nat := (t % 2) * 9223372036854775808 + 9218868437227405312 + 1 + (t / 2) % 4503599627370495
/-- What float arithmetic gives: the word that is told, or a NaN. -/
def Ar (o : Option Nat) (z : Nat) : Prop := o = some z ∨ (o = none ∧ ∃ t, z = nanD t)
/-- The world is the same but for what was asked of the tape. -/
def Drawn (w w' : World) : Prop := ∀ B, Below B w w'
theorem Drawn.refl (w : World) : Drawn w w := fun B => Below.refl _ _
theorem Drawn.trans {a b c : World} (h : Drawn a b) (k : Drawn b c) : Drawn a c := fun B => (h B).trans (k B)
theorem ar_mul (t x y : Nat) (w : World) : ∃ z w', (binOp .mul t (.float .f64 x) (.float .f64 y)).run Tryd.prog w = .ok (.float .f64 z) w' ∧ Drawn w w' ∧ Ar (Ieee.double.mul x y) z := by
  cases h : Ieee.double.mul x y with
  | some z => exact ⟨z, w, by simp only [binOp, Op.floatArith, show FloatKind.f64.format = Ieee.double from rfl, h]; rfl, Drawn.refl w, .inl rfl⟩
  | none => exact ⟨_, w.drew, by simp only [binOp, Op.floatArith, show FloatKind.f64.format = Ieee.double from rfl, h]; rfl, fun B => (Below.refl _ _).drew, .inr ⟨rfl, _, rfl⟩⟩
theorem ar_sub (t x y : Nat) (w : World) : ∃ z w', (binOp .sub t (.float .f64 x) (.float .f64 y)).run Tryd.prog w = .ok (.float .f64 z) w' ∧ Drawn w w' ∧ Ar (Ieee.double.sub x y) z := by
  cases h : Ieee.double.sub x y with
  | some z => exact ⟨z, w, by simp only [binOp, Op.floatArith, show FloatKind.f64.format = Ieee.double from rfl, h]; rfl, Drawn.refl w, .inl rfl⟩
  | none => exact ⟨_, w.drew, by simp only [binOp, Op.floatArith, show FloatKind.f64.format = Ieee.double from rfl, h]; rfl, fun B => (Below.refl _ _).drew, .inr ⟨rfl, _, rfl⟩⟩
theorem ar_fadd (x y : Nat) (w : World) : ∃ z w', (Op.floatArith .add .f64 x y).run Tryd.prog w = .ok (.float .f64 z) w' ∧ Drawn w w' ∧ Ar (Ieee.double.add x y) z := by
  cases h : Ieee.double.add x y with
  | some z => exact ⟨z, w, by simp only [Op.floatArith, show FloatKind.f64.format = Ieee.double from rfl, h]; rfl, Drawn.refl w, .inl rfl⟩
  | none => exact ⟨_, w.drew, by simp only [Op.floatArith, show FloatKind.f64.format = Ieee.double from rfl, h]; rfl, fun B => (Below.refl _ _).drew, .inr ⟨rfl, _, rfl⟩⟩
theorem ar_cadd (t u v c d : Nat) (w : World) : ∃ p q w', (binOp .add t (.complex .f64 u v) (.complex .f64 c d)).run Tryd.prog w = .ok (.complex .f64 p q) w' ∧ Drawn w w' ∧ Ar (Ieee.double.add u c) p ∧ Ar (Ieee.double.add v d) q := by
  obtain ⟨p, w1, m1, d1, r1⟩ := ar_fadd u c w
  obtain ⟨q, w2, m2, d2, r2⟩ := ar_fadd v d w1
  refine ⟨p, q, w2, ?_, d1.trans d2, r1, r2⟩
  show (Op.complexOp .add .f64 u v c d).run Tryd.prog w = _
  unfold Op.complexOp
  simp only [Op.Complex.arith, Sem.run_bind, m1, m2, Result.andThen_ok, Sem.run_pure]
/-- The square's parts. -/
def SqR (x y p q : Nat) : Prop := ∃ a b e, Ar (Ieee.double.mul x x) a ∧ Ar (Ieee.double.mul y y) b ∧ Ar (Ieee.double.sub a b) p ∧ Ar (Ieee.double.mul x y) e ∧ Ar (Ieee.double.mul 4611686018427387904 e) q
theorem impl_Square_any (x y : Nat) (w : World) : Calls Tryd.prog 51 #[.complex .f64 x y] w fun e w' => ∃ p q, e = .returned (.complex .f64 p q) ∧ Drawn w w' ∧ SqR x y p q := by
  obtain ⟨a, w1, m1, d1, r1⟩ := ar_mul 58 x x w
  obtain ⟨b, w2, m2, d2, r2⟩ := ar_mul 58 y y w1
  obtain ⟨p, w3, m3, d3, r3⟩ := ar_sub 58 a b w2
  obtain ⟨e, w4, m4, d4, r4⟩ := ar_mul 58 x y w3
  obtain ⟨q, w5, m5, d5, r5⟩ := ar_mul 58 4611686018427387904 e w4
  have HD := Lib.hid (d1.trans (d2.trans (d3.trans (d4.trans d5))))
  have HR : Hid (SqR x y p q) := Lib.hid ⟨a, b, e, r1, r2, r3, r4, r5⟩
  clear d1 d2 d3 d4 d5 r1 r2 r3 r4 r5
  go_enter Tryd.func51, Tryd.ntmps51
  set_option maxRecDepth 20000 in
  go_wp2
  go_returns
  exact ⟨p, q, rfl, HD.out, HR.out⟩
/-- A step's parts. -/
def StR (x y c d p q : Nat) : Prop := ∃ u v, SqR x y u v ∧ Ar (Ieee.double.add u c) p ∧ Ar (Ieee.double.add v d) q
theorem impl_StepWide_any (x y c d : Nat) (w : World) : Calls Tryd.prog 24 #[.complex .f64 x y, .complex .f64 c d] w fun e w' => ∃ p q, e = .returned (.complex .f64 p q) ∧ Drawn w w' ∧ StR x y c d p q := by
  go_enter Tryd.func24, Tryd.ntmps24
  go_wp2_with fail
  refine (impl_Square_any x y _).mono ?_
  rintro e w1 ⟨u, v, rfl, hd, hr⟩
  obtain ⟨p, q, w2, m2, d2, r2, r3⟩ := ar_cadd 27 u v c d w1
  have HD := Lib.hid (hd.trans d2)
  have HR : Hid (StR x y c d p q) := Lib.hid ⟨u, v, hr, r2, r3⟩
  clear hd d2 hr r2 r3
  go_wp2
  go_returns
  exact ⟨p, q, rfl, HD.out, HR.out⟩
end Go.Proofs.YtjpmpjcenajmbaaDoor
/- The iterator of wide orbits: its contract for a consumer that stops. -/
namespace Go.Proofs.YtjpmpjcenajmbaaDoor
set_option linter.unusedSimpArgs false
set_option linter.unusedVariables false
open Go.RowKit
attribute [local go_sem] Oper.semAt_some
theorem orb_it (m l Bs Bc cr ci M : Nat) (J : Nat → Nat → Nat → World → Prop) (Jx : World → Prop)
    (hM : ∀ k x y W, J k x y W → k ≤ M)
    (hY : ∀ k x y W, J k x y W → YieldAt Fence.wide m Tryd.prog l #[.int .i64 k, .complex .f64 x y] W fun e W' =>
      (e = .returned (.bool true) ∧ W'.cell? ⟨Bs, 0, none⟩ = some (.func (.func 24) #[] #[]) ∧ W'.cell? ⟨Bc, 0, none⟩ = some (.complex .f64 cr ci) ∧ ∀ p q W'', StR x y cr ci p q → Drawn W' W'' → J (k + 1) p q W'') ∨ (e = .returned (.bool false) ∧ Jx W'))
    (hMx : M ≤ 1000) (W : World) (h0 : J 0 0 0 W) :
    CallsIn Fence.wide (m + 1) Tryd.prog 67 #[.func (.yield l) #[] #[], .pointer (some ⟨Bs, 0, none⟩), .pointer (some ⟨Bc, 0, none⟩)] W fun e W' => (∃ v, e = .returned v) ∧ Jx W' := by
  refine callsIn_of_wp Tryd.func67 rfl trivial ?_ rfl
  simp only [Tryd.ntmps67, List.size_toArray, List.length_cons, List.length_nil, Nat.reduceAdd, Nat.reduceSub, Array.replicate_succ, Array.replicate_zero, List.push_toArray, List.append_toArray, List.nil_append, List.cons_append]
  gi_wp2
  gi_loopw [5, 4] (fun u v wr => ∃ k x y : Nat, u = .int .i64 k ∧ v = .complex .f64 x y ∧ J k x y wr) (fun u _ _ => M + 1 - (intOf u).toNat)
  case atStart => exact ⟨0, 0, 0, rfl, rfl, h0⟩
  case round =>
    obtain ⟨k, x, y, rfl, rfl, hJ⟩ := hrel
    have hk := hM k x y _ hJ
    obtain ⟨fn, tmps, assign, body, hy, hR⟩ := hY k x y _ hJ
    clear hY hM
    gi_wp2
    refine hR.mono ?_
    rintro e W1 (⟨rfl, hs, hc, hJ1⟩ | ⟨rfl, hx⟩)
    · have HJ := Lib.hid hJ1
      clear hJ1 hJ
      gi_wp2
      refine ⟨trivial, ?_⟩
      refine (callsIn_wide.2 (impl_StepWide_any x y cr ci _)).mono ?_
      rintro e W2 ⟨p, q, rfl, hd, hr⟩
      have HK := Lib.hid (HJ.out p q _ hr hd)
      clear hd hr
      gi_wp2
      go_roundw
      case rel => exact ⟨k + 1, p, q, by simp, rfl, HK.out⟩
      case measure => simp [intOf]; omega
    · gi_wp2
      go_end0
      exact ⟨⟨_, rfl⟩, hx⟩
end Go.Proofs.YtjpmpjcenajmbaaDoor
/- The first numbers of a wide orbit: what they are. -/
namespace Go.Proofs.YtjpmpjcenajmbaaDoor
set_option linter.unusedSimpArgs false
set_option linter.unusedVariables false
open Go.RowKit
attribute [local go_sem] Oper.semAt_some
theorem orbitOf_any (cr ci : Nat) (w : World) : Calls Tryd.prog 54 #[.complex .f64 cr ci, .func (.func 24) #[] #[]] w fun e w' =>
    e = .returned (.func (.func 67) #[] #[.pointer (some ⟨w.heap.size + 1, 0, none⟩), .pointer (some ⟨w.heap.size, 0, none⟩)]) ∧ w' = (w.alloc (.cells #[.complex .f64 cr ci] 27)).alloc (.cells #[.func (.func 24) #[] #[]] 55) := by
  go_enter Tryd.func54, Tryd.ntmps54
  go_wp2
  go_returns
  exact ⟨rfl, rfl⟩
theorem mk_list (n : Nat) (hn : n ≤ 400) (w : World) : (Instr.makeSlice 29 (.int .i64 0) (.int .i64 n)).run Tryd.prog w = .ok (.slice (some ⟨w.heap.size, 0, none⟩) 0 n) (w.alloc (.cells (madeCells #[.complex .f64 0 0] n) 27)) := by
  have := run_makeSlice (P := Tryd.prog) w 29 27 Tryd.t27 (.complex .f64 0 0) Tryd.underlying29 (by kernel_rfl) (by kernel_rfl) .i64 .i64 0 n (by omega) (by omega) (by show (n : Int).toNat * 1 ≤ _; omega) (by show ((16 : Nat) : Int) * n ≤ _; omega) (by omega)
  simpa [show Tryd.t27.size = 1 from rfl, Value.cells] using this
/-- A world in which the blocks below B are as they were. -/
theorem Drawn.heap {W W' : World} (h : Drawn W W') {k : Nat} {o : Obj} (hk : W.heap[k]? = some o) : W'.heap[k]? = some o :=
  ((h (k + 1)).block k (Nat.lt_succ_self k)).trans hk
/-- What a list's block holds: the orbit's numbers, as many as have come. -/
def Nums (cr ci n k x y : Nat) (arr : Array Value) : Prop := arr.size = n ∧ ∃ X Y : Nat → Nat, X 0 = 0 ∧ Y 0 = 0 ∧ X k = x ∧ Y k = y ∧ (∀ i, i < k → StR (X i) (Y i) cr ci (X (i + 1)) (Y (i + 1))) ∧ ∀ i, i < k → arr[i]? = some (.complex .f64 (X i) (Y i))
/-- Between two rounds. -/
structure FJ (cr ci n : Nat) (w : World) (lp : Loop) (k x y : Nat) (W : World) : Prop where
  le : k ≤ n
  bel : Below w.heap.size w W
  b0 : W.heap[w.heap.size]? = some (.cells #[.int .i64 n] 3 (0, 0))
  b1 : ∃ arr, W.heap[w.heap.size + 1]? = some (.cells arr 27 (0, 0)) ∧ Nums cr ci n k x y arr
  b2 : W.heap[w.heap.size + 2]? = some (.cells #[.slice (some ⟨w.heap.size + 1, 0, none⟩) k n] 29 (0, 0))
  b3 : W.heap[w.heap.size + 3]? = some (.cells #[.complex .f64 cr ci] 27 (0, 0))
  b4 : W.heap[w.heap.size + 4]? = some (.cells #[.func (.func 24) #[] #[]] 55 (0, 0))
  b5 : W.heap[w.heap.size + 5]? = some (.deferred (some []))
  b6 : W.heap[w.heap.size + 6]? = some (.loop lp)
theorem al_keep {w : World} {o o' : Obj} {k : Nat} (h : w.heap[k]? = some o) : (w.alloc o').heap[k]? = some o := (Below.heap_alloc w o' k (Array.getElem?_eq_some_iff.1 h).1).trans h
theorem al_new {w : World} {o : Obj} {k : Nat} (h : k = w.heap.size) : (w.alloc o).heap[k]? = some o := by subst h; exact World.alloc_heap_new w o
theorem set_keep {w : World} {o : Obj} {k : Nat} {a : Addr} {v : Value} (h : w.heap[k]? = some o) (hk : k ≠ a.block) : (w.setCell a v).heap[k]? = some o := (Below.heap_setCell w a v k hk).trans h
theorem cell_of {W : World} {B t : Nat} {v : Value} (h : W.heap[B]? = some (.cells #[v] t (0, 0))) : W.cell? ⟨B, 0, none⟩ = some v ∧ W.frozen? ⟨B, 0, none⟩ = false := by
  simp [World.cell?, World.frozen?, h]
theorem FJ.lt {cr ci n : Nat} {w : World} {lp : Loop} {k x y : Nat} {W : World} (h : FJ cr ci n w lp k x y W) : w.heap.size + 6 < W.heap.size := (Array.getElem?_eq_some_iff.1 h.b6).1
theorem FJ.drawn {cr ci n : Nat} {w : World} {lp : Loop} {k x y : Nat} {W W' : World} (h : FJ cr ci n w lp k x y W) (hd : Drawn W W') : FJ cr ci n w lp k x y W' :=
  ⟨h.le, h.bel.trans (hd _), hd.heap h.b0, let ⟨a, h1, h2⟩ := h.b1; ⟨a, hd.heap h1, h2⟩, hd.heap h.b2, hd.heap h.b3, hd.heap h.b4, hd.heap h.b5, hd.heap h.b6⟩
/-- The record turned. -/
theorem FJ.turn {cr ci n : Nat} {w : World} {lp : Loop} {k x y : Nat} {W : World} (h : FJ cr ci n w lp k x y W) (lq : Loop) : FJ cr ci n w lq k x y (W.putObj (w.heap.size + 6) (.loop lq)) := by
  have o : ∀ j, j < w.heap.size + 6 → (W.putObj (w.heap.size + 6) (.loop lq)).heap[j]? = W.heap[j]? := fun j hj => World.putObj_heap_other (by omega)
  refine ⟨h.le, ?_, (o _ (by omega)).trans h.b0, let ⟨a, h1, h2⟩ := h.b1; ⟨a, (o _ (by omega)).trans h1, h2⟩, (o _ (by omega)).trans h.b2, (o _ (by omega)).trans h.b3, (o _ (by omega)).trans h.b4, (o _ (by omega)).trans h.b5, World.putObj_heap_same h.lt⟩
  exact ⟨h.bel.os, h.bel.tape, h.bel.output, by have := h.bel.size; simpa using this, fun j hj => (o j (by omega)).trans (h.bel.block j hj)⟩
theorem set_here {w : World} {b j t : Nat} {fr : Nat × Nat} {cs : Array Value} {v : Value} (h : w.heap[b]? = some (.cells cs t fr)) : (w.setCell ⟨b, j, none⟩ v).heap[b]? = some (.cells (cs.setIfInBounds j v) t fr) := by
  show (w.heap.modify b _)[b]? = _
  rw [Array.getElem?_modify, if_pos rfl, h]; rfl
/-- One number more. -/
theorem FJ.push {cr ci n : Nat} {w : World} {lp : Loop} {k x y p q : Nat} {W : World} {o : Obj} (h : FJ cr ci n w lp k x y W) (hk : k < n) (hs : StR x y cr ci p q) :
    FJ cr ci n w lp (k + 1) p q (((W.alloc o).setCell ⟨w.heap.size + 1, k, none⟩ (.complex .f64 x y)).setCell ⟨w.heap.size + 2, 0, none⟩ (.slice (some ⟨w.heap.size + 1, 0, none⟩) (k + 1) n)) := by
  obtain ⟨arr, b1, hsz, X, Y, x0, y0, xk, yk, hst, hcs⟩ := h.b1
  have keep : ∀ (j : Nat) (u : Obj), j ≠ w.heap.size + 1 → j ≠ w.heap.size + 2 → W.heap[j]? = some u → (((W.alloc o).setCell ⟨w.heap.size + 1, k, none⟩ (.complex .f64 x y)).setCell ⟨w.heap.size + 2, 0, none⟩ (.slice (some ⟨w.heap.size + 1, 0, none⟩) (k + 1) n)).heap[j]? = some u := fun j u h1 h2 hu => set_keep (set_keep (al_keep hu) h1) h2
  refine ⟨hk, ?_, keep _ _ (by omega) (by omega) h.b0, ⟨arr.setIfInBounds k (.complex .f64 x y), set_keep (set_here (al_keep b1)) (by show w.heap.size + 1 ≠ w.heap.size + 2; omega), by simpa using hsz, fun i => if i ≤ k then X i else p, fun i => if i ≤ k then Y i else q, by simpa using x0, by simpa using y0, if_neg (by omega), if_neg (by omega), fun i hi => ?_, fun i hi => ?_⟩, ?_, keep _ _ (by omega) (by omega) h.b3, keep _ _ (by omega) (by omega) h.b4, keep _ _ (by omega) (by omega) h.b5, keep _ _ (by omega) (by omega) h.b6⟩
  · have hl := h.lt
    exact ((h.bel.alloc (by omega) _).setCell (by show w.heap.size ≤ w.heap.size + 1; omega) _).setCell (by show w.heap.size ≤ w.heap.size + 2; omega) _
  · by_cases hik : i < k
    · simp only [if_pos (show i ≤ k by omega), if_pos (show i + 1 ≤ k by omega)]; exact hst i hik
    · obtain rfl : i = k := by omega
      simp only [if_pos (Nat.le_refl i), if_neg (show ¬ i + 1 ≤ i by omega), xk, yk]; exact hs
  · simp only [if_pos (show i ≤ k by omega)]
    by_cases hik : i = k
    · subst hik
      rw [Array.getElem?_setIfInBounds_self_of_lt (by omega), xk, yk]
    · rw [Array.getElem?_setIfInBounds_ne (by omega)]; exact hcs i (by omega)
  · have := set_here (w := (W.alloc o).setCell ⟨w.heap.size + 1, k, none⟩ (.complex .f64 x y)) (j := 0) (v := .slice (some ⟨w.heap.size + 1, 0, none⟩) (k + 1) n) (set_keep (al_keep h.b2) (by show w.heap.size + 2 ≠ w.heap.size + 1; omega))
    simpa using this
theorem firstOf_any (cr ci n : Nat) (hn : n ≤ 400) (w : World) : Calls Tryd.prog 29 #[.complex .f64 cr ci, .int .i64 n, .func (.func 24) #[] #[]] w fun e w' => e = .returned (.tuple #[.slice (some ⟨w.heap.size + 1, 0, none⟩) n n, .bool true]) ∧ Below w.heap.size w w' ∧ ∃ x y arr, w'.heap[w.heap.size + 1]? = some (.cells arr 27 (0, 0)) ∧ Nums cr ci n n x y arr := by
  have mk := mk_list n hn
  refine (callsIn_wide (n := 6)).1 ?_
  refine callsIn_of_wp_marks Tryd.func29 rfl trivial ?_ rfl
  simp only [Tryd.ntmps29, List.size_toArray, List.length_cons, List.length_nil, Nat.reduceAdd, Nat.reduceSub, Array.replicate_succ, Array.replicate_zero, List.push_toArray, List.append_toArray, List.nil_append, List.cons_append]
  refine (wpIn_wide).2 ?_
  go_wp2
  go_step3
  go_wp2
  go_step3
  go_wp2_with (go_at_call 54; refine (orbitOf_any cr ci _).mono ?_; rintro e w1 ⟨rfl, rfl⟩)
  refine (wpIn_wide (n := 6)).1 ?_
  have hsz : (((((w.alloc (Obj.cells #[Value.int IntKind.i64 n] 3)).alloc (Obj.cells (madeCells #[Value.complex FloatKind.f64 0 0] n) 27)).alloc (Obj.cells #[Value.slice (some { block := w.heap.size + 1, off := 0 }) 0 n] 29)).alloc (Obj.cells #[Value.complex FloatKind.f64 cr ci] 27)).alloc (Obj.cells #[Value.func (Fn.func 24) #[] #[]] 55)).heap.size = w.heap.size + 5 := by simp
  refine range_calls (m := 4) (gf := 67) (lb := #[.pointer (some ⟨w.heap.size + 1 + 1 + 1 + 1, 0, none⟩), .pointer (some ⟨w.heap.size + 1 + 1 + 1, 0, none⟩)]) rfl (Eng.enters_of Tryd.func67 rfl (by kernel_rfl)) (fun fid => ?_)
  rw [hsz]
  generalize hlp : rec0 fid _ _ _ _ _ = lp
  refine (orb_it 4 (w.heap.size + 5 + 1) (w.heap.size + 1 + 1 + 1 + 1) (w.heap.size + 1 + 1 + 1) cr ci n (FJ cr ci n w lp) (fun W => ∃ lq : Loop, lq.pending = some (.exit 0) ∧ lq.state = .done ∧ ∃ x y, FJ cr ci n w lq n x y W) ?hM ?hY (by omega) _ ?h0).mono ?fin
  case hM => exact fun k x y W h => h.le
  case h0 =>
    refine ⟨by omega, by go_grown, ?_, ⟨madeCells #[.complex .f64 0 0] n, ?_, by simp [madeCells], fun _ => 0, fun _ => 0, rfl, rfl, rfl, rfl, fun i hi => by omega, fun i hi => by omega⟩, ?_, ?_, ?_, ?_, ?_⟩
    all_goals repeat (first | exact al_new (by simp) | refine al_keep ?_)
  case hY =>
    intro k x y W hJ
    have hk := hJ.le
    have HJ := Lib.hid hJ
    have h1 := hJ.turn { lp with state := .busy }
    have H1 := Lib.hid h1
    obtain ⟨W1, hW1⟩ : ∃ W1, W1 = W.putObj (w.heap.size + 6) (.loop { lp with state := .busy }) := ⟨_, rfl⟩
    rw [← hW1] at h1
    have h1' := h1
    have HF := Lib.hid h1'
    clear h1'
    obtain ⟨c0, f0⟩ := cell_of h1.b0
    obtain ⟨c2, f2⟩ := cell_of h1.b2
    have hb6 := hJ.b6
    refine yield_round hb6 (by rw [← hlp]; rfl) ?_
    rw [← hlp]
    simp only [rec0]
    gi_wp2
    refine ⟨_, run_beginRound hb6 (by rw [← hlp]; rfl), ?_⟩
    rw [← hW1]
    have HW := Lib.hid hW1
    clear hJ mk hW1
    obtain ⟨arr, b1, hsz1, X, Y, x0, y0, xk, yk, hst, hcs⟩ := h1.b1
    have hl6 := h1.lt
    by_cases hkn : k = n
    · subst hkn
      gi_wp2
      refine ⟨_, _, run_endRound (some (.exit 0)) HF.out.b6, .inr ⟨rfl, ?_⟩⟩
      exact ⟨_, rfl, rfl, x, y, HF.out.turn _⟩
    · have hne : ¬ ((k : Int) = (n : Int)) := by omega
      have hka : k < arr.size := by omega
      have c1 : W1.cell? ⟨w.heap.size + 1, k, none⟩ = some arr[k] := by
        unfold World.cell?
        simp only [b1]
        exact Array.getElem?_eq_getElem hka
      have f1 : W1.frozen? ⟨w.heap.size + 1, k, none⟩ = false := by
        unfold World.frozen?
        simp only [b1]
        simp
      have c1' : (W1.alloc (.cells #[.complex .f64 x y] 27)).cell? ⟨w.heap.size + 1, k, none⟩ = some arr[k] := (World.cell?_alloc_old _ _ _ (by show w.heap.size + 1 ≠ W1.heap.size; omega)).trans c1
      have f1' : (W1.alloc (.cells #[.complex .f64 x y] 27)).frozen? ⟨w.heap.size + 1, k, none⟩ = false := by
        rw [← f1]
        exact World.frozen?_of_block (Below.heap_alloc _ _ _ (by show w.heap.size + 1 < W1.heap.size; omega))
      have hs : (store ⟨w.heap.size + 1, k, none⟩ (.complex .f64 x y)).run Tryd.prog (W1.alloc (.cells #[.complex .f64 x y] 27)) = .ok () ((W1.alloc (.cells #[.complex .f64 x y] 27)).setCell ⟨w.heap.size + 1, k, none⟩ (.complex .f64 x y)) := by
        rw [run_store _ _ _ _ _ rfl]
        simp [stored, c1', f1']
      have c2' : (W1.alloc (.cells #[.complex .f64 x y] 27)).cell? ⟨w.heap.size + 1 + 1, 0, none⟩ = some (.slice (some ⟨w.heap.size + 1, 0, none⟩) k n) := (World.cell?_alloc_old _ _ _ (by show w.heap.size + 1 + 1 ≠ W1.heap.size; omega)).trans c2
      have f2' : (W1.alloc (.cells #[.complex .f64 x y] 27)).frozen? ⟨w.heap.size + 1 + 1, 0, none⟩ = false := by
        rw [← f2]
        exact World.frozen?_of_block (Below.heap_alloc _ _ _ (by show w.heap.size + 1 + 1 < W1.heap.size; omega))
      gi_wp2
      have hk1 : k < n := by omega
      have hp0 : ∀ p q, StR x y cr ci p q → FJ cr ci n w { lp with state := .busy } (k + 1) p q _ := fun p q hs => FJ.push (o := .cells #[.complex .f64 x y] 27) HF.out hk1 hs
      have b3 := set_keep (a := ⟨w.heap.size + 2, 0, none⟩) (v := .slice (some ⟨w.heap.size + 1, 0, none⟩) (k + 1) n) (set_keep (a := ⟨w.heap.size + 1, k, none⟩) (v := .complex .f64 x y) (al_keep (o' := .cells #[.complex .f64 x y] 27) HF.out.b3) (by show w.heap.size + 3 ≠ w.heap.size + 1; omega)) (by show w.heap.size + 3 ≠ w.heap.size + 2; omega)
      have b4 := set_keep (a := ⟨w.heap.size + 2, 0, none⟩) (v := .slice (some ⟨w.heap.size + 1, 0, none⟩) (k + 1) n) (set_keep (a := ⟨w.heap.size + 1, k, none⟩) (v := .complex .f64 x y) (al_keep (o' := .cells #[.complex .f64 x y] 27) HF.out.b4) (by show w.heap.size + 4 ≠ w.heap.size + 1; omega)) (by show w.heap.size + 4 ≠ w.heap.size + 2; omega)
      have b6 := set_keep (a := ⟨w.heap.size + 2, 0, none⟩) (v := .slice (some ⟨w.heap.size + 1, 0, none⟩) (k + 1) n) (set_keep (a := ⟨w.heap.size + 1, k, none⟩) (v := .complex .f64 x y) (al_keep (o' := .cells #[.complex .f64 x y] 27) HF.out.b6) (by show w.heap.size + 6 ≠ w.heap.size + 1; omega)) (by show w.heap.size + 6 ≠ w.heap.size + 2; omega)
      subst hlp
      refine ⟨_, _, run_endRound none b6, .inl ⟨rfl, ?_, ?_, fun p q W2 hs hd => ((hp0 p q hs).turn _).drawn hd⟩⟩
      · exact (cell_of ((World.putObj_heap_other (by show w.heap.size + 4 ≠ w.heap.size + 6; omega)).trans b4)).1
      · exact (cell_of ((World.putObj_heap_other (by show w.heap.size + 3 ≠ w.heap.size + 6; omega)).trans b3)).1
  case fin =>
    rintro e W' ⟨⟨v, rfl⟩, lq, hp, hst, x, y, hF⟩
    refine ⟨⟨v, rfl⟩, lq, hF.b6, by rw [hst]; decide, ?_⟩
    have hG := hF.turn { lq with state := .exhausted }
    rw [show w.heap.size + 5 + 1 = w.heap.size + 6 from rfl]
    generalize W'.putObj (w.heap.size + 6) (.loop { lq with state := .exhausted }) = W2 at hG ⊢
    rw [hp]
    obtain ⟨c2, f2⟩ := cell_of hG.b2
    have HG := Lib.hid hG
    clear hF hG hp hst mk hlp
    simp only []
    refine wpIn_wide.2 ?_
    go_wp2
    rw [Exit.noGoto_ret]
    have hG := HG.out
    refine ⟨by simp, .inl ⟨_, _, rfl, run_takeDeferred hG.b5, ?_⟩⟩
    refine ⟨_, results_tmp2 rfl _ _ _, rfl, ?_, ?_⟩
    · have hb := hG.bel
      exact ⟨hb.os, hb.tape, hb.output, by have := hb.size; simpa using this, fun j hj => (World.putObj_heap_other (by omega)).trans (hb.block j hj)⟩
    · obtain ⟨arr, h1, h2⟩ := hG.b1
      exact ⟨x, y, arr, (World.putObj_heap_other (by omega)).trans h1, h2⟩
end Go.Proofs.YtjpmpjcenajmbaaDoor
