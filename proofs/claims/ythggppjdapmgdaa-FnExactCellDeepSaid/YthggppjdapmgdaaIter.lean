/- A range over a function: one round. No program in sight. -/
import Derived.Test.YthggppjdapmgdaaRnd
namespace Go.Proofs.Ythggppjdapmgdaa.Eng
set_option linter.unusedSimpArgs false
set_option linter.unusedVariables false
open Go Go.RowKit

/-- The body's jump that stays pending. -/
def jumpOf : Ex → Option Code
  | .normal => none
  | .exit id => some (.exit id)
  | .ret => some .ret
/-- Slots set, one after the other. -/
def setAll : List SVal → List (Tmp × SVal) → List SVal
  | T, [] => T
  | T, (t, v) :: r => setAll (T.set t v) r
theorem fits_setAll {E : Env} {ρ : Pl} : ∀ (r : List (Tmp × SVal)) {T : List SVal} {vs : Array Value}, Fits E ρ T vs.toList →
    Fits E ρ (setAll T r) ((r.map fun p => (p.1, p.2.den E ρ)).foldl (fun (ts : Array Value) p => ts.setIfInBounds p.1 p.2) vs).toList
  | [], _, _, h => h
  | (t, v) :: r, T, vs, h => by
    simp only [setAll, List.map_cons, List.foldl_cons]
    exact fits_setAll r (by simpa using Fits.set v h t)
/-- The loop's record is block lr, and no other block is it. -/
def RecAt (H : List HE) (lr : Nat) : Prop := (∃ b, H[lr]? = some (.blk b) ∧ b.ob = some (.obj 0)) ∧ ∀ m b, H[m]? = some (.blk b) → b.ob = some (.obj 0) → m = lr
/-- E but for what its object 0 is. -/
structure EqO (E E' : Env) : Prop where
  i : E'.i = E.i
  b : E'.b = E.b
  v : E'.v = E.v
  fi : E'.fi = E.fi
  fb : E'.fb = E.fb
  o : ∀ j, j ≠ 0 → E'.o j = E.o j
theorem EqO.setO {E : Env} {o : Obj} (h : cellsObj o = false) : EqO E (E.setO 0 o h) := ⟨rfl, rfl, rfl, rfl, rfl, fun j hj => by simp [Env.setO, hj]⟩
theorem EqO.trans {A B C : Env} (h : EqO A B) (k : EqO B C) : EqO A C := ⟨k.i.trans h.i, k.b.trans h.b, k.v.trans h.v, k.fi.trans h.fi, k.fb.trans h.fb, fun j hj => (k.o j hj).trans (h.o j hj)⟩

theorem jump_post {P : Program} {L : Nat} {R : Ending → World → Prop} {a : Act} {w : World} {r : Loop} {x : Ex} (hl : w.heap[L]? = some (.loop r))
    (hR : R (.returned (.bool (jumpOf x).isNone)) (w.putObj L (.loop { r with state := if (jumpOf x).isNone then .ready else .done, pending := jumpOf x }))) : roundPost P L R x.toExit a w := by
  cases x with
  | normal => exact ⟨_, _, run_endRound none hl, hR⟩
  | exit id => exact ⟨_, _, run_endRound (some (.exit id)) hl, hR⟩
  | ret => exact ⟨_, _, run_endRound (some .ret) hl, hR⟩

section
variable {X : Cx} {E : Env} {ρ : Pl} {kn : Kn}
theorem rec_heap {w0 : Wb} {w : World} {H : List HE} (h : RelH w0 E H ρ w) {lr : Nat} (hr : RecAt H lr) : w.heap[(ρ lr).1]? = some (E.o 0) := by
  obtain ⟨⟨b, h1, h2⟩, _⟩ := hr
  exact ((h.blk lr b h1).obj h2).2.2
/-- A round: the assignments, then the body, walked by the reckoner; the record is turned before and behind. -/
theorem round_ok {w0 : Wb} (hX : ∀ E', EqO E E' → XOk X w0 E') (hk : ∀ E', EqO E E' → kn.ok E') (hm : X.P.follows .mixedOrders = true) {n m : Nat} {T0 : List SVal} {H : List HE} {lr : Nat} {r : Loop} (hro : E.o 0 = .loop r) (hrs : r.state = .ready)
    (hT : Fits E ρ T0 r.tmps.toList) {args : List SVal} (hpa : plainCode r.assign = true) (hpb : plainCode r.body = true) {s1 s2 : St} {x : Ex}
    (h1 : exec X kn n none r.assign ⟨setAll T0 (r.params.toList.zip args), H⟩ = .ok (.normal, s1)) (h2 : exec X kn n none r.body s1 = .ok (x, s2)) (hr0 : RecAt H lr) (hr1 : RecAt s1.H lr) (hr2 : RecAt s2.H lr) {w : World} (hH : RelH w0 E H ρ w) :
    RoundIn Fence.wide m X.P (ρ lr).1 r.fn (((r.params.toList.zip args).map fun p => (p.1, p.2.den E ρ)).foldl (fun (ts : Array Value) p => ts.setIfInBounds p.1 p.2) r.tmps) r.assign r.body w fun e w' =>
      e = .returned (.bool (jumpOf x).isNone) ∧ ∃ ρ' E', EqO E E' ∧ E'.o 0 = .loop { r with state := if (jumpOf x).isNone then .ready else .done, pending := jumpOf x } ∧ RelH w0 E' s2.H ρ' w' ∧ Via H ρ s2.H ρ' := by
  refine roundIn_of_wpIn trivial ?_
  have hE : EqO E E := ⟨rfl, rfl, rfl, rfl, rfl, fun _ _ => rfl⟩
  have hs : Sat (H, ρ, []) w0 E ⟨setAll T0 (r.params.toList.zip args), H⟩ ρ { tmps := ((r.params.toList.zip args).map fun p => (p.1, p.2.den E ρ)).foldl (fun (ts : Array Value) p => ts.setIfInBounds p.1 p.2) r.tmps, defers := [] } w :=
    ⟨fits_setAll _ hT, rfl, hH, Via.refl _ _⟩
  refine wpIn_mono (exec_rf (l := some (ρ lr).1) (hk E hE) (hX E hE) hm n none r.assign _ _ _ hpa h1 ρ _ w hs) ?_
  rintro e a1 w1 ⟨rfl, ρ1, hs1⟩
  have hv1 : ρ1 lr = ρ lr := (hs1.v lr (by obtain ⟨⟨b, hb, _⟩, _⟩ := hr0; exact stood_blk hb)).2
  have hrec1 := rec_heap hs1.h hr1
  rw [hv1, hro] at hrec1
  refine ⟨_, run_beginRound hrec1 hrs, ?_⟩
  obtain ⟨⟨b1, hb1, hb1'⟩, hu1⟩ := hr1
  have hH2 := hs1.h.setO (o := .loop { r with state := .busy }) (h := rfl) hb1 hb1' hu1
  rw [hv1] at hH2
  have hE2 : EqO E (E.setO 0 (.loop { r with state := .busy }) rfl) := EqO.setO rfl
  have hs2 : Sat (H, ρ, []) w0 (E.setO 0 (.loop { r with state := .busy }) rfl) s1 ρ1 a1 (w1.putObj (ρ lr).1 (.loop { r with state := .busy })) := ⟨hs1.t.setO, hs1.d, hH2, hs1.v⟩
  refine wpIn_mono (exec_rf (l := some (ρ lr).1) (hk _ hE2) (hX _ hE2) hm n none r.body _ _ _ hpb h2 ρ1 a1 _ hs2) ?_
  rintro e a3 w3 ⟨rfl, ρ3, hs3⟩
  have hv3 : ρ3 lr = ρ lr := (hs3.v lr (by obtain ⟨⟨b, hb, _⟩, _⟩ := hr0; exact stood_blk hb)).2
  have hrec3 := rec_heap hs3.h hr2
  rw [hv3] at hrec3
  have ho : (E.setO 0 (.loop { r with state := .busy }) rfl).o 0 = .loop { r with state := .busy } := by simp [Env.setO]
  rw [ho] at hrec3
  refine jump_post hrec3 ⟨rfl, ρ3, ?_⟩
  obtain ⟨⟨b2, hb2, hb2'⟩, hu2⟩ := hr2
  have hH4 := hs3.h.setO (o := .loop { r with state := if (jumpOf x).isNone then .ready else .done, pending := jumpOf x }) (h := rfl) hb2 hb2' hu2
  rw [hv3] at hH4
  exact ⟨_, hE2.trans (EqO.setO rfl), by simp [Env.setO], hH4, hs3.v⟩
end
mutual
theorem SE.den_eqO {E E' : Env} (h : EqO E E') : ∀ e : SE, e.den E' = e.den E
  | .var i => by simp only [SE.den, h.i]
  | .lit _ => rfl
  | .bin _ _ a b => by simp only [SE.den, SE.den_eqO h a, SE.den_eqO h b]
  | .wrap _ a => by simp only [SE.den, SE.den_eqO h a]
  | .ite c a b => by simp only [SE.den, SE.den_eqO h a, SE.den_eqO h b, SB.den_eqO h c]
  | .app _ _ xs => by simp only [SE.den, SL.den_eqO h xs, h.fi]
theorem SB.den_eqO {E E' : Env} (h : EqO E E') : ∀ e : SB, e.den E' = e.den E
  | .var i => by simp only [SB.den, h.b]
  | .lit _ => rfl
  | .cmp _ a b => by simp only [SB.den, SE.den_eqO h a, SE.den_eqO h b]
  | .not a => by simp only [SB.den, SB.den_eqO h a]
  | .and a b => by simp only [SB.den, SB.den_eqO h a, SB.den_eqO h b]
  | .beq a b => by simp only [SB.den, SB.den_eqO h a, SB.den_eqO h b]
  | .app _ _ xs => by simp only [SB.den, SL.den_eqO h xs, h.fb]
theorem SL.den_eqO {E E' : Env} (h : EqO E E') : ∀ e : SL, e.den E' = e.den E
  | .nil => rfl
  | .cons x xs => by simp only [SL.den, SE.den_eqO h x, SL.den_eqO h xs]
end
section
variable {E E' : Env} {ρ : Pl}
theorem At.den_eqO (h : EqO E E') (a : At) : a.den E' ρ = a.den E ρ := by
  cases a <;> first | rfl | simp only [At.den, SE.den_eqO h, SB.den_eqO h, h.v]
theorem CV.den_eqO (h : EqO E E') (c : CV) : c.den E' ρ = c.den E ρ := by
  cases c with
  | one a => exact At.den_eqO h a
  | agg cs => simp only [CV.den]; rw [List.map_congr_left fun a _ => At.den_eqO h a]
theorem SVal.den_eqO (h : EqO E E') (s : SVal) : s.den E' ρ = s.den E ρ := by
  cases s with
  | cv c => exact CV.den_eqO h c
  | tup cs => simp only [SVal.den]; rw [List.map_congr_left fun c _ => CV.den_eqO h c]
  | any => rfl
theorem TOk.eqO {T : List SVal} {a : Act} (ht : TOk E ρ T a) (h : EqO E E') : TOk E' ρ T a := Fits.turn ht (fun s _ _ => (SVal.den_eqO h s).symm)
theorem Kn.ok_eqO {kn : Kn} (hk : kn.ok E) (h : EqO E E') : kn.ok E' := fun p hp => by rw [SB.den_eqO h]; exact hk p hp
end
/-! ### The call of yield -/
section
variable {X : Cx} {E : Env} {ρ : Pl} {kn : Kn} {B : Base} {P : Program}
theorem yield_exec {o : Oper} {c : Call} {y L : Nat} {a : Act} {w : World} (hop : o.op = .call c) (hcal : c.callee = .value (.tmp y)) (hy : a.eval (.tmp y) = .func (.yield L) #[] #[]) {vs : Array Value} (hargs : c.args.map a.eval = vs) {r : Loop} (hl : w.heap[L]? = some (.loop r)) (hs : vs.size = r.params.size) :
    (execOp a.eval o).run P w = .ok (.round L r.fn ((r.params.zip vs).foldl (fun tmps (t, a) => tmps.setIfInBounds t a) r.tmps) r.assign r.body) w := by
  unfold execOp
  simp only [hop]
  simp only [resolve, hcal, hy, Deferred.ofValue, Sem.run_bind, Sem.run_pure, Result.andThen_ok, invoke, hargs]
  have := run_yield (P := P) hl hs
  simpa using this
theorem zip_fold (ps : Array Tmp) (args : List SVal) (ts : Array Value) : (ps.zip (args.map (SVal.den E ρ)).toArray).foldl (fun (tmps : Array Value) (t, a) => tmps.setIfInBounds t a) ts = ((ps.toList.zip args).map fun p => (p.1, p.2.den E ρ)).foldl (fun (ts : Array Value) p => ts.setIfInBounds p.1 p.2) ts := by
  rw [← Array.foldl_toList, Array.toList_zip]
  congr 1
  simp [List.zip_map_right]
theorem wpOpsIn_app {F : Fence} {n : Nat} {ops : Array Oper} {Q1 Q : Exit → Act → World → Prop} (hq : ∀ e a w, e ≠ .normal → Q1 e a w → Q e a w) {l2 : List Nat} (h2 : ∀ a w, Q1 .normal a w → wpOpsIn F n P ops Q l2 a w) : ∀ (l : List Nat) (a : Act) (w : World), wpOpsIn F n P ops Q1 l a w → wpOpsIn F n P ops Q (l ++ l2) a w
  | [], a, w, h => h2 a w h
  | i :: r, a, w, h => by
    unfold wpOpsIn at h
    rw [List.cons_append]
    unfold wpOpsIn
    cases ho : ops[i]? with
    | none => simp only [ho] at h ⊢; exact wpOpsIn_app hq h2 r a w h
    | some o =>
      simp only [ho] at h ⊢
      split
      · rename_i hw
        rw [if_pos hw] at h
        obtain ⟨h1, h3⟩ := h
        refine ⟨h1, ?_⟩
        generalize (o.semAt F.round a.eval).run P w = z at *
        have lo : LetsOut Q1 → LetsOut Q := fun ⟨a, w, h⟩ => ⟨a, w, hq _ _ _ (by simp) h⟩
        cases z with
        | ok x w' =>
          cases x <;> simp only [Oper.uponIn] at h3 ⊢ <;>
            first
              | exact wpOpsIn_app hq h2 r _ _ h3
              | exact ⟨h3.1, CallsIn.mono h3.2 (fun e w'' he => by cases e <;> first | exact wpOpsIn_app hq h2 r _ _ he | exact hq _ _ _ (by simp) he | exact lo he)⟩
              | exact ⟨h3.1, RowsIn.mono h3.2 (fun _ _ he => wpOpsIn_app hq h2 r _ _ he)⟩
              | exact ⟨h3.1, RoundIn.mono h3.2 (fun e w'' he => by cases e <;> first | exact wpOpsIn_app hq h2 r _ _ he | exact hq _ _ _ (by simp) he | exact lo he)⟩
        | halt x w' => cases x <;> simp only [Oper.uponIn] at h3 ⊢ <;> first | exact hq _ _ _ (by simp) h3 | exact h3
      · rename_i hw
        rw [if_neg hw] at h
        exact ⟨h.1, wpOpsIn_app hq h2 r _ w h.2⟩
/-- What the walk knows behind a region that ends in a call of yield. -/
structure Yielded (B : Base) (w0 : Wb) (E : Env) (r : Loop) (x : Ex) (s : St) (a : Act) (w : World) : Prop where
  out : ∃ ρ' E', EqO E E' ∧ E'.o 0 = .loop { r with state := if (jumpOf x).isNone then .ready else .done, pending := jumpOf x } ∧ Sat B w0 E' s ρ' a w
/-- A region whose last operation calls yield. -/
theorem yield_region {w0 : Wb} (hX : ∀ E', EqO E E' → XOk X w0 E') (hk : ∀ E', EqO E E' → kn.ok E') (hm : X.P.follows .mixedOrders = true) {n m id : Nat} {ops : Array Oper} (hpl : ops.toList.all plainOp = true) {k : Nat} (hsz : ops.size = k + 1) {oc : Oper} (hoc : ops[k]? = some oc) (hg : oc.guard = none)
    {c : Call} {y lr : Nat} (hop : oc.op = .call c) (hcal : c.callee = .value (.tmp y)) {s sA : St} {nids : List Nat} (hA : runSeq { X with call := callTop X (exec X kn n) } kn ops nids (List.range k) s = .ok sA) (hy : sA.T[y]? = some (.cv (.one (.yld lr)))) {args : List SVal} (hargs : mapAop sA.T c.args = some args)
    {T0 : List SVal} {r : Loop} (hro : E.o 0 = .loop r) (hrs : r.state = .ready) (hT : ∀ ρ', Via B.1 B.2.1 sA.H ρ' → Fits E ρ' T0 r.tmps.toList) (hln : args.length = r.params.size) (hpa : plainCode r.assign = true) (hpb : plainCode r.body = true) {s1 s2 : St} {x : Ex}
    (h1 : exec X kn n none r.assign ⟨setAll T0 (r.params.toList.zip args), sA.H⟩ = .ok (.normal, s1)) (h2 : exec X kn n none r.body s1 = .ok (x, s2)) (hr0 : RecAt sA.H lr) (hr1 : RecAt s1.H lr) (hr2 : RecAt s2.H lr) (hin : sA.T.all (SVal.inH sA.H) = true)
    {a : Act} {w : World} (hs : Sat B w0 E s ρ a w) {Q : Exit → Act → World → Prop} (hQ : ∀ a' w', Yielded B w0 E r x ⟨putT sA.T oc.dst (.cv (.one (.bool (.lit (jumpOf x).isNone)))), s2.H⟩ a' w' → Q .normal a' w') :
    (Code.region id ops false).wpIn Fence.wide (m + 1) X.P Q a w := by
  have hE : EqO E E := ⟨rfl, rfl, rfl, rfl, rfl, fun _ _ => rfl⟩
  have hX' := (hX E hE).with_call (exec_ok' (hk E hE) (hX E hE) hm n).1
  have hseq := runSeq_ok (X := { X with call := callTop X (exec X kn n) }) (Q := After B w0 E .normal sA) (hk E hE) hX' _ _ _ hA ρ a w hs (fun ρ' a' w' hs' => ⟨rfl, ρ', hs'⟩)
  have hseq' := wpOps_rf (l := none) (n := m + 1) (fun o ho => List.all_eq_true.1 hpl o ho) after_out _ _ _ hseq
  refine wpIn_region ?_
  rw [hsz, List.range_succ]
  refine wpOpsIn_app (fun e a w hne hq => absurd hq.1 (by simpa [Ex.toExit] using hne)) (fun a1 w1 hq => ?_) _ a w hseq'
  obtain ⟨-, ρ1, hs1⟩ := hq
  unfold wpOpsIn
  simp only [hoc, show Region.wanted oc (yielded ops a1.tmps) = true from by unfold Region.wanted; rw [hg], if_true]
  refine ⟨fun _ _ => trivial, ?_⟩
  have hyv : a1.eval (.tmp y) = .func (.yield (ρ1 lr).1) #[] #[] := by
    have := hs1.t.get hy rfl
    simp [Act.eval, this, SVal.den, CV.den, At.den]
  have hrec := rec_heap hs1.h hr0
  rw [hro] at hrec
  have hav := mapAop_den hs1.t hargs
  have hex := yield_exec (P := X.P) hop hcal hyv hav hrec (by simp [hln])
  rw [show Fence.wide.round = none from rfl, Oper.semAt_none, hex, zip_fold]
  simp only [Oper.uponIn]
  refine ⟨fun hd => absurd hd (by simp [Fence.wide]), ?_⟩
  refine RoundIn.mono (round_ok (m := m) hX hk hm hro hrs (hT ρ1 hs1.v) hpa hpb h1 h2 hr0 hr1 hr2 hs1.h) ?_
  rintro e w2 ⟨rfl, ρ2, E2, hE2, ho2, hH2, hv2⟩
  simp only [wpOpsIn]
  refine hQ _ _ ⟨ρ2, E2, hE2, ho2, ?_, by rw [put_defers]; exact hs1.d, hH2, hs1.v.trans hv2⟩
  have ht := (hs1.t.eqO hE2).inH (fun l hl => (hv2 l hl).2) hin
  exact putT_ok ht oc.dst (.cv (.one (.bool (.lit (jumpOf x).isNone))))
end
end Go.Proofs.Ythggppjdapmgdaa.Eng
