import Derived.Test.YtjbpaejjpamcpaaRnd
/- A range over a function: one round. No program in sight. -/
namespace Go.Proofs.Ytjbpaejjpamcpaa.Eng
set_option linter.unusedSimpArgs false
set_option linter.unusedVariables false
open Go Go.RowKit

/-- The body's jump that stays pending. -/
def jumpOf : Ex → Option Code
  | .normal => none
  | .exit id => some (.exit id)
  | .ret => some .ret
/-- Slots set, one after the other. -/
def setAll : List SVal → List (Tmp × SVal) → List SVal
  | T, [] => T
  | T, (t, v) :: r => setAll (T.set t v) r
theorem fits_setAll {E : Env} {ρ : Pl} : ∀ (r : List (Tmp × SVal)) {T : List SVal} {vs : Array Value}, Fits E ρ T vs.toList →
    Fits E ρ (setAll T r) ((r.map fun p => (p.1, p.2.den E ρ)).foldl (fun (ts : Array Value) p => ts.setIfInBounds p.1 p.2) vs).toList
  | [], _, _, h => h
  | (t, v) :: r, T, vs, h => by
    simp only [setAll, List.map_cons, List.foldl_cons]
    exact fits_setAll r (by simpa using Fits.set v h t)
/-- The loop's record is block lr, and no other block is it. -/
def RecAt (H : List HE) (lr : Nat) : Prop := (∃ b, H[lr]? = some (.blk b) ∧ b.ob = some (.obj 0)) ∧ ∀ m b, H[m]? = some (.blk b) → b.ob = some (.obj 0) → m = lr
/-- E but for what its object 0 is. -/
structure EqO (E E' : Env) : Prop where
  i : E'.i = E.i
  b : E'.b = E.b
  v : E'.v = E.v
  fi : E'.fi = E.fi
  fb : E'.fb = E.fb
  o : ∀ j, j ≠ 0 → E'.o j = E.o j
theorem EqO.setO {E : Env} {o : Obj} (h : cellsObj o = false) : EqO E (E.setO 0 o h) := ⟨rfl, rfl, rfl, rfl, rfl, fun j hj => by simp [Env.setO, hj]⟩
theorem EqO.trans {A B C : Env} (h : EqO A B) (k : EqO B C) : EqO A C := ⟨k.i.trans h.i, k.b.trans h.b, k.v.trans h.v, k.fi.trans h.fi, k.fb.trans h.fb, fun j hj => (k.o j hj).trans (h.o j hj)⟩

theorem jump_post {P : Program} {L : Nat} {R : Ending → World → Prop} {a : Act} {w : World} {r : Loop} {x : Ex} (hl : w.heap[L]? = some (.loop r))
    (hR : R (.returned (.bool (jumpOf x).isNone)) (w.putObj L (.loop { r with state := if (jumpOf x).isNone then .ready else .done, pending := jumpOf x }))) : roundPost P L R x.toExit a w := by
  cases x with
  | normal => exact ⟨_, _, run_endRound none hl, hR⟩
  | exit id => exact ⟨_, _, run_endRound (some (.exit id)) hl, hR⟩
  | ret => exact ⟨_, _, run_endRound (some .ret) hl, hR⟩

section
variable {X : Cx} {E : Env} {ρ : Pl} {kn : Kn}
theorem rec_heap {w0 : Wb} {w : World} {H : List HE} (h : RelH w0 E H ρ w) {lr : Nat} (hr : RecAt H lr) : w.heap[(ρ lr).1]? = some (E.o 0) := by
  obtain ⟨⟨b, h1, h2⟩, _⟩ := hr
  exact ((h.blk lr b h1).obj h2).2.2
/-- A round: the assignments, then the body, walked by the reckoner; the record is turned before and behind. -/
theorem round_ok {w0 : Wb} (hX : ∀ E', EqO E E' → XOk X w0 E') (hk : ∀ E', EqO E E' → kn.ok E') (hm : X.P.follows .mixedOrders = true) {n m : Nat} {T0 : List SVal} {H : List HE} {lr : Nat} {r : Loop} (hro : E.o 0 = .loop r) (hrs : r.state = .ready)
    (hT : Fits E ρ T0 r.tmps.toList) {args : List SVal} (hpa : plainCode r.assign = true) (hpb : plainCode r.body = true) {s1 s2 : St} {x : Ex}
    (h1 : exec X kn n none r.assign ⟨setAll T0 (r.params.toList.zip args), H⟩ = .ok (.normal, s1)) (h2 : exec X kn n none r.body s1 = .ok (x, s2)) (hr0 : RecAt H lr) (hr1 : RecAt s1.H lr) (hr2 : RecAt s2.H lr) {w : World} (hH : RelH w0 E H ρ w) :
    RoundIn Fence.wide m X.P (ρ lr).1 r.fn (((r.params.toList.zip args).map fun p => (p.1, p.2.den E ρ)).foldl (fun (ts : Array Value) p => ts.setIfInBounds p.1 p.2) r.tmps) r.assign r.body w fun e w' =>
      e = .returned (.bool (jumpOf x).isNone) ∧ ∃ ρ' E', EqO E E' ∧ E'.o 0 = .loop { r with state := if (jumpOf x).isNone then .ready else .done, pending := jumpOf x } ∧ RelH w0 E' s2.H ρ' w' ∧ Via H ρ s2.H ρ' := by
  refine roundIn_of_wpIn trivial ?_
  have hE : EqO E E := ⟨rfl, rfl, rfl, rfl, rfl, fun _ _ => rfl⟩
  have hs : Sat (H, ρ, []) w0 E ⟨setAll T0 (r.params.toList.zip args), H⟩ ρ { tmps := ((r.params.toList.zip args).map fun p => (p.1, p.2.den E ρ)).foldl (fun (ts : Array Value) p => ts.setIfInBounds p.1 p.2) r.tmps, defers := [] } w :=
    ⟨fits_setAll _ hT, rfl, hH, Via.refl _ _⟩
  refine wpIn_mono (exec_rf (l := some (ρ lr).1) (hk E hE) (hX E hE) hm n none r.assign _ _ _ hpa h1 ρ _ w hs) ?_
  rintro e a1 w1 ⟨rfl, ρ1, hs1⟩
  have hv1 : ρ1 lr = ρ lr := (hs1.v lr (by obtain ⟨⟨b, hb, _⟩, _⟩ := hr0; exact stood_blk hb)).2
  have hrec1 := rec_heap hs1.h hr1
  rw [hv1, hro] at hrec1
  refine ⟨_, run_beginRound hrec1 hrs, ?_⟩
  obtain ⟨⟨b1, hb1, hb1'⟩, hu1⟩ := hr1
  have hH2 := hs1.h.setO (o := .loop { r with state := .busy }) (h := rfl) hb1 hb1' hu1
  rw [hv1] at hH2
  have hE2 : EqO E (E.setO 0 (.loop { r with state := .busy }) rfl) := EqO.setO rfl
  have hs2 : Sat (H, ρ, []) w0 (E.setO 0 (.loop { r with state := .busy }) rfl) s1 ρ1 a1 (w1.putObj (ρ lr).1 (.loop { r with state := .busy })) := ⟨hs1.t.setO, hs1.d, hH2, hs1.v⟩
  refine wpIn_mono (exec_rf (l := some (ρ lr).1) (hk _ hE2) (hX _ hE2) hm n none r.body _ _ _ hpb h2 ρ1 a1 _ hs2) ?_
  rintro e a3 w3 ⟨rfl, ρ3, hs3⟩
  have hv3 : ρ3 lr = ρ lr := (hs3.v lr (by obtain ⟨⟨b, hb, _⟩, _⟩ := hr0; exact stood_blk hb)).2
  have hrec3 := rec_heap hs3.h hr2
  rw [hv3] at hrec3
  have ho : (E.setO 0 (.loop { r with state := .busy }) rfl).o 0 = .loop { r with state := .busy } := by simp [Env.setO]
  rw [ho] at hrec3
  refine jump_post hrec3 ⟨rfl, ρ3, ?_⟩
  obtain ⟨⟨b2, hb2, hb2'⟩, hu2⟩ := hr2
  have hH4 := hs3.h.setO (o := .loop { r with state := if (jumpOf x).isNone then .ready else .done, pending := jumpOf x }) (h := rfl) hb2 hb2' hu2
  rw [hv3] at hH4
  exact ⟨_, hE2.trans (EqO.setO rfl), by simp [Env.setO], hH4, hs3.v⟩
end
mutual
theorem SE.den_eqO {E E' : Env} (h : EqO E E') : ∀ e : SE, e.den E' = e.den E
  | .var i => by simp only [SE.den, h.i]
  | .lit _ => rfl
  | .bin _ _ a b => by simp only [SE.den, SE.den_eqO h a, SE.den_eqO h b]
  | .wrap _ a => by simp only [SE.den, SE.den_eqO h a]
  | .ite c a b => by simp only [SE.den, SE.den_eqO h a, SE.den_eqO h b, SB.den_eqO h c]
  | .app _ _ xs => by simp only [SE.den, SL.den_eqO h xs, h.fi]
theorem SB.den_eqO {E E' : Env} (h : EqO E E') : ∀ e : SB, e.den E' = e.den E
  | .var i => by simp only [SB.den, h.b]
  | .lit _ => rfl
  | .cmp _ a b => by simp only [SB.den, SE.den_eqO h a, SE.den_eqO h b]
  | .not a => by simp only [SB.den, SB.den_eqO h a]
  | .and a b => by simp only [SB.den, SB.den_eqO h a, SB.den_eqO h b]
  | .beq a b => by simp only [SB.den, SB.den_eqO h a, SB.den_eqO h b]
  | .app _ _ xs => by simp only [SB.den, SL.den_eqO h xs, h.fb]
theorem SL.den_eqO {E E' : Env} (h : EqO E E') : ∀ e : SL, e.den E' = e.den E
  | .nil => rfl
  | .cons x xs => by simp only [SL.den, SE.den_eqO h x, SL.den_eqO h xs]
end
section
variable {E E' : Env} {ρ : Pl}
theorem At.den_eqO (h : EqO E E') (a : At) : a.den E' ρ = a.den E ρ := by
  cases a <;> first | rfl | simp only [At.den, SE.den_eqO h, SB.den_eqO h, h.v]
theorem CV.den_eqO (h : EqO E E') (c : CV) : c.den E' ρ = c.den E ρ := by
  cases c with
  | one a => exact At.den_eqO h a
  | agg cs => simp only [CV.den]; rw [List.map_congr_left fun a _ => At.den_eqO h a]
theorem SVal.den_eqO (h : EqO E E') (s : SVal) : s.den E' ρ = s.den E ρ := by
  cases s with
  | cv c => exact CV.den_eqO h c
  | tup cs => simp only [SVal.den]; rw [List.map_congr_left fun c _ => CV.den_eqO h c]
  | any => rfl
theorem TOk.eqO {T : List SVal} {a : Act} (ht : TOk E ρ T a) (h : EqO E E') : TOk E' ρ T a := Fits.turn ht (fun s _ _ => (SVal.den_eqO h s).symm)
theorem Kn.ok_eqO {kn : Kn} (hk : kn.ok E) (h : EqO E E') : kn.ok E' := fun p hp => by rw [SB.den_eqO h]; exact hk p hp
end
/-! ### The call of yield -/
section
variable {X : Cx} {E : Env} {ρ : Pl} {kn : Kn} {B : Base} {P : Program}
theorem yield_exec {o : Oper} {c : Call} {y L : Nat} {a : Act} {w : World} (hop : o.op = .call c) (hcal : c.callee = .value (.tmp y)) (hy : a.eval (.tmp y) = .func (.yield L) #[] #[]) {vs : Array Value} (hargs : c.args.map a.eval = vs) {r : Loop} (hl : w.heap[L]? = some (.loop r)) (hs : vs.size = r.params.size) :
    (execOp a.eval o).run P w = .ok (.round L r.fn ((r.params.zip vs).foldl (fun tmps (t, a) => tmps.setIfInBounds t a) r.tmps) r.assign r.body) w := by
  unfold execOp
  simp only [hop]
  simp only [resolve, hcal, hy, Deferred.ofValue, Sem.run_bind, Sem.run_pure, Result.andThen_ok, invoke, hargs]
  have := run_yield (P := P) hl hs
  simpa using this
theorem zip_fold (ps : Array Tmp) (args : List SVal) (ts : Array Value) : (ps.zip (args.map (SVal.den E ρ)).toArray).foldl (fun (tmps : Array Value) (t, a) => tmps.setIfInBounds t a) ts = ((ps.toList.zip args).map fun p => (p.1, p.2.den E ρ)).foldl (fun (ts : Array Value) p => ts.setIfInBounds p.1 p.2) ts := by
  rw [← Array.foldl_toList, Array.toList_zip]
  congr 1
  simp [List.zip_map_right]
theorem wpOpsIn_app {F : Fence} {n : Nat} {ops : Array Oper} {Q1 Q : Exit → Act → World → Prop} (hq : ∀ e a w, e ≠ .normal → Q1 e a w → Q e a w) {l2 : List Nat} (h2 : ∀ a w, Q1 .normal a w → wpOpsIn F n P ops Q l2 a w) : ∀ (l : List Nat) (a : Act) (w : World), wpOpsIn F n P ops Q1 l a w → wpOpsIn F n P ops Q (l ++ l2) a w
  | [], a, w, h => h2 a w h
  | i :: r, a, w, h => by
    unfold wpOpsIn at h
    rw [List.cons_append]
    unfold wpOpsIn
    cases ho : ops[i]? with
    | none => simp only [ho] at h ⊢; exact wpOpsIn_app hq h2 r a w h
    | some o =>
      simp only [ho] at h ⊢
      split
      · rename_i hw
        rw [if_pos hw] at h
        obtain ⟨h1, h3⟩ := h
        refine ⟨h1, ?_⟩
        generalize (o.semAt F.round a.eval).run P w = z at *
        have lo : LetsOut Q1 → LetsOut Q := fun ⟨a, w, h⟩ => ⟨a, w, hq _ _ _ (by simp) h⟩
        cases z with
        | ok x w' =>
          cases x <;> simp only [Oper.uponIn] at h3 ⊢ <;>
            first
              | exact wpOpsIn_app hq h2 r _ _ h3
              | exact ⟨h3.1, CallsIn.mono h3.2 (fun e w'' he => by cases e <;> first | exact wpOpsIn_app hq h2 r _ _ he | exact hq _ _ _ (by simp) he | exact lo he)⟩
              | exact ⟨h3.1, RowsIn.mono h3.2 (fun _ _ he => wpOpsIn_app hq h2 r _ _ he)⟩
              | exact ⟨h3.1, RoundIn.mono h3.2 (fun e w'' he => by cases e <;> first | exact wpOpsIn_app hq h2 r _ _ he | exact hq _ _ _ (by simp) he | exact lo he)⟩
        | halt x w' => cases x <;> simp only [Oper.uponIn] at h3 ⊢ <;> first | exact hq _ _ _ (by simp) h3 | exact h3
      · rename_i hw
        rw [if_neg hw] at h
        exact ⟨h.1, wpOpsIn_app hq h2 r _ w h.2⟩
/-- What the walk knows behind a region that ends in a call of yield. -/
structure Yielded (B : Base) (w0 : Wb) (E : Env) (r : Loop) (x : Ex) (s : St) (a : Act) (w : World) : Prop where
  out : ∃ ρ' E', EqO E E' ∧ E'.o 0 = .loop { r with state := if (jumpOf x).isNone then .ready else .done, pending := jumpOf x } ∧ Sat B w0 E' s ρ' a w
/-- A region whose last operation calls yield. -/
theorem yield_region {w0 : Wb} (hX : ∀ E', EqO E E' → XOk X w0 E') (hk : ∀ E', EqO E E' → kn.ok E') (hm : X.P.follows .mixedOrders = true) {n m id : Nat} {ops : Array Oper} (hpl : ops.toList.all plainOp = true) {k : Nat} (hsz : ops.size = k + 1) {oc : Oper} (hoc : ops[k]? = some oc) (hg : oc.guard = none)
    {c : Call} {y lr : Nat} (hop : oc.op = .call c) (hcal : c.callee = .value (.tmp y)) {s sA : St} {nids : List Nat} (hA : runSeq { X with call := callTop X (exec X kn n) } kn ops nids (List.range k) s = .ok sA) (hy : sA.T[y]? = some (.cv (.one (.yld lr)))) {args : List SVal} (hargs : mapAop sA.T c.args = some args)
    {T0 : List SVal} {r : Loop} (hro : E.o 0 = .loop r) (hrs : r.state = .ready) (hT : ∀ ρ', Via B.1 B.2.1 sA.H ρ' → Fits E ρ' T0 r.tmps.toList) (hln : args.length = r.params.size) (hpa : plainCode r.assign = true) (hpb : plainCode r.body = true) {s1 s2 : St} {x : Ex}
    (h1 : exec X kn n none r.assign ⟨setAll T0 (r.params.toList.zip args), sA.H⟩ = .ok (.normal, s1)) (h2 : exec X kn n none r.body s1 = .ok (x, s2)) (hr0 : RecAt sA.H lr) (hr1 : RecAt s1.H lr) (hr2 : RecAt s2.H lr) (hin : sA.T.all (SVal.inH sA.H) = true)
    {a : Act} {w : World} (hs : Sat B w0 E s ρ a w) {Q : Exit → Act → World → Prop} (hQ : ∀ a' w', Yielded B w0 E r x ⟨putT sA.T oc.dst (.cv (.one (.bool (.lit (jumpOf x).isNone)))), s2.H⟩ a' w' → Q .normal a' w') :
    (Code.region id ops false).wpIn Fence.wide (m + 1) X.P Q a w := by
  have hE : EqO E E := ⟨rfl, rfl, rfl, rfl, rfl, fun _ _ => rfl⟩
  have hX' := (hX E hE).with_call (exec_ok' (hk E hE) (hX E hE) hm n).1
  have hseq := runSeq_ok (X := { X with call := callTop X (exec X kn n) }) (Q := After B w0 E .normal sA) (hk E hE) hX' _ _ _ hA ρ a w hs (fun ρ' a' w' hs' => ⟨rfl, ρ', hs'⟩)
  have hseq' := wpOps_rf (l := none) (n := m + 1) (fun o ho => List.all_eq_true.1 hpl o ho) after_out _ _ _ hseq
  refine wpIn_region ?_
  rw [hsz, List.range_succ]
  refine wpOpsIn_app (fun e a w hne hq => absurd hq.1 (by simpa [Ex.toExit] using hne)) (fun a1 w1 hq => ?_) _ a w hseq'
  obtain ⟨-, ρ1, hs1⟩ := hq
  unfold wpOpsIn
  simp only [hoc, show Region.wanted oc (yielded ops a1.tmps) = true from by unfold Region.wanted; rw [hg], if_true]
  refine ⟨fun _ _ => trivial, ?_⟩
  have hyv : a1.eval (.tmp y) = .func (.yield (ρ1 lr).1) #[] #[] := by
    have := hs1.t.get hy rfl
    simp [Act.eval, this, SVal.den, CV.den, At.den]
  have hrec := rec_heap hs1.h hr0
  rw [hro] at hrec
  have hav := mapAop_den hs1.t hargs
  have hex := yield_exec (P := X.P) hop hcal hyv hav hrec (by simp [hln])
  rw [show Fence.wide.round = none from rfl, Oper.semAt_none, hex, zip_fold]
  simp only [Oper.uponIn]
  refine ⟨fun hd => absurd hd (by simp [Fence.wide]), ?_⟩
  refine RoundIn.mono (round_ok (m := m) hX hk hm hro hrs (hT ρ1 hs1.v) hpa hpb h1 h2 hr0 hr1 hr2 hs1.h) ?_
  rintro e w2 ⟨rfl, ρ2, E2, hE2, ho2, hH2, hv2⟩
  simp only [wpOpsIn]
  refine hQ _ _ ⟨ρ2, E2, hE2, ho2, ?_, by rw [put_defers]; exact hs1.d, hH2, hs1.v.trans hv2⟩
  have ht := (hs1.t.eqO hE2).inH (fun l hl => (hv2 l hl).2) hin
  exact putT_ok ht oc.dst (.cv (.one (.bool (.lit (jumpOf x).isNone))))
end
end Go.Proofs.Ytjbpaejjpamcpaa.Eng
/- A range over a function: one turn of the iterator's own loop. No program in sight. -/
namespace Go.Proofs.Ytjbpaejjpamcpaa.Eng
set_option linter.unusedSimpArgs false
set_option linter.unusedVariables false
open Go Go.RowKit

/-- The loop's record is block lr, and no other block is it. -/
def isZero : Option Ob → Bool
  | some (.obj 0) => true
  | _ => false
theorem isZero_iff : ∀ {o : Option Ob}, isZero o = true ↔ o = some (.obj 0)
  | none => by simp [isZero]
  | some (.obj 0) => by simp [isZero]
  | some (.obj (n + 1)) => by simp [isZero]
  | some (.row r) => by simp [isZero]
def isRec : HE → Bool
  | .blk b => isZero b.ob
  | _ => false
def recB (H : List HE) (lr : Nat) : Bool := (match H[lr]? with
  | some h => isRec h
  | none => false) && (List.range H.length).all fun m => m == lr || !(match H[m]? with
  | some h => isRec h
  | none => false)
theorem isRec_iff {b : Blk} : isRec (.blk b) = true ↔ b.ob = some (.obj 0) := isZero_iff
theorem recB_ok {H : List HE} {lr : Nat} (h : recB H lr = true) : RecAt H lr := by
  simp only [recB, Bool.and_eq_true] at h
  obtain ⟨h1, h2⟩ := h
  refine ⟨?_, fun m b hm hb => ?_⟩
  · cases hl : H[lr]? with
    | none => rw [hl] at h1; cases h1
    | some x =>
      rw [hl] at h1
      cases x with
      | blk b => exact ⟨b, rfl, isRec_iff.1 h1⟩
      | free => cases h1
      | dead => cases h1
  · have := List.all_eq_true.1 h2 m (List.mem_range.2 (List.getElem?_eq_some_iff.1 hm).1)
    rw [hm] at this
    simp only [isRec_iff.2 hb, Bool.not_true, Bool.or_false, beq_iff_eq] at this
    exact this
/-- The loop's words: the frame that the record keeps, its slots, its codes. -/
structure RF where
  T0 : List SVal
  ps : Array Tmp
  assign : Code
  body : Code
/-- Of the region that ends in the call of yield: the round inlined. -/
def iterReg (X : Cx) (kn : Kn) (n : Nat) (F : RF) (ops : Array Oper) (s : St) : Res (Ex × St) :=
  match ops[ops.size - 1]? with
  | none => .fail 201
  | some oc => match oc.op, oc.guard with
    | .call c, none => match c.callee with
      | .value (.tmp y) => if ops.toList.all plainOp && decide (0 < ops.size) && plainCode F.assign && plainCode F.body then
          (runSeq { X with call := callTop X (exec X kn n) } kn ops (nidsFrom s.H.length ops.toList) (List.range (ops.size - 1)) ⟨s.T, s.H ++ List.replicate (made ops.toList) .free⟩).bind fun sA =>
          match sA.T[y]?, mapAop sA.T c.args with
          | some (.cv (.one (.yld lr))), some args => if args.length = F.ps.size ∧ (recB sA.H lr && sA.T.all (SVal.inH sA.H)) = true then
              (exec X kn n none F.assign ⟨setAll F.T0 (F.ps.toList.zip args), sA.H⟩).bind fun r1 => match r1 with
                | (.normal, s1) => (exec X kn n none F.body s1).bind fun r2 => if (recB s1.H lr && recB r2.2.H lr) = true then .ok (r2.1, ⟨putT sA.T oc.dst (.cv (.one (.bool (.lit (jumpOf r2.1).isNone)))), r2.2.H⟩) else .fail 206
                | _ => .fail 205
            else .fail 204
          | _, _ => .fail 203
        else .fail 207
      | _ => .fail 202
    | _, _ => .fail 202
/-- One turn: the region with the call of yield, what asks for its answer, the rest. -/
def iterBody (X : Cx) (kn : Kn) (n : Nat) (F : RF) (c : Code) (s : St) : Res (Ex × Ex × St) :=
  match c with
  | .seq (.seq (.region _ ops false) c1) rest => (iterReg X kn n F ops s).bind fun r => (exec X kn n none c1 r.2).bind fun r1 => match r1 with
    | (.normal, s1) => (exec X kn n none rest s1).bind fun r2 => .ok (r.1, r2.1, r2.2)
    | (x, s1) => .ok (r.1, x, s1)
  | _ => .fail 208
/-- What the walk knows behind a turn. -/
def Turn (B : Base) (w0 : Wb) (E : Env) (r : Loop) (x x2 : Ex) (s : St) : Exit → Act → World → Prop := fun e a w => e = x2.toExit ∧ Yielded B w0 E r x s a w
section
variable {X : Cx} {E : Env} {ρ : Pl} {kn : Kn} {B : Base}
theorem iterReg_ok {w0 : Wb} (hX : ∀ E', EqO E E' → XOk X w0 E') (hk : kn.ok E) (hm : X.P.follows .mixedOrders = true) {n m id : Nat} {F : RF} {ops : Array Oper} {s : St} {x : Ex} {s' : St} (h : iterReg X kn n F ops s = .ok (x, s'))
    {r : Loop} (hro : E.o 0 = .loop r) (hrs : r.state = .ready) (hp : r.params = F.ps) (ha : r.assign = F.assign) (hb : r.body = F.body) (hT : ∀ (H : List HE) (ρ' : Pl), Via B.1 B.2.1 H ρ' → Fits E ρ' F.T0 r.tmps.toList)
    {a : Act} {w : World} (hs : Sat B w0 E s ρ a w) {Q : Exit → Act → World → Prop} (hQ : ∀ a' w', Yielded B w0 E r x s' a' w' → Q .normal a' w') : (Code.region id ops false).wpIn Fence.wide (m + 1) X.P Q a w := by
  unfold iterReg at h
  split at h <;> try (cases h; done)
  rename_i oc hoc
  split at h <;> try (cases h; done)
  rename_i c hop hg
  split at h <;> try (cases h; done)
  rename_i y hcal
  split at h <;> try (cases h; done)
  rename_i hpl
  simp only [Bool.and_eq_true, decide_eq_true_eq] at hpl
  obtain ⟨⟨⟨hpl, hpos⟩, hpa⟩, hpb⟩ := hpl
  obtain ⟨sA, hA, h⟩ := Res.bind_ok h
  split at h <;> try (cases h; done)
  rename_i lr args hy hargs
  split at h <;> try (cases h; done)
  rename_i hc
  simp only [Bool.and_eq_true] at hc
  obtain ⟨hln, hr0, hin⟩ := hc
  obtain ⟨⟨x1, s1⟩, h1, h⟩ := Res.bind_ok h
  cases x1 <;> simp only [] at h <;> try (cases h; done)
  obtain ⟨⟨x2, s2⟩, h2, h⟩ := Res.bind_ok h
  simp only [] at h
  split at h <;> try (cases h; done)
  rename_i hr
  simp only [Bool.and_eq_true] at hr
  simp only [Res.ok.injEq, Prod.mk.injEq] at h
  obtain ⟨rfl, rfl⟩ := h
  have hs0 := sat_free hs (made ops.toList)
  exact yield_region hX (fun E' hE => Kn.ok_eqO hk hE) hm hpl (k := ops.size - 1) (by omega) hoc hg hop hcal hA hy hargs hro hrs (hT sA.H) (by rw [hp]; exact hln) (by rw [ha]; exact hpa) (by rw [hb]; exact hpb) (by rw [hp, ha]; exact h1) (by rw [hb]; exact h2) (recB_ok hr0) (recB_ok hr.1) (recB_ok hr.2) hin hs0 hQ
theorem iterBody_ok {w0 : Wb} (hX : ∀ E', EqO E E' → XOk X w0 E') (hk : kn.ok E) (hm : X.P.follows .mixedOrders = true) {n m : Nat} {F : RF} {c : Code} {s : St} {x x2 : Ex} {s' : St} (h : iterBody X kn n F c s = .ok (x, x2, s'))
    {r : Loop} (hro : E.o 0 = .loop r) (hrs : r.state = .ready) (hp : r.params = F.ps) (ha : r.assign = F.assign) (hb : r.body = F.body) (hT : ∀ (H : List HE) (ρ' : Pl), Via B.1 B.2.1 H ρ' → Fits E ρ' F.T0 r.tmps.toList)
    {a : Act} {w : World} (hs : Sat B w0 E s ρ a w) : c.wpIn Fence.wide (m + 1) X.P (Turn B w0 E r x x2 s') a w := by
  unfold iterBody at h
  split at h <;> try (cases h; done)
  rename_i id ops c1 rest
  obtain ⟨⟨x0, sB⟩, h0, h⟩ := Res.bind_ok h
  obtain ⟨⟨x1, sC⟩, h1, h⟩ := Res.bind_ok h
  have plain : ∀ {c : Code} {sx : St} {y : Ex} {sy : St} {Q : Exit → Act → World → Prop}, exec X kn n none c sx = .ok (y, sy) → ∀ a w, Yielded B w0 E r x0 sx a w → (∀ a w, Yielded B w0 E r x0 sy a w → Q y.toExit a w) → c.wpIn Fence.wide (m + 1) X.P Q a w := by
    intro c sx y sy Q he a w hy hq
    obtain ⟨ρ', E', hE, ho, hs'⟩ := hy.out
    refine wpIn_wide.2 (Code.wp_mono (fun e a w hw => ?_) ((exec_ok' (Kn.ok_eqO hk hE) (hX E' hE) hm n).1 none c sx y sy trivial he B ρ' a w hs'))
    obtain ⟨rfl, ρ2, hs2⟩ := hw
    exact hq a w ⟨⟨ρ2, E', hE, ho, hs2⟩⟩
  refine wpIn_seq (wpIn_seq (iterReg_ok hX hk hm h0 hro hrs hp ha hb hT hs (fun a1 w1 hy1 => ?_)))
  refine plain h1 a1 w1 hy1 (fun a2 w2 hy2 => ?_)
  cases x1 with
  | normal =>
    obtain ⟨⟨x3, sD⟩, h3, h⟩ := Res.bind_ok h
    simp only [Res.ok.injEq, Prod.mk.injEq] at h
    obtain ⟨rfl, rfl, rfl⟩ := h
    exact plain h3 a2 w2 hy2 (fun a3 w3 hy3 => ⟨rfl, hy3⟩)
  | exit id =>
    simp only [Res.ok.injEq, Prod.mk.injEq] at h
    obtain ⟨rfl, rfl, rfl⟩ := h
    exact ⟨rfl, hy2⟩
  | ret =>
    simp only [Res.ok.injEq, Prod.mk.injEq] at h
    obtain ⟨rfl, rfl, rfl⟩ := h
    exact ⟨rfl, hy2⟩
end
end Go.Proofs.Ytjbpaejjpamcpaa.Eng
/- A range over a function: the iterator's own loop. No program in sight. -/
namespace Go.Proofs.Ytjbpaejjpamcpaa.Eng
set_option linter.unusedSimpArgs false
set_option linter.unusedVariables false
open Go Go.RowKit

/-! ### Letters turn, objects stay -/
structure EqL (E E' : Env) : Prop where
  i : E'.i = E.i
  b : E'.b = E.b
  fi : E'.fi = E.fi
  fb : E'.fb = E.fb
mutual
theorem SE.den_eqL {E E' : Env} (h : EqL E E') : ∀ e : SE, e.den E' = e.den E
  | .var i => by simp only [SE.den, h.i]
  | .lit _ => rfl
  | .bin _ _ a b => by simp only [SE.den, SE.den_eqL h a, SE.den_eqL h b]
  | .wrap _ a => by simp only [SE.den, SE.den_eqL h a]
  | .ite c a b => by simp only [SE.den, SE.den_eqL h a, SE.den_eqL h b, SB.den_eqL h c]
  | .app _ _ xs => by simp only [SE.den, SL.den_eqL h xs, h.fi]
theorem SB.den_eqL {E E' : Env} (h : EqL E E') : ∀ e : SB, e.den E' = e.den E
  | .var i => by simp only [SB.den, h.b]
  | .lit _ => rfl
  | .cmp _ a b => by simp only [SB.den, SE.den_eqL h a, SE.den_eqL h b]
  | .not a => by simp only [SB.den, SB.den_eqL h a]
  | .and a b => by simp only [SB.den, SB.den_eqL h a, SB.den_eqL h b]
  | .beq a b => by simp only [SB.den, SB.den_eqL h a, SB.den_eqL h b]
  | .app _ _ xs => by simp only [SB.den, SL.den_eqL h xs, h.fb]
theorem SL.den_eqL {E E' : Env} (h : EqL E E') : ∀ e : SL, e.den E' = e.den E
  | .nil => rfl
  | .cons x xs => by simp only [SL.den, SE.den_eqL h x, SL.den_eqL h xs]
end
def Env.sub (E : Env) (σ : List SE) : Env := { E with i := fun n => (σ.map (SE.den E)).getD n 0, b := fun _ => false }
theorem sub_eqL (E : Env) (σ : List SE) : EqL (envOf (σ.map (SE.den E)) E.fi E.fb) (E.sub σ) := ⟨rfl, rfl, rfl, rfl⟩
section
variable {E : Env} {ρ : Pl} {σ : List SE} {B : Base}
theorem SE.sub_den (e : SE) : (e.subst σ).den E = e.den (E.sub σ) := by rw [SE.subst_den, SE.den_eqL (sub_eqL E σ)]
theorem SB.sub_den (e : SB) : (e.subst σ).den E = e.den (E.sub σ) := by rw [SB.subst_den, SB.den_eqL (sub_eqL E σ)]
theorem At.sub_den (a : At) : (a.subst σ).den E ρ = a.den (E.sub σ) ρ := by
  cases a <;> first | rfl | simp only [At.subst, At.den, SE.sub_den, SB.sub_den]
theorem ats_sub_den (cs : List At) : (cs.map (At.subst σ)).map (At.den E ρ) = cs.map (At.den (E.sub σ) ρ) := by
  rw [List.map_map]; exact List.map_congr_left fun a _ => At.sub_den a
theorem CV.sub_den (c : CV) : (c.subst σ).den E ρ = c.den (E.sub σ) ρ := by
  cases c with
  | one a => exact At.sub_den a
  | agg cs => simp only [CV.subst, CV.den, ats_sub_den]
theorem SVal.sub_den (s : SVal) : (s.subst σ).den E ρ = s.den (E.sub σ) ρ := by
  cases s with
  | cv c => exact CV.sub_den c
  | tup cs =>
    simp only [SVal.subst, SVal.den, List.map_map]
    congr 2
    exact List.map_congr_left fun c _ => CV.sub_den c
  | any => rfl
theorem fits_sub : ∀ {T : List SVal} {vs : List Value}, Fits E ρ (T.map (SVal.subst σ)) vs ↔ Fits (E.sub σ) ρ T vs
  | [], [] => Iff.rfl
  | [], _ :: _ => by simp [Fits]
  | _ :: _, [] => by simp [Fits]
  | s :: T, v :: vs => by simp only [List.map_cons, Fits, SVal.isAny_subst, SVal.sub_den s, fits_sub (T := T)]
theorem blkAt_sub {w : World} {l : Nat} {b : Blk} : BlkAt E ρ w l { b with cs := b.cs.map (At.subst σ), ob := b.ob.map (Ob.subst σ) } ↔ BlkAt (E.sub σ) ρ w l b := by
  have hr : ∀ r : Row, RowAt E ρ w l b.ty (r.subst σ) ↔ RowAt (E.sub σ) ρ w l b.ty r := fun r => rowAt_subst rfl (fun e => SE.sub_den e)
  obtain ⟨ty, cs, sz, ob⟩ := b
  rcases ob with _ | (i | r)
  · unfold BlkAt CellsAt
    simp only [ats_sub_den, List.length_map, Option.map_none, true_and, reduceCtorEq, false_and, exists_false, or_false]
  · unfold BlkAt
    simp only [Option.map_some, Ob.subst, reduceCtorEq, false_and, exists_false, false_or, or_false, Option.some.injEq, Ob.obj.injEq, exists_eq_left', List.map_eq_nil_iff]
    rfl
  · unfold BlkAt
    simp only [Option.map_some, Ob.subst, reduceCtorEq, false_and, exists_false, false_or, Option.some.injEq, Ob.row.injEq, exists_eq_left', List.map_eq_nil_iff, hr]
theorem sat_sub {w0 : Wb} {s : St} {a : Act} {w : World} (hs : Sat B w0 E (s.subst σ) ρ a w) : Sat B w0 (E.sub σ) s ρ a w := by
  have up : ∀ (l : Nat) (b : Blk), s.H[l]? = some (HE.blk b) → (s.H.map (HE.subst σ))[l]? = some (.blk { b with cs := b.cs.map (At.subst σ), ob := b.ob.map (Ob.subst σ) }) := fun l b hl => by rw [List.getElem?_map, hl]; rfl
  refine ⟨fits_sub.1 hs.t, hs.d, ⟨hs.h.below, fun l b hl => hs.h.ge l _ (up l b hl), fun l b hl => blkAt_sub.1 (hs.h.blk l _ (up l b hl)), fun l l' b b' hl hl' he => hs.h.inj l l' _ _ (up l b hl) (up l' b' hl') he⟩, fun l hl => ?_⟩
  have := hs.v l hl
  simpa [St.subst, stood_subst] using this
end

/-! ### The loop -/
/-- No letter stands in it. -/
def At.fixed : At → Bool
  | .ptr .. | .nilp | .nils | .fn _ | .clo .. | .yld _ | .nilf => true
  | _ => false
def SVal.fixed : SVal → Bool
  | .any => true
  | .cv (.one a) => a.fixed
  | _ => false
theorem fixed_den {E E' : Env} {ρ : Pl} {s : SVal} (h : s.fixed = true) (ha : s.isAny = false) : s.den E ρ = s.den E' ρ := by
  cases s with
  | any => cases ha
  | tup cs => cases h
  | cv c =>
    cases c with
    | agg cs => cases h
    | one a => cases a <;> first | rfl | cases h
theorem fits_fixed {E E' : Env} {ρ : Pl} {T : List SVal} {vs : List Value} (h : T.all SVal.fixed = true) (hf : Fits E ρ T vs) : Fits E' ρ T vs :=
  Fits.turn hf (fun s hs ha => fixed_den (List.all_eq_true.1 h s hs) ha)
structure ILoop where
  pat : St
  m : Nat
  outs : List (Ex × Ex × St × Nat)
def iOut (len : Nat) (s' : St) (x x2 : Ex) : Nat → List (Ex × Ex × St × Nat) → BTree
  | _, [] => .dead 2
  | κ, (y, y2, q, n) :: r => if (x.same y && x2.same y2) && ((q.subst (sigma n (q.pair s'))).wk s' && decide (len ≤ q.H.length)) then .out κ (sigma n (q.pair s')) else iOut len s' x x2 (κ + 1) r
def iLeaf (e : ILoop) (x x2 : Ex) (s' : St) : BTree :=
  match x2 with
  | .normal => match x with
    | .normal => if (e.pat.subst (sigma e.m (e.pat.pair s'))).wk s' then .next (sigma e.m (e.pat.pair s')) else .dead 1
    | _ => .dead 5
  | x2 => iOut e.pat.H.length s' x x2 0 e.outs
def iTree (X : Cx) (F : RF) (e : ILoop) (n : Nat) (c : Code) : Nat → Kn → BTree
  | 0, _ => .dead 0
  | d + 1, kn => match iterBody X kn n F c e.pat with
    | .ok (x, x2, s') => iLeaf e x x2 s'
    | .need b => .node b (iTree X F e n c d ((b, true) :: kn)) (iTree X F e n c d ((b, false) :: kn))
    | .fail m => .dead (1000 + m)
    | .stop _ => .dead 99
/-- The letters 0, 1, .. stand for these numbers; the objects are as before. -/
structure IsE (fi : Nat → Nat → List Int → Int) (fb : Nat → Nat → List Int → Bool) (zs : List Int) (E : Env) : Prop where
  i : E.i = fun n => zs.getD n 0
  b : E.b = fun _ => false
  fi : E.fi = fi
  fb : E.fb = fb
theorem IsE.eqL {fi : Nat → Nat → List Int → Int} {fb : Nat → Nat → List Int → Bool} {zs : List Int} {E : Env} (h : IsE fi fb zs E) : EqL (envOf zs fi fb) E := ⟨h.i, h.b, h.fi, h.fb⟩
/-- Behind a turn, behind the loop. -/
def IPost (B : Base) (w0 : Wb) (fi : Nat → Nat → List Int → Int) (fb : Nat → Nat → List Int → Bool) (e : ILoop) (r : Loop) (E : Env) : BVal → Exit → Act → World → Prop
  | .next zs, ex, a, w => ex = .normal ∧ ∃ ρ E', IsE fi fb zs E' ∧ E'.o 0 = .loop r ∧ (∀ j, j ≠ 0 → E'.o j = E.o j) ∧ Sat B w0 E' e.pat ρ a w
  | .out κ ys, ex, a, w => ∃ x x2 q n, e.outs[κ]? = some (x, x2, q, n) ∧ x2 ≠ .normal ∧ ex = x2.toExit ∧ ∃ ρ E', IsE fi fb ys E' ∧ E'.o 0 = .loop { r with state := if (jumpOf x).isNone then .ready else .done, pending := jumpOf x } ∧ (∀ j, j ≠ 0 → E'.o j = E.o j) ∧ Sat B w0 E' q ρ a w
section
variable {X : Cx} {E : Env} {ρ : Pl} {kn : Kn} {B : Base} {fi : Nat → Nat → List Int → Int} {fb : Nat → Nat → List Int → Bool}
theorem isE_sub {zs : List Int} {E E' : Env} (h : IsE fi fb zs E) (hE : EqO E E') (σ : List SE) : IsE fi fb (σ.map (SE.den (envOf zs fi fb))) (E'.sub σ) := by
  refine ⟨?_, rfl, hE.fi.trans h.fi, hE.fb.trans h.fb⟩
  funext n
  show (σ.map (SE.den E')).getD n 0 = _
  congr 1
  exact List.map_congr_left fun e _ => by rw [SE.den_eqO hE, SE.den_eqL h.eqL]
theorem iOut_ok {e : ILoop} {w0 : Wb} {zs : List Int} {r : Loop} (hz : IsE fi fb zs E) {x x2 : Ex} (hx : x2 ≠ .normal) {s' : St} {v : BVal} (hb : ∀ l, stood B.1 l = true → l < e.pat.H.length) {a : Act} {w : World} (hy : Yielded B w0 E r x s' a w) : ∀ (os : List (Ex × Ex × St × Nat)) (κ : Nat), (∀ i, os[i]? = e.outs[κ + i]?) →
    (iOut e.pat.H.length s' x x2 κ os).den (envOf zs fi fb) = some v → IPost B w0 fi fb e r E v x2.toExit a w
  | [], κ, _, h => by simp [iOut, BTree.den] at h
  | (y, y2, q, n) :: os, κ, hr, h => by
    unfold iOut at h
    split at h
    · rename_i hc
      simp only [Bool.and_eq_true, decide_eq_true_eq] at hc
      obtain ⟨⟨h1, h2⟩, h3, h4⟩ := hc
      have e1 := Ex.same_eq _ _ h1
      have e2 := Ex.same_eq _ _ h2
      subst e1; subst e2
      simp only [BTree.den, Option.some.injEq] at h
      subst h
      obtain ⟨ρ', E', hE, ho, hs⟩ := hy.out
      have hw := hs.weaken h3 (fun l hl => by have := hb l hl; simp only [St.subst, List.length_map]; omega)
      exact ⟨x, x2, q, n, by have := hr 0; simpa using this.symm, hx, rfl, ρ', _, isE_sub hz hE _, ho, hE.o, sat_sub hw⟩
    · exact iOut_ok hz hx hb hy os (κ + 1) (fun i => by have := hr (i + 1); simpa [Nat.add_assoc, Nat.add_comm 1 i] using this) h
theorem iTree_ok {w0 : Wb} (hX : ∀ E', E'.fi = fi → E'.fb = fb → XOk X w0 E') (hm : X.P.follows .mixedOrders = true) {n m : Nat} {F : RF} {e : ILoop} {c : Code} {zs : List Int} (hz : IsE fi fb zs E) {r : Loop} (hro : E.o 0 = .loop r) (hrs : r.state = .ready) (hrp : r.pending = none) (hp : r.params = F.ps) (ha : r.assign = F.assign) (hb : r.body = F.body)
    (hfix : F.T0.all SVal.fixed = true) (hT : ∀ (E : Env) (H : List HE) (ρ' : Pl), Via B.1 B.2.1 H ρ' → Fits E ρ' F.T0 r.tmps.toList) {v : BVal} {a : Act} {w : World} (hs : Sat B w0 E e.pat ρ a w) : ∀ (d : Nat) (kn : Kn), kn.ok E → (iTree X F e n c d kn).den (envOf zs fi fb) = some v → c.wpIn Fence.wide (m + 1) X.P (IPost B w0 fi fb e r E v) a w
  | 0, kn, _, h => by simp [iTree, BTree.den] at h
  | d + 1, kn, hk, h => by
    have hbl : ∀ l, stood B.1 l = true → l < e.pat.H.length := fun l hl => stood_lt (hs.v l hl).1
    unfold iTree at h
    split at h
    · rename_i x x2 s' hr
      refine wpIn_mono (iterBody_ok (fun E' hE => hX E' (hE.fi.trans hz.fi) (hE.fb.trans hz.fb)) hk hm hr hro hrs hp ha hb (hT E) hs) ?_
      rintro ex a' w' ⟨rfl, hy⟩
      cases x2 with
      | normal =>
        simp only [iLeaf] at h
        cases x with
        | normal =>
          simp only [] at h
          split at h
          · rename_i hcv
            simp only [BTree.den, Option.some.injEq] at h
            subst h
            obtain ⟨ρ', E', hE, ho, hs'⟩ := hy.out
            have hw := hs'.weaken hcv (fun l hl => by simpa [St.subst] using hbl l hl)
            refine ⟨rfl, ρ', _, isE_sub hz hE _, ?_, hE.o, sat_sub hw⟩
            show E'.o 0 = _
            rw [ho]
            obtain ⟨st, pe, fn, tm, ps, asg, bo, de⟩ := r
            simp only at hrs hrp
            subst hrs; subst hrp
            rfl
          · simp [BTree.den] at h
        | exit id => simp [BTree.den] at h
        | ret => simp [BTree.den] at h
      | exit id => exact iOut_ok hz (by simp) hbl hy e.outs 0 (fun i => by simp) h
      | ret => exact iOut_ok hz (by simp) hbl hy e.outs 0 (fun i => by simp) h
    · rename_i b hr
      simp only [BTree.den] at h
      cases hbv : b.den (envOf zs fi fb)
      · rw [hbv] at h
        exact iTree_ok hX hm hz hro hrs hrp hp ha hb hfix hT hs d _ (kn_cons hk (by rw [SB.den_eqL hz.eqL]; exact hbv)) h
      · rw [hbv] at h
        exact iTree_ok hX hm hz hro hrs hrp hp ha hb hfix hT hs d _ (kn_cons hk (by rw [SB.den_eqL hz.eqL]; exact hbv)) h
    · simp [BTree.den] at h
    · simp [BTree.den] at h
/-- The iterator's own loop, by plain recursion over the letters. -/
theorem iter_loop {w0 : Wb} (hX : ∀ E', E'.fi = fi → E'.fb = fb → XOk X w0 E') (hm : X.P.follows .mixedOrders = true) {n m d : Nat} {F : RF} {e : ILoop} {c : Code} {r : Loop} (hrs : r.state = .ready) (hrp : r.pending = none) (hp : r.params = F.ps) (ha : r.assign = F.assign) (hb : r.body = F.body)
    (hfix : F.T0.all SVal.fixed = true) (hT : ∀ (E : Env) (H : List HE) (ρ' : Pl), Via B.1 B.2.1 H ρ' → Fits E ρ' F.T0 r.tmps.toList) {t : BTree} (ht : iTree X F e n c d [] = t) {κ : Nat} {ys : List Int} : ∀ (N : Nat) (zs : List Int), loopF fi fb t N zs = some (κ, ys) →
    ∀ (E : Env), IsE fi fb zs E → E.o 0 = .loop r → ∀ (ρ : Pl) (a : Act) (w : World), Sat B w0 E e.pat ρ a w → ∀ (E0 : Env), (∀ j, j ≠ 0 → E.o j = E0.o j) → Code.roundsIn Fence.wide (m + 1) X.P c (IPost B w0 fi fb e r E0 (.out κ ys)) N a w
  | 0, zs, h => by simp [loopF] at h
  | N + 1, zs, h => by
    intro E hz hro ρ a w hs E0 h0
    rw [roundsIn_succ]
    unfold loopF at h
    cases hv : t.den (envOf zs fi fb) with
    | none => rw [hv] at h; cases h
    | some v =>
      rw [hv] at h
      rw [← ht] at hv
      refine wpIn_mono (iTree_ok hX hm hz hro hrs hrp hp ha hb hfix hT hs d [] (fun p hp => by cases hp) hv) (fun ex a' w' hq => ?_)
      cases v with
      | next zs' =>
        obtain ⟨rfl, ρ', E', hz', ho', hj, hs'⟩ := hq
        exact iter_loop hX hm hrs hrp hp ha hb hfix hT ht N zs' h E' hz' ho' ρ' a' w' hs' E0 (fun j hj' => (hj j hj').trans (h0 j hj'))
      | out κ' ys' =>
        simp only [Option.some.injEq, Prod.mk.injEq] at h
        obtain ⟨rfl, rfl⟩ := h
        obtain ⟨x, x2, q, n', g1, g2, rfl, ρ', E', g3, g4, g5, g6⟩ := hq
        have fin : IPost B w0 fi fb e r E0 (.out κ' ys') x2.toExit a' w' := ⟨x, x2, q, n', g1, g2, rfl, ρ', E', g3, g4, fun j hj => (g5 j hj).trans (h0 j hj), g6⟩
        cases x2 with
        | normal => exact absurd rfl g2
        | exit id => exact fin
        | ret => exact fin
end
end Go.Proofs.Ytjbpaejjpamcpaa.Eng
/- A range over a function: the iterator's call. No program in sight. -/
namespace Go.Proofs.Ytjbpaejjpamcpaa.Eng
set_option linter.unusedSimpArgs false
set_option linter.unusedVariables false
open Go Go.RowKit

/-- The code ahead of the iterator's loop: the numbers for the pattern's letters that it leaves. -/
def iPre (X : Cx) (n : Nat) (e : ILoop) (p0 p1 : Code) (s : St) : Option (List SE) :=
  match exec X [] n none p0 s with
  | .ok (.normal, s0) => match exec X [] n none p1 s0 with
    | .ok (.normal, s1) => if (e.pat.subst (sigma e.m (e.pat.pair s1))).wk s1 then some (sigma e.m (e.pat.pair s1)) else none
    | _ => none
  | _ => none
section
variable {X : Cx} {E : Env} {ρ : Pl} {B : Base} {fi : Nat → Nat → List Int → Int} {fb : Nat → Nat → List Int → Bool}
theorem iPre_ok {w0 : Wb} (hX : XOk X w0 E) (hm : X.P.follows .mixedOrders = true) {n m : Nat} {e : ILoop} {p0 p1 rest : Code} {s : St} {σ : List SE} (h : iPre X n e p0 p1 s = some σ) (hbl : ∀ l, stood B.1 l = true → l < e.pat.H.length)
    {a : Act} {w : World} (hs : Sat B w0 E s ρ a w) {Q : Exit → Act → World → Prop} (hq : ∀ ρ' a' w', Sat B w0 (E.sub σ) e.pat ρ' a' w' → rest.wpIn Fence.wide m X.P Q a' w') : (Code.seq p0 (.seq p1 rest)).wpIn Fence.wide m X.P Q a w := by
  have hk : Kn.ok E ([] : Kn) := fun p hp => by cases hp
  unfold iPre at h
  split at h <;> try (cases h; done)
  rename_i s0 h0
  split at h <;> try (cases h; done)
  rename_i s1 h1
  split at h <;> try (cases h; done)
  rename_i hw
  simp only [Option.some.injEq] at h; subst h
  refine wpIn_seq (wpIn_wide.2 (Code.wp_mono (fun e1 a1 w1 hq1 => ?_) ((exec_ok' hk hX hm n).1 none p0 s _ _ trivial h0 B ρ a w hs)))
  obtain ⟨rfl, ρ1, hs1⟩ := hq1
  refine wpIn_seq (wpIn_wide.2 (Code.wp_mono (fun e2 a2 w2 hq2 => ?_) ((exec_ok' hk hX hm n).1 none p1 _ _ _ trivial h1 B ρ1 a1 w1 hs1)))
  obtain ⟨rfl, ρ2, hs2⟩ := hq2
  exact hq ρ2 a2 w2 (sat_sub (hs2.weaken hw (fun l hl => by simpa [St.subst] using hbl l hl)))
theorem iter_calls {w0 : Wb} (hX : ∀ E', E'.fi = fi → E'.fb = fb → XOk X w0 E') (hm : X.P.follows .mixedOrders = true) {n m d : Nat} {F : RF} {e : ILoop} {c : Code} {r : Loop} (hrs : r.state = .ready) (hrp : r.pending = none) (hp : r.params = F.ps) (ha : r.assign = F.assign) (hb : r.body = F.body)
    (hfix : F.T0.all SVal.fixed = true) {f : Nat} {fn : Func} (hf : X.P.funcs[f]? = some fn) {p0 p1 : Code} {b : Nat} (hbd : fn.body = some (.seq p0 (.seq p1 (.block b (.loop c))))) {ss : List SVal} {H : List HE}
    (hT : ∀ (E : Env) (H' : List HE) (ρ' : Pl), Via H ρ H' ρ' → Fits E ρ' F.T0 r.tmps.toList) {σ : List SE} (hσ : iPre X n e p0 p1 ⟨ss ++ List.replicate (fn.ntmps - ss.length) (.tup []), H⟩ = some σ) (hbl : ∀ l, stood H l = true → l < e.pat.H.length)
    {t : BTree} (ht : iTree X F e n c d [] = t) {zs ys : List Int} {N κ : Nat} (hl : loopF fi fb t N (σ.map (SE.den (envOf zs fi fb))) = some (κ, ys)) (hz : IsE fi fb zs E) (hro : E.o 0 = .loop r) {w : World} (hH : RelH w0 E H ρ w)
    {x x2 : Ex} {q : St} {n' : Nat} (hκ : e.outs[κ]? = some (x, x2, q, n')) (hx2 : x2 = .ret ∨ x2 = .exit b) {cs : List CV} (hcs : resVal X.P q fn.results.toList = some cs) :
    CallsIn Fence.wide (m + 1) X.P f (ss.map (SVal.den E ρ)).toArray w fun en w' => (∃ v, en = .returned v) ∧ ∃ ρ' E', IsE fi fb ys E' ∧ E'.o 0 = .loop { r with state := if (jumpOf x).isNone then .ready else .done, pending := jumpOf x } ∧ (∀ j, j ≠ 0 → E'.o j = E.o j) ∧ RelH w0 E' q.H ρ' w' ∧ Via H ρ q.H ρ' := by
  refine callsIn_of_wp hf hbd trivial ?_
  have h0 : Sat (H, ρ, []) w0 E ⟨ss ++ List.replicate (fn.ntmps - ss.length) (.tup []), H⟩ ρ { tmps := (ss.map (SVal.den E ρ)).toArray ++ Array.replicate (fn.ntmps - (ss.map (SVal.den E ρ)).toArray.size) undef, defers := [] } w := by
    refine ⟨?_, rfl, hH, Via.refl _ _⟩
    refine TOk.of_map ?_
    simp [List.map_append, SVal.den, undef]
  refine iPre_ok (hX E hz.fi hz.fb) hm hσ hbl h0 (fun ρ1 a1 w1 hs1 => ?_)
  refine wpIn_block (wpIn_mono (wpIn_loop_rounds N (iter_loop hX hm hrs hrp hp ha hb hfix hT ht N _ hl (E.sub σ) (isE_sub hz ⟨rfl, rfl, rfl, rfl, rfl, fun _ _ => rfl⟩ σ) hro ρ1 a1 w1 hs1 E (fun _ _ => rfl))) ?_)
  rintro ex a' w' ⟨x', x2', q', n2, g1, g2, rfl, ρ', E', g3, g4, g5, g6⟩
  rw [hκ] at g1
  simp only [Option.some.injEq, Prod.mk.injEq] at g1
  obtain ⟨rfl, rfl, rfl, rfl⟩ := g1
  have fin : ∃ v, (results fn a'.tmps).run X.P w' = .ok v w' ∧ ((∃ v', Ending.returned v = .returned v') ∧ ∃ ρ' E', IsE fi fb ys E' ∧ E'.o 0 = .loop { r with state := if (jumpOf x).isNone then .ready else .done, pending := jumpOf x } ∧ (∀ j, j ≠ 0 → E'.o j = E.o j) ∧ RelH w0 E' q.H ρ' w' ∧ Via H ρ q.H ρ') :=
    ⟨_, results_run (X := X) g6 hcs, ⟨_, rfl⟩, ρ', E', g3, g4, g5, g6.h, g6.v⟩
  rcases hx2 with rfl | rfl
  · exact ⟨g6.d, fin⟩
  · simp only [Ex.toExit, Exit.inBlock, if_true]
    exact ⟨g6.d, fin⟩
end
end Go.Proofs.Ytjbpaejjpamcpaa.Eng
/- A range over a function: the statement. No program in sight. -/
namespace Go.Proofs.Ytjbpaejjpamcpaa.Eng
set_option linter.unusedSimpArgs false
set_option linter.unusedVariables false
open Go Go.RowKit

section
variable {E : Env} {ρ : Pl}
theorem BlkAt.setO {w : World} {m i : Nat} {b : Blk} {o : Obj} {ho : cellsObj o = false} (h : BlkAt E ρ w m b) (hb : b.ob ≠ some (.obj i)) : BlkAt (E.setO i o ho) ρ w m b := by
  unfold BlkAt CellsAt at h ⊢
  rw [ats_den_setO]
  rcases h with h | ⟨j, h1, h2, h3, h4⟩ | ⟨r, h1, h2, h3, h4⟩
  · exact Or.inl h
  · refine Or.inr (Or.inl ⟨j, h1, h2, h3, ?_⟩)
    have : j ≠ i := fun e => hb (by rw [h1, e])
    rw [h4]; simp [Env.setO, this]
  · exact Or.inr (Or.inr ⟨r, h1, h2, h3, rowAt_setO.2 h4⟩)
/-- A new block that is no cells. -/
theorem RelH.newObj {w0 : Wb} {w : World} {H : List HE} (h : RelH w0 E H ρ w) {nid i : Nat} {o : Obj} (ho : cellsObj o = false) (hn : H[nid]? = some .free) (hf : H.any (HE.names nid) = false) (hu : ∀ (m : Nat) (b : Blk), H[m]? = some (HE.blk b) → b.ob ≠ some (.obj i)) :
    RelH w0 (E.setO i o ho) (H.set nid (.blk ⟨0, [], 0, some (.obj i)⟩)) (ρ.put nid (w.heap.size, 0)) (w.alloc o) := by
  have hlt : nid < H.length := (List.getElem?_eq_some_iff.1 hn).1
  have case : ∀ l b', (H.set nid (.blk ⟨0, [], 0, some (.obj i)⟩))[l]? = some (.blk b') → (l = nid ∧ b' = ⟨0, [], 0, some (.obj i)⟩) ∨ (l ≠ nid ∧ H[l]? = some (.blk b')) := by
    intro l b' hl
    rw [List.getElem?_set] at hl
    by_cases e : nid = l
    · subst e; simp [hlt] at hl; exact Or.inl ⟨rfl, hl.symm⟩
    · rw [if_neg e] at hl; exact Or.inr ⟨fun h => e h.symm, hl⟩
  have hp : (ρ.put nid (w.heap.size, 0)) nid = (w.heap.size, 0) := by simp [Pl.put]
  have hq : ∀ l, l ≠ nid → (ρ.put nid (w.heap.size, 0)) l = ρ l := fun l hl => by simp [Pl.put, hl]
  have hw0 := h.below.size
  refine ⟨h.below.alloc hw0 _, ?_, ?_, ?_⟩
  · intro l b' hl
    rcases case l b' hl with ⟨rfl, rfl⟩ | ⟨h1, h2⟩
    · rw [hp]; exact Own.new hw0
    · rw [hq l h1]; exact h.ge l b' h2
  · intro l b' hl
    rcases case l b' hl with ⟨rfl, rfl⟩ | ⟨h1, h2⟩
    · refine Or.inr (Or.inl ⟨i, rfl, rfl, rfl, ?_⟩)
      rw [hp]
      show (w.heap.push _)[w.heap.size]? = _
      simp [Env.setO]
    · refine BlkAt.put ?_ _ _ h1 (any_of_H hf h2)
      exact ((h.blk l b' h2).of_heap (Below.heap_alloc _ _ _ (h.blk l b' h2).lt)).setO (hu l b' h2)
  · intro l l' b1 b2 hl hl' he
    rcases case l b1 hl with ⟨rfl, rfl⟩ | ⟨h1, h2⟩ <;> rcases case l' b2 hl' with ⟨rfl, rfl⟩ | ⟨h1', h2'⟩
    · rfl
    · rw [hp, hq l' h1'] at he
      have := (h.blk l' b2 h2').lt
      simp at he; omega
    · rw [hp, hq l h1] at he
      have := (h.blk l b1 h2).lt
      simp at he; omega
    · rw [hq l h1, hq l' h1'] at he
      exact h.inj l l' b1 b2 h2 h2' he
end
end Go.Proofs.Ytjbpaejjpamcpaa.Eng
/- A range over a function: the statement, in the outer frame. No program in sight. -/
namespace Go.Proofs.Ytjbpaejjpamcpaa.Eng
set_option linter.unusedSimpArgs false
set_option linter.unusedVariables false
open Go Go.RowKit

def SVal.blur (s : SVal) : SVal := if s.fixed then s else .any
theorem blur_fixed (s : SVal) : s.blur.fixed = true := by
  unfold SVal.blur; split
  · assumption
  · rfl
theorem fits_blur {E : Env} {ρ : Pl} : ∀ {T : List SVal} {vs : List Value}, Fits E ρ T vs → Fits E ρ (T.map SVal.blur) vs
  | [], [], _ => trivial
  | [], _ :: _, h => by simp [Fits] at h
  | _ :: _, [], h => by simp [Fits] at h
  | s :: T, v :: vs, h => by
    refine ⟨?_, fits_blur h.2⟩
    unfold SVal.blur
    split
    · exact h.1
    · exact Or.inl rfl
def noOb (i : Nat) (H : List HE) : Bool := H.all fun h => match h with
  | .blk b => !obSame b.ob (some (.obj i))
  | _ => true
theorem noOb_ok {i : Nat} {H : List HE} (h : noOb i H = true) (m : Nat) (b : Blk) (hm : H[m]? = some (HE.blk b)) : b.ob ≠ some (.obj i) := by
  have := List.all_eq_true.1 h _ (List.mem_of_getElem? hm)
  intro e
  simp only [e] at this
  simp [obSame] at this
/-- The heap with the block for deferred calls and the loop's record. -/
def rfHa (H : List HE) : List HE := (H ++ List.replicate 2 HE.free).set H.length (.blk ⟨0, [], 0, some (.obj 1)⟩)
def rfH (H : List HE) : List HE := (rfHa H).set (H.length + 1) (.blk ⟨0, [], 0, some (.obj 0)⟩)
def rfFresh (H : List HE) : Bool := !(H ++ List.replicate 2 HE.free).any (HE.names H.length) && !(rfHa H).any (HE.names (H.length + 1)) && noOb 1 (H ++ List.replicate 2 HE.free) && noOb 0 (rfHa H)
def loopRec (fn : Nat) (tmps : Array Value) (ps : Array Tmp) (assign body : Code) (D : Nat) : Loop := { state := .ready, pending := none, fn, tmps, params := ps, assign, body, defers := D }
theorem via_append {H K : List HE} {ρ : Pl} : Via H ρ (H ++ K) ρ := fun l hl => ⟨by
  have := stood_lt hl
  unfold stood at hl ⊢
  rw [List.getElem?_append_left this]; exact hl, rfl⟩
theorem via_put {H : List HE} {ρ : Pl} {nid : Nat} {p : Nat × Nat} {b : Blk} (hn : H[nid]? = some .free) : Via H ρ (H.set nid (.blk b)) (ρ.put nid p) := fun l hl => by
  have hne : l ≠ nid := fun e => by subst e; unfold stood at hl; rw [hn] at hl; cases hl
  refine ⟨?_, by simp [Pl.put, hne]⟩
  unfold stood at hl ⊢
  rw [List.getElem?_set, if_neg (fun e => hne e.symm)]; exact hl
section
variable {X : Cx} {E : Env} {ρ : Pl} {B : Base} {fi : Nat → Nat → List Int → Int} {fb : Nat → Nat → List Int → Bool}
theorem rf_ok {w0 : Wb} (hX : ∀ E', E'.fi = fi → E'.fb = fb → XOk X w0 E') (hm : X.P.follows .mixedOrders = true) {n m d : Nat} {F : RF} {e : ILoop} {c : Code} {gf lp off : Nat} {fn : Func} (hf : X.P.funcs[gf]? = some fn) {p0 p1 : Code} {b : Nat} (hbd : fn.body = some (.seq p0 (.seq p1 (.block b (.loop c)))))
    (eg : ∀ args w, (callFunc gf args).run X.P w = .ok (.enter gf args) w) {s : St} {g : Operand} (hg : aat s.T g = some (.clo gf lp off)) (hlp : stood s.H lp = true) (hT0 : F.T0 = s.T.map SVal.blur) (hin : F.T0.all (SVal.inH s.H) = true) (hfr : rfFresh s.H = true)
    {σ : List SE} (hσ : iPre X n e p0 p1 ⟨[.cv (.one (.yld (s.H.length + 1))), .cv (.one (.ptr lp off))] ++ List.replicate (fn.ntmps - 2) (.tup []), rfH s.H⟩ = some σ) (hbl : (rfH s.H).length ≤ e.pat.H.length)
    {t : BTree} (ht : iTree X F e n c d [] = t) {zs ys : List Int} {N κ : Nat} (hl : loopF fi fb t N (σ.map (SE.den (envOf zs fi fb))) = some (κ, ys)) (hz : IsE fi fb zs E)
    {x x2 : Ex} {q : St} {n' : Nat} (hκ : e.outs[κ]? = some (x, x2, q, n')) (hx2 : x2 = .ret ∨ x2 = .exit b) {cs : List CV} (hcs : resVal X.P q fn.results.toList = some cs) (hrq : recB q.H (s.H.length + 1) = true)
    {a : Act} {w : World} (hs : Sat B w0 E s ρ a w) {Q : Exit → Act → World → Prop}
    (hQ : ∀ ρ' E' w', IsE fi fb ys E' → E'.o 1 = .deferred (some []) → (∀ l, stood s.H l = true → ρ' l = ρ l) → Sat (B.1, B.2.1, { target := .collected (ρ' s.H.length).1, args := #[] } :: B.2.2) w0 E' ⟨F.T0, q.H⟩ ρ' { a with defers := { target := .collected (ρ' s.H.length).1, args := #[] } :: a.defers } w' →
      Q x.toExit { a with defers := { target := .collected (ρ' s.H.length).1, args := #[] } :: a.defers } w') :
    (Code.rangeFunc g F.ps F.assign F.body).wpIn Fence.wide (m + 2) X.P Q a w := by
  refine wpIn_rangeFunc ?_
  intro fid hfid
  simp only [rfFresh, Bool.and_eq_true, Bool.not_eq_true'] at hfr
  obtain ⟨⟨⟨hr1, hr2⟩, hr3⟩, hr4⟩ := hfr
  have hge := aat_den hs.t hg
  have hg' : a.eval g = .func (.func gf) #[] #[.pointer (some ⟨(ρ lp).1, off, none⟩)] := hge
  have hs0 := sat_free hs 2
  have hlen : (s.H ++ List.replicate 2 HE.free).length = s.H.length + 2 := by simp
  have hn1 : (s.H ++ List.replicate 2 HE.free)[s.H.length]? = some HE.free := by simp
  have hn2 : (rfHa s.H)[s.H.length + 1]? = some HE.free := by
    unfold rfHa
    rw [List.getElem?_set, if_neg (by omega)]
    simp
  have h1 := hs0.h.newObj (i := 1) (o := .deferred (some [])) rfl hn1 hr1 (noOb_ok hr3)
  change RelH w0 _ (rfHa s.H) _ _ at h1
  have h2 := h1.newObj (i := 0) (o := .loop (loopRec fid a.tmps F.ps F.assign F.body w.heap.size)) rfl hn2 hr2 (noOb_ok hr4)
  rw [World.size_alloc] at h2
  obtain ⟨ρ1, hρ1⟩ : ∃ ρ1, ρ1 = (ρ.put s.H.length (w.heap.size, 0)).put (s.H.length + 1) (w.heap.size + 1, 0) := ⟨_, rfl⟩
  obtain ⟨E1, hE1⟩ : ∃ E1, E1 = (E.setO 1 (.deferred (some [])) rfl).setO 0 (.loop (loopRec fid a.tmps F.ps F.assign F.body w.heap.size)) rfl := ⟨_, rfl⟩
  rw [← hρ1, ← hE1] at h2
  change RelH w0 E1 (rfH s.H) ρ1 _ at h2
  have hv1 : Via s.H ρ (rfH s.H) ρ1 := by
    rw [hρ1]
    exact (via_append.trans (via_put hn1)).trans (via_put hn2)
  have hz1 : IsE fi fb zs E1 := by rw [hE1]; exact ⟨hz.i, hz.b, hz.fi, hz.fb⟩
  have ho0 : E1.o 0 = .loop (loopRec fid a.tmps F.ps F.assign F.body w.heap.size) := by rw [hE1]; simp [Env.setO]
  have ho1 : E1.o 1 = .deferred (some []) := by rw [hE1]; simp [Env.setO]
  have hfix : F.T0.all SVal.fixed = true := by
    rw [hT0, List.all_eq_true]
    intro v hv
    obtain ⟨u, _, rfl⟩ := List.mem_map.1 hv
    exact blur_fixed u
  have hTE : ∀ (E : Env) (ρ' : Pl), (∀ l, stood s.H l = true → ρ' l = ρ l) → Fits E ρ' F.T0 a.tmps.toList := fun E' ρ' hv => by
    have h0 : Fits E ρ F.T0 a.tmps.toList := by rw [hT0]; exact fits_blur hs.t
    exact fits_fixed hfix (Fits.turn h0 (fun s hs _ => (SVal.inH_den hv s (List.all_eq_true.1 hin s hs)).symm))
  have hρl : (ρ1 (s.H.length + 1)).1 = w.heap.size + 1 := by rw [hρ1]; simp [Pl.put]
  have hρd : (ρ1 s.H.length).1 = w.heap.size := by rw [hρ1]; simp [Pl.put]
  have hρp : ρ1 lp = ρ lp := (hv1 lp hlp).2
  have hcall := iter_calls (m := m) hX hm (n := n) (d := d) (F := F) (e := e) (c := c) (r := loopRec fid a.tmps F.ps F.assign F.body w.heap.size) rfl rfl rfl rfl rfl hfix hf hbd (H := rfH s.H) (ρ := ρ1)
    (fun E' H' ρ' hv => hTE E' ρ' (fun l hl => ((hv l (hv1 l hl).1).2).trans (hv1 l hl).2)) hσ (fun l hl => Nat.lt_of_lt_of_le (stood_lt hl) hbl) ht hl hz1 ho0 h2 hκ hx2 hcs
  obtain ⟨W1, hW1⟩ : ∃ W1, W1 = (w.alloc (.deferred (some []))).alloc (.loop (loopRec fid a.tmps F.ps F.assign F.body w.heap.size)) := ⟨_, rfl⟩
  rw [← hW1] at hcall
  refine ⟨w.heap.size + 1, [{ target := .collected w.heap.size, args := #[] }], W1, { target := .fn (.func gf) #[.pointer (some ⟨(ρ lp).1, off, none⟩)], args := #[.func (.yield (w.heap.size + 1)) #[] #[]] }, W1, gf,
    #[.func (.yield (w.heap.size + 1)) #[] #[]] ++ #[.pointer (some ⟨(ρ lp).1, off, none⟩)], W1, ?_, ?_, fun _ _ => trivial, ?_, fun h => absurd h (by simp [Fence.wide]), ?_⟩
  · rw [hW1]; exact run_enterLoop_outer _ _ _ _ _
  · simp only [resolve, hg']
    simp [go_sem]
  · simp [invoke, go_sem, eg]
  · have hargs : (List.map (SVal.den E1 ρ1) [SVal.cv (.one (.yld (s.H.length + 1))), SVal.cv (.one (.ptr lp off))]).toArray = #[.func (.yield (w.heap.size + 1)) #[] #[]] ++ #[.pointer (some ⟨(ρ lp).1, off, none⟩)] := by
      simp [SVal.den, CV.den, At.den, hρl, hρp]
    rw [hargs] at hcall
    refine hcall.mono ?_
    rintro en w' ⟨⟨v, rfl⟩, ρ', E', g3, g4, g5, g6, g7⟩
    have hst : stood (rfH s.H) (s.H.length + 1) = true := by
      unfold stood rfH
      rw [List.getElem?_set, if_pos rfl]
      simp [rfHa]
    have hst1 : stood (rfH s.H) s.H.length = true := by
      unfold stood rfH rfHa
      rw [List.getElem?_set, if_neg (by omega), List.getElem?_set, if_pos rfl]
      simp
    have hrl : (ρ' (s.H.length + 1)).1 = w.heap.size + 1 := by rw [(g7 _ hst).2, hρl]
    have hrd : (ρ' s.H.length).1 = w.heap.size := by rw [(g7 _ hst1).2, hρd]
    have hrec := rec_heap g6 (recB_ok hrq)
    rw [hrl, g4] at hrec
    obtain ⟨⟨bq, hq1, hq2⟩, hq3⟩ := recB_ok hrq
    have hrun := run_endLoop (P := X.P) hrec (by cases x <;> simp [jumpOf])
    have h3 := g6.setO (h := rfl) (o := .loop { loopRec fid a.tmps F.ps F.assign F.body w.heap.size with state := .exhausted, pending := jumpOf x }) hq1 hq2 hq3
    rw [hrl] at h3
    have hvv : ∀ l, stood s.H l = true → ρ' l = ρ l := fun l hl => ((g7 l (hv1 l hl).1).2).trans (hv1 l hl).2
    have fin := hQ ρ' (E'.setO 0 (.loop { loopRec fid a.tmps F.ps F.assign F.body w.heap.size with state := .exhausted, pending := jumpOf x }) rfl) _ ⟨g3.i, g3.b, g3.fi, g3.fb⟩ (by simp [Env.setO, g5, ho1]) hvv ⟨hTE _ ρ' hvv, by simp [hs.d], h3, fun l hl => ⟨(g7 l (hv1 l (hs.v l hl).1).1).1, (hvv l (hs.v l hl).1).trans (hs.v l hl).2⟩⟩
    rw [hrd] at fin
    refine ⟨_, _, hrun, ?_⟩
    cases x with
    | normal => exact fin
    | exit id => exact wpIn_exit fin
    | ret => exact wpIn_ret fin
end
end Go.Proofs.Ytjbpaejjpamcpaa.Eng
/- A range over a function within a function: the code ahead of it and behind it. No program in sight. -/
namespace Go.Proofs.Ytjbpaejjpamcpaa.Eng
set_option linter.unusedSimpArgs false
set_option linter.unusedVariables false
open Go Go.RowKit

/-- The code on the way to the range statement: false: the left part; true: the right part. -/
def execTo (X : Cx) (kn : Kn) (n : Nat) : List Bool → Code → St → Res (St × Code)
  | [], c, s => .ok (s, c)
  | false :: p, .seq c1 _, s => execTo X kn n p c1 s
  | true :: p, .seq c1 c2, s => (exec X kn n none c1 s).bind fun r => match r with
    | (.normal, s1) => execTo X kn n p c2 s1
    | _ => .fail 301
  | _ :: p, .block _ c, s => execTo X kn n p c s
  | _, _, _ => .fail 303
/-- From the range statement on. -/
def execFrom (X : Cx) (kn : Kn) (n : Nat) (x : Ex) (s : St) : List Bool → Code → Res (Ex × St)
  | [], _ => .ok (x, s)
  | false :: p, .seq c1 c2 => (execFrom X kn n x s p c1).bind fun r => match r with
    | (.normal, s1) => exec X kn n none c2 s1
    | r => .ok r
  | true :: p, .seq _ c2 => execFrom X kn n x s p c2
  | _ :: p, .block id c => (execFrom X kn n x s p c).bind fun r => match r with
    | (.exit id', s1) => .ok (if id' = id then .normal else .exit id', s1)
    | r => .ok r
  | _, _ => .fail 304
section
variable {X : Cx} {E : Env} {ρ : Pl} {kn kn' : Kn} {B : Base}
theorem path_ok {w0 : Wb} (hX : XOk X w0 E) (hk : kn.ok E) (hm : X.P.follows .mixedOrders = true) {n m : Nat} {x : Ex} {s2 : St} {RS : St → Act → World → Prop}
    (hRS : ∀ (c : Code) (s : St) (y : Ex) (s' : St), exec X kn' n none c s = .ok (y, s') → ∀ a w, RS s a w → c.wpIn Fence.wide m X.P (fun e a w => e = y.toExit ∧ RS s' a w) a w) : ∀ (p : List Bool) (c : Code) (s : St) (s1 : St) (cr : Code) (y : Ex) (s3 : St),
    execTo X kn n p c s = .ok (s1, cr) → execFrom X kn' n x s2 p c = .ok (y, s3) → (∀ ρ a w, Sat B w0 E s1 ρ a w → cr.wpIn Fence.wide m X.P (fun e a w => e = x.toExit ∧ RS s2 a w) a w) →
    ∀ ρ a w, Sat B w0 E s ρ a w → c.wpIn Fence.wide m X.P (fun e a w => e = y.toExit ∧ RS s3 a w) a w
  | [], c, s, s1, cr, y, s3, h1, h2, hR, ρ, a, w, hs => by
    simp only [execTo, Res.ok.injEq, Prod.mk.injEq] at h1
    simp only [execFrom, Res.ok.injEq, Prod.mk.injEq] at h2
    obtain ⟨rfl, rfl⟩ := h1
    obtain ⟨rfl, rfl⟩ := h2
    exact hR ρ a w hs
  | b :: p, c, s, s1, cr, y, s3, h1, h2, hR, ρ, a, w, hs => by
    cases c with
    | seq c1 c2 =>
      cases b with
      | false =>
        simp only [execTo] at h1
        simp only [execFrom] at h2
        obtain ⟨⟨y1, s4⟩, h3, h4⟩ := Res.bind_ok h2
        refine wpIn_seq (wpIn_mono (path_ok hX hk hm hRS p c1 s s1 cr y1 s4 h1 h3 hR ρ a w hs) ?_)
        rintro e a' w' ⟨rfl, hq⟩
        cases y1 with
        | normal => exact hRS c2 s4 y s3 h4 a' w' hq
        | exit id => simp at h4; obtain ⟨rfl, rfl⟩ := h4; exact ⟨rfl, hq⟩
        | ret => simp at h4; obtain ⟨rfl, rfl⟩ := h4; exact ⟨rfl, hq⟩
      | true =>
        simp only [execTo] at h1
        simp only [execFrom] at h2
        obtain ⟨⟨y1, s4⟩, h3, h4⟩ := Res.bind_ok h1
        refine wpIn_seq (wpIn_wide.2 (Code.wp_mono (fun e a' w' hq => ?_) ((exec_ok' hk hX hm n).1 none c1 s y1 s4 trivial h3 B ρ a w hs)))
        obtain ⟨rfl, ρ1, hs1⟩ := hq
        cases y1 with
        | normal => exact path_ok hX hk hm hRS p c2 s4 s1 cr y s3 h4 h2 hR ρ1 a' w' hs1
        | exit id => simp at h4
        | ret => simp at h4
    | block id c1 =>
      have h1' : execTo X kn n p c1 s = .ok (s1, cr) := by cases b <;> simpa [execTo] using h1
      have h2' : ((execFrom X kn' n x s2 p c1).bind fun r => match r with
        | (.exit id', s1) => .ok (if id' = id then .normal else .exit id', s1)
        | r => .ok r) = Res.ok (y, s3) := by cases b <;> simpa [execFrom] using h2
      obtain ⟨⟨y1, s4⟩, h3, h4⟩ := Res.bind_ok h2'
      refine wpIn_block (wpIn_mono (path_ok hX hk hm hRS p c1 s s1 cr y1 s4 h1' h3 hR ρ a w hs) ?_)
      rintro e a' w' ⟨rfl, hq⟩
      cases y1 with
      | normal => simp at h4; obtain ⟨rfl, rfl⟩ := h4; exact ⟨rfl, hq⟩
      | exit id' =>
        simp only [Ex.toExit, Exit.inBlock]
        by_cases hid : id' = id
        · simp [hid] at h4; obtain ⟨rfl, rfl⟩ := h4; rw [if_pos hid]; exact ⟨rfl, hq⟩
        · simp [hid] at h4; obtain ⟨rfl, rfl⟩ := h4; rw [if_neg hid]; exact ⟨rfl, hq⟩
      | ret => simp at h4; obtain ⟨rfl, rfl⟩ := h4; exact ⟨rfl, hq⟩
    | _ => cases b <;> simp [execTo] at h1
end
end Go.Proofs.Ytjbpaejjpamcpaa.Eng
/- A function that holds one range over a function: its contract. No program in sight. -/
namespace Go.Proofs.Ytjbpaejjpamcpaa.Eng
set_option linter.unusedSimpArgs false
set_option linter.unusedVariables false
open Go Go.RowKit

def obB (i : Nat) (H : List HE) (l : Nat) : Bool := (match H[l]? with
  | some (.blk b) => obSame b.ob (some (.obj i))
  | _ => false) && (List.range H.length).all fun m => m == l || (match H[m]? with
  | some (.blk b) => !obSame b.ob (some (.obj i))
  | _ => true)
theorem obB_ok {i : Nat} {H : List HE} {l : Nat} (h : obB i H l = true) : (∃ b, H[l]? = some (.blk b) ∧ b.ob = some (.obj i)) ∧ ∀ (m : Nat) (b : Blk), H[m]? = some (HE.blk b) → b.ob = some (.obj i) → m = l := by
  simp only [obB, Bool.and_eq_true] at h
  obtain ⟨h1, h2⟩ := h
  refine ⟨?_, fun m b hm hb => ?_⟩
  · split at h1
    · rename_i b hb
      exact ⟨b, hb, obSame_eq _ _ h1⟩
    · cases h1
  · have hlt : m < H.length := (List.getElem?_eq_some_iff.1 hm).1
    have := List.all_eq_true.1 h2 m (List.mem_range.2 hlt)
    rw [hm] at this
    simp only [hb, obSame, beq_self_eq_true, Bool.not_true, Bool.or_false, beq_iff_eq] at this
    exact this
theorem At.flat_eqL {E E' : Env} {ρ : Pl} (h : EqL E E') (a : At) (hf : a.flat = true) : a.den E' ρ = a.den E ρ := by
  cases a <;> first | rfl | (simp [At.flat] at hf; done) | simp only [At.den, SE.den_eqL h, SB.den_eqL h]
theorem CV.flat_eqL {E E' : Env} {ρ : Pl} (h : EqL E E') (c : CV) (hf : c.flat = true) : c.den E' ρ = c.den E ρ := by
  cases c with
  | one a => exact At.flat_eqL h a hf
  | agg cs =>
    simp only [CV.den]
    congr 2
    exact List.map_congr_left fun a ha => At.flat_eqL h a (List.all_eq_true.1 hf a ha)
theorem SVal.flat_eqL {E E' : Env} {ρ : Pl} (h : EqL E E') (s : SVal) (hf : s.flat = true) : s.den E' ρ = s.den E ρ := by
  cases s with
  | cv c => exact CV.flat_eqL h c hf
  | tup cs =>
    simp only [SVal.den]
    congr 2
    exact List.map_congr_left fun c hc => CV.flat_eqL h c (List.all_eq_true.1 hf c hc)
  | any => rfl
section
variable {X : Cx} {fi : Nat → Nat → List Int → Int} {fb : Nat → Nat → List Int → Bool}
/-- What is known behind the range statement, in the outer frame. -/
def Behind (B : Base) (w0 : Wb) (fi : Nat → Nat → List Int → Int) (fb : Nat → Nat → List Int → Bool) (ys : List Int) (ld : Nat) (K : List HE) (s : St) (a : Act) (w : World) : Prop :=
  ∃ ρ0 E', IsE fi fb ys E' ∧ E'.o 1 = .deferred (some []) ∧ (∀ l, stood B.1 l = true → ρ0 l = B.2.1 l) ∧ ∃ ρ', Sat (K, ρ0, { target := .collected (ρ0 ld).1, args := #[] } :: B.2.2) w0 E' s ρ' a w
theorem rfn_any {w0 : World} (hX : ∀ E', E'.fi = fi → E'.fb = fb → XOk X w0 E') (hm : X.P.follows .mixedOrders = true) {f : Nat} {fo : Func} (hfo : X.P.funcs[f]? = some fo) {co : Code} (hco : fo.body = some co) {args : List SVal}
    {n m d : Nat} {F : RF} {e : ILoop} {c : Code} {gf lp off : Nat} {fn : Func} (hf : X.P.funcs[gf]? = some fn) {p0 p1 : Code} {b : Nat} (hbd : fn.body = some (.seq p0 (.seq p1 (.block b (.loop c)))))
    (eg : ∀ args w, (callFunc gf args).run X.P w = .ok (.enter gf args) w) {kn : Kn} {p : List Bool} {s : St} {g : Operand} (hto : execTo X kn n p co ⟨args ++ List.replicate (fo.ntmps - args.length) (.tup []), []⟩ = .ok (s, .rangeFunc g F.ps F.assign F.body))
    (hg : aat s.T g = some (.clo gf lp off)) (hlp : stood s.H lp = true) (hT0 : F.T0 = s.T.map SVal.blur) (hin : F.T0.all (SVal.inH s.H) = true) (hfr : rfFresh s.H = true)
    {σ : List SE} (hσ : iPre X n e p0 p1 ⟨[.cv (.one (.yld (s.H.length + 1))), .cv (.one (.ptr lp off))] ++ List.replicate (fn.ntmps - 2) (.tup []), rfH s.H⟩ = some σ) (hbl : (rfH s.H).length ≤ e.pat.H.length)
    {t : BTree} (ht : iTree X F e n c d [] = t) {zs ys : List Int} (hk : kn.ok (envOf zs fi fb)) {N κ : Nat} (hl : loopF fi fb t N (σ.map (SE.den (envOf zs fi fb))) = some (κ, ys))
    {x x2 : Ex} {q : St} {n' : Nat} (hκ : e.outs[κ]? = some (x, x2, q, n')) (hx2 : x2 = .ret ∨ x2 = .exit b) {cs : List CV} (hcs : resVal X.P q fn.results.toList = some cs) (hrq : recB q.H (s.H.length + 1) = true)
    {y : Ex} {s3 : St} (hfrom : execFrom X [] n x ⟨F.T0, q.H⟩ p co = .ok (y, s3)) (hy : y = .normal ∨ y = .ret) (hqd : stood q.H s.H.length = true) (hmk : obB 1 s3.H s.H.length = true) {cs3 : List CV} (hcs3 : resVal X.P s3 fo.results.toList = some cs3) :
    CallsIn Fence.wide (m + 2) X.P f (args.map (SVal.den (envOf zs fi fb) Pl.no)).toArray w0 fun en w' => ∃ ρ' E', EqL (envOf ys fi fb) E' ∧ en = .returned ((SVal.ofRes cs3).den E' ρ') ∧ RelH w0 E' s3.H ρ' w' := by
  refine callsIn_of_wp_marks hfo hco trivial ?_
  have hH0 : RelH w0 (envOf zs fi fb) [] Pl.no w0 := ⟨Hb.refl _, fun l b hl => by simp at hl, fun l b hl => by simp at hl, fun l l' b b' hl => by simp at hl⟩
  have h0 : Sat ([], Pl.no, []) w0 (envOf zs fi fb) ⟨args ++ List.replicate (fo.ntmps - args.length) (.tup []), []⟩ Pl.no { tmps := (args.map (SVal.den (envOf zs fi fb) Pl.no)).toArray ++ Array.replicate (fo.ntmps - (args.map (SVal.den (envOf zs fi fb) Pl.no)).toArray.size) undef, defers := [] } w0 := by
    refine ⟨?_, rfl, hH0, Via.refl _ _⟩
    refine TOk.of_map ?_
    simp [List.map_append, SVal.den, undef]
  refine wpIn_mono (path_ok (hX _ rfl rfl) hk hm (kn' := []) (x := x) (s2 := ⟨F.T0, q.H⟩) (RS := Behind ([], Pl.no, []) w0 fi fb ys s.H.length q.H) ?_ p co _ s _ y s3 hto hfrom ?_ Pl.no _ w0 h0) ?_
  · rintro c' s' y' s'' he a w ⟨ρ0, E', i1, i2, i3, ρ', hs⟩
    refine wpIn_wide.2 (Code.wp_mono (fun e1 a1 w1 hq => ?_) ((exec_ok' (kn := []) (fun p hp => by cases hp) (hX E' i1.fi i1.fb) hm n).1 none c' s' y' s'' trivial he _ ρ' a w hs))
    obtain ⟨rfl, ρ2, hs2⟩ := hq
    exact ⟨rfl, ρ0, E', i1, i2, i3, ρ2, hs2⟩
  · intro ρ a w hs
    refine rf_ok hX hm hf hbd eg hg hlp hT0 hin hfr hσ hbl ht hl ⟨rfl, rfl, rfl, rfl⟩ hκ hx2 hcs hrq hs (fun ρ' E' w' i1 i2 i3 hs' => ⟨rfl, ρ', E', i1, i2, fun l hl => by simp [stood] at hl, ρ', hs'.t, hs'.d, hs'.h, Via.refl _ _⟩)
  · rintro ex a w ⟨rfl, ρ0, E', i1, i2, i3, ρ', hs⟩
    obtain ⟨⟨bq, hq1, hq2⟩, hq3⟩ := obB_ok hmk
    have hD : w.heap[(ρ' s.H.length).1]? = some (.deferred (some [])) := by
      rw [((hs.h.blk _ bq hq1).obj hq2).2.2, i2]
    have hDe : ρ' s.H.length = ρ0 s.H.length := (hs.v _ hqd).2
    have h3 := hs.h.setO (h := rfl) (o := .deferred none) hq1 hq2 hq3
    have hs3 : Sat _ w0 (E'.setO 1 (.deferred none) rfl) s3 ρ' a (w.putObj (ρ' s.H.length).1 (.deferred none)) := ⟨hs.t.setO, hs.d, h3, hs.v⟩
    have fin : LeavesInM Fence.wide (m + 2) X.P fo a.tmps (fun en w' => ∃ ρ' E', EqL (envOf ys fi fb) E' ∧ en = .returned ((SVal.ofRes cs3).den E' ρ') ∧ RelH w0 E' s3.H ρ' w') a.defers .returning w := by
      rw [hs.d]
      refine ⟨by simp, Or.inl ⟨_, _, rfl, run_takeDeferred (by rw [← hDe]; exact hD), _, by rw [← hDe]; exact results_run (X := X) hs3 hcs3, ρ', E'.setO 1 (.deferred none) rfl, ⟨i1.i, i1.b, i1.fi, i1.fb⟩, rfl, by rw [← hDe]; exact h3⟩⟩
    rcases hy with rfl | rfl
    · exact fin
    · exact fin
theorem rfn_ok {w0 : World} (hX : ∀ E', E'.fi = fi → E'.fb = fb → XOk X w0 E') (hm : X.P.follows .mixedOrders = true) {f : Nat} {fo : Func} (hfo : X.P.funcs[f]? = some fo) {co : Code} (hco : fo.body = some co) {args : List SVal}
    {n m d : Nat} {F : RF} {e : ILoop} {c : Code} {gf lp off : Nat} {fn : Func} (hf : X.P.funcs[gf]? = some fn) {p0 p1 : Code} {b : Nat} (hbd : fn.body = some (.seq p0 (.seq p1 (.block b (.loop c)))))
    (eg : ∀ args w, (callFunc gf args).run X.P w = .ok (.enter gf args) w) {kn : Kn} {p : List Bool} {s : St} {g : Operand} (hto : execTo X kn n p co ⟨args ++ List.replicate (fo.ntmps - args.length) (.tup []), []⟩ = .ok (s, .rangeFunc g F.ps F.assign F.body))
    (hg : aat s.T g = some (.clo gf lp off)) (hlp : stood s.H lp = true) (hT0 : F.T0 = s.T.map SVal.blur) (hin : F.T0.all (SVal.inH s.H) = true) (hfr : rfFresh s.H = true)
    {σ : List SE} (hσ : iPre X n e p0 p1 ⟨[.cv (.one (.yld (s.H.length + 1))), .cv (.one (.ptr lp off))] ++ List.replicate (fn.ntmps - 2) (.tup []), rfH s.H⟩ = some σ) (hbl : (rfH s.H).length ≤ e.pat.H.length)
    {t : BTree} (ht : iTree X F e n c d [] = t) {zs ys : List Int} (hk : kn.ok (envOf zs fi fb)) {N κ : Nat} (hl : loopF fi fb t N (σ.map (SE.den (envOf zs fi fb))) = some (κ, ys))
    {x x2 : Ex} {q : St} {n' : Nat} (hκ : e.outs[κ]? = some (x, x2, q, n')) (hx2 : x2 = .ret ∨ x2 = .exit b) {cs : List CV} (hcs : resVal X.P q fn.results.toList = some cs) (hrq : recB q.H (s.H.length + 1) = true)
    {y : Ex} {s3 : St} (hfrom : execFrom X [] n x ⟨F.T0, q.H⟩ p co = .ok (y, s3)) (hy : y = .normal ∨ y = .ret) (hqd : stood q.H s.H.length = true) (hmk : obB 1 s3.H s.H.length = true) {cs3 : List CV} (hcs3 : resVal X.P s3 fo.results.toList = some cs3) (hfl : (SVal.ofRes cs3).flat = true) :
    CallsIn Fence.wide (m + 2) X.P f (args.map (SVal.den (envOf zs fi fb) Pl.no)).toArray w0 (Gives ((SVal.ofRes cs3).den (envOf ys fi fb) Pl.no) w0) := by
  refine (rfn_any hX hm hfo hco hf hbd eg hto hg hlp hT0 hin hfr hσ hbl ht hk hl hκ hx2 hcs hrq hfrom hy hqd hmk hcs3).mono ?_
  rintro en w' ⟨ρ', E', hE, rfl, hH⟩
  exact ⟨by rw [SVal.flat_eqL hE _ hfl, SVal.flat_den _ hfl ρ' Pl.no], Hb.below hH.below⟩
end
end Go.Proofs.Ytjbpaejjpamcpaa.Eng
/- A function that holds one range over a function: all that a walk has to find, in one reckoning. No program in sight. -/
namespace Go.Proofs.Ytjbpaejjpamcpaa.Eng
set_option linter.unusedSimpArgs false
set_option linter.unusedVariables false
open Go Go.RowKit

/-- The way to the range statement. -/
def rngTo (X : Cx) (kn : Kn) (n : Nat) (p : List Bool) (f : Nat) (args : List SVal) : Option (St × Operand × RF × Func × Code) :=
  match X.P.funcs[f]? with
  | none => none
  | some fo => match fo.body with
    | none => none
    | some co => match execTo X kn n p co ⟨args ++ List.replicate (fo.ntmps - args.length) (.tup []), []⟩ with
      | .ok (s, .rangeFunc g ps assign body) => some (s, g, ⟨s.T.map SVal.blur, ps, assign, body⟩, fo, co)
      | _ => none
theorem rngTo_ok {X : Cx} {kn : Kn} {n : Nat} {p : List Bool} {f : Nat} {args : List SVal} {s : St} {g : Operand} {F : RF} {fo : Func} {co : Code} (h : rngTo X kn n p f args = some (s, g, F, fo, co)) :
    X.P.funcs[f]? = some fo ∧ fo.body = some co ∧ execTo X kn n p co ⟨args ++ List.replicate (fo.ntmps - args.length) (.tup []), []⟩ = .ok (s, .rangeFunc g F.ps F.assign F.body) ∧ F.T0 = s.T.map SVal.blur := by
  unfold rngTo at h
  split at h <;> try (cases h; done)
  rename_i fo' h1
  split at h <;> try (cases h; done)
  rename_i co' h2
  split at h <;> try (cases h; done)
  rename_i s' g' ps assign body h3
  simp only [Option.some.injEq, Prod.mk.injEq] at h
  obtain ⟨rfl, rfl, rfl, rfl, rfl⟩ := h
  exact ⟨h1, h2, h3, rfl⟩
/-- The iterator: its parts. -/
def iterOf (P : Program) (gf : Nat) : Option (Func × Code × Code × Nat × Code) :=
  match P.funcs[gf]? with
  | none => none
  | some fn => match fn.body with
    | some (.seq p0 (.seq p1 (.block b (.loop c)))) => some (fn, p0, p1, b, c)
    | _ => none
theorem iterOf_ok {P : Program} {gf : Nat} {fn : Func} {p0 p1 c : Code} {b : Nat} (h : iterOf P gf = some (fn, p0, p1, b, c)) : P.funcs[gf]? = some fn ∧ fn.body = some (.seq p0 (.seq p1 (.block b (.loop c)))) := by
  unfold iterOf at h
  split at h <;> try (cases h; done)
  rename_i fn' h1
  split at h <;> try (cases h; done)
  rename_i p0' p1' b' c' h2
  simp only [Option.some.injEq, Prod.mk.injEq] at h
  obtain ⟨rfl, rfl, rfl, rfl, rfl⟩ := h
  exact ⟨h1, h2⟩
def endsIn (b : Nat) : Ex → Bool
  | .ret => true
  | .exit i => i == b
  | .normal => false
def plainEx : Ex → Bool
  | .exit _ => false
  | _ => true
/-- What the function gives behind the way out. -/
def rngOut (X : Cx) (n : Nat) (p : List Bool) (L b : Nat) (F : RF) (fo fn : Func) (co : Code) (o : Ex × Ex × St × Nat) : Option (List CV) :=
  if endsIn b o.2.1 && (resVal X.P o.2.2.1 fn.results.toList).isSome && recB o.2.2.1.H (L + 1) && stood o.2.2.1.H L then
    match execFrom X [] n o.1 ⟨F.T0, o.2.2.1.H⟩ p co with
    | .ok (y, s3) => if plainEx y && obB 1 s3.H L then resVal X.P s3 fo.results.toList else none
    | _ => none
  else none
def rngAll (X : Cx) (kn : Kn) (n d : Nat) (p : List Bool) (f gf : Nat) (args : List SVal) (e : ILoop) : Option (BTree × List SE × List (Option (List CV))) :=
  match rngTo X kn n p f args with
  | none => none
  | some (s, g, F, fo, co) => match aat s.T g with
    | some (.clo gf' lp off) => if gf' = gf ∧ (stood s.H lp && F.T0.all (SVal.inH s.H) && rfFresh s.H && decide ((rfH s.H).length ≤ e.pat.H.length)) = true then
        match iterOf X.P gf with
        | none => none
        | some (fn, p0, p1, b, c) => match iPre X n e p0 p1 ⟨[.cv (.one (.yld (s.H.length + 1))), .cv (.one (.ptr lp off))] ++ List.replicate (fn.ntmps - 2) (.tup []), rfH s.H⟩ with
          | none => none
          | some σ => some (iTree X F e n c d [], σ, e.outs.map (rngOut X n p s.H.length b F fo fn co))
      else none
    | _ => none
theorem rngAll_ok {X : Cx} {fi : Nat → Nat → List Int → Int} {fb : Nat → Nat → List Int → Bool} {w0 : World} (hX : ∀ E', E'.fi = fi → E'.fb = fb → XOk X w0 E') (hm : X.P.follows .mixedOrders = true) {kn : Kn} {n d : Nat} {p : List Bool} {f gf : Nat} {args : List SVal} {e : ILoop} {t : BTree} {σ : List SE} {vs : List (Option (List CV))}
    (h : rngAll X kn n d p f gf args e = some (t, σ, vs)) (eg : Enters X.P gf) {zs ys : List Int} (hk : kn.ok (envOf zs fi fb)) {N κ : Nat} (hl : loopF fi fb t N (σ.map (SE.den (envOf zs fi fb))) = some (κ, ys)) {cs : List CV} (hv : vs[κ]? = some (some cs)) (hfl : (SVal.ofRes cs).flat = true) :
    Calls X.P f (args.map (SVal.den (envOf zs fi fb) Pl.no)).toArray w0 (Gives ((SVal.ofRes cs).den (envOf ys fi fb) Pl.no) w0) := by
  unfold rngAll at h
  split at h <;> try (cases h; done)
  rename_i s g F fo co h1
  obtain ⟨a1, a2, a3, a4⟩ := rngTo_ok h1
  split at h <;> try (cases h; done)
  rename_i gf' lp off h2
  split at h <;> try (cases h; done)
  rename_i hc
  obtain ⟨rfl, hc⟩ := hc
  simp only [Bool.and_eq_true, decide_eq_true_eq] at hc
  obtain ⟨⟨⟨c1, c2⟩, c3⟩, c4⟩ := hc
  split at h <;> try (cases h; done)
  rename_i fn p0 p1 b c h3
  obtain ⟨b1, b2⟩ := iterOf_ok h3
  split at h <;> try (cases h; done)
  rename_i σ' h4
  simp only [Option.some.injEq, Prod.mk.injEq] at h
  obtain ⟨rfl, rfl, rfl⟩ := h
  rw [List.getElem?_map] at hv
  obtain ⟨⟨x, x2, q, n'⟩, hκ, hv⟩ := Option.map_eq_some_iff.1 hv
  unfold rngOut at hv
  split at hv <;> try (cases hv; done)
  rename_i hd
  simp only [Bool.and_eq_true] at hd
  obtain ⟨⟨⟨d1, d2⟩, d3⟩, d4⟩ := hd
  obtain ⟨cs1, d2⟩ := Option.isSome_iff_exists.1 d2
  split at hv <;> try (cases hv; done)
  rename_i y s3 h5
  split at hv <;> try (cases hv; done)
  rename_i hy
  simp only [Bool.and_eq_true] at hy
  have hx2 : x2 = .ret ∨ x2 = .exit b := by
    cases x2 with
    | ret => exact Or.inl rfl
    | exit i => simp only [endsIn, beq_iff_eq] at d1; exact Or.inr (by rw [d1])
    | normal => cases d1
  have hyy : y = .normal ∨ y = .ret := by
    cases y with
    | ret => exact Or.inr rfl
    | normal => exact Or.inl rfl
    | exit i => cases hy.1
  have := rfn_ok (m := 0) hX hm a1 a2 b1 b2 eg a3 h2 c1 a4 c2 c3 h4 c4 rfl hk hl hκ hx2 d2 d3 h5 hyy d4 hy.2 hv hfl
  exact callsIn_wide.1 this
end Go.Proofs.Ytjbpaejjpamcpaa.Eng
