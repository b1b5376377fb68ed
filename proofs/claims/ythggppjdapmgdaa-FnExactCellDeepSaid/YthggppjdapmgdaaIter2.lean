/- A range over a function: one turn of the iterator's own loop. No program in sight. -/
import Derived.Test.YthggppjdapmgdaaIter
namespace Go.Proofs.Ythggppjdapmgdaa.Eng
set_option linter.unusedSimpArgs false
set_option linter.unusedVariables false
open Go Go.RowKit

/-- The loop's record is block lr, and no other block is it. -/
def isZero : Option Ob → Bool
  | some (.obj 0) => true
  | _ => false
theorem isZero_iff : ∀ {o : Option Ob}, isZero o = true ↔ o = some (.obj 0)
  | none => by simp [isZero]
  | some (.obj 0) => by simp [isZero]
  | some (.obj (n + 1)) => by simp [isZero]
  | some (.row r) => by simp [isZero]
def isRec : HE → Bool
  | .blk b => isZero b.ob
  | _ => false
def recB (H : List HE) (lr : Nat) : Bool := (match H[lr]? with
  | some h => isRec h
  | none => false) && (List.range H.length).all fun m => m == lr || !(match H[m]? with
  | some h => isRec h
  | none => false)
theorem isRec_iff {b : Blk} : isRec (.blk b) = true ↔ b.ob = some (.obj 0) := isZero_iff
theorem recB_ok {H : List HE} {lr : Nat} (h : recB H lr = true) : RecAt H lr := by
  simp only [recB, Bool.and_eq_true] at h
  obtain ⟨h1, h2⟩ := h
  refine ⟨?_, fun m b hm hb => ?_⟩
  · cases hl : H[lr]? with
    | none => rw [hl] at h1; cases h1
    | some x =>
      rw [hl] at h1
      cases x with
      | blk b => exact ⟨b, rfl, isRec_iff.1 h1⟩
      | free => cases h1
      | dead => cases h1
  · have := List.all_eq_true.1 h2 m (List.mem_range.2 (List.getElem?_eq_some_iff.1 hm).1)
    rw [hm] at this
    simp only [isRec_iff.2 hb, Bool.not_true, Bool.or_false, beq_iff_eq] at this
    exact this
/-- The loop's words: the frame that the record keeps, its slots, its codes. -/
structure RF where
  T0 : List SVal
  ps : Array Tmp
  assign : Code
  body : Code
/-- Of the region that ends in the call of yield: the round inlined. -/
def iterReg (X : Cx) (kn : Kn) (n : Nat) (F : RF) (ops : Array Oper) (s : St) : Res (Ex × St) :=
  match ops[ops.size - 1]? with
  | none => .fail 201
  | some oc => match oc.op, oc.guard with
    | .call c, none => match c.callee with
      | .value (.tmp y) => if ops.toList.all plainOp && decide (0 < ops.size) && plainCode F.assign && plainCode F.body then
          (runSeq { X with call := callTop X (exec X kn n) } kn ops (nidsFrom s.H.length ops.toList) (List.range (ops.size - 1)) ⟨s.T, s.H ++ List.replicate (made ops.toList) .free⟩).bind fun sA =>
          match sA.T[y]?, mapAop sA.T c.args with
          | some (.cv (.one (.yld lr))), some args => if args.length = F.ps.size ∧ (recB sA.H lr && sA.T.all (SVal.inH sA.H)) = true then
              (exec X kn n none F.assign ⟨setAll F.T0 (F.ps.toList.zip args), sA.H⟩).bind fun r1 => match r1 with
                | (.normal, s1) => (exec X kn n none F.body s1).bind fun r2 => if (recB s1.H lr && recB r2.2.H lr) = true then .ok (r2.1, ⟨putT sA.T oc.dst (.cv (.one (.bool (.lit (jumpOf r2.1).isNone)))), r2.2.H⟩) else .fail 206
                | _ => .fail 205
            else .fail 204
          | _, _ => .fail 203
        else .fail 207
      | _ => .fail 202
    | _, _ => .fail 202
/-- One turn: the region with the call of yield, what asks for its answer, the rest. -/
def iterBody (X : Cx) (kn : Kn) (n : Nat) (F : RF) (c : Code) (s : St) : Res (Ex × Ex × St) :=
  match c with
  | .seq (.seq (.region _ ops false) c1) rest => (iterReg X kn n F ops s).bind fun r => (exec X kn n none c1 r.2).bind fun r1 => match r1 with
    | (.normal, s1) => (exec X kn n none rest s1).bind fun r2 => .ok (r.1, r2.1, r2.2)
    | (x, s1) => .ok (r.1, x, s1)
  | _ => .fail 208
/-- What the walk knows behind a turn. -/
def Turn (B : Base) (w0 : Wb) (E : Env) (r : Loop) (x x2 : Ex) (s : St) : Exit → Act → World → Prop := fun e a w => e = x2.toExit ∧ Yielded B w0 E r x s a w
section
variable {X : Cx} {E : Env} {ρ : Pl} {kn : Kn} {B : Base}
theorem iterReg_ok {w0 : Wb} (hX : ∀ E', EqO E E' → XOk X w0 E') (hk : kn.ok E) (hm : X.P.follows .mixedOrders = true) {n m id : Nat} {F : RF} {ops : Array Oper} {s : St} {x : Ex} {s' : St} (h : iterReg X kn n F ops s = .ok (x, s'))
    {r : Loop} (hro : E.o 0 = .loop r) (hrs : r.state = .ready) (hp : r.params = F.ps) (ha : r.assign = F.assign) (hb : r.body = F.body) (hT : ∀ (H : List HE) (ρ' : Pl), Via B.1 B.2.1 H ρ' → Fits E ρ' F.T0 r.tmps.toList)
    {a : Act} {w : World} (hs : Sat B w0 E s ρ a w) {Q : Exit → Act → World → Prop} (hQ : ∀ a' w', Yielded B w0 E r x s' a' w' → Q .normal a' w') : (Code.region id ops false).wpIn Fence.wide (m + 1) X.P Q a w := by
  unfold iterReg at h
  split at h <;> try (cases h; done)
  rename_i oc hoc
  split at h <;> try (cases h; done)
  rename_i c hop hg
  split at h <;> try (cases h; done)
  rename_i y hcal
  split at h <;> try (cases h; done)
  rename_i hpl
  simp only [Bool.and_eq_true, decide_eq_true_eq] at hpl
  obtain ⟨⟨⟨hpl, hpos⟩, hpa⟩, hpb⟩ := hpl
  obtain ⟨sA, hA, h⟩ := Res.bind_ok h
  split at h <;> try (cases h; done)
  rename_i lr args hy hargs
  split at h <;> try (cases h; done)
  rename_i hc
  simp only [Bool.and_eq_true] at hc
  obtain ⟨hln, hr0, hin⟩ := hc
  obtain ⟨⟨x1, s1⟩, h1, h⟩ := Res.bind_ok h
  cases x1 <;> simp only [] at h <;> try (cases h; done)
  obtain ⟨⟨x2, s2⟩, h2, h⟩ := Res.bind_ok h
  simp only [] at h
  split at h <;> try (cases h; done)
  rename_i hr
  simp only [Bool.and_eq_true] at hr
  simp only [Res.ok.injEq, Prod.mk.injEq] at h
  obtain ⟨rfl, rfl⟩ := h
  have hs0 := sat_free hs (made ops.toList)
  exact yield_region hX (fun E' hE => Kn.ok_eqO hk hE) hm hpl (k := ops.size - 1) (by omega) hoc hg hop hcal hA hy hargs hro hrs (hT sA.H) (by rw [hp]; exact hln) (by rw [ha]; exact hpa) (by rw [hb]; exact hpb) (by rw [hp, ha]; exact h1) (by rw [hb]; exact h2) (recB_ok hr0) (recB_ok hr.1) (recB_ok hr.2) hin hs0 hQ
theorem iterBody_ok {w0 : Wb} (hX : ∀ E', EqO E E' → XOk X w0 E') (hk : kn.ok E) (hm : X.P.follows .mixedOrders = true) {n m : Nat} {F : RF} {c : Code} {s : St} {x x2 : Ex} {s' : St} (h : iterBody X kn n F c s = .ok (x, x2, s'))
    {r : Loop} (hro : E.o 0 = .loop r) (hrs : r.state = .ready) (hp : r.params = F.ps) (ha : r.assign = F.assign) (hb : r.body = F.body) (hT : ∀ (H : List HE) (ρ' : Pl), Via B.1 B.2.1 H ρ' → Fits E ρ' F.T0 r.tmps.toList)
    {a : Act} {w : World} (hs : Sat B w0 E s ρ a w) : c.wpIn Fence.wide (m + 1) X.P (Turn B w0 E r x x2 s') a w := by
  unfold iterBody at h
  split at h <;> try (cases h; done)
  rename_i id ops c1 rest
  obtain ⟨⟨x0, sB⟩, h0, h⟩ := Res.bind_ok h
  obtain ⟨⟨x1, sC⟩, h1, h⟩ := Res.bind_ok h
  have plain : ∀ {c : Code} {sx : St} {y : Ex} {sy : St} {Q : Exit → Act → World → Prop}, exec X kn n none c sx = .ok (y, sy) → ∀ a w, Yielded B w0 E r x0 sx a w → (∀ a w, Yielded B w0 E r x0 sy a w → Q y.toExit a w) → c.wpIn Fence.wide (m + 1) X.P Q a w := by
    intro c sx y sy Q he a w hy hq
    obtain ⟨ρ', E', hE, ho, hs'⟩ := hy.out
    refine wpIn_wide.2 (Code.wp_mono (fun e a w hw => ?_) ((exec_ok' (Kn.ok_eqO hk hE) (hX E' hE) hm n).1 none c sx y sy trivial he B ρ' a w hs'))
    obtain ⟨rfl, ρ2, hs2⟩ := hw
    exact hq a w ⟨⟨ρ2, E', hE, ho, hs2⟩⟩
  refine wpIn_seq (wpIn_seq (iterReg_ok hX hk hm h0 hro hrs hp ha hb hT hs (fun a1 w1 hy1 => ?_)))
  refine plain h1 a1 w1 hy1 (fun a2 w2 hy2 => ?_)
  cases x1 with
  | normal =>
    obtain ⟨⟨x3, sD⟩, h3, h⟩ := Res.bind_ok h
    simp only [Res.ok.injEq, Prod.mk.injEq] at h
    obtain ⟨rfl, rfl, rfl⟩ := h
    exact plain h3 a2 w2 hy2 (fun a3 w3 hy3 => ⟨rfl, hy3⟩)
  | exit id =>
    simp only [Res.ok.injEq, Prod.mk.injEq] at h
    obtain ⟨rfl, rfl, rfl⟩ := h
    exact ⟨rfl, hy2⟩
  | ret =>
    simp only [Res.ok.injEq, Prod.mk.injEq] at h
    obtain ⟨rfl, rfl, rfl⟩ := h
    exact ⟨rfl, hy2⟩
end
end Go.Proofs.Ythggppjdapmgdaa.Eng
