/- A range over a function: the iterator's own loop. No program in sight. -/
import Derived.Test.YthggppjdapmgdaaIter2
namespace Go.Proofs.Ythggppjdapmgdaa.Eng
set_option linter.unusedSimpArgs false
set_option linter.unusedVariables false
open Go Go.RowKit

/-! ### Letters turn, objects stay -/
structure EqL (E E' : Env) : Prop where
  i : E'.i = E.i
  b : E'.b = E.b
  fi : E'.fi = E.fi
  fb : E'.fb = E.fb
mutual
theorem SE.den_eqL {E E' : Env} (h : EqL E E') : ∀ e : SE, e.den E' = e.den E
  | .var i => by simp only [SE.den, h.i]
  | .lit _ => rfl
  | .bin _ _ a b => by simp only [SE.den, SE.den_eqL h a, SE.den_eqL h b]
  | .wrap _ a => by simp only [SE.den, SE.den_eqL h a]
  | .ite c a b => by simp only [SE.den, SE.den_eqL h a, SE.den_eqL h b, SB.den_eqL h c]
  | .app _ _ xs => by simp only [SE.den, SL.den_eqL h xs, h.fi]
theorem SB.den_eqL {E E' : Env} (h : EqL E E') : ∀ e : SB, e.den E' = e.den E
  | .var i => by simp only [SB.den, h.b]
  | .lit _ => rfl
  | .cmp _ a b => by simp only [SB.den, SE.den_eqL h a, SE.den_eqL h b]
  | .not a => by simp only [SB.den, SB.den_eqL h a]
  | .and a b => by simp only [SB.den, SB.den_eqL h a, SB.den_eqL h b]
  | .beq a b => by simp only [SB.den, SB.den_eqL h a, SB.den_eqL h b]
  | .app _ _ xs => by simp only [SB.den, SL.den_eqL h xs, h.fb]
theorem SL.den_eqL {E E' : Env} (h : EqL E E') : ∀ e : SL, e.den E' = e.den E
  | .nil => rfl
  | .cons x xs => by simp only [SL.den, SE.den_eqL h x, SL.den_eqL h xs]
end
def Env.sub (E : Env) (σ : List SE) : Env := { E with i := fun n => (σ.map (SE.den E)).getD n 0, b := fun _ => false }
theorem sub_eqL (E : Env) (σ : List SE) : EqL (envOf (σ.map (SE.den E)) E.fi E.fb) (E.sub σ) := ⟨rfl, rfl, rfl, rfl⟩
section
variable {E : Env} {ρ : Pl} {σ : List SE} {B : Base}
theorem SE.sub_den (e : SE) : (e.subst σ).den E = e.den (E.sub σ) := by rw [SE.subst_den, SE.den_eqL (sub_eqL E σ)]
theorem SB.sub_den (e : SB) : (e.subst σ).den E = e.den (E.sub σ) := by rw [SB.subst_den, SB.den_eqL (sub_eqL E σ)]
theorem At.sub_den (a : At) : (a.subst σ).den E ρ = a.den (E.sub σ) ρ := by
  cases a <;> first | rfl | simp only [At.subst, At.den, SE.sub_den, SB.sub_den]
theorem ats_sub_den (cs : List At) : (cs.map (At.subst σ)).map (At.den E ρ) = cs.map (At.den (E.sub σ) ρ) := by
  rw [List.map_map]; exact List.map_congr_left fun a _ => At.sub_den a
theorem CV.sub_den (c : CV) : (c.subst σ).den E ρ = c.den (E.sub σ) ρ := by
  cases c with
  | one a => exact At.sub_den a
  | agg cs => simp only [CV.subst, CV.den, ats_sub_den]
theorem SVal.sub_den (s : SVal) : (s.subst σ).den E ρ = s.den (E.sub σ) ρ := by
  cases s with
  | cv c => exact CV.sub_den c
  | tup cs =>
    simp only [SVal.subst, SVal.den, List.map_map]
    congr 2
    exact List.map_congr_left fun c _ => CV.sub_den c
  | any => rfl
theorem fits_sub : ∀ {T : List SVal} {vs : List Value}, Fits E ρ (T.map (SVal.subst σ)) vs ↔ Fits (E.sub σ) ρ T vs
  | [], [] => Iff.rfl
  | [], _ :: _ => by simp [Fits]
  | _ :: _, [] => by simp [Fits]
  | s :: T, v :: vs => by simp only [List.map_cons, Fits, SVal.isAny_subst, SVal.sub_den s, fits_sub (T := T)]
theorem blkAt_sub {w : World} {l : Nat} {b : Blk} : BlkAt E ρ w l { b with cs := b.cs.map (At.subst σ), ob := b.ob.map (Ob.subst σ) } ↔ BlkAt (E.sub σ) ρ w l b := by
  have hr : ∀ r : Row, RowAt E ρ w l b.ty (r.subst σ) ↔ RowAt (E.sub σ) ρ w l b.ty r := fun r => rowAt_subst rfl (fun e => SE.sub_den e)
  obtain ⟨ty, cs, sz, ob⟩ := b
  rcases ob with _ | (i | r)
  · unfold BlkAt CellsAt
    simp only [ats_sub_den, List.length_map, Option.map_none, true_and, reduceCtorEq, false_and, exists_false, or_false]
  · unfold BlkAt
    simp only [Option.map_some, Ob.subst, reduceCtorEq, false_and, exists_false, false_or, or_false, Option.some.injEq, Ob.obj.injEq, exists_eq_left', List.map_eq_nil_iff]
    rfl
  · unfold BlkAt
    simp only [Option.map_some, Ob.subst, reduceCtorEq, false_and, exists_false, false_or, Option.some.injEq, Ob.row.injEq, exists_eq_left', List.map_eq_nil_iff, hr]
theorem sat_sub {w0 : Wb} {s : St} {a : Act} {w : World} (hs : Sat B w0 E (s.subst σ) ρ a w) : Sat B w0 (E.sub σ) s ρ a w := by
  have up : ∀ (l : Nat) (b : Blk), s.H[l]? = some (HE.blk b) → (s.H.map (HE.subst σ))[l]? = some (.blk { b with cs := b.cs.map (At.subst σ), ob := b.ob.map (Ob.subst σ) }) := fun l b hl => by rw [List.getElem?_map, hl]; rfl
  refine ⟨fits_sub.1 hs.t, hs.d, ⟨hs.h.below, fun l b hl => hs.h.ge l _ (up l b hl), fun l b hl => blkAt_sub.1 (hs.h.blk l _ (up l b hl)), fun l l' b b' hl hl' he => hs.h.inj l l' _ _ (up l b hl) (up l' b' hl') he⟩, fun l hl => ?_⟩
  have := hs.v l hl
  simpa [St.subst, stood_subst] using this
end

/-! ### The loop -/
/-- No letter stands in it. -/
def At.fixed : At → Bool
  | .ptr .. | .nilp | .nils | .fn _ | .clo .. | .yld _ | .nilf => true
  | _ => false
def SVal.fixed : SVal → Bool
  | .any => true
  | .cv (.one a) => a.fixed
  | _ => false
theorem fixed_den {E E' : Env} {ρ : Pl} {s : SVal} (h : s.fixed = true) (ha : s.isAny = false) : s.den E ρ = s.den E' ρ := by
  cases s with
  | any => cases ha
  | tup cs => cases h
  | cv c =>
    cases c with
    | agg cs => cases h
    | one a => cases a <;> first | rfl | cases h
theorem fits_fixed {E E' : Env} {ρ : Pl} {T : List SVal} {vs : List Value} (h : T.all SVal.fixed = true) (hf : Fits E ρ T vs) : Fits E' ρ T vs :=
  Fits.turn hf (fun s hs ha => fixed_den (List.all_eq_true.1 h s hs) ha)
structure ILoop where
  pat : St
  m : Nat
  outs : List (Ex × Ex × St × Nat)
def iOut (len : Nat) (s' : St) (x x2 : Ex) : Nat → List (Ex × Ex × St × Nat) → BTree
  | _, [] => .dead 2
  | κ, (y, y2, q, n) :: r => if (x.same y && x2.same y2) && ((q.subst (sigma n (q.pair s'))).wk s' && decide (len ≤ q.H.length)) then .out κ (sigma n (q.pair s')) else iOut len s' x x2 (κ + 1) r
def iLeaf (e : ILoop) (x x2 : Ex) (s' : St) : BTree :=
  match x2 with
  | .normal => match x with
    | .normal => if (e.pat.subst (sigma e.m (e.pat.pair s'))).wk s' then .next (sigma e.m (e.pat.pair s')) else .dead 1
    | _ => .dead 5
  | x2 => iOut e.pat.H.length s' x x2 0 e.outs
def iTree (X : Cx) (F : RF) (e : ILoop) (n : Nat) (c : Code) : Nat → Kn → BTree
  | 0, _ => .dead 0
  | d + 1, kn => match iterBody X kn n F c e.pat with
    | .ok (x, x2, s') => iLeaf e x x2 s'
    | .need b => .node b (iTree X F e n c d ((b, true) :: kn)) (iTree X F e n c d ((b, false) :: kn))
    | .fail m => .dead (1000 + m)
    | .stop _ => .dead 99
/-- The letters 0, 1, .. stand for these numbers; the objects are as before. -/
structure IsE (fi : Nat → Nat → List Int → Int) (fb : Nat → Nat → List Int → Bool) (zs : List Int) (E : Env) : Prop where
  i : E.i = fun n => zs.getD n 0
  b : E.b = fun _ => false
  fi : E.fi = fi
  fb : E.fb = fb
theorem IsE.eqL {fi : Nat → Nat → List Int → Int} {fb : Nat → Nat → List Int → Bool} {zs : List Int} {E : Env} (h : IsE fi fb zs E) : EqL (envOf zs fi fb) E := ⟨h.i, h.b, h.fi, h.fb⟩
/-- Behind a turn, behind the loop. -/
def IPost (B : Base) (w0 : Wb) (fi : Nat → Nat → List Int → Int) (fb : Nat → Nat → List Int → Bool) (e : ILoop) (r : Loop) (E : Env) : BVal → Exit → Act → World → Prop
  | .next zs, ex, a, w => ex = .normal ∧ ∃ ρ E', IsE fi fb zs E' ∧ E'.o 0 = .loop r ∧ (∀ j, j ≠ 0 → E'.o j = E.o j) ∧ Sat B w0 E' e.pat ρ a w
  | .out κ ys, ex, a, w => ∃ x x2 q n, e.outs[κ]? = some (x, x2, q, n) ∧ x2 ≠ .normal ∧ ex = x2.toExit ∧ ∃ ρ E', IsE fi fb ys E' ∧ E'.o 0 = .loop { r with state := if (jumpOf x).isNone then .ready else .done, pending := jumpOf x } ∧ (∀ j, j ≠ 0 → E'.o j = E.o j) ∧ Sat B w0 E' q ρ a w
section
variable {X : Cx} {E : Env} {ρ : Pl} {kn : Kn} {B : Base} {fi : Nat → Nat → List Int → Int} {fb : Nat → Nat → List Int → Bool}
theorem isE_sub {zs : List Int} {E E' : Env} (h : IsE fi fb zs E) (hE : EqO E E') (σ : List SE) : IsE fi fb (σ.map (SE.den (envOf zs fi fb))) (E'.sub σ) := by
  refine ⟨?_, rfl, hE.fi.trans h.fi, hE.fb.trans h.fb⟩
  funext n
  show (σ.map (SE.den E')).getD n 0 = _
  congr 1
  exact List.map_congr_left fun e _ => by rw [SE.den_eqO hE, SE.den_eqL h.eqL]
theorem iOut_ok {e : ILoop} {w0 : Wb} {zs : List Int} {r : Loop} (hz : IsE fi fb zs E) {x x2 : Ex} (hx : x2 ≠ .normal) {s' : St} {v : BVal} (hb : ∀ l, stood B.1 l = true → l < e.pat.H.length) {a : Act} {w : World} (hy : Yielded B w0 E r x s' a w) : ∀ (os : List (Ex × Ex × St × Nat)) (κ : Nat), (∀ i, os[i]? = e.outs[κ + i]?) →
    (iOut e.pat.H.length s' x x2 κ os).den (envOf zs fi fb) = some v → IPost B w0 fi fb e r E v x2.toExit a w
  | [], κ, _, h => by simp [iOut, BTree.den] at h
  | (y, y2, q, n) :: os, κ, hr, h => by
    unfold iOut at h
    split at h
    · rename_i hc
      simp only [Bool.and_eq_true, decide_eq_true_eq] at hc
      obtain ⟨⟨h1, h2⟩, h3, h4⟩ := hc
      have e1 := Ex.same_eq _ _ h1
      have e2 := Ex.same_eq _ _ h2
      subst e1; subst e2
      simp only [BTree.den, Option.some.injEq] at h
      subst h
      obtain ⟨ρ', E', hE, ho, hs⟩ := hy.out
      have hw := hs.weaken h3 (fun l hl => by have := hb l hl; simp only [St.subst, List.length_map]; omega)
      exact ⟨x, x2, q, n, by have := hr 0; simpa using this.symm, hx, rfl, ρ', _, isE_sub hz hE _, ho, hE.o, sat_sub hw⟩
    · exact iOut_ok hz hx hb hy os (κ + 1) (fun i => by have := hr (i + 1); simpa [Nat.add_assoc, Nat.add_comm 1 i] using this) h
theorem iTree_ok {w0 : Wb} (hX : ∀ E', E'.fi = fi → E'.fb = fb → XOk X w0 E') (hm : X.P.follows .mixedOrders = true) {n m : Nat} {F : RF} {e : ILoop} {c : Code} {zs : List Int} (hz : IsE fi fb zs E) {r : Loop} (hro : E.o 0 = .loop r) (hrs : r.state = .ready) (hrp : r.pending = none) (hp : r.params = F.ps) (ha : r.assign = F.assign) (hb : r.body = F.body)
    (hfix : F.T0.all SVal.fixed = true) (hT : ∀ (E : Env) (H : List HE) (ρ' : Pl), Via B.1 B.2.1 H ρ' → Fits E ρ' F.T0 r.tmps.toList) {v : BVal} {a : Act} {w : World} (hs : Sat B w0 E e.pat ρ a w) : ∀ (d : Nat) (kn : Kn), kn.ok E → (iTree X F e n c d kn).den (envOf zs fi fb) = some v → c.wpIn Fence.wide (m + 1) X.P (IPost B w0 fi fb e r E v) a w
  | 0, kn, _, h => by simp [iTree, BTree.den] at h
  | d + 1, kn, hk, h => by
    have hbl : ∀ l, stood B.1 l = true → l < e.pat.H.length := fun l hl => stood_lt (hs.v l hl).1
    unfold iTree at h
    split at h
    · rename_i x x2 s' hr
      refine wpIn_mono (iterBody_ok (fun E' hE => hX E' (hE.fi.trans hz.fi) (hE.fb.trans hz.fb)) hk hm hr hro hrs hp ha hb (hT E) hs) ?_
      rintro ex a' w' ⟨rfl, hy⟩
      cases x2 with
      | normal =>
        simp only [iLeaf] at h
        cases x with
        | normal =>
          simp only [] at h
          split at h
          · rename_i hcv
            simp only [BTree.den, Option.some.injEq] at h
            subst h
            obtain ⟨ρ', E', hE, ho, hs'⟩ := hy.out
            have hw := hs'.weaken hcv (fun l hl => by simpa [St.subst] using hbl l hl)
            refine ⟨rfl, ρ', _, isE_sub hz hE _, ?_, hE.o, sat_sub hw⟩
            show E'.o 0 = _
            rw [ho]
            obtain ⟨st, pe, fn, tm, ps, asg, bo, de⟩ := r
            simp only at hrs hrp
            subst hrs; subst hrp
            rfl
          · simp [BTree.den] at h
        | exit id => simp [BTree.den] at h
        | ret => simp [BTree.den] at h
      | exit id => exact iOut_ok hz (by simp) hbl hy e.outs 0 (fun i => by simp) h
      | ret => exact iOut_ok hz (by simp) hbl hy e.outs 0 (fun i => by simp) h
    · rename_i b hr
      simp only [BTree.den] at h
      cases hbv : b.den (envOf zs fi fb)
      · rw [hbv] at h
        exact iTree_ok hX hm hz hro hrs hrp hp ha hb hfix hT hs d _ (kn_cons hk (by rw [SB.den_eqL hz.eqL]; exact hbv)) h
      · rw [hbv] at h
        exact iTree_ok hX hm hz hro hrs hrp hp ha hb hfix hT hs d _ (kn_cons hk (by rw [SB.den_eqL hz.eqL]; exact hbv)) h
    · simp [BTree.den] at h
    · simp [BTree.den] at h
/-- The iterator's own loop, by plain recursion over the letters. -/
theorem iter_loop {w0 : Wb} (hX : ∀ E', E'.fi = fi → E'.fb = fb → XOk X w0 E') (hm : X.P.follows .mixedOrders = true) {n m d : Nat} {F : RF} {e : ILoop} {c : Code} {r : Loop} (hrs : r.state = .ready) (hrp : r.pending = none) (hp : r.params = F.ps) (ha : r.assign = F.assign) (hb : r.body = F.body)
    (hfix : F.T0.all SVal.fixed = true) (hT : ∀ (E : Env) (H : List HE) (ρ' : Pl), Via B.1 B.2.1 H ρ' → Fits E ρ' F.T0 r.tmps.toList) {t : BTree} (ht : iTree X F e n c d [] = t) {κ : Nat} {ys : List Int} : ∀ (N : Nat) (zs : List Int), loopF fi fb t N zs = some (κ, ys) →
    ∀ (E : Env), IsE fi fb zs E → E.o 0 = .loop r → ∀ (ρ : Pl) (a : Act) (w : World), Sat B w0 E e.pat ρ a w → ∀ (E0 : Env), (∀ j, j ≠ 0 → E.o j = E0.o j) → Code.roundsIn Fence.wide (m + 1) X.P c (IPost B w0 fi fb e r E0 (.out κ ys)) N a w
  | 0, zs, h => by simp [loopF] at h
  | N + 1, zs, h => by
    intro E hz hro ρ a w hs E0 h0
    rw [roundsIn_succ]
    unfold loopF at h
    cases hv : t.den (envOf zs fi fb) with
    | none => rw [hv] at h; cases h
    | some v =>
      rw [hv] at h
      rw [← ht] at hv
      refine wpIn_mono (iTree_ok hX hm hz hro hrs hrp hp ha hb hfix hT hs d [] (fun p hp => by cases hp) hv) (fun ex a' w' hq => ?_)
      cases v with
      | next zs' =>
        obtain ⟨rfl, ρ', E', hz', ho', hj, hs'⟩ := hq
        exact iter_loop hX hm hrs hrp hp ha hb hfix hT ht N zs' h E' hz' ho' ρ' a' w' hs' E0 (fun j hj' => (hj j hj').trans (h0 j hj'))
      | out κ' ys' =>
        simp only [Option.some.injEq, Prod.mk.injEq] at h
        obtain ⟨rfl, rfl⟩ := h
        obtain ⟨x, x2, q, n', g1, g2, rfl, ρ', E', g3, g4, g5, g6⟩ := hq
        have fin : IPost B w0 fi fb e r E0 (.out κ' ys') x2.toExit a' w' := ⟨x, x2, q, n', g1, g2, rfl, ρ', E', g3, g4, fun j hj => (g5 j hj).trans (h0 j hj), g6⟩
        cases x2 with
        | normal => exact absurd rfl g2
        | exit id => exact fin
        | ret => exact fin
end
end Go.Proofs.Ythggppjdapmgdaa.Eng
