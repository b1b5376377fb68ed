/- A function that holds one range over a function: its contract. No program in sight. -/
import Derived.Test.YthggppjdapmgdaaIter7
namespace Go.Proofs.Ythggppjdapmgdaa.Eng
set_option linter.unusedSimpArgs false
set_option linter.unusedVariables false
open Go Go.RowKit

def obB (i : Nat) (H : List HE) (l : Nat) : Bool := (match H[l]? with
  | some (.blk b) => obSame b.ob (some (.obj i))
  | _ => false) && (List.range H.length).all fun m => m == l || (match H[m]? with
  | some (.blk b) => !obSame b.ob (some (.obj i))
  | _ => true)
theorem obB_ok {i : Nat} {H : List HE} {l : Nat} (h : obB i H l = true) : (∃ b, H[l]? = some (.blk b) ∧ b.ob = some (.obj i)) ∧ ∀ (m : Nat) (b : Blk), H[m]? = some (HE.blk b) → b.ob = some (.obj i) → m = l := by
  simp only [obB, Bool.and_eq_true] at h
  obtain ⟨h1, h2⟩ := h
  refine ⟨?_, fun m b hm hb => ?_⟩
  · split at h1
    · rename_i b hb
      exact ⟨b, hb, obSame_eq _ _ h1⟩
    · cases h1
  · have hlt : m < H.length := (List.getElem?_eq_some_iff.1 hm).1
    have := List.all_eq_true.1 h2 m (List.mem_range.2 hlt)
    rw [hm] at this
    simp only [hb, obSame, beq_self_eq_true, Bool.not_true, Bool.or_false, beq_iff_eq] at this
    exact this
theorem At.flat_eqL {E E' : Env} {ρ : Pl} (h : EqL E E') (a : At) (hf : a.flat = true) : a.den E' ρ = a.den E ρ := by
  cases a <;> first | rfl | (simp [At.flat] at hf; done) | simp only [At.den, SE.den_eqL h, SB.den_eqL h]
theorem CV.flat_eqL {E E' : Env} {ρ : Pl} (h : EqL E E') (c : CV) (hf : c.flat = true) : c.den E' ρ = c.den E ρ := by
  cases c with
  | one a => exact At.flat_eqL h a hf
  | agg cs =>
    simp only [CV.den]
    congr 2
    exact List.map_congr_left fun a ha => At.flat_eqL h a (List.all_eq_true.1 hf a ha)
theorem SVal.flat_eqL {E E' : Env} {ρ : Pl} (h : EqL E E') (s : SVal) (hf : s.flat = true) : s.den E' ρ = s.den E ρ := by
  cases s with
  | cv c => exact CV.flat_eqL h c hf
  | tup cs =>
    simp only [SVal.den]
    congr 2
    exact List.map_congr_left fun c hc => CV.flat_eqL h c (List.all_eq_true.1 hf c hc)
  | any => rfl
section
variable {X : Cx} {fi : Nat → Nat → List Int → Int} {fb : Nat → Nat → List Int → Bool}
/-- What is known behind the range statement, in the outer frame. -/
def Behind (B : Base) (w0 : Wb) (fi : Nat → Nat → List Int → Int) (fb : Nat → Nat → List Int → Bool) (ys : List Int) (ld : Nat) (K : List HE) (s : St) (a : Act) (w : World) : Prop :=
  ∃ ρ0 E', IsE fi fb ys E' ∧ E'.o 1 = .deferred (some []) ∧ (∀ l, stood B.1 l = true → ρ0 l = B.2.1 l) ∧ ∃ ρ', Sat (K, ρ0, { target := .collected (ρ0 ld).1, args := #[] } :: B.2.2) w0 E' s ρ' a w
theorem rfn_any {w0 : World} (hX : ∀ E', E'.fi = fi → E'.fb = fb → XOk X w0 E') (hm : X.P.follows .mixedOrders = true) {f : Nat} {fo : Func} (hfo : X.P.funcs[f]? = some fo) {co : Code} (hco : fo.body = some co) {args : List SVal}
    {n m d : Nat} {F : RF} {e : ILoop} {c : Code} {gf lp off : Nat} {fn : Func} (hf : X.P.funcs[gf]? = some fn) {p0 p1 : Code} {b : Nat} (hbd : fn.body = some (.seq p0 (.seq p1 (.block b (.loop c)))))
    (eg : ∀ args w, (callFunc gf args).run X.P w = .ok (.enter gf args) w) {kn : Kn} {p : List Bool} {s : St} {g : Operand} (hto : execTo X kn n p co ⟨args ++ List.replicate (fo.ntmps - args.length) (.tup []), []⟩ = .ok (s, .rangeFunc g F.ps F.assign F.body))
    (hg : aat s.T g = some (.clo gf lp off)) (hlp : stood s.H lp = true) (hT0 : F.T0 = s.T.map SVal.blur) (hin : F.T0.all (SVal.inH s.H) = true) (hfr : rfFresh s.H = true)
    {σ : List SE} (hσ : iPre X n e p0 p1 ⟨[.cv (.one (.yld (s.H.length + 1))), .cv (.one (.ptr lp off))] ++ List.replicate (fn.ntmps - 2) (.tup []), rfH s.H⟩ = some σ) (hbl : (rfH s.H).length ≤ e.pat.H.length)
    {t : BTree} (ht : iTree X F e n c d [] = t) {zs ys : List Int} (hk : kn.ok (envOf zs fi fb)) {N κ : Nat} (hl : loopF fi fb t N (σ.map (SE.den (envOf zs fi fb))) = some (κ, ys))
    {x x2 : Ex} {q : St} {n' : Nat} (hκ : e.outs[κ]? = some (x, x2, q, n')) (hx2 : x2 = .ret ∨ x2 = .exit b) {cs : List CV} (hcs : resVal X.P q fn.results.toList = some cs) (hrq : recB q.H (s.H.length + 1) = true)
    {y : Ex} {s3 : St} (hfrom : execFrom X [] n x ⟨F.T0, q.H⟩ p co = .ok (y, s3)) (hy : y = .normal ∨ y = .ret) (hqd : stood q.H s.H.length = true) (hmk : obB 1 s3.H s.H.length = true) {cs3 : List CV} (hcs3 : resVal X.P s3 fo.results.toList = some cs3) :
    CallsIn Fence.wide (m + 2) X.P f (args.map (SVal.den (envOf zs fi fb) Pl.no)).toArray w0 fun en w' => ∃ ρ' E', EqL (envOf ys fi fb) E' ∧ en = .returned ((SVal.ofRes cs3).den E' ρ') ∧ RelH w0 E' s3.H ρ' w' := by
  refine callsIn_of_wp_marks hfo hco trivial ?_
  have hH0 : RelH w0 (envOf zs fi fb) [] Pl.no w0 := ⟨Hb.refl _, fun l b hl => by simp at hl, fun l b hl => by simp at hl, fun l l' b b' hl => by simp at hl⟩
  have h0 : Sat ([], Pl.no, []) w0 (envOf zs fi fb) ⟨args ++ List.replicate (fo.ntmps - args.length) (.tup []), []⟩ Pl.no { tmps := (args.map (SVal.den (envOf zs fi fb) Pl.no)).toArray ++ Array.replicate (fo.ntmps - (args.map (SVal.den (envOf zs fi fb) Pl.no)).toArray.size) undef, defers := [] } w0 := by
    refine ⟨?_, rfl, hH0, Via.refl _ _⟩
    refine TOk.of_map ?_
    simp [List.map_append, SVal.den, undef]
  refine wpIn_mono (path_ok (hX _ rfl rfl) hk hm (kn' := []) (x := x) (s2 := ⟨F.T0, q.H⟩) (RS := Behind ([], Pl.no, []) w0 fi fb ys s.H.length q.H) ?_ p co _ s _ y s3 hto hfrom ?_ Pl.no _ w0 h0) ?_
  · rintro c' s' y' s'' he a w ⟨ρ0, E', i1, i2, i3, ρ', hs⟩
    refine wpIn_wide.2 (Code.wp_mono (fun e1 a1 w1 hq => ?_) ((exec_ok' (kn := []) (fun p hp => by cases hp) (hX E' i1.fi i1.fb) hm n).1 none c' s' y' s'' trivial he _ ρ' a w hs))
    obtain ⟨rfl, ρ2, hs2⟩ := hq
    exact ⟨rfl, ρ0, E', i1, i2, i3, ρ2, hs2⟩
  · intro ρ a w hs
    refine rf_ok hX hm hf hbd eg hg hlp hT0 hin hfr hσ hbl ht hl ⟨rfl, rfl, rfl, rfl⟩ hκ hx2 hcs hrq hs (fun ρ' E' w' i1 i2 i3 hs' => ⟨rfl, ρ', E', i1, i2, fun l hl => by simp [stood] at hl, ρ', hs'.t, hs'.d, hs'.h, Via.refl _ _⟩)
  · rintro ex a w ⟨rfl, ρ0, E', i1, i2, i3, ρ', hs⟩
    obtain ⟨⟨bq, hq1, hq2⟩, hq3⟩ := obB_ok hmk
    have hD : w.heap[(ρ' s.H.length).1]? = some (.deferred (some [])) := by
      rw [((hs.h.blk _ bq hq1).obj hq2).2.2, i2]
    have hDe : ρ' s.H.length = ρ0 s.H.length := (hs.v _ hqd).2
    have h3 := hs.h.setO (h := rfl) (o := .deferred none) hq1 hq2 hq3
    have hs3 : Sat _ w0 (E'.setO 1 (.deferred none) rfl) s3 ρ' a (w.putObj (ρ' s.H.length).1 (.deferred none)) := ⟨hs.t.setO, hs.d, h3, hs.v⟩
    have fin : LeavesInM Fence.wide (m + 2) X.P fo a.tmps (fun en w' => ∃ ρ' E', EqL (envOf ys fi fb) E' ∧ en = .returned ((SVal.ofRes cs3).den E' ρ') ∧ RelH w0 E' s3.H ρ' w') a.defers .returning w := by
      rw [hs.d]
      refine ⟨by simp, Or.inl ⟨_, _, rfl, run_takeDeferred (by rw [← hDe]; exact hD), _, by rw [← hDe]; exact results_run (X := X) hs3 hcs3, ρ', E'.setO 1 (.deferred none) rfl, ⟨i1.i, i1.b, i1.fi, i1.fb⟩, rfl, by rw [← hDe]; exact h3⟩⟩
    rcases hy with rfl | rfl
    · exact fin
    · exact fin
theorem rfn_ok {w0 : World} (hX : ∀ E', E'.fi = fi → E'.fb = fb → XOk X w0 E') (hm : X.P.follows .mixedOrders = true) {f : Nat} {fo : Func} (hfo : X.P.funcs[f]? = some fo) {co : Code} (hco : fo.body = some co) {args : List SVal}
    {n m d : Nat} {F : RF} {e : ILoop} {c : Code} {gf lp off : Nat} {fn : Func} (hf : X.P.funcs[gf]? = some fn) {p0 p1 : Code} {b : Nat} (hbd : fn.body = some (.seq p0 (.seq p1 (.block b (.loop c)))))
    (eg : ∀ args w, (callFunc gf args).run X.P w = .ok (.enter gf args) w) {kn : Kn} {p : List Bool} {s : St} {g : Operand} (hto : execTo X kn n p co ⟨args ++ List.replicate (fo.ntmps - args.length) (.tup []), []⟩ = .ok (s, .rangeFunc g F.ps F.assign F.body))
    (hg : aat s.T g = some (.clo gf lp off)) (hlp : stood s.H lp = true) (hT0 : F.T0 = s.T.map SVal.blur) (hin : F.T0.all (SVal.inH s.H) = true) (hfr : rfFresh s.H = true)
    {σ : List SE} (hσ : iPre X n e p0 p1 ⟨[.cv (.one (.yld (s.H.length + 1))), .cv (.one (.ptr lp off))] ++ List.replicate (fn.ntmps - 2) (.tup []), rfH s.H⟩ = some σ) (hbl : (rfH s.H).length ≤ e.pat.H.length)
    {t : BTree} (ht : iTree X F e n c d [] = t) {zs ys : List Int} (hk : kn.ok (envOf zs fi fb)) {N κ : Nat} (hl : loopF fi fb t N (σ.map (SE.den (envOf zs fi fb))) = some (κ, ys))
    {x x2 : Ex} {q : St} {n' : Nat} (hκ : e.outs[κ]? = some (x, x2, q, n')) (hx2 : x2 = .ret ∨ x2 = .exit b) {cs : List CV} (hcs : resVal X.P q fn.results.toList = some cs) (hrq : recB q.H (s.H.length + 1) = true)
    {y : Ex} {s3 : St} (hfrom : execFrom X [] n x ⟨F.T0, q.H⟩ p co = .ok (y, s3)) (hy : y = .normal ∨ y = .ret) (hqd : stood q.H s.H.length = true) (hmk : obB 1 s3.H s.H.length = true) {cs3 : List CV} (hcs3 : resVal X.P s3 fo.results.toList = some cs3) (hfl : (SVal.ofRes cs3).flat = true) :
    CallsIn Fence.wide (m + 2) X.P f (args.map (SVal.den (envOf zs fi fb) Pl.no)).toArray w0 (Gives ((SVal.ofRes cs3).den (envOf ys fi fb) Pl.no) w0) := by
  refine (rfn_any hX hm hfo hco hf hbd eg hto hg hlp hT0 hin hfr hσ hbl ht hk hl hκ hx2 hcs hrq hfrom hy hqd hmk hcs3).mono ?_
  rintro en w' ⟨ρ', E', hE, rfl, hH⟩
  exact ⟨by rw [SVal.flat_eqL hE _ hfl, SVal.flat_den _ hfl ρ' Pl.no], Hb.below hH.below⟩
end
end Go.Proofs.Ythggppjdapmgdaa.Eng
