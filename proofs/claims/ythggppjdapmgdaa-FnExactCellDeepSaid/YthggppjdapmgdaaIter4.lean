/- A range over a function: the iterator's call. No program in sight. -/
import Derived.Test.YthggppjdapmgdaaIter3
namespace Go.Proofs.Ythggppjdapmgdaa.Eng
set_option linter.unusedSimpArgs false
set_option linter.unusedVariables false
open Go Go.RowKit

/-- The code ahead of the iterator's loop: the numbers for the pattern's letters that it leaves. -/
def iPre (X : Cx) (n : Nat) (e : ILoop) (p0 p1 : Code) (s : St) : Option (List SE) :=
  match exec X [] n none p0 s with
  | .ok (.normal, s0) => match exec X [] n none p1 s0 with
    | .ok (.normal, s1) => if (e.pat.subst (sigma e.m (e.pat.pair s1))).wk s1 then some (sigma e.m (e.pat.pair s1)) else none
    | _ => none
  | _ => none
section
variable {X : Cx} {E : Env} {ρ : Pl} {B : Base} {fi : Nat → Nat → List Int → Int} {fb : Nat → Nat → List Int → Bool}
theorem iPre_ok {w0 : Wb} (hX : XOk X w0 E) (hm : X.P.follows .mixedOrders = true) {n m : Nat} {e : ILoop} {p0 p1 rest : Code} {s : St} {σ : List SE} (h : iPre X n e p0 p1 s = some σ) (hbl : ∀ l, stood B.1 l = true → l < e.pat.H.length)
    {a : Act} {w : World} (hs : Sat B w0 E s ρ a w) {Q : Exit → Act → World → Prop} (hq : ∀ ρ' a' w', Sat B w0 (E.sub σ) e.pat ρ' a' w' → rest.wpIn Fence.wide m X.P Q a' w') : (Code.seq p0 (.seq p1 rest)).wpIn Fence.wide m X.P Q a w := by
  have hk : Kn.ok E ([] : Kn) := fun p hp => by cases hp
  unfold iPre at h
  split at h <;> try (cases h; done)
  rename_i s0 h0
  split at h <;> try (cases h; done)
  rename_i s1 h1
  split at h <;> try (cases h; done)
  rename_i hw
  simp only [Option.some.injEq] at h; subst h
  refine wpIn_seq (wpIn_wide.2 (Code.wp_mono (fun e1 a1 w1 hq1 => ?_) ((exec_ok' hk hX hm n).1 none p0 s _ _ trivial h0 B ρ a w hs)))
  obtain ⟨rfl, ρ1, hs1⟩ := hq1
  refine wpIn_seq (wpIn_wide.2 (Code.wp_mono (fun e2 a2 w2 hq2 => ?_) ((exec_ok' hk hX hm n).1 none p1 _ _ _ trivial h1 B ρ1 a1 w1 hs1)))
  obtain ⟨rfl, ρ2, hs2⟩ := hq2
  exact hq ρ2 a2 w2 (sat_sub (hs2.weaken hw (fun l hl => by simpa [St.subst] using hbl l hl)))
theorem iter_calls {w0 : Wb} (hX : ∀ E', E'.fi = fi → E'.fb = fb → XOk X w0 E') (hm : X.P.follows .mixedOrders = true) {n m d : Nat} {F : RF} {e : ILoop} {c : Code} {r : Loop} (hrs : r.state = .ready) (hrp : r.pending = none) (hp : r.params = F.ps) (ha : r.assign = F.assign) (hb : r.body = F.body)
    (hfix : F.T0.all SVal.fixed = true) {f : Nat} {fn : Func} (hf : X.P.funcs[f]? = some fn) {p0 p1 : Code} {b : Nat} (hbd : fn.body = some (.seq p0 (.seq p1 (.block b (.loop c))))) {ss : List SVal} {H : List HE}
    (hT : ∀ (E : Env) (H' : List HE) (ρ' : Pl), Via H ρ H' ρ' → Fits E ρ' F.T0 r.tmps.toList) {σ : List SE} (hσ : iPre X n e p0 p1 ⟨ss ++ List.replicate (fn.ntmps - ss.length) (.tup []), H⟩ = some σ) (hbl : ∀ l, stood H l = true → l < e.pat.H.length)
    {t : BTree} (ht : iTree X F e n c d [] = t) {zs ys : List Int} {N κ : Nat} (hl : loopF fi fb t N (σ.map (SE.den (envOf zs fi fb))) = some (κ, ys)) (hz : IsE fi fb zs E) (hro : E.o 0 = .loop r) {w : World} (hH : RelH w0 E H ρ w)
    {x x2 : Ex} {q : St} {n' : Nat} (hκ : e.outs[κ]? = some (x, x2, q, n')) (hx2 : x2 = .ret ∨ x2 = .exit b) {cs : List CV} (hcs : resVal X.P q fn.results.toList = some cs) :
    CallsIn Fence.wide (m + 1) X.P f (ss.map (SVal.den E ρ)).toArray w fun en w' => (∃ v, en = .returned v) ∧ ∃ ρ' E', IsE fi fb ys E' ∧ E'.o 0 = .loop { r with state := if (jumpOf x).isNone then .ready else .done, pending := jumpOf x } ∧ (∀ j, j ≠ 0 → E'.o j = E.o j) ∧ RelH w0 E' q.H ρ' w' ∧ Via H ρ q.H ρ' := by
  refine callsIn_of_wp hf hbd trivial ?_
  have h0 : Sat (H, ρ, []) w0 E ⟨ss ++ List.replicate (fn.ntmps - ss.length) (.tup []), H⟩ ρ { tmps := (ss.map (SVal.den E ρ)).toArray ++ Array.replicate (fn.ntmps - (ss.map (SVal.den E ρ)).toArray.size) undef, defers := [] } w := by
    refine ⟨?_, rfl, hH, Via.refl _ _⟩
    refine TOk.of_map ?_
    simp [List.map_append, SVal.den, undef]
  refine iPre_ok (hX E hz.fi hz.fb) hm hσ hbl h0 (fun ρ1 a1 w1 hs1 => ?_)
  refine wpIn_block (wpIn_mono (wpIn_loop_rounds N (iter_loop hX hm hrs hrp hp ha hb hfix hT ht N _ hl (E.sub σ) (isE_sub hz ⟨rfl, rfl, rfl, rfl, rfl, fun _ _ => rfl⟩ σ) hro ρ1 a1 w1 hs1 E (fun _ _ => rfl))) ?_)
  rintro ex a' w' ⟨x', x2', q', n2, g1, g2, rfl, ρ', E', g3, g4, g5, g6⟩
  rw [hκ] at g1
  simp only [Option.some.injEq, Prod.mk.injEq] at g1
  obtain ⟨rfl, rfl, rfl, rfl⟩ := g1
  have fin : ∃ v, (results fn a'.tmps).run X.P w' = .ok v w' ∧ ((∃ v', Ending.returned v = .returned v') ∧ ∃ ρ' E', IsE fi fb ys E' ∧ E'.o 0 = .loop { r with state := if (jumpOf x).isNone then .ready else .done, pending := jumpOf x } ∧ (∀ j, j ≠ 0 → E'.o j = E.o j) ∧ RelH w0 E' q.H ρ' w' ∧ Via H ρ q.H ρ') :=
    ⟨_, results_run (X := X) g6 hcs, ⟨_, rfl⟩, ρ', E', g3, g4, g5, g6.h, g6.v⟩
  rcases hx2 with rfl | rfl
  · exact ⟨g6.d, fin⟩
  · simp only [Ex.toExit, Exit.inBlock, if_true]
    exact ⟨g6.d, fin⟩
end
end Go.Proofs.Ythggppjdapmgdaa.Eng
