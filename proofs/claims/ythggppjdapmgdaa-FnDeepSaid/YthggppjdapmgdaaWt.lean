/- Contracts that write a block, by the ways that their inputs go. No program in sight. -/
import Derived.Test.YthggppjdapmgdaaLoop
namespace Go.Proofs.Ythggppjdapmgdaa.Eng
set_option linter.unusedSimpArgs false
set_option linter.unusedVariables false
open Go Go.RowKit
def WEnt.lets (e : WEnt) : List SVal := (lettersFrom e.m e.ins).take e.pos ++ .cv (.one (if e.slc then .slc 0 (.lit e.m) else .ptr 0 0)) :: (lettersFrom e.m e.ins).drop e.pos
def WEnt.blk0 (e : WEnt) : HE := .blk ⟨e.ty, (List.range e.m).map fun i => .int .i64 (.var i), e.sz, none⟩
def WEnt.res (e : WEnt) (r : SVal) (H : List HE) : Res (List SE) :=
  match r with
  | .tup [] => match H[(0 : Nat)]? with
    | some (.blk ⟨ty, cs, sz, none⟩) => if ty = e.ty ∧ sz = e.sz then Res.ofOpt 98 (flatAts cs) else .fail 98
    | _ => .fail 98
  | _ => .fail 98
def runW (X : Cx) (kn : Kn) (fuel : Nat) (e : WEnt) : Res (List SE) :=
  (callBody X (exec X kn fuel) e.f e.lets [e.blk0]).bind fun r => e.res r.1 r.2
/-- The conditions on the way that an input goes (dev time). -/
def pathOfW (X : Cx) (fuel : Nat) (e : WEnt) (E : Env) : Nat → Kn → Kn × Nat × List SE
  | 0, kn => (kn, 0, [])
  | d + 1, kn => match runW X kn fuel e with
    | .ok r => (kn, 1, r)
    | .need c => pathOfW X fuel e E d ((c, c.den E) :: kn)
    | .fail m => (kn, 1000 + m, [])
    | .stop _ => (kn, 4, [])
theorem letters_flat {E : Env} {ρ : Pl} : ∀ (ns : List Nat) (k : Nat), (lettersFrom k ns).map (SVal.den E ρ) = (lettersFrom k ns).map (SVal.den E Pl.no)
  | [], _ => rfl
  | 0 :: ns, k => by
    simp only [lettersFrom, List.map_cons, letters_flat ns (k + 1)]; rfl
  | (n + 1) :: ns, k => by
    simp only [lettersFrom]
    cases hs : shpOf (n + 1) with
    | some p =>
      simp only [List.map_cons, letters_flat ns (k + p.len)]
      congr 1
      cases p <;> rfl
    | none =>
      simp only [List.map_cons, letters_flat ns (k + (n + 1))]
      congr 1
      simp [SVal.den, CV.den, At.den]
theorem runW_ok {X : Cx} {kn : Kn} {fuel : Nat} {e : WEnt} {es : List SE} {fi : Nat → Nat → List Int → Int} {fb : Nat → Nat → List Int → Bool} {cs zs : List Int} (hk : kn.ok (envOf (cs ++ zs) fi fb)) {w : World} {B cap : Nat} {rest : List Value}
    (hX : XOk X ⟨w, some B⟩ (envOf (cs ++ zs) fi fb)) (hm : X.P.follows .mixedOrders = true) (h : runW X kn fuel e = .ok es) (hl : es.length = e.m) (hcs : cs.length = e.m) (hzs : zs.length = insLen e.ins)
    (hb : w.heap[B]? = some (.cells (cs.map (Value.int .i64) ++ rest).toArray e.ty (0, 0))) (h1 : e.sz = 0 → rest = []) (h2 : e.sz ≠ 0 → e.m + rest.length = cap * e.sz) :
    Calls X.P e.f (e.vals B cap zs).toArray w fun en w' => en = .returned (.tuple #[]) ∧ TurnedTo B e.ty e.m e.sz cap (es.map fun o => Value.int .i64 (o.den (envOf (cs ++ zs) fi fb))) w w' := by
  unfold runW at h
  obtain ⟨⟨r, H'⟩, hc, hr⟩ := Res.bind_ok h
  unfold WEnt.res at hr
  split at hr <;> try (cases hr; done)
  rename_i hr0
  split at hr <;> try (cases hr; done)
  rename_i ty cells sz hH0
  split at hr <;> try (cases hr; done)
  rename_i hts
  obtain ⟨rfl, rfl⟩ := hts
  have hfl := Res.ofOpt_ok hr
  have hin : (List.range e.m).map (fun i => (cs ++ zs).getD i 0) = cs := by
    apply List.ext_getElem
    · simp [hcs]
    · intro i i1 i2
      simp only [List.length_map, List.length_range] at i1
      simp [List.getD, List.getElem?_append_left (show i < cs.length by omega), List.getElem?_eq_getElem (show i < cs.length by omega)]
  have h0 : RelH ⟨w, some B⟩ (envOf (cs ++ zs) fi fb) [e.blk0] (fun _ => (B, cap)) w := by
    refine ⟨Hb.refl _, fun l b _ => Or.inr rfl, fun l b hl => ?_, fun l l' b b' a1 a2 _ => ?_⟩
    · cases l with
      | succ l => simp at hl
      | zero =>
        simp only [WEnt.blk0, List.getElem?_cons_zero, Option.some.injEq, HE.blk.injEq] at hl
        subst hl
        refine Or.inl ⟨rfl, rest, ?_, h1, fun h0 => ?_⟩
        · rw [hb]
          congr 3
          congr 1
          conv => lhs; rw [← hin]
          simp only [List.map_map]
          rfl
        · simp only [List.length_map, List.length_range]; exact h2 h0
    · cases l <;> cases l' <;> simp at a1 a2 ⊢
  have hcall := callBody_ok (exec_ok' hk hX hm fuel).1 e.f e.lets [e.blk0] r H' hc (fun _ => (B, cap)) w h0
  have hargs : e.lets.map (SVal.den (envOf (cs ++ zs) fi fb) fun _ => (B, cap)) = e.vals B cap zs := by
    have hd := letters_den fi fb (cs ++ zs) e.ins e.m zs hzs (fun i hi => by simp [List.getD, List.getElem?_append_right (show cs.length ≤ e.m + i by omega), hcs])
    unfold WEnt.lets WEnt.vals
    rw [List.map_append, List.map_cons, List.map_take, List.map_drop, letters_flat, hd]
    congr 2
    unfold WEnt.arg
    cases e.slc <;> simp [SVal.den, CV.den, At.den, SE.den]
  rw [hargs] at hcall
  refine hcall.mono ?_
  rintro en w' ⟨ρ', rfl, hrel, hp⟩
  have hp0 : ρ' 0 = (B, cap) := hp 0 rfl
  have hr0' : r = .tup [] := hr0
  obtain ⟨rest', q1, q2, q3⟩ := (hrel.blk 0 _ hH0).cells rfl
  rw [hp0] at q1 q3
  obtain ⟨c1, c2⟩ := flatAts_den (E := envOf (cs ++ zs) fi fb) (ρ := ρ') cells es hfl
  refine ⟨by rw [hr0']; rfl, hrel.below.os, hrel.below.tape, hrel.below.output, hrel.below.size, fun k hk hne => hrel.below.block k hk (fun he => hne (by cases he; rfl)), rest', ?_, q2, fun h0 => ?_⟩
  · rw [q1, c1]
  · have := q3 h0
    simp only [] at this
    omega
/-- A contract that writes a block, by the ways that its inputs go. -/
theorem by_pathW {X : Cx} {e : WEnt} {fi : Nat → Nat → List Int → Int} {fb : Nat → Nat → List Int → Bool} {fuel : Nat} (hen : Enters X.P e.f) (ho : e.outs.length = e.m) (hX : ∀ (w0 : Wb) zs, XOk X w0 (envOf zs fi fb)) (hm : X.P.follows .mixedOrders = true)
    (h : ∀ cs zs : List Int, cs.length = e.m → zs.length = insLen e.ins → (∀ c, e.pre = some c → c.den (envOf (cs ++ zs) fi fb) = true) → ∃ (kn : Kn) (es : List SE), runW X kn fuel e = .ok es ∧ kn.ok (envOf (cs ++ zs) fi fb) ∧ es.map (SE.den (envOf (cs ++ zs) fi fb)) = e.outs.map (SE.den (envOf (cs ++ zs) fi fb))) : e.ok X.P fi fb := by
  refine ⟨hen, ho, fun cs zs hc hz hp w B cap rest h1 h2 h3 => ?_⟩
  obtain ⟨kn, es, hr, hk, ht⟩ := h cs zs hc hz hp
  have hl : es.length = e.m := by have := congrArg List.length ht; simpa [ho] using this
  have := runW_ok hk (hX _ _) hm hr hl hc hz h1 h2 h3
  have e1 : (es.map fun o => Value.int .i64 (o.den (envOf (cs ++ zs) fi fb))) = e.outs.map fun o => Value.int .i64 (o.den (envOf (cs ++ zs) fi fb)) := by
    have := congrArg (List.map (Value.int .i64)) ht
    simpa [List.map_map, Function.comp_def] using this
  rwa [e1] at this
/-- A contract that holds in every world holds where a block may change. -/
theorem CEnt.any {P : Program} {fi : Nat → Nat → List Int → Int} {fb : Nat → Nat → List Int → Bool} {e : CEnt} (h : ∀ w : World, e.ok P w fi fb) (w0 : Wb) : e.ok P w0 fi fb :=
  ⟨(h w0.toWorld).1, fun zs hz hp w _ => (h w).2 zs hz hp w (Hb.refl _)⟩
theorem REnt.any {P : Program} {fi : Nat → Nat → List Int → Int} {fb : Nat → Nat → List Int → Bool} {e : REnt} (h : ∀ w : World, e.ok P w fi fb) (w0 : Wb) : e.ok P w0 fi fb :=
  ⟨(h w0.toWorld).1, fun zs hz hp w _ => (h w).2 zs hz hp w (Hb.refl _)⟩
end Go.Proofs.Ythggppjdapmgdaa.Eng
