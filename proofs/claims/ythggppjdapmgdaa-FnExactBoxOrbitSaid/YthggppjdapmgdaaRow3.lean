/- A function that holds one range over a function and gives a row. No program in sight. -/
import Derived.Test.YthggppjdapmgdaaRow2
namespace Go.Proofs.Ythggppjdapmgdaa.Eng
set_option linter.unusedSimpArgs false
set_option linter.unusedVariables false
open Go Go.RowKit

theorem rowRes_flat {e : REnt} {cs : List CV} {H : List HE} {p : List SE × List CV} (h : rowRes e cs H = some p) : p.2.all CV.flat = true := by
  unfold rowRes at h
  split at h <;> try (cases h; done)
  split at h <;> try (cases h; done)
  split at h <;> try (cases h; done)
  rename_i hc
  split at h
  · split at h <;> try (cases h; done)
    split at h
    · cases h; exact hc.2
    · split at h <;> cases h; exact hc.2
  · split at h <;> cases h; exact hc.2
  · cases h
theorem denL_eqL {E E' : Env} (h : EqL E E') {p : List SE × List CV} (hf : p.2.all CV.flat = true) : denL E' p = denL E p := by
  unfold denL
  congr 1
  · exact List.map_congr_left fun e _ => SE.den_eqL h e
  · exact List.map_congr_left fun c hc => CV.flat_eqL h c (List.all_eq_true.1 hf c hc)
def rngOutR (X : Cx) (n : Nat) (p : List Bool) (L b : Nat) (F : RF) (en : REnt) (fo fn : Func) (co : Code) (o : Ex × Ex × St × Nat) : Option (List SE × List CV) :=
  if endsIn b o.2.1 && (resVal X.P o.2.2.1 fn.results.toList).isSome && recB o.2.2.1.H (L + 1) && stood o.2.2.1.H L then
    match execFrom X [] n o.1 ⟨F.T0, o.2.2.1.H⟩ p co with
    | .ok (y, s3) => if plainEx y && obB 1 s3.H L then match resVal X.P s3 fo.results.toList with
        | some cs => rowRes en cs s3.H
        | none => none
      else none
    | _ => none
  else none
def rngAllR (X : Cx) (kn : Kn) (n d : Nat) (p : List Bool) (en : REnt) (gf : Nat) (e : ILoop) : Option (BTree × List SE × List (Option (List SE × List CV))) :=
  match rngTo X kn n p en.f (lettersFrom 0 en.ins) with
  | none => none
  | some (s, g, F, fo, co) => match aat s.T g with
    | some (.clo gf' lp off) => if gf' = gf ∧ (stood s.H lp && F.T0.all (SVal.inH s.H) && rfFresh s.H && decide ((rfH s.H).length ≤ e.pat.H.length)) = true then
        match iterOf X.P gf with
        | none => none
        | some (fn, p0, p1, b, c) => match iPre X n e p0 p1 ⟨[.cv (.one (.yld (s.H.length + 1))), .cv (.one (.ptr lp off))] ++ List.replicate (fn.ntmps - 2) (.tup []), rfH s.H⟩ with
          | none => none
          | some σ => some (iTree X F e n c d [], σ, e.outs.map (rngOutR X n p s.H.length b F en fo fn co))
      else none
    | _ => none
theorem rngAllR_ok {X : Cx} {fi : Nat → Nat → List Int → Int} {fb : Nat → Nat → List Int → Bool} {w0 : World} (hX : ∀ E', E'.fi = fi → E'.fb = fb → XOk X w0 E') (hm : X.P.follows .mixedOrders = true) {kn : Kn} {n d : Nat} {p : List Bool} {en : REnt} {gf : Nat} {e : ILoop} {t : BTree} {σ : List SE} {vs : List (Option (List SE × List CV))}
    (h : rngAllR X kn n d p en gf e = some (t, σ, vs)) (eg : Enters X.P gf) {zs ys : List Int} (hk : kn.ok (envOf zs fi fb)) {N κ : Nat} (hl : loopF fi fb t N (σ.map (SE.den (envOf zs fi fb))) = some (κ, ys)) {r : List SE × List CV} (hv : vs[κ]? = some (some r))
    (hd : denL (envOf ys fi fb) r = en.due (envOf zs fi fb) ∨ ((en.len.den (envOf zs fi fb)).toNat = 0 ∧ (denL (envOf ys fi fb) r).1.getD 0 0 = en.len.den (envOf zs fi fb) ∧ (denL (envOf ys fi fb) r).2 = (en.due (envOf zs fi fb)).2)) :
    Calls X.P en.f ((lettersFrom 0 en.ins).map (SVal.den (envOf zs fi fb) Pl.no)).toArray w0 (GivesRow en (envOf zs fi fb) w0) := by
  unfold rngAllR at h
  split at h <;> try (cases h; done)
  rename_i s g F fo co h1
  obtain ⟨a1, a2, a3, a4⟩ := rngTo_ok h1
  split at h <;> try (cases h; done)
  rename_i gf' lp off h2
  split at h <;> try (cases h; done)
  rename_i hc
  obtain ⟨rfl, hc⟩ := hc
  simp only [Bool.and_eq_true, decide_eq_true_eq] at hc
  obtain ⟨⟨⟨c1, c2⟩, c3⟩, c4⟩ := hc
  split at h <;> try (cases h; done)
  rename_i fn p0 p1 b c h3
  obtain ⟨b1, b2⟩ := iterOf_ok h3
  split at h <;> try (cases h; done)
  rename_i σ' h4
  simp only [Option.some.injEq, Prod.mk.injEq] at h
  obtain ⟨rfl, rfl, rfl⟩ := h
  rw [List.getElem?_map] at hv
  obtain ⟨⟨x, x2, q, n'⟩, hκ, hv⟩ := Option.map_eq_some_iff.1 hv
  unfold rngOutR at hv
  split at hv <;> try (cases hv; done)
  rename_i hdd
  simp only [Bool.and_eq_true] at hdd
  obtain ⟨⟨⟨d1, d2⟩, d3⟩, d4⟩ := hdd
  obtain ⟨cs1, d2⟩ := Option.isSome_iff_exists.1 d2
  split at hv <;> try (cases hv; done)
  rename_i y s3 h5
  split at hv <;> try (cases hv; done)
  rename_i hy
  simp only [Bool.and_eq_true] at hy
  split at hv <;> try (cases hv; done)
  rename_i cs hcs
  have hx2 : x2 = .ret ∨ x2 = .exit b := by
    cases x2 with
    | ret => exact Or.inl rfl
    | exit i => simp only [endsIn, beq_iff_eq] at d1; exact Or.inr (by rw [d1])
    | normal => cases d1
  have hyy : y = .normal ∨ y = .ret := by
    cases y with
    | ret => exact Or.inr rfl
    | normal => exact Or.inl rfl
    | exit i => cases hy.1
  have := rfn_any (m := 0) hX hm a1 a2 b1 b2 eg a3 h2 c1 a4 c2 c3 h4 c4 rfl hk hl hκ hx2 d2 d3 h5 hyy d4 hy.2 hcs
  refine (callsIn_wide.1 this).mono ?_
  rintro en' w' ⟨ρ', E', hE, rfl, hH⟩
  have hde := denL_eqL hE (rowRes_flat hv)
  obtain ⟨B, cap, r1, r2, r3⟩ := rowRes_ok (P := X.P) hv (E := E') (E0 := envOf zs fi fb) hE.fi (by rw [hde]; exact hd) hH
  exact ⟨hH.below, B, cap, by rw [r1], r2, r3⟩
end Go.Proofs.Ythggppjdapmgdaa.Eng
