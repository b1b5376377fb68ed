/- A function that holds one loop that appends to a row, or one range over a function: the contract that gives the row. No program in sight. -/
import Derived.Test.YthggppjdapmgdaaRow1
namespace Go.Proofs.Ythggppjdapmgdaa.Eng
set_option linter.unusedSimpArgs false
set_option linter.unusedVariables false
open Go Go.RowKit

/-- The way to the loop. -/
def loopTo (X : Cx) (kn : Kn) (n : Nat) (p : List Bool) (f : Nat) (args : List SVal) : Option (St × Code × Func × Code) :=
  match X.P.funcs[f]? with
  | none => none
  | some fo => match fo.body with
    | none => none
    | some co => match execTo X kn n p co ⟨args ++ List.replicate (fo.ntmps - args.length) (.tup []), []⟩ with
      | .ok (s, .loop c) => some (s, c, fo, co)
      | _ => none
theorem loopTo_ok {X : Cx} {kn : Kn} {n : Nat} {p : List Bool} {f : Nat} {args : List SVal} {s : St} {c : Code} {fo : Func} {co : Code} (h : loopTo X kn n p f args = some (s, c, fo, co)) :
    X.P.funcs[f]? = some fo ∧ fo.body = some co ∧ execTo X kn n p co ⟨args ++ List.replicate (fo.ntmps - args.length) (.tup []), []⟩ = .ok (s, .loop c) := by
  unfold loopTo at h
  split at h <;> try (cases h; done)
  rename_i fo' h1
  split at h <;> try (cases h; done)
  rename_i co' h2
  split at h <;> try (cases h; done)
  rename_i s' c' h3
  simp only [Option.some.injEq, Prod.mk.injEq] at h
  obtain ⟨rfl, rfl, rfl, rfl⟩ := h
  exact ⟨h1, h2, h3⟩
/-- What the function gives behind a way out of the loop. -/
def growOut (X : Cx) (n : Nat) (p : List Bool) (e : REnt) (fo : Func) (co : Code) (o : Ex × St × Nat) : Option (List SE × List CV) :=
  match execFrom X [] n o.1 o.2.1 p co with
  | .ok (y, s3) => if plainEx y = true then match resVal X.P s3 fo.results.toList with
      | some cs => rowRes e cs s3.H
      | none => none
    else none
  | _ => none
def growAll (X : Cx) (kn : Kn) (n d : Nat) (p : List Bool) (e : REnt) (pat : St) (m : Nat) (outs : List (Ex × St × Nat)) : Option (BTree × List SE × List (Option (List SE × List CV))) :=
  match loopTo X kn n p e.f (lettersFrom 0 e.ins) with
  | none => none
  | some (s, c, fo, co) => if ((pat.subst (sigma m (pat.pair s))).wk s && pat.noOpq) = true then
      some (treeR X pat m outs n c d [], sigma m (pat.pair s), outs.map (growOut X n p e fo co))
    else none
theorem growAll_ok {X : Cx} {fi : Nat → Nat → List Int → Int} {fb : Nat → Nat → List Int → Bool} {w0 : World} (hX : ∀ E', E'.fi = fi → E'.fb = fb → XOk X w0 E') (hm : X.P.follows .mixedOrders = true) {kn : Kn} {n d : Nat} {p : List Bool} {e : REnt} {pat : St} {m : Nat} {outs : List (Ex × St × Nat)} {t : BTree} {σ : List SE} {vs : List (Option (List SE × List CV))}
    (h : growAll X kn n d p e pat m outs = some (t, σ, vs)) {zs ys : List Int} (hk : kn.ok (envOf zs fi fb)) {N κ : Nat} (hl : loopF fi fb t N (σ.map (SE.den (envOf zs fi fb))) = some (κ, ys)) {q : List SE × List CV} (hv : vs[κ]? = some (some q))
    (hd : denL (envOf ys fi fb) q = e.due (envOf zs fi fb) ∨ ((e.len.den (envOf zs fi fb)).toNat = 0 ∧ (denL (envOf ys fi fb) q).1.getD 0 0 = e.len.den (envOf zs fi fb) ∧ (denL (envOf ys fi fb) q).2 = (e.due (envOf zs fi fb)).2)) :
    Calls X.P e.f ((lettersFrom 0 e.ins).map (SVal.den (envOf zs fi fb) Pl.no)).toArray w0 (GivesRow e (envOf zs fi fb) w0) := by
  unfold growAll at h
  split at h <;> try (cases h; done)
  rename_i s c fo co h1
  obtain ⟨a1, a2, a3⟩ := loopTo_ok h1
  split at h <;> try (cases h; done)
  rename_i hc
  simp only [Bool.and_eq_true] at hc
  simp only [Option.some.injEq, Prod.mk.injEq] at h
  obtain ⟨rfl, rfl, rfl⟩ := h
  rw [List.getElem?_map] at hv
  obtain ⟨⟨x, qs, n'⟩, hκ, hv⟩ := Option.map_eq_some_iff.1 hv
  unfold growOut at hv
  split at hv <;> try (cases hv; done)
  rename_i y s3 h5
  split at hv <;> try (cases hv; done)
  rename_i hy
  split at hv <;> try (cases hv; done)
  rename_i cs hcs
  refine (callsIn_wide (n := 0)).1 (callsIn_of_wp a1 a2 trivial ?_)
  have h0 : Sat ([], Pl.no, []) w0 (envOf zs fi fb) ⟨(lettersFrom 0 e.ins) ++ List.replicate (fo.ntmps - (lettersFrom 0 e.ins).length) (.tup []), []⟩ Pl.no { tmps := ((lettersFrom 0 e.ins).map (SVal.den (envOf zs fi fb) Pl.no)).toArray ++ Array.replicate (fo.ntmps - ((lettersFrom 0 e.ins).map (SVal.den (envOf zs fi fb) Pl.no)).toArray.size) undef, defers := [] } w0 := by
    refine ⟨?_, rfl, noRel _ _, Via.refl _ _⟩
    refine TOk.of_map ?_
    simp [List.map_append, SVal.den, undef]
  refine wpIn_mono (path_ok (hX _ rfl rfl) hk hm (kn' := []) (x := x) (s2 := qs) (RS := fun s a w => ∃ ρ, Sat ([], Pl.no, []) w0 (envOf ys fi fb) s ρ a w) ?_ p co _ s _ y s3 a3 h5 ?_ Pl.no _ w0 h0) ?_
  · rintro c' s' y' s'' he a w ⟨ρ, hs⟩
    refine wpIn_wide.2 (Code.wp_mono (fun e1 a1 w1 hq => ?_) ((exec_ok' (kn := []) (fun p hp => by cases hp) (hX _ rfl rfl) hm n).1 none c' s' y' s'' trivial he _ ρ a w hs))
    obtain ⟨rfl, ρ2, hs2⟩ := hq
    exact ⟨rfl, ρ2, hs2⟩
  · intro ρ a w hs
    have hp := (sat_subst hc.2).1 (hs.weaken hc.1 (fun l hl => by simp [stood] at hl))
    have := roundsR_ok hX hm rfl N _ hl ρ a w hp
    refine wpIn_wide.2 (Code.wp_mono ?_ (wp_loop_rounds N this))
    rintro ex a' w' ⟨x', q', n2, g1, g2, rfl, ρ', hs'⟩
    rw [hκ] at g1
    simp only [Option.some.injEq, Prod.mk.injEq] at g1
    obtain ⟨rfl, rfl, rfl⟩ := g1
    cases x with
    | normal => exact absurd rfl g2
    | exit id => exact ⟨rfl, ρ', hs'⟩
    | ret => exact ⟨rfl, ρ', hs'⟩
  · rintro ex a w ⟨rfl, ρ', hs⟩
    obtain ⟨B, cap, r1, r2, r3⟩ := rowRes_ok (P := X.P) hv (E := envOf ys fi fb) (E0 := envOf zs fi fb) rfl hd hs.h
    have hrun := results_run (X := X) hs hcs
    rw [r1] at hrun
    have fin : a.defers = [] ∧ ∃ v, (results fo a.tmps).run X.P w = .ok v w ∧ GivesRow e (envOf zs fi fb) w0 (.returned v) w := ⟨hs.d, _, hrun, hs.h.below, B, cap, rfl, r2, r3⟩
    cases y with
    | normal => exact fin
    | ret => exact fin
    | exit i => cases hy
end Go.Proofs.Ythggppjdapmgdaa.Eng
