/- A function that holds one range over a function: all that a walk has to find, in one reckoning. No program in sight. -/
import Derived.Test.YthggppjdapmgdaaIter8
namespace Go.Proofs.Ythggppjdapmgdaa.Eng
set_option linter.unusedSimpArgs false
set_option linter.unusedVariables false
open Go Go.RowKit

/-- The way to the range statement. -/
def rngTo (X : Cx) (kn : Kn) (n : Nat) (p : List Bool) (f : Nat) (args : List SVal) : Option (St × Operand × RF × Func × Code) :=
  match X.P.funcs[f]? with
  | none => none
  | some fo => match fo.body with
    | none => none
    | some co => match execTo X kn n p co ⟨args ++ List.replicate (fo.ntmps - args.length) (.tup []), []⟩ with
      | .ok (s, .rangeFunc g ps assign body) => some (s, g, ⟨s.T.map SVal.blur, ps, assign, body⟩, fo, co)
      | _ => none
theorem rngTo_ok {X : Cx} {kn : Kn} {n : Nat} {p : List Bool} {f : Nat} {args : List SVal} {s : St} {g : Operand} {F : RF} {fo : Func} {co : Code} (h : rngTo X kn n p f args = some (s, g, F, fo, co)) :
    X.P.funcs[f]? = some fo ∧ fo.body = some co ∧ execTo X kn n p co ⟨args ++ List.replicate (fo.ntmps - args.length) (.tup []), []⟩ = .ok (s, .rangeFunc g F.ps F.assign F.body) ∧ F.T0 = s.T.map SVal.blur := by
  unfold rngTo at h
  split at h <;> try (cases h; done)
  rename_i fo' h1
  split at h <;> try (cases h; done)
  rename_i co' h2
  split at h <;> try (cases h; done)
  rename_i s' g' ps assign body h3
  simp only [Option.some.injEq, Prod.mk.injEq] at h
  obtain ⟨rfl, rfl, rfl, rfl, rfl⟩ := h
  exact ⟨h1, h2, h3, rfl⟩
/-- The iterator: its parts. -/
def iterOf (P : Program) (gf : Nat) : Option (Func × Code × Code × Nat × Code) :=
  match P.funcs[gf]? with
  | none => none
  | some fn => match fn.body with
    | some (.seq p0 (.seq p1 (.block b (.loop c)))) => some (fn, p0, p1, b, c)
    | _ => none
theorem iterOf_ok {P : Program} {gf : Nat} {fn : Func} {p0 p1 c : Code} {b : Nat} (h : iterOf P gf = some (fn, p0, p1, b, c)) : P.funcs[gf]? = some fn ∧ fn.body = some (.seq p0 (.seq p1 (.block b (.loop c)))) := by
  unfold iterOf at h
  split at h <;> try (cases h; done)
  rename_i fn' h1
  split at h <;> try (cases h; done)
  rename_i p0' p1' b' c' h2
  simp only [Option.some.injEq, Prod.mk.injEq] at h
  obtain ⟨rfl, rfl, rfl, rfl, rfl⟩ := h
  exact ⟨h1, h2⟩
def endsIn (b : Nat) : Ex → Bool
  | .ret => true
  | .exit i => i == b
  | .normal => false
def plainEx : Ex → Bool
  | .exit _ => false
  | _ => true
/-- What the function gives behind the way out. -/
def rngOut (X : Cx) (n : Nat) (p : List Bool) (L b : Nat) (F : RF) (fo fn : Func) (co : Code) (o : Ex × Ex × St × Nat) : Option (List CV) :=
  if endsIn b o.2.1 && (resVal X.P o.2.2.1 fn.results.toList).isSome && recB o.2.2.1.H (L + 1) && stood o.2.2.1.H L then
    match execFrom X [] n o.1 ⟨F.T0, o.2.2.1.H⟩ p co with
    | .ok (y, s3) => if plainEx y && obB 1 s3.H L then resVal X.P s3 fo.results.toList else none
    | _ => none
  else none
def rngAll (X : Cx) (kn : Kn) (n d : Nat) (p : List Bool) (f gf : Nat) (args : List SVal) (e : ILoop) : Option (BTree × List SE × List (Option (List CV))) :=
  match rngTo X kn n p f args with
  | none => none
  | some (s, g, F, fo, co) => match aat s.T g with
    | some (.clo gf' lp off) => if gf' = gf ∧ (stood s.H lp && F.T0.all (SVal.inH s.H) && rfFresh s.H && decide ((rfH s.H).length ≤ e.pat.H.length)) = true then
        match iterOf X.P gf with
        | none => none
        | some (fn, p0, p1, b, c) => match iPre X n e p0 p1 ⟨[.cv (.one (.yld (s.H.length + 1))), .cv (.one (.ptr lp off))] ++ List.replicate (fn.ntmps - 2) (.tup []), rfH s.H⟩ with
          | none => none
          | some σ => some (iTree X F e n c d [], σ, e.outs.map (rngOut X n p s.H.length b F fo fn co))
      else none
    | _ => none
theorem rngAll_ok {X : Cx} {fi : Nat → Nat → List Int → Int} {fb : Nat → Nat → List Int → Bool} {w0 : World} (hX : ∀ E', E'.fi = fi → E'.fb = fb → XOk X w0 E') (hm : X.P.follows .mixedOrders = true) {kn : Kn} {n d : Nat} {p : List Bool} {f gf : Nat} {args : List SVal} {e : ILoop} {t : BTree} {σ : List SE} {vs : List (Option (List CV))}
    (h : rngAll X kn n d p f gf args e = some (t, σ, vs)) (eg : Enters X.P gf) {zs ys : List Int} (hk : kn.ok (envOf zs fi fb)) {N κ : Nat} (hl : loopF fi fb t N (σ.map (SE.den (envOf zs fi fb))) = some (κ, ys)) {cs : List CV} (hv : vs[κ]? = some (some cs)) (hfl : (SVal.ofRes cs).flat = true) :
    Calls X.P f (args.map (SVal.den (envOf zs fi fb) Pl.no)).toArray w0 (Gives ((SVal.ofRes cs).den (envOf ys fi fb) Pl.no) w0) := by
  unfold rngAll at h
  split at h <;> try (cases h; done)
  rename_i s g F fo co h1
  obtain ⟨a1, a2, a3, a4⟩ := rngTo_ok h1
  split at h <;> try (cases h; done)
  rename_i gf' lp off h2
  split at h <;> try (cases h; done)
  rename_i hc
  obtain ⟨rfl, hc⟩ := hc
  simp only [Bool.and_eq_true, decide_eq_true_eq] at hc
  obtain ⟨⟨⟨c1, c2⟩, c3⟩, c4⟩ := hc
  split at h <;> try (cases h; done)
  rename_i fn p0 p1 b c h3
  obtain ⟨b1, b2⟩ := iterOf_ok h3
  split at h <;> try (cases h; done)
  rename_i σ' h4
  simp only [Option.some.injEq, Prod.mk.injEq] at h
  obtain ⟨rfl, rfl, rfl⟩ := h
  rw [List.getElem?_map] at hv
  obtain ⟨⟨x, x2, q, n'⟩, hκ, hv⟩ := Option.map_eq_some_iff.1 hv
  unfold rngOut at hv
  split at hv <;> try (cases hv; done)
  rename_i hd
  simp only [Bool.and_eq_true] at hd
  obtain ⟨⟨⟨d1, d2⟩, d3⟩, d4⟩ := hd
  obtain ⟨cs1, d2⟩ := Option.isSome_iff_exists.1 d2
  split at hv <;> try (cases hv; done)
  rename_i y s3 h5
  split at hv <;> try (cases hv; done)
  rename_i hy
  simp only [Bool.and_eq_true] at hy
  have hx2 : x2 = .ret ∨ x2 = .exit b := by
    cases x2 with
    | ret => exact Or.inl rfl
    | exit i => simp only [endsIn, beq_iff_eq] at d1; exact Or.inr (by rw [d1])
    | normal => cases d1
  have hyy : y = .normal ∨ y = .ret := by
    cases y with
    | ret => exact Or.inr rfl
    | normal => exact Or.inl rfl
    | exit i => cases hy.1
  have := rfn_ok (m := 0) hX hm a1 a2 b1 b2 eg a3 h2 c1 a4 c2 c3 h4 c4 rfl hk hl hκ hx2 d2 d3 h5 hyy d4 hy.2 hv hfl
  exact callsIn_wide.1 this
end Go.Proofs.Ythggppjdapmgdaa.Eng
