/- A loop by its body's ways: the reckoner walks the body once from a state with letters; what the loop gives is the plain recursion over the letters. No program in sight. -/
import Derived.Test.YtjbpaejjpamcpaaEng
namespace Go.Proofs.Ytjbpaejjpamcpaa.Eng
set_option linter.unusedSimpArgs false
set_option linter.unusedVariables false
open Go Go.RowKit

/-- The ways through a loop's body: on to the next round, the letters standing so; out in the way κ. -/
inductive BTree | next (σ : List SE) | out (κ : Nat) (ys : List SE) | dead (n : Nat) | node (c : SB) (t e : BTree)
inductive BVal | next (zs : List Int) | out (κ : Nat) (ys : List Int)
def BTree.den (E : Env) : BTree → Option BVal
  | .next σ => some (.next (σ.map (SE.den E)))
  | .out κ ys => some (.out κ (ys.map (SE.den E)))
  | .dead _ => none
  | .node c t e => bif c.den E then t.den E else e.den E
def Ex.same : Ex → Ex → Bool
  | .normal, .normal => true
  | .exit a, .exit b => a == b
  | .ret, .ret => true
  | _, _ => false
theorem Ex.same_eq (a b : Ex) (h : a.same b = true) : a = b := by
  cases a <;> cases b <;> simp [Ex.same] at h <;> try rfl
  rw [h]
def bodyOut (len : Nat) (s' : St) (x : Ex) : Nat → List (Ex × St × Nat × List Nat) → BTree
  | _, [] => .dead 2
  | κ, (x', q, n, ks) :: r => if x.same x' && ((q.subst (sigma (n + ks.length) (q.pair s'))).wk s' && (q.noOpq && decide (len ≤ q.H.length))) then .out κ (sigma (n + ks.length) (q.pair s')) else bodyOut len s' x (κ + 1) r
def bodyLeaf (e : LEnt) (x : Ex) (s' : St) : BTree :=
  match x with
  | .normal => if (e.pat.subst (sigma e.m (e.pat.pair s'))).wk s' && e.pat.noOpq then .next (sigma e.m (e.pat.pair s')) else .dead 1
  | x => bodyOut e.pat.H.length s' x 0 e.outs
def exploreB (X : Cx) (e : LEnt) (n : Nat) (c : Code) : Nat → Kn → BTree
  | 0, _ => .dead 0
  | d + 1, kn => match exec X kn n (some (e.f, false :: e.path)) c e.pat with
    | .ok (x, s') => bodyLeaf e x s'
    | .need b => .node b (exploreB X e n c d ((b, true) :: kn)) (exploreB X e n c d ((b, false) :: kn))
    | .fail m => .dead (1000 + m)
    | .stop _ => .dead 99
def bodyTree (X : Cx) (e : LEnt) (n d : Nat) : BTree :=
  match codeAt X.P e.f e.path with
  | some (.loop c) => exploreB X e n c d []
  | _ => .dead 98
def BPost (B : Base) (w0 : Wb) (fi : Nat → Nat → List Int → Int) (fb : Nat → Nat → List Int → Bool) (e : LEnt) : BVal → Exit → Act → World → Prop
  | .next zs, ex, a, w => ex = .normal ∧ ∃ ρ, Sat B w0 (envOf zs fi fb) e.pat ρ a w
  | .out κ ys, ex, a, w => ∃ x q n ks, e.outs[κ]? = some (x, q, n, ks) ∧ x ≠ .normal ∧ ex = x.toExit ∧ ∃ ρ, Sat B w0 (envOf ys fi fb) q ρ a w
section
variable {X : Cx} {E : Env} {ρ : Pl} {kn : Kn} {B : Base} {fi : Nat → Nat → List Int → Int} {fb : Nat → Nat → List Int → Bool}
theorem bodyOut_ok {e : LEnt} {w0 : Wb} {zs : List Int} {x : Ex} {s' : St} (hx : x ≠ .normal) {v : BVal} : ∀ (r : List (Ex × St × Nat × List Nat)) (κ : Nat), (∀ i, r[i]? = e.outs[κ + i]?) → (bodyOut e.pat.H.length s' x κ r).den (envOf zs fi fb) = some v →
    (∀ l, stood B.1 l = true → l < e.pat.H.length) → ∀ (ρ : Pl) (a : Act) (w : World), Sat B w0 (envOf zs fi fb) s' ρ a w → BPost B w0 fi fb e v x.toExit a w
  | [], κ, _, h, _, _, _, _, _ => by simp [bodyOut, BTree.den] at h
  | (x', q, n, ks) :: r, κ, hr, h, hb, ρ, a, w, hs => by
    unfold bodyOut at h
    split at h
    · rename_i hc
      simp only [Bool.and_eq_true, decide_eq_true_eq] at hc
      obtain ⟨h1, h2, h3, h4⟩ := hc
      have hxx := Ex.same_eq _ _ h1
      subst hxx
      simp only [BTree.den, Option.some.injEq] at h
      subst h
      refine ⟨x, q, n, ks, by have := hr 0; simpa using this.symm, hx, rfl, ρ, ?_⟩
      have := hs.weaken h2 (fun l hl => by have := hb l hl; simp only [St.subst, List.length_map]; omega)
      exact (sat_subst h3).1 this
    · exact bodyOut_ok hx r (κ + 1) (fun i => by have := hr (i + 1); simpa [Nat.add_assoc, Nat.add_comm 1 i] using this) h hb ρ a w hs
theorem exploreB_ok {e : LEnt} {w0 : Wb} {zs : List Int} (hX : XOk X w0 (envOf zs fi fb)) (hm : X.P.follows .mixedOrders = true) {n : Nat} {c : Code} (hc : codeAt X.P e.f (false :: e.path) = some c) {v : BVal} : ∀ (d : Nat) (kn : Kn), kn.ok (envOf zs fi fb) →
    (exploreB X e n c d kn).den (envOf zs fi fb) = some v → ∀ (ρ : Pl) (a : Act) (w : World), Sat B w0 (envOf zs fi fb) e.pat ρ a w → c.wp X.P (BPost B w0 fi fb e v) a w
  | 0, kn, _, h, _, _, _, _ => by simp [exploreB, BTree.den] at h
  | d + 1, kn, hk, h, ρ, a, w, hs => by
    unfold exploreB at h
    have hb : ∀ l, stood B.1 l = true → l < e.pat.H.length := fun l hl => stood_lt (hs.v l hl).1
    split at h
    · rename_i x s' hr
      refine Code.wp_mono (fun ex a' w' hq => ?_) ((exec_ok' hk hX hm n).1 (some (e.f, false :: e.path)) c e.pat x s' hc hr B ρ a w hs)
      obtain ⟨rfl, ρ', hs'⟩ := hq
      cases x with
      | normal =>
        simp only [bodyLeaf] at h
        split at h
        · rename_i hcv
          simp only [Bool.and_eq_true] at hcv
          simp only [BTree.den, Option.some.injEq] at h
          subst h
          exact ⟨rfl, ρ', (sat_subst hcv.2).1 (hs'.weaken hcv.1 (fun l hl => by simpa [St.subst] using hb l hl))⟩
        · simp [BTree.den] at h
      | exit id => exact bodyOut_ok (by simp) e.outs 0 (fun i => by simp) h hb ρ' a' w' hs'
      | ret => exact bodyOut_ok (by simp) e.outs 0 (fun i => by simp) h hb ρ' a' w' hs'
    · rename_i b hr
      simp only [BTree.den] at h
      cases hbv : b.den (envOf zs fi fb)
      · rw [hbv] at h
        exact exploreB_ok hX hm hc d _ (kn_cons hk hbv) h ρ a w hs
      · rw [hbv] at h
        exact exploreB_ok hX hm hc d _ (kn_cons hk hbv) h ρ a w hs
    · simp [BTree.den] at h
    · simp [BTree.den] at h

/-- The recursion over the letters. -/
def loopF (fi : Nat → Nat → List Int → Int) (fb : Nat → Nat → List Int → Bool) (t : BTree) : Nat → List Int → Option (Nat × List Int)
  | 0, _ => none
  | n + 1, zs => match t.den (envOf zs fi fb) with
    | some (.next zs') => loopF fi fb t n zs'
    | some (.out κ ys) => some (κ, ys)
    | none => none
theorem LEnt.by_loop {w0 : Wb} {e : LEnt} {n d : Nat} {t : BTree} (hX : ∀ zs, XOk X w0 (envOf zs fi fb)) (hm : X.P.follows .mixedOrders = true) (ht : bodyTree X e n d = t)
    (hsem : ∀ zs : List Int, zs.length = e.m → (∀ c, e.pre = some c → c.den (envOf zs fi fb) = true) → ∃ N κ ys x q n ks, loopF fi fb t N zs = some (κ, ys) ∧ e.outs[κ]? = some (x, q, n, ks) ∧ (e.outs.length = 1 ∨ fi e.sg 99 zs = (κ : Nat)) ∧ (lettersOf fi e.sg κ n zs ++ ks.map fun i => zs.getD i 0) = ys) : e.ok X.P w0 fi fb := by
  intro c hc zs hz hp
  obtain ⟨N, κ, ys, x, q, n', ks, h1, h2, h3, h4⟩ := hsem zs hz hp
  refine ⟨κ, x, q, n', ks, h2, h3, fun B ρ a w hs => wp_loop_rounds N ?_⟩
  rw [h4]
  unfold bodyTree at ht
  rw [hc] at ht
  simp only at ht
  have hbody : codeAt X.P e.f (false :: e.path) = some c := by unfold codeAt; rw [hc]; rfl
  clear hp hz h3 h4
  induction N generalizing zs ρ a w with
  | zero => simp [loopF] at h1
  | succ N ih =>
    rw [rounds_succ]
    unfold loopF at h1
    cases hv : t.den (envOf zs fi fb) with
    | none => rw [hv] at h1; cases h1
    | some v =>
      rw [hv] at h1
      rw [← ht] at hv
      refine Code.wp_mono (fun ex a' w' hq => ?_) (exploreB_ok (B := B) (hX zs) hm hbody d [] (fun p hp => by cases hp) hv ρ a w hs)
      cases v with
      | next zs' =>
        obtain ⟨rfl, ρ', hs'⟩ := hq
        exact ih zs' h1 ρ' a' w' hs'
      | out κ' ys' =>
        simp only [Option.some.injEq, Prod.mk.injEq] at h1
        obtain ⟨rfl, rfl⟩ := h1
        obtain ⟨x', q', n2, ks2, g1, g2, rfl, ρ', hs'⟩ := hq
        rw [h2] at g1
        simp only [Option.some.injEq, Prod.mk.injEq] at g1
        obtain ⟨rfl, rfl, rfl, rfl⟩ := g1
        cases x with
        | normal => exact absurd rfl g2
        | exit id => exact ⟨rfl, ρ', hs'⟩
        | ret => exact ⟨rfl, ρ', hs'⟩
end
/-! ### A tree, node by node -/
def grow (run : Kn → Res SVal) : Nat → Kn → Tree
  | 0, _ => .dead 0
  | d + 1, kn => match run kn with
    | .ok r => .leaf r
    | .need c => .node c (grow run d ((c, true) :: kn)) (grow run d ((c, false) :: kn))
    | .fail m => .dead m
    | .stop _ => .dead 99
theorem grow_node {run : Kn → Res SVal} {d : Nat} {kn : Kn} {c : SB} {T F : Tree} (h : run kn = .need c) (hT : grow run d ((c, true) :: kn) = T) (hF : grow run d ((c, false) :: kn) = F) : grow run (d + 1) kn = .node c T F := by
  unfold grow; rw [h]; simp only [hT, hF]
theorem grow_leaf {run : Kn → Res SVal} {d : Nat} {kn : Kn} {r : SVal} (h : run kn = .ok r) : grow run (d + 1) kn = .leaf r := by
  unfold grow; rw [h]
theorem grow_dead {run : Kn → Res SVal} {d : Nat} {kn : Kn} {m : Nat} (h : run kn = .fail m) : grow run (d + 1) kn = .dead m := by
  unfold grow; rw [h]
def gRun (X : Cx) (fuel f : Nat) (args : List SVal) (kn : Kn) : Res SVal := runFn X kn fuel f args
theorem grow_explore {X : Cx} {fuel f : Nat} {args : List SVal} : ∀ (d : Nat) (kn : Kn), grow (gRun X fuel f args) d kn = explore X fuel f args d kn
  | 0, _ => rfl
  | d + 1, kn => by
    unfold grow explore gRun
    cases runFn X kn fuel f args with
    | ok r => rfl
    | need c => simp only [← grow_explore d]; rfl
    | fail m => rfl
    | stop s => rfl
/-- Each live leaf is what a run under the conditions on its way gives. -/
def Runs (X : Cx) (fuel f : Nat) (args : List SVal) : Tree → Kn → Prop
  | .leaf r, kn => runFn X kn fuel f args = .ok r
  | .dead _, _ => True
  | .node c t e, kn => Runs X fuel f args t ((c, true) :: kn) ∧ Runs X fuel f args e ((c, false) :: kn)
theorem runs_ok {X : Cx} {E : Env} {w0 : World} (hX : XOk X w0 E) (hm : X.P.follows .mixedOrders = true) {fuel f : Nat} {args : List SVal} {v : Value} : ∀ (t : Tree) (kn : Kn), kn.ok E → Runs X fuel f args t kn →
    t.den E = some v → Calls X.P f (args.map (SVal.den E Pl.no)).toArray w0 (Gives v w0)
  | .leaf r, kn, hk, hr, h => by
    simp [Tree.den] at h; subst h
    exact runFn_ok hk hX hm hr
  | .dead _, _, _, _, h => by simp [Tree.den] at h
  | .node c t e, kn, hk, hr, h => by
    simp only [Tree.den] at h
    cases hb : c.den E
    · rw [hb] at h
      exact runs_ok hX hm e _ (kn_cons hk hb) hr.2 h
    · rw [hb] at h
      exact runs_ok hX hm t _ (kn_cons hk hb) hr.1 h
/-- The conditions on the way that an input goes (dev time). -/
def pathOf (X : Cx) (fuel f : Nat) (args : List SVal) (E : Env) : Nat → Kn → Kn × Nat × SVal
  | 0, kn => (kn, 0, .any)
  | d + 1, kn => match runFn X kn fuel f args with
    | .ok r => (kn, 1, r)
    | .need c => pathOf X fuel f args E d ((c, c.den E) :: kn)
    | .fail m => (kn, 1000 + m, .any)
    | .stop _ => (kn, 4, .any)
end Go.Proofs.Ytjbpaejjpamcpaa.Eng
