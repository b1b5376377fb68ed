/- A range over a function: the statement, in the outer frame. No program in sight. -/
import Derived.Test.YthggppjdapmgdaaIter5
namespace Go.Proofs.Ythggppjdapmgdaa.Eng
set_option linter.unusedSimpArgs false
set_option linter.unusedVariables false
open Go Go.RowKit

def SVal.blur (s : SVal) : SVal := if s.fixed then s else .any
theorem blur_fixed (s : SVal) : s.blur.fixed = true := by
  unfold SVal.blur; split
  · assumption
  · rfl
theorem fits_blur {E : Env} {ρ : Pl} : ∀ {T : List SVal} {vs : List Value}, Fits E ρ T vs → Fits E ρ (T.map SVal.blur) vs
  | [], [], _ => trivial
  | [], _ :: _, h => by simp [Fits] at h
  | _ :: _, [], h => by simp [Fits] at h
  | s :: T, v :: vs, h => by
    refine ⟨?_, fits_blur h.2⟩
    unfold SVal.blur
    split
    · exact h.1
    · exact Or.inl rfl
def noOb (i : Nat) (H : List HE) : Bool := H.all fun h => match h with
  | .blk b => !obSame b.ob (some (.obj i))
  | _ => true
theorem noOb_ok {i : Nat} {H : List HE} (h : noOb i H = true) (m : Nat) (b : Blk) (hm : H[m]? = some (HE.blk b)) : b.ob ≠ some (.obj i) := by
  have := List.all_eq_true.1 h _ (List.mem_of_getElem? hm)
  intro e
  simp only [e] at this
  simp [obSame] at this
/-- The heap with the block for deferred calls and the loop's record. -/
def rfHa (H : List HE) : List HE := (H ++ List.replicate 2 HE.free).set H.length (.blk ⟨0, [], 0, some (.obj 1)⟩)
def rfH (H : List HE) : List HE := (rfHa H).set (H.length + 1) (.blk ⟨0, [], 0, some (.obj 0)⟩)
def rfFresh (H : List HE) : Bool := !(H ++ List.replicate 2 HE.free).any (HE.names H.length) && !(rfHa H).any (HE.names (H.length + 1)) && noOb 1 (H ++ List.replicate 2 HE.free) && noOb 0 (rfHa H)
def loopRec (fn : Nat) (tmps : Array Value) (ps : Array Tmp) (assign body : Code) (D : Nat) : Loop := { state := .ready, pending := none, fn, tmps, params := ps, assign, body, defers := D }
theorem via_append {H K : List HE} {ρ : Pl} : Via H ρ (H ++ K) ρ := fun l hl => ⟨by
  have := stood_lt hl
  unfold stood at hl ⊢
  rw [List.getElem?_append_left this]; exact hl, rfl⟩
theorem via_put {H : List HE} {ρ : Pl} {nid : Nat} {p : Nat × Nat} {b : Blk} (hn : H[nid]? = some .free) : Via H ρ (H.set nid (.blk b)) (ρ.put nid p) := fun l hl => by
  have hne : l ≠ nid := fun e => by subst e; unfold stood at hl; rw [hn] at hl; cases hl
  refine ⟨?_, by simp [Pl.put, hne]⟩
  unfold stood at hl ⊢
  rw [List.getElem?_set, if_neg (fun e => hne e.symm)]; exact hl
section
variable {X : Cx} {E : Env} {ρ : Pl} {B : Base} {fi : Nat → Nat → List Int → Int} {fb : Nat → Nat → List Int → Bool}
theorem rf_ok {w0 : Wb} (hX : ∀ E', E'.fi = fi → E'.fb = fb → XOk X w0 E') (hm : X.P.follows .mixedOrders = true) {n m d : Nat} {F : RF} {e : ILoop} {c : Code} {gf lp off : Nat} {fn : Func} (hf : X.P.funcs[gf]? = some fn) {p0 p1 : Code} {b : Nat} (hbd : fn.body = some (.seq p0 (.seq p1 (.block b (.loop c)))))
    (eg : ∀ args w, (callFunc gf args).run X.P w = .ok (.enter gf args) w) {s : St} {g : Operand} (hg : aat s.T g = some (.clo gf lp off)) (hlp : stood s.H lp = true) (hT0 : F.T0 = s.T.map SVal.blur) (hin : F.T0.all (SVal.inH s.H) = true) (hfr : rfFresh s.H = true)
    {σ : List SE} (hσ : iPre X n e p0 p1 ⟨[.cv (.one (.yld (s.H.length + 1))), .cv (.one (.ptr lp off))] ++ List.replicate (fn.ntmps - 2) (.tup []), rfH s.H⟩ = some σ) (hbl : (rfH s.H).length ≤ e.pat.H.length)
    {t : BTree} (ht : iTree X F e n c d [] = t) {zs ys : List Int} {N κ : Nat} (hl : loopF fi fb t N (σ.map (SE.den (envOf zs fi fb))) = some (κ, ys)) (hz : IsE fi fb zs E)
    {x x2 : Ex} {q : St} {n' : Nat} (hκ : e.outs[κ]? = some (x, x2, q, n')) (hx2 : x2 = .ret ∨ x2 = .exit b) {cs : List CV} (hcs : resVal X.P q fn.results.toList = some cs) (hrq : recB q.H (s.H.length + 1) = true)
    {a : Act} {w : World} (hs : Sat B w0 E s ρ a w) {Q : Exit → Act → World → Prop}
    (hQ : ∀ ρ' E' w', IsE fi fb ys E' → E'.o 1 = .deferred (some []) → (∀ l, stood s.H l = true → ρ' l = ρ l) → Sat (B.1, B.2.1, { target := .collected (ρ' s.H.length).1, args := #[] } :: B.2.2) w0 E' ⟨F.T0, q.H⟩ ρ' { a with defers := { target := .collected (ρ' s.H.length).1, args := #[] } :: a.defers } w' →
      Q x.toExit { a with defers := { target := .collected (ρ' s.H.length).1, args := #[] } :: a.defers } w') :
    (Code.rangeFunc g F.ps F.assign F.body).wpIn Fence.wide (m + 2) X.P Q a w := by
  refine wpIn_rangeFunc ?_
  intro fid hfid
  simp only [rfFresh, Bool.and_eq_true, Bool.not_eq_true'] at hfr
  obtain ⟨⟨⟨hr1, hr2⟩, hr3⟩, hr4⟩ := hfr
  have hge := aat_den hs.t hg
  have hg' : a.eval g = .func (.func gf) #[] #[.pointer (some ⟨(ρ lp).1, off, none⟩)] := hge
  have hs0 := sat_free hs 2
  have hlen : (s.H ++ List.replicate 2 HE.free).length = s.H.length + 2 := by simp
  have hn1 : (s.H ++ List.replicate 2 HE.free)[s.H.length]? = some HE.free := by simp
  have hn2 : (rfHa s.H)[s.H.length + 1]? = some HE.free := by
    unfold rfHa
    rw [List.getElem?_set, if_neg (by omega)]
    simp
  have h1 := hs0.h.newObj (i := 1) (o := .deferred (some [])) rfl hn1 hr1 (noOb_ok hr3)
  change RelH w0 _ (rfHa s.H) _ _ at h1
  have h2 := h1.newObj (i := 0) (o := .loop (loopRec fid a.tmps F.ps F.assign F.body w.heap.size)) rfl hn2 hr2 (noOb_ok hr4)
  rw [World.size_alloc] at h2
  obtain ⟨ρ1, hρ1⟩ : ∃ ρ1, ρ1 = (ρ.put s.H.length (w.heap.size, 0)).put (s.H.length + 1) (w.heap.size + 1, 0) := ⟨_, rfl⟩
  obtain ⟨E1, hE1⟩ : ∃ E1, E1 = (E.setO 1 (.deferred (some [])) rfl).setO 0 (.loop (loopRec fid a.tmps F.ps F.assign F.body w.heap.size)) rfl := ⟨_, rfl⟩
  rw [← hρ1, ← hE1] at h2
  change RelH w0 E1 (rfH s.H) ρ1 _ at h2
  have hv1 : Via s.H ρ (rfH s.H) ρ1 := by
    rw [hρ1]
    exact (via_append.trans (via_put hn1)).trans (via_put hn2)
  have hz1 : IsE fi fb zs E1 := by rw [hE1]; exact ⟨hz.i, hz.b, hz.fi, hz.fb⟩
  have ho0 : E1.o 0 = .loop (loopRec fid a.tmps F.ps F.assign F.body w.heap.size) := by rw [hE1]; simp [Env.setO]
  have ho1 : E1.o 1 = .deferred (some []) := by rw [hE1]; simp [Env.setO]
  have hfix : F.T0.all SVal.fixed = true := by
    rw [hT0, List.all_eq_true]
    intro v hv
    obtain ⟨u, _, rfl⟩ := List.mem_map.1 hv
    exact blur_fixed u
  have hTE : ∀ (E : Env) (ρ' : Pl), (∀ l, stood s.H l = true → ρ' l = ρ l) → Fits E ρ' F.T0 a.tmps.toList := fun E' ρ' hv => by
    have h0 : Fits E ρ F.T0 a.tmps.toList := by rw [hT0]; exact fits_blur hs.t
    exact fits_fixed hfix (Fits.turn h0 (fun s hs _ => (SVal.inH_den hv s (List.all_eq_true.1 hin s hs)).symm))
  have hρl : (ρ1 (s.H.length + 1)).1 = w.heap.size + 1 := by rw [hρ1]; simp [Pl.put]
  have hρd : (ρ1 s.H.length).1 = w.heap.size := by rw [hρ1]; simp [Pl.put]
  have hρp : ρ1 lp = ρ lp := (hv1 lp hlp).2
  have hcall := iter_calls (m := m) hX hm (n := n) (d := d) (F := F) (e := e) (c := c) (r := loopRec fid a.tmps F.ps F.assign F.body w.heap.size) rfl rfl rfl rfl rfl hfix hf hbd (H := rfH s.H) (ρ := ρ1)
    (fun E' H' ρ' hv => hTE E' ρ' (fun l hl => ((hv l (hv1 l hl).1).2).trans (hv1 l hl).2)) hσ (fun l hl => Nat.lt_of_lt_of_le (stood_lt hl) hbl) ht hl hz1 ho0 h2 hκ hx2 hcs
  obtain ⟨W1, hW1⟩ : ∃ W1, W1 = (w.alloc (.deferred (some []))).alloc (.loop (loopRec fid a.tmps F.ps F.assign F.body w.heap.size)) := ⟨_, rfl⟩
  rw [← hW1] at hcall
  refine ⟨w.heap.size + 1, [{ target := .collected w.heap.size, args := #[] }], W1, { target := .fn (.func gf) #[.pointer (some ⟨(ρ lp).1, off, none⟩)], args := #[.func (.yield (w.heap.size + 1)) #[] #[]] }, W1, gf,
    #[.func (.yield (w.heap.size + 1)) #[] #[]] ++ #[.pointer (some ⟨(ρ lp).1, off, none⟩)], W1, ?_, ?_, fun _ _ => trivial, ?_, fun h => absurd h (by simp [Fence.wide]), ?_⟩
  · rw [hW1]; exact run_enterLoop_outer _ _ _ _ _
  · simp only [resolve, hg']
    simp [go_sem]
  · simp [invoke, go_sem, eg]
  · have hargs : (List.map (SVal.den E1 ρ1) [SVal.cv (.one (.yld (s.H.length + 1))), SVal.cv (.one (.ptr lp off))]).toArray = #[.func (.yield (w.heap.size + 1)) #[] #[]] ++ #[.pointer (some ⟨(ρ lp).1, off, none⟩)] := by
      simp [SVal.den, CV.den, At.den, hρl, hρp]
    rw [hargs] at hcall
    refine hcall.mono ?_
    rintro en w' ⟨⟨v, rfl⟩, ρ', E', g3, g4, g5, g6, g7⟩
    have hst : stood (rfH s.H) (s.H.length + 1) = true := by
      unfold stood rfH
      rw [List.getElem?_set, if_pos rfl]
      simp [rfHa]
    have hst1 : stood (rfH s.H) s.H.length = true := by
      unfold stood rfH rfHa
      rw [List.getElem?_set, if_neg (by omega), List.getElem?_set, if_pos rfl]
      simp
    have hrl : (ρ' (s.H.length + 1)).1 = w.heap.size + 1 := by rw [(g7 _ hst).2, hρl]
    have hrd : (ρ' s.H.length).1 = w.heap.size := by rw [(g7 _ hst1).2, hρd]
    have hrec := rec_heap g6 (recB_ok hrq)
    rw [hrl, g4] at hrec
    obtain ⟨⟨bq, hq1, hq2⟩, hq3⟩ := recB_ok hrq
    have hrun := run_endLoop (P := X.P) hrec (by cases x <;> simp [jumpOf])
    have h3 := g6.setO (h := rfl) (o := .loop { loopRec fid a.tmps F.ps F.assign F.body w.heap.size with state := .exhausted, pending := jumpOf x }) hq1 hq2 hq3
    rw [hrl] at h3
    have hvv : ∀ l, stood s.H l = true → ρ' l = ρ l := fun l hl => ((g7 l (hv1 l hl).1).2).trans (hv1 l hl).2
    have fin := hQ ρ' (E'.setO 0 (.loop { loopRec fid a.tmps F.ps F.assign F.body w.heap.size with state := .exhausted, pending := jumpOf x }) rfl) _ ⟨g3.i, g3.b, g3.fi, g3.fb⟩ (by simp [Env.setO, g5, ho1]) hvv ⟨hTE _ ρ' hvv, by simp [hs.d], h3, fun l hl => ⟨(g7 l (hv1 l (hs.v l hl).1).1).1, (hvv l (hs.v l hl).1).trans (hs.v l hl).2⟩⟩
    rw [hrd] at fin
    refine ⟨_, _, hrun, ?_⟩
    cases x with
    | normal => exact fin
    | exit id => exact wpIn_exit fin
    | ret => exact wpIn_ret fin
end
end Go.Proofs.Ythggppjdapmgdaa.Eng
