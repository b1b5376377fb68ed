import Derived.Test.YtjbpaejjpamcpaaMIt
/- Contracts of functions that give a row: by the reckoner's ways; by a loop that appends. No program in sight. -/
namespace Go.Proofs.Ytjbpaejjpamcpaa.Eng
set_option linter.unusedSimpArgs false
set_option linter.unusedVariables false
open Go Go.RowKit

/-- What is known of a row that is given: its length, how many elements are known, the sign's arguments; the other results. -/
def rowRes (e : REnt) (cs : List CV) (H : List HE) : Option (List SE × List CV) :=
  match cs with
  | .one (.slc l ln) :: out => match H[l]? with
    | some (.blk b) => if b.ty = e.ty ∧ out.all CV.flat = true then
        (match b.ob with
        | some (.row r) => if r.m = e.m then (if r.sg = e.sg then some (ln :: r.n :: r.args, out) else if r.n.same (.lit 0) then some (ln :: .lit 0 :: e.args, out) else none) else none
        | none => if b.cs.isEmpty && b.sz == e.m && e.m != 0 then some (ln :: .lit 0 :: e.args, out) else none
        | _ => none)
      else none
    | _ => none
  | _ => none
def denL (E : Env) (p : List SE × List CV) : List Int × List Value := (p.1.map (SE.den E), p.2.map (CV.den E Pl.no))
/-- What the row must be. -/
def REnt.due (e : REnt) (E0 : Env) : List Int × List Value := (e.len.den E0 :: e.len.den E0 :: e.args.map (SE.den E0), e.out.map (CV.den E0 Pl.no))
theorem rowRes_ok {P : Program} {e : REnt} {cs : List CV} {H : List HE} {p : List SE × List CV} (h : rowRes e cs H = some p) {E E0 : Env} (hf : E.fi = E0.fi) (hd : denL E p = e.due E0 ∨ ((e.len.den E0).toNat = 0 ∧ (denL E p).1.getD 0 0 = e.len.den E0 ∧ (denL E p).2 = (e.due E0).2)) {ρ : Pl} {w0 : World} {w : World} (hH : RelH w0 E H ρ w) :
    ∃ B cap : Nat, (SVal.ofRes cs).den E ρ = retVals (Value.slice (some ⟨B, 0, none⟩) (e.len.den E0).toNat cap :: e.out.map (CV.den E0 Pl.no)) ∧ w0.heap.size ≤ B ∧ RowAt E0 (fun _ => (B, cap)) w 0 e.ty ⟨e.sg, e.m, e.args, e.len, e.len, none, []⟩ := by
  unfold rowRes at h
  split at h <;> try (cases h; done)
  rename_i l ln out
  split at h <;> try (cases h; done)
  rename_i b hb
  split at h <;> try (cases h; done)
  rename_i hc
  obtain ⟨hty, hfl⟩ := hc
  have hB := hH.blk l b hb
  have hval : ∀ (vs : List Value), out.map (CV.den E Pl.no) = vs → (SVal.ofRes (.one (.slc l ln) :: out)).den E ρ = retVals (Value.slice (some ⟨(ρ l).1, 0, none⟩) (ln.den E).toNat (ρ l).2 :: vs) := fun vs hv => by
    subst hv
    have ho : out.map (CV.den E ρ) = out.map (CV.den E Pl.no) := List.map_congr_left fun c hc => CV.flat_den c (List.all_eq_true.1 hfl c hc) ρ Pl.no
    simp only [ofRes_den, List.map_cons, CV.den, At.den, ho]
  have empty : ∀ (arr : Array Value), w.heap[(ρ l).1]? = some (.cells arr b.ty (0, 0)) → arr.size = (ρ l).2 * e.m → (e.len.den E0).toNat = 0 → RowAt E0 (fun _ => ((ρ l).1, (ρ l).2)) w 0 e.ty ⟨e.sg, e.m, e.args, e.len, e.len, none, []⟩ := fun arr h1 h2 h0 => by
    refine ⟨arr, by rw [← hty]; exact h1, h2, by simp only [h0]; omega, by simp only [h0]; omega, fun e he => (by cases he), fun k j hk => (by simp only [h0] at hk; omega), fun j v hj => (by simp at hj)⟩
  refine ⟨(ρ l).1, (ρ l).2, ?_, (hH.ge l b hb).resolve_right (by intro e; cases e), ?_⟩
  · have hln : ln.den E = e.len.den E0 ∧ out.map (CV.den E Pl.no) = e.out.map (CV.den E0 Pl.no) := by
      have hp : ∃ xs, p = (ln :: xs, out) := by
        split at h
        · split at h <;> try (cases h; done)
          split at h
          · cases h; exact ⟨_, rfl⟩
          · split at h <;> cases h; exact ⟨_, rfl⟩
        · split at h <;> cases h; exact ⟨_, rfl⟩
        · cases h
      obtain ⟨xs, rfl⟩ := hp
      rcases hd with hd | ⟨_, h1, h2⟩
      · simp only [denL, REnt.due, Prod.mk.injEq, List.map_cons, List.cons.injEq] at hd
        exact ⟨hd.1.1, hd.2⟩
      · exact ⟨by simpa [denL] using h1, h2⟩
    rw [hval _ hln.2, hln.1]
  · by_cases h0 : (e.len.den E0).toNat = 0
    · split at h
      · rename_i r hr
        split at h <;> try (cases h; done)
        rename_i hm
        obtain ⟨_, _, arr, a1, a2, _⟩ := hB.row hr
        exact empty arr a1 (by rw [a2, hm]) h0
      · rename_i hr
        split at h <;> try (cases h; done)
        rename_i hm
        simp only [Bool.and_eq_true, beq_iff_eq, bne_iff_ne, List.isEmpty_iff] at hm
        obtain ⟨rest, a1, _, a2⟩ := hB.cells hr
        have a2 := a2 (by rw [hm.1.2]; exact hm.2)
        rw [hm.1.1, hm.1.2] at a2
        rw [hm.1.1] at a1
        exact empty _ a1 (by simpa using a2) h0
      · cases h
    · have hd : denL E p = e.due E0 := by
        rcases hd with hd | hd
        · exact hd
        · exact absurd hd.1 h0
      split at h
      · rename_i r hr
        split at h <;> try (cases h; done)
        rename_i hm
        obtain ⟨_, _, arr, a1, a2, a3, a4, a5, a6, a7⟩ := hB.row hr
        split at h
        · rename_i hsg
          cases h
          simp only [denL, REnt.due, Prod.mk.injEq, List.map_cons, List.cons.injEq] at hd
          obtain ⟨⟨d1, d2, d3⟩, d4⟩ := hd
          refine ⟨arr, by rw [← hty]; exact a1, by rw [a2, hm], by simp only [← d2]; exact a3, by simp only [← d2]; exact a3, fun e he => (by cases he), fun k j hk hj => ?_, fun j v hj => (by simp at hj)⟩
          simp only [← d2] at hk
          have := a6 k j hk (by rw [hm]; exact hj)
          simp only [← d3, ← hf, ← hsg, ← hm]
          exact this
        · split at h <;> try (cases h; done)
          cases h
          simp only [denL, REnt.due, Prod.mk.injEq, List.map_cons, List.cons.injEq, SE.den] at hd
          exact absurd (by rw [← hd.1.2.1]; rfl) h0
      · split at h <;> try (cases h; done)
        cases h
        simp only [denL, REnt.due, Prod.mk.injEq, List.map_cons, List.cons.injEq, SE.den] at hd
        exact absurd (by rw [← hd.1.2.1]; rfl) h0
      · cases h

/-! ### By the ways -/
inductive RTree | leaf (xs : List SE) (out : List CV) | dead (n : Nat) | node (c : SB) (t e : RTree)
def RTree.den (E : Env) : RTree → Option (List Int × List Value)
  | .leaf xs out => some (denL E (xs, out))
  | .dead _ => none
  | .node c t e => bif c.den E then t.den E else e.den E
def resList : SVal → Option (List CV)
  | .tup [_] => none
  | .tup cs => some cs
  | .cv c => some [c]
  | .any => none
theorem resList_ok {r : SVal} {cs : List CV} (h : resList r = some cs) : r = SVal.ofRes cs := by
  unfold resList at h
  split at h <;> try (cases h; done)
  · rename_i cs' hne
    cases h
    match cs, hne with
    | [], _ => rfl
    | [c], hne => exact absurd rfl (hne c)
    | a :: b :: r, _ => rfl
  · cases h; rfl
def rowLeaf (e : REnt) (r : SVal × List HE) : RTree :=
  match resList r.1 with
  | some cs => match rowRes e cs r.2 with
    | some p => .leaf p.1 p.2
    | none => .dead 200
  | none => .dead 201
def exploreR (X : Cx) (fuel : Nat) (e : REnt) : Nat → Kn → RTree
  | 0, _ => .dead 0
  | d + 1, kn => match callBody X (exec X kn fuel) e.f (lettersFrom 0 e.ins) [] with
    | .ok r => rowLeaf e r
    | .need c => .node c (exploreR X fuel e d ((c, true) :: kn)) (exploreR X fuel e d ((c, false) :: kn))
    | .fail n => .dead n
    | .stop _ => .dead 99
theorem noRel (w0 : World) (E : Env) : RelH w0 E [] Pl.no w0 := ⟨Hb.refl _, fun l b hl => by simp at hl, fun l b hl => by simp at hl, fun l l' b b' hl => by simp at hl⟩
/-- What a call that gives a row ends in. -/
def GivesRow (e : REnt) (E0 : Env) (w0 : World) (en : Ending) (w' : World) : Prop := Below w0.heap.size w0 w' ∧ ∃ B cap : Nat,
  en = .returned (retVals (Value.slice (some ⟨B, 0, none⟩) (e.len.den E0).toNat cap :: e.out.map (CV.den E0 Pl.no))) ∧ w0.heap.size ≤ B ∧ RowAt E0 (fun _ => (B, cap)) w' 0 e.ty ⟨e.sg, e.m, e.args, e.len, e.len, none, []⟩
theorem exploreR_ok {X : Cx} {E : Env} {w0 : World} (hX : XOk X w0 E) (hm : X.P.follows .mixedOrders = true) {fuel : Nat} {e : REnt} : ∀ (d : Nat) (kn : Kn), kn.ok E →
    (exploreR X fuel e d kn).den E = some (e.due E) → Calls X.P e.f ((lettersFrom 0 e.ins).map (SVal.den E Pl.no)).toArray w0 (GivesRow e E w0)
  | 0, kn, _, h => by simp [exploreR, RTree.den] at h
  | d + 1, kn, hk, h => by
    unfold exploreR at h
    split at h
    · rename_i r hr
      unfold rowLeaf at h
      split at h <;> try (cases h; done)
      rename_i cs hcs
      split at h <;> try (cases h; done)
      rename_i p hp
      simp only [RTree.den, Option.some.injEq] at h
      obtain ⟨r1, r2⟩ := r
      simp only [] at hcs hp
      obtain rfl := resList_ok hcs
      refine (callBody_ok (exec_ok' hk hX hm fuel).1 e.f (lettersFrom 0 e.ins) [] _ r2 hr Pl.no w0 (noRel w0 E)).mono ?_
      rintro en w' ⟨ρ', rfl, hrel, _⟩
      obtain ⟨B, cap, h1, h2, h3⟩ := rowRes_ok (P := X.P) hp (E := E) (E0 := E) rfl (Or.inl h) hrel
      exact ⟨Hb.below hrel.below, B, cap, by rw [h1], h2, h3⟩
    · rename_i c hc
      simp only [RTree.den] at h
      cases hb : c.den E
      · rw [hb] at h
        exact exploreR_ok hX hm d _ (kn_cons hk hb) h
      · rw [hb] at h
        exact exploreR_ok hX hm d _ (kn_cons hk hb) h
    · simp [RTree.den] at h
    · simp [RTree.den] at h
theorem REnt.by_tree {X : Cx} {fi : Nat → Nat → List Int → Int} {fb : Nat → Nat → List Int → Bool} {fuel d : Nat} {e : REnt} (hen : Enters X.P e.f) (hX : ∀ w zs, XOk X w (envOf zs fi fb)) (hm : X.P.follows .mixedOrders = true)
    (h : ∀ zs : List Int, zs.length = insLen e.ins → (∀ c, e.pre = some c → c.den (envOf zs fi fb) = true) → (exploreR X fuel e d []).den (envOf zs fi fb) = some (e.due (envOf zs fi fb))) (w0 : Wb) : e.ok X.P w0 fi fb := by
  refine ⟨hen, fun zs hz hp w _ => ?_⟩
  have := exploreR_ok (hX w zs) hm d [] (fun p hp => by cases hp) (h zs hz hp)
  rwa [letters_den fi fb zs e.ins 0 zs hz (fun i _ => by simp)] at this

/-! ### Blocks under other numbers -/
def backN (π : List Nat) (l : Nat) : Option Nat := π.findIdx? (· == l)
def At.back (π : List Nat) : At → Option At
  | .ptr l o => (backN π l).map fun l' => .ptr l' o
  | .slc l e => (backN π l).map fun l' => .slc l' e
  | .clo f l o => (backN π l).map fun l' => .clo f l' o
  | .yld l => (backN π l).map fun l' => .yld l'
  | .rptr l m i o => (backN π l).map fun l' => .rptr l' m i o
  | a => some a
def CV.back (π : List Nat) : CV → Option CV
  | .one a => (a.back π).map .one
  | .agg cs => (optMap (At.back π) cs).map .agg
def SVal.back (π : List Nat) : SVal → SVal
  | .cv c => match c.back π with
    | some c => .cv c
    | none => .any
  | .tup cs => match optMap (CV.back π) cs with
    | some cs => .tup cs
    | none => .any
  | .any => .any
def HE.back (π : List Nat) : Option HE → HE
  | some (.blk b) => match optMap (At.back π) b.cs with
    | some cs => .blk { b with cs := cs }
    | none => .dead
  | _ => .dead
def St.back (π : List Nat) (s : St) : St := ⟨s.T.map (SVal.back π), π.map fun l => HE.back π s.H[l]?⟩
def nodupB : List Nat → Bool
  | [] => true
  | x :: r => !r.contains x && nodupB r
section
variable {E : Env} {ρ : Pl}
def Pl.thru (ρ : Pl) (π : List Nat) : Pl := fun l => ρ (π.getD l 0)
theorem backN_ok {π : List Nat} {l l' : Nat} (h : backN π l = some l') : (ρ.thru π) l' = ρ l := by
  unfold backN at h
  have h1 := List.findIdx?_eq_some_iff_getElem.1 h
  obtain ⟨hlt, h2, _⟩ := h1
  unfold Pl.thru
  simp only [beq_iff_eq] at h2
  rw [List.getD_eq_getElem?_getD, List.getElem?_eq_getElem hlt]
  simp [h2]
theorem At.back_den {π : List Nat} {a b : At} (h : a.back π = some b) : b.den E (ρ.thru π) = a.den E ρ := by
  cases a <;> simp only [At.back, Option.map_eq_some_iff, Option.some.injEq] at h <;>
    first
      | (subst h; rfl)
      | (obtain ⟨l', h1, rfl⟩ := h; simp only [At.den, backN_ok h1])
theorem ats_back_den {π : List Nat} : ∀ {cs ds : List At}, optMap (At.back π) cs = some ds → ds.map (At.den E (ρ.thru π)) = cs.map (At.den E ρ)
  | [], ds, h => by simp [optMap] at h; subst h; rfl
  | c :: cs, ds, h => by
    unfold optMap at h
    split at h <;> try (cases h; done)
    rename_i y ys h1 h2
    cases h
    simp only [List.map_cons, At.back_den h1, ats_back_den h2]
theorem CV.back_den {π : List Nat} {a b : CV} (h : a.back π = some b) : b.den E (ρ.thru π) = a.den E ρ := by
  cases a with
  | one a =>
    simp only [CV.back, Option.map_eq_some_iff] at h
    obtain ⟨x, h1, rfl⟩ := h
    exact At.back_den h1
  | agg cs =>
    simp only [CV.back, Option.map_eq_some_iff] at h
    obtain ⟨x, h1, rfl⟩ := h
    simp only [CV.den, ats_back_den h1]
theorem cvs_back_den {π : List Nat} : ∀ {cs ds : List CV}, optMap (CV.back π) cs = some ds → ds.map (CV.den E (ρ.thru π)) = cs.map (CV.den E ρ)
  | [], ds, h => by simp [optMap] at h; subst h; rfl
  | c :: cs, ds, h => by
    unfold optMap at h
    split at h <;> try (cases h; done)
    rename_i y ys h1 h2
    cases h
    simp only [List.map_cons, CV.back_den h1, cvs_back_den h2]
theorem SVal.back_den {π : List Nat} (s : SVal) : (s.back π).isAny = true ∨ (s.back π).den E (ρ.thru π) = s.den E ρ := by
  cases s with
  | cv c =>
    cases h : c.back π with
    | some c' =>
      have e : SVal.back π (.cv c) = .cv c' := by simp only [SVal.back, h]
      rw [e]; exact Or.inr (CV.back_den h)
    | none =>
      have e : SVal.back π (.cv c) = .any := by simp only [SVal.back, h]
      rw [e]; exact Or.inl rfl
  | tup cs =>
    cases h : optMap (CV.back π) cs with
    | some cs' =>
      have e : SVal.back π (.tup cs) = .tup cs' := by simp only [SVal.back, h]
      rw [e]; right; simp only [SVal.den, cvs_back_den h]
    | none =>
      have e : SVal.back π (.tup cs) = .any := by simp only [SVal.back, h]
      rw [e]; exact Or.inl rfl
  | any => exact Or.inl rfl
theorem fits_back {π : List Nat} : ∀ {T : List SVal} {vs : List Value}, Fits E ρ T vs → Fits E (ρ.thru π) (T.map (SVal.back π)) vs
  | [], [], _ => trivial
  | [], _ :: _, h => by simp [Fits] at h
  | _ :: _, [], h => by simp [Fits] at h
  | s :: T, v :: vs, h => by
    refine ⟨?_, fits_back h.2⟩
    rcases SVal.back_den (E := E) (ρ := ρ) (π := π) s with h1 | h1
    · exact Or.inl h1
    · rcases h.1 with h2 | h2
      · left
        cases s <;> first | rfl | cases h2
      · right; rw [h2, h1]
theorem nodupB_ok : ∀ {π : List Nat}, nodupB π = true → ∀ (i j x : Nat), π[i]? = some x → π[j]? = some x → i = j
  | [], _, i, j, x, hi, _ => by simp at hi
  | y :: r, h, i, j, x, hi, hj => by
    simp only [nodupB, Bool.and_eq_true, Bool.not_eq_true', List.contains_eq_mem, decide_eq_false_iff_not] at h
    cases i <;> cases j
    · rfl
    · simp at hi hj; subst hi; exact absurd (List.mem_of_getElem? hj) h.1
    · simp at hi hj; subst hj; exact absurd (List.mem_of_getElem? hi) h.1
    · simp at hi hj; rw [nodupB_ok h.2 _ _ _ hi hj]
theorem sat_back {w0 : Wb} {π : List Nat} (hπ : nodupB π = true) {P0 : Pl} {ds : List Deferred} {s : St} {a : Act} {w : World} (hs : Sat ([], P0, ds) w0 E s ρ a w) : Sat ([], P0, ds) w0 E (s.back π) (ρ.thru π) a w := by
  have case : ∀ (l : Nat) (b : Blk), (s.back π).H[l]? = some (HE.blk b) → ∃ m b', π[l]? = some m ∧ (ρ.thru π) l = ρ m ∧ s.H[m]? = some (.blk b') ∧ ∃ cs, optMap (At.back π) b'.cs = some cs ∧ b = { b' with cs := cs } := by
    intro l b hl
    simp only [St.back, List.getElem?_map, Option.map_eq_some_iff] at hl
    obtain ⟨m, h1, h2⟩ := hl
    unfold HE.back at h2
    split at h2 <;> try (cases h2; done)
    rename_i b' hb'
    split at h2 <;> try (cases h2; done)
    rename_i cs hcs
    cases h2
    exact ⟨m, b', h1, by simp [Pl.thru, List.getD_eq_getElem?_getD, h1], hb', cs, hcs, rfl⟩
  refine ⟨fits_back hs.t, hs.d, ⟨hs.h.below, fun l b hl => ?_, fun l b hl => ?_, fun l l' b b' hl hl' he => ?_⟩, fun l hl => by simp [stood] at hl⟩
  · obtain ⟨m, b', _, h2, h3, _⟩ := case l b hl
    rw [h2]; exact hs.h.ge m b' h3
  · obtain ⟨m, b', _, h2, h3, cs, h4, rfl⟩ := case l b hl
    have hb := hs.h.blk m b' h3
    have hd := ats_back_den (E := E) (ρ := ρ) h4
    have hl : cs.length = b'.cs.length := by simpa using congrArg List.length hd
    have hn : cs = [] ↔ b'.cs = [] := by rw [← List.length_eq_zero_iff, hl, List.length_eq_zero_iff]
    unfold BlkAt CellsAt RowAt at hb ⊢
    simp only [h2, hd, hl, hn]
    exact hb
  · obtain ⟨m, b1, h1, h2, h3, _⟩ := case l b hl
    obtain ⟨m', b2, h1', h2', h3', _⟩ := case l' b' hl'
    rw [h2, h2'] at he
    have := hs.h.inj m m' b1 b2 h3 h3' he
    subst this
    exact nodupB_ok hπ l l' m h1 h1'
end

/-! ### A loop that appends -/
/-- Where the pattern's rows lie now. -/
def piAt (p s : List SVal) (l : Nat) : Nat :=
  match (p.zip s).find? (fun q => match q.1 with
    | .cv (.one (.slc m _)) => m == l
    | _ => false) with
  | some (_, .cv (.one (.slc m _))) => m
  | _ => l
def piOf (p s : St) : List Nat := (List.range p.H.length).map (piAt p.T s.T)
def outR (s' : St) (x : Ex) : Nat → List (Ex × St × Nat) → BTree
  | _, [] => .dead 2
  | κ, (x', q, n) :: r =>
    let s2 := s'.back (piOf q s')
    if x.same x' && ((q.subst (sigma n (q.pair s2))).wk s2 && (q.noOpq && nodupB (piOf q s'))) then .out κ (sigma n (q.pair s2)) else outR s' x (κ + 1) r
def leafR (pat : St) (m : Nat) (outs : List (Ex × St × Nat)) (x : Ex) (s' : St) : BTree :=
  match x with
  | .normal =>
    let s2 := s'.back (piOf pat s')
    if (pat.subst (sigma m (pat.pair s2))).wk s2 && (pat.noOpq && nodupB (piOf pat s')) then .next (sigma m (pat.pair s2)) else .dead 1
  | x => outR s' x 0 outs
def treeR (X : Cx) (pat : St) (m : Nat) (outs : List (Ex × St × Nat)) (n : Nat) (c : Code) : Nat → Kn → BTree
  | 0, _ => .dead 0
  | d + 1, kn => match exec X kn n none c pat with
    | .ok (x, s') => leafR pat m outs x s'
    | .need b => .node b (treeR X pat m outs n c d ((b, true) :: kn)) (treeR X pat m outs n c d ((b, false) :: kn))
    | .fail k => .dead (1000 + k)
    | .stop _ => .dead 99
section
variable {X : Cx} {E : Env} {ρ : Pl} {kn : Kn} {fi : Nat → Nat → List Int → Int} {fb : Nat → Nat → List Int → Bool}
def RPost (B : Base) (w0 : Wb) (fi : Nat → Nat → List Int → Int) (fb : Nat → Nat → List Int → Bool) (pat : St) (outs : List (Ex × St × Nat)) : BVal → Exit → Act → World → Prop
  | .next zs, ex, a, w => ex = .normal ∧ ∃ ρ, Sat B w0 (envOf zs fi fb) pat ρ a w
  | .out κ ys, ex, a, w => ∃ x q n, outs[κ]? = some (x, q, n) ∧ x ≠ .normal ∧ ex = x.toExit ∧ ∃ ρ, Sat B w0 (envOf ys fi fb) q ρ a w
theorem outR_ok {P0 : Pl} {ds : List Deferred} {w0 : Wb} {pat : St} {outs : List (Ex × St × Nat)} {zs : List Int} {x : Ex} {s' : St} (hx : x ≠ .normal) {v : BVal} : ∀ (r : List (Ex × St × Nat)) (κ : Nat), (∀ i, r[i]? = outs[κ + i]?) → (outR s' x κ r).den (envOf zs fi fb) = some v →
    ∀ (ρ : Pl) (a : Act) (w : World), Sat ([], P0, ds) w0 (envOf zs fi fb) s' ρ a w → RPost ([], P0, ds) w0 fi fb pat outs v x.toExit a w
  | [], κ, _, h, _, _, _, _ => by simp [outR, BTree.den] at h
  | (x', q, n) :: r, κ, hr, h, ρ, a, w, hs => by
    unfold outR at h
    simp only [] at h
    split at h
    · rename_i hc
      simp only [Bool.and_eq_true] at hc
      obtain ⟨h1, h2, h3, h4⟩ := hc
      have hxx := Ex.same_eq _ _ h1
      subst hxx
      simp only [BTree.den, Option.some.injEq] at h
      subst h
      have := (sat_back h4 hs).weaken h2 (fun l hl => by simp [stood] at hl)
      exact ⟨x, q, n, by have := hr 0; simpa using this.symm, hx, rfl, _, (sat_subst h3).1 this⟩
    · exact outR_ok hx r (κ + 1) (fun i => by have := hr (i + 1); simpa [Nat.add_assoc, Nat.add_comm 1 i] using this) h ρ a w hs
theorem treeR_ok {P0 : Pl} {ds : List Deferred} {w0 : Wb} {pat : St} {m : Nat} {outs : List (Ex × St × Nat)} {zs : List Int} (hX : XOk X w0 (envOf zs fi fb)) (hm : X.P.follows .mixedOrders = true) {n : Nat} {c : Code} {v : BVal} : ∀ (d : Nat) (kn : Kn), kn.ok (envOf zs fi fb) →
    (treeR X pat m outs n c d kn).den (envOf zs fi fb) = some v → ∀ (ρ : Pl) (a : Act) (w : World), Sat ([], P0, ds) w0 (envOf zs fi fb) pat ρ a w → c.wp X.P (RPost ([], P0, ds) w0 fi fb pat outs v) a w
  | 0, kn, _, h, _, _, _, _ => by simp [treeR, BTree.den] at h
  | d + 1, kn, hk, h, ρ, a, w, hs => by
    unfold treeR at h
    split at h
    · rename_i x s' hr
      refine Code.wp_mono (fun ex a' w' hq => ?_) ((exec_ok' hk hX hm n).1 none c pat x s' trivial hr _ ρ a w hs)
      obtain ⟨rfl, ρ', hs'⟩ := hq
      cases x with
      | normal =>
        simp only [leafR] at h
        split at h
        · rename_i hcv
          simp only [Bool.and_eq_true] at hcv
          simp only [BTree.den, Option.some.injEq] at h
          subst h
          exact ⟨rfl, _, (sat_subst hcv.2.1).1 ((sat_back hcv.2.2 hs').weaken hcv.1 (fun l hl => by simp [stood] at hl))⟩
        · simp [BTree.den] at h
      | exit id => exact outR_ok (by simp) outs 0 (fun i => by simp) h ρ' a' w' hs'
      | ret => exact outR_ok (by simp) outs 0 (fun i => by simp) h ρ' a' w' hs'
    · rename_i b hr
      simp only [BTree.den] at h
      cases hbv : b.den (envOf zs fi fb)
      · rw [hbv] at h
        exact treeR_ok hX hm d _ (kn_cons hk hbv) h ρ a w hs
      · rw [hbv] at h
        exact treeR_ok hX hm d _ (kn_cons hk hbv) h ρ a w hs
    · simp [BTree.den] at h
    · simp [BTree.den] at h
theorem roundsR_ok {P0 : Pl} {ds : List Deferred} {w0 : Wb} {pat : St} {m : Nat} {outs : List (Ex × St × Nat)} (hX : ∀ E', E'.fi = fi → E'.fb = fb → XOk X w0 E') (hm : X.P.follows .mixedOrders = true) {n d : Nat} {c : Code} {t : BTree} (ht : treeR X pat m outs n c d [] = t) {κ : Nat} {ys : List Int} : ∀ (N : Nat) (zs : List Int), loopF fi fb t N zs = some (κ, ys) →
    ∀ (ρ : Pl) (a : Act) (w : World), Sat ([], P0, ds) w0 (envOf zs fi fb) pat ρ a w → Code.rounds X.P c (RPost ([], P0, ds) w0 fi fb pat outs (.out κ ys)) N a w
  | 0, zs, h, _, _, _, _ => by simp [loopF] at h
  | N + 1, zs, h, ρ, a, w, hs => by
    rw [rounds_succ]
    unfold loopF at h
    cases hv : t.den (envOf zs fi fb) with
    | none => rw [hv] at h; cases h
    | some v =>
      rw [hv] at h
      rw [← ht] at hv
      refine Code.wp_mono (fun ex a' w' hq => ?_) (treeR_ok (hX _ rfl rfl) hm d [] (fun p hp => by cases hp) hv ρ a w hs)
      cases v with
      | next zs' =>
        obtain ⟨rfl, ρ', hs'⟩ := hq
        exact roundsR_ok hX hm ht N zs' h ρ' a' w' hs'
      | out κ' ys' =>
        simp only [Option.some.injEq, Prod.mk.injEq] at h
        obtain ⟨rfl, rfl⟩ := h
        obtain ⟨x', q', n', g1, g2, rfl, ρ', hs'⟩ := hq
        have fin : RPost ([], P0, ds) w0 fi fb pat outs (.out κ' ys') x'.toExit a' w' := ⟨x', q', n', g1, g2, rfl, ρ', hs'⟩
        cases x' with
        | normal => exact absurd rfl g2
        | exit id => exact fin
        | ret => exact fin
end
end Go.Proofs.Ytjbpaejjpamcpaa.Eng
/- A function that holds one loop that appends to a row, or one range over a function: the contract that gives the row. No program in sight. -/
namespace Go.Proofs.Ytjbpaejjpamcpaa.Eng
set_option linter.unusedSimpArgs false
set_option linter.unusedVariables false
open Go Go.RowKit

/-- The way to the loop. -/
def loopTo (X : Cx) (kn : Kn) (n : Nat) (p : List Bool) (f : Nat) (args : List SVal) : Option (St × Code × Func × Code) :=
  match X.P.funcs[f]? with
  | none => none
  | some fo => match fo.body with
    | none => none
    | some co => match execTo X kn n p co ⟨args ++ List.replicate (fo.ntmps - args.length) (.tup []), []⟩ with
      | .ok (s, .loop c) => some (s, c, fo, co)
      | _ => none
theorem loopTo_ok {X : Cx} {kn : Kn} {n : Nat} {p : List Bool} {f : Nat} {args : List SVal} {s : St} {c : Code} {fo : Func} {co : Code} (h : loopTo X kn n p f args = some (s, c, fo, co)) :
    X.P.funcs[f]? = some fo ∧ fo.body = some co ∧ execTo X kn n p co ⟨args ++ List.replicate (fo.ntmps - args.length) (.tup []), []⟩ = .ok (s, .loop c) := by
  unfold loopTo at h
  split at h <;> try (cases h; done)
  rename_i fo' h1
  split at h <;> try (cases h; done)
  rename_i co' h2
  split at h <;> try (cases h; done)
  rename_i s' c' h3
  simp only [Option.some.injEq, Prod.mk.injEq] at h
  obtain ⟨rfl, rfl, rfl, rfl⟩ := h
  exact ⟨h1, h2, h3⟩
/-- What the function gives behind a way out of the loop. -/
def growOut (X : Cx) (n : Nat) (p : List Bool) (e : REnt) (fo : Func) (co : Code) (o : Ex × St × Nat) : Option (List SE × List CV) :=
  match execFrom X [] n o.1 o.2.1 p co with
  | .ok (y, s3) => if plainEx y = true then match resVal X.P s3 fo.results.toList with
      | some cs => rowRes e cs s3.H
      | none => none
    else none
  | _ => none
def growAll (X : Cx) (kn : Kn) (n d : Nat) (p : List Bool) (e : REnt) (pat : St) (m : Nat) (outs : List (Ex × St × Nat)) : Option (BTree × List SE × List (Option (List SE × List CV))) :=
  match loopTo X kn n p e.f (lettersFrom 0 e.ins) with
  | none => none
  | some (s, c, fo, co) => if ((pat.subst (sigma m (pat.pair s))).wk s && pat.noOpq) = true then
      some (treeR X pat m outs n c d [], sigma m (pat.pair s), outs.map (growOut X n p e fo co))
    else none
theorem growAll_ok {X : Cx} {fi : Nat → Nat → List Int → Int} {fb : Nat → Nat → List Int → Bool} {w0 : World} (hX : ∀ E', E'.fi = fi → E'.fb = fb → XOk X w0 E') (hm : X.P.follows .mixedOrders = true) {kn : Kn} {n d : Nat} {p : List Bool} {e : REnt} {pat : St} {m : Nat} {outs : List (Ex × St × Nat)} {t : BTree} {σ : List SE} {vs : List (Option (List SE × List CV))}
    (h : growAll X kn n d p e pat m outs = some (t, σ, vs)) {zs ys : List Int} (hk : kn.ok (envOf zs fi fb)) {N κ : Nat} (hl : loopF fi fb t N (σ.map (SE.den (envOf zs fi fb))) = some (κ, ys)) {q : List SE × List CV} (hv : vs[κ]? = some (some q))
    (hd : denL (envOf ys fi fb) q = e.due (envOf zs fi fb) ∨ ((e.len.den (envOf zs fi fb)).toNat = 0 ∧ (denL (envOf ys fi fb) q).1.getD 0 0 = e.len.den (envOf zs fi fb) ∧ (denL (envOf ys fi fb) q).2 = (e.due (envOf zs fi fb)).2)) :
    Calls X.P e.f ((lettersFrom 0 e.ins).map (SVal.den (envOf zs fi fb) Pl.no)).toArray w0 (GivesRow e (envOf zs fi fb) w0) := by
  unfold growAll at h
  split at h <;> try (cases h; done)
  rename_i s c fo co h1
  obtain ⟨a1, a2, a3⟩ := loopTo_ok h1
  split at h <;> try (cases h; done)
  rename_i hc
  simp only [Bool.and_eq_true] at hc
  simp only [Option.some.injEq, Prod.mk.injEq] at h
  obtain ⟨rfl, rfl, rfl⟩ := h
  rw [List.getElem?_map] at hv
  obtain ⟨⟨x, qs, n'⟩, hκ, hv⟩ := Option.map_eq_some_iff.1 hv
  unfold growOut at hv
  split at hv <;> try (cases hv; done)
  rename_i y s3 h5
  split at hv <;> try (cases hv; done)
  rename_i hy
  split at hv <;> try (cases hv; done)
  rename_i cs hcs
  refine (callsIn_wide (n := 0)).1 (callsIn_of_wp a1 a2 trivial ?_)
  have h0 : Sat ([], Pl.no, []) w0 (envOf zs fi fb) ⟨(lettersFrom 0 e.ins) ++ List.replicate (fo.ntmps - (lettersFrom 0 e.ins).length) (.tup []), []⟩ Pl.no { tmps := ((lettersFrom 0 e.ins).map (SVal.den (envOf zs fi fb) Pl.no)).toArray ++ Array.replicate (fo.ntmps - ((lettersFrom 0 e.ins).map (SVal.den (envOf zs fi fb) Pl.no)).toArray.size) undef, defers := [] } w0 := by
    refine ⟨?_, rfl, noRel _ _, Via.refl _ _⟩
    refine TOk.of_map ?_
    simp [List.map_append, SVal.den, undef]
  refine wpIn_mono (path_ok (hX _ rfl rfl) hk hm (kn' := []) (x := x) (s2 := qs) (RS := fun s a w => ∃ ρ, Sat ([], Pl.no, []) w0 (envOf ys fi fb) s ρ a w) ?_ p co _ s _ y s3 a3 h5 ?_ Pl.no _ w0 h0) ?_
  · rintro c' s' y' s'' he a w ⟨ρ, hs⟩
    refine wpIn_wide.2 (Code.wp_mono (fun e1 a1 w1 hq => ?_) ((exec_ok' (kn := []) (fun p hp => by cases hp) (hX _ rfl rfl) hm n).1 none c' s' y' s'' trivial he _ ρ a w hs))
    obtain ⟨rfl, ρ2, hs2⟩ := hq
    exact ⟨rfl, ρ2, hs2⟩
  · intro ρ a w hs
    have hp := (sat_subst hc.2).1 (hs.weaken hc.1 (fun l hl => by simp [stood] at hl))
    have := roundsR_ok hX hm rfl N _ hl ρ a w hp
    refine wpIn_wide.2 (Code.wp_mono ?_ (wp_loop_rounds N this))
    rintro ex a' w' ⟨x', q', n2, g1, g2, rfl, ρ', hs'⟩
    rw [hκ] at g1
    simp only [Option.some.injEq, Prod.mk.injEq] at g1
    obtain ⟨rfl, rfl, rfl⟩ := g1
    cases x with
    | normal => exact absurd rfl g2
    | exit id => exact ⟨rfl, ρ', hs'⟩
    | ret => exact ⟨rfl, ρ', hs'⟩
  · rintro ex a w ⟨rfl, ρ', hs⟩
    obtain ⟨B, cap, r1, r2, r3⟩ := rowRes_ok (P := X.P) hv (E := envOf ys fi fb) (E0 := envOf zs fi fb) rfl hd hs.h
    have hrun := results_run (X := X) hs hcs
    rw [r1] at hrun
    have fin : a.defers = [] ∧ ∃ v, (results fo a.tmps).run X.P w = .ok v w ∧ GivesRow e (envOf zs fi fb) w0 (.returned v) w := ⟨hs.d, _, hrun, Hb.below hs.h.below, B, cap, rfl, r2, r3⟩
    cases y with
    | normal => exact fin
    | ret => exact fin
    | exit i => cases hy
end Go.Proofs.Ytjbpaejjpamcpaa.Eng
/- A function that holds one range over a function and gives a row. No program in sight. -/
namespace Go.Proofs.Ytjbpaejjpamcpaa.Eng
set_option linter.unusedSimpArgs false
set_option linter.unusedVariables false
open Go Go.RowKit

theorem rowRes_flat {e : REnt} {cs : List CV} {H : List HE} {p : List SE × List CV} (h : rowRes e cs H = some p) : p.2.all CV.flat = true := by
  unfold rowRes at h
  split at h <;> try (cases h; done)
  split at h <;> try (cases h; done)
  split at h <;> try (cases h; done)
  rename_i hc
  split at h
  · split at h <;> try (cases h; done)
    split at h
    · cases h; exact hc.2
    · split at h <;> cases h; exact hc.2
  · split at h <;> cases h; exact hc.2
  · cases h
theorem denL_eqL {E E' : Env} (h : EqL E E') {p : List SE × List CV} (hf : p.2.all CV.flat = true) : denL E' p = denL E p := by
  unfold denL
  congr 1
  · exact List.map_congr_left fun e _ => SE.den_eqL h e
  · exact List.map_congr_left fun c hc => CV.flat_eqL h c (List.all_eq_true.1 hf c hc)
def rngOutR (X : Cx) (n : Nat) (p : List Bool) (L b : Nat) (F : RF) (en : REnt) (fo fn : Func) (co : Code) (o : Ex × Ex × St × Nat) : Option (List SE × List CV) :=
  if endsIn b o.2.1 && (resVal X.P o.2.2.1 fn.results.toList).isSome && recB o.2.2.1.H (L + 1) && stood o.2.2.1.H L then
    match execFrom X [] n o.1 ⟨F.T0, o.2.2.1.H⟩ p co with
    | .ok (y, s3) => if plainEx y && obB 1 s3.H L then match resVal X.P s3 fo.results.toList with
        | some cs => rowRes en cs s3.H
        | none => none
      else none
    | _ => none
  else none
def rngAllR (X : Cx) (kn : Kn) (n d : Nat) (p : List Bool) (en : REnt) (gf : Nat) (e : ILoop) : Option (BTree × List SE × List (Option (List SE × List CV))) :=
  match rngTo X kn n p en.f (lettersFrom 0 en.ins) with
  | none => none
  | some (s, g, F, fo, co) => match aat s.T g with
    | some (.clo gf' lp off) => if gf' = gf ∧ (stood s.H lp && F.T0.all (SVal.inH s.H) && rfFresh s.H && decide ((rfH s.H).length ≤ e.pat.H.length)) = true then
        match iterOf X.P gf with
        | none => none
        | some (fn, p0, p1, b, c) => match iPre X n e p0 p1 ⟨[.cv (.one (.yld (s.H.length + 1))), .cv (.one (.ptr lp off))] ++ List.replicate (fn.ntmps - 2) (.tup []), rfH s.H⟩ with
          | none => none
          | some σ => some (iTree X F e n c d [], σ, e.outs.map (rngOutR X n p s.H.length b F en fo fn co))
      else none
    | _ => none
theorem rngAllR_ok {X : Cx} {fi : Nat → Nat → List Int → Int} {fb : Nat → Nat → List Int → Bool} {w0 : World} (hX : ∀ E', E'.fi = fi → E'.fb = fb → XOk X w0 E') (hm : X.P.follows .mixedOrders = true) {kn : Kn} {n d : Nat} {p : List Bool} {en : REnt} {gf : Nat} {e : ILoop} {t : BTree} {σ : List SE} {vs : List (Option (List SE × List CV))}
    (h : rngAllR X kn n d p en gf e = some (t, σ, vs)) (eg : Enters X.P gf) {zs ys : List Int} (hk : kn.ok (envOf zs fi fb)) {N κ : Nat} (hl : loopF fi fb t N (σ.map (SE.den (envOf zs fi fb))) = some (κ, ys)) {r : List SE × List CV} (hv : vs[κ]? = some (some r))
    (hd : denL (envOf ys fi fb) r = en.due (envOf zs fi fb) ∨ ((en.len.den (envOf zs fi fb)).toNat = 0 ∧ (denL (envOf ys fi fb) r).1.getD 0 0 = en.len.den (envOf zs fi fb) ∧ (denL (envOf ys fi fb) r).2 = (en.due (envOf zs fi fb)).2)) :
    Calls X.P en.f ((lettersFrom 0 en.ins).map (SVal.den (envOf zs fi fb) Pl.no)).toArray w0 (GivesRow en (envOf zs fi fb) w0) := by
  unfold rngAllR at h
  split at h <;> try (cases h; done)
  rename_i s g F fo co h1
  obtain ⟨a1, a2, a3, a4⟩ := rngTo_ok h1
  split at h <;> try (cases h; done)
  rename_i gf' lp off h2
  split at h <;> try (cases h; done)
  rename_i hc
  obtain ⟨rfl, hc⟩ := hc
  simp only [Bool.and_eq_true, decide_eq_true_eq] at hc
  obtain ⟨⟨⟨c1, c2⟩, c3⟩, c4⟩ := hc
  split at h <;> try (cases h; done)
  rename_i fn p0 p1 b c h3
  obtain ⟨b1, b2⟩ := iterOf_ok h3
  split at h <;> try (cases h; done)
  rename_i σ' h4
  simp only [Option.some.injEq, Prod.mk.injEq] at h
  obtain ⟨rfl, rfl, rfl⟩ := h
  rw [List.getElem?_map] at hv
  obtain ⟨⟨x, x2, q, n'⟩, hκ, hv⟩ := Option.map_eq_some_iff.1 hv
  unfold rngOutR at hv
  split at hv <;> try (cases hv; done)
  rename_i hdd
  simp only [Bool.and_eq_true] at hdd
  obtain ⟨⟨⟨d1, d2⟩, d3⟩, d4⟩ := hdd
  obtain ⟨cs1, d2⟩ := Option.isSome_iff_exists.1 d2
  split at hv <;> try (cases hv; done)
  rename_i y s3 h5
  split at hv <;> try (cases hv; done)
  rename_i hy
  simp only [Bool.and_eq_true] at hy
  split at hv <;> try (cases hv; done)
  rename_i cs hcs
  have hx2 : x2 = .ret ∨ x2 = .exit b := by
    cases x2 with
    | ret => exact Or.inl rfl
    | exit i => simp only [endsIn, beq_iff_eq] at d1; exact Or.inr (by rw [d1])
    | normal => cases d1
  have hyy : y = .normal ∨ y = .ret := by
    cases y with
    | ret => exact Or.inr rfl
    | normal => exact Or.inl rfl
    | exit i => cases hy.1
  have := rfn_any (m := 0) hX hm a1 a2 b1 b2 eg a3 h2 c1 a4 c2 c3 h4 c4 rfl hk hl hκ hx2 d2 d3 h5 hyy d4 hy.2 hcs
  refine (callsIn_wide.1 this).mono ?_
  rintro en' w' ⟨ρ', E', hE, rfl, hH⟩
  have hde := denL_eqL hE (rowRes_flat hv)
  obtain ⟨B, cap, r1, r2, r3⟩ := rowRes_ok (P := X.P) hv (E := E') (E0 := envOf zs fi fb) hE.fi (by rw [hde]; exact hd) hH
  exact ⟨Hb.below hH.below, B, cap, by rw [r1], r2, r3⟩
end Go.Proofs.Ytjbpaejjpamcpaa.Eng
