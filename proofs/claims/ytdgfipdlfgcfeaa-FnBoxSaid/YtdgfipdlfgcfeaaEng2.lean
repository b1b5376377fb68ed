/- A law that draws what it is about: its body cut at the draw. -/
import Derived.Test.YtdgfipdlfgcfeaaEng
namespace Go.Proofs.Ytdgfipdlfgcfeaa.Eng
set_option linter.unusedSimpArgs false
set_option linter.unusedVariables false
open Go Go.RowKit

/-! ### A law: what is drawn in its midst -/
theorem oper_imp {P : Program} {o : Oper} {a : Act} {w : World} {K K' : Act → World → Prop} {Q Q' : Exit → Act → World → Prop} (hk : ∀ a w, K a w → K' a w) (hq : ∀ c a w, Q (.panic c) a w → Q' (.panic c) a w) (ho : ∀ a w, Q .outgrown a w → Q' .outgrown a w) (h : o.wp P a w K Q) : o.wp P a w K' Q' := by
  unfold Oper.wp at *
  generalize (execOp a.eval o).run P w = r at *
  cases r with
  | ok n w' =>
    cases n <;> simp only [Oper.upon] at h ⊢ <;>
      first
        | exact hk _ _ h
        | exact Calls.mono h (fun e w'' he => by
            cases e with
            | returned v => exact hk _ _ he
            | panicked c => exact hq _ _ _ he
            | outgrown => obtain ⟨a₀, w₀, h0⟩ := he; exact ⟨a₀, w₀, ho _ _ h0⟩)
        | exact Rows.mono h (fun _ _ he => hk _ _ he)
  | halt x w' => cases x <;> simp only [Oper.upon] at h ⊢ <;> first | exact hq _ _ _ h | exact h
theorem wpList_mono {P : Program} {ops : Array Oper} {Q Q' : Exit → Act → World → Prop} (hq : ∀ e a w, Q e a w → Q' e a w) : ∀ {l : List Oper} {a : Act} {w : World}, wpList P ops Q l a w → wpList P ops Q' l a w
  | [], _, _, h => hq _ _ _ h
  | o :: r, a, w, h => by
    simp only [wpList] at h ⊢
    split
    · rename_i hw
      rw [if_pos hw] at h
      rcases h with h | ⟨h1, a₀, w₀, h2⟩
      · exact Or.inl (oper_imp (fun a w h => wpList_mono hq h) (fun c => hq (.panic c)) (hq .outgrown) h)
      · exact Or.inr ⟨h1, a₀, w₀, hq _ _ _ h2⟩
    · rename_i hw
      rw [if_neg hw] at h
      exact wpList_mono hq h
/-- A piece of a body: code; operations of a region that draws nothing. -/
inductive Piece | code (c : Code) | ops (l : List Oper)
def Piece.wp (P : Program) (p : Piece) (Q : Exit → Act → World → Prop) (a : Act) (w : World) : Prop :=
  match p with
  | .code c => c.wp P Q a w
  | .ops l => wpList P l.toArray Q l a w
theorem Piece.wp_mono {P : Program} {p : Piece} {Q Q' : Exit → Act → World → Prop} {a : Act} {w : World} (hq : ∀ e a w, Q e a w → Q' e a w) (h : p.wp P Q a w) : p.wp P Q' a w := by
  cases p with
  | code c => exact Code.wp_mono hq h
  | ops l => exact wpList_mono hq h
def seqWp (P : Program) : List Piece → (Act → World → Prop) → (Exit → Act → World → Prop) → Act → World → Prop
  | [], K, _ => K
  | x :: xs, K, Q => x.wp P (Exit.then (seqWp P xs K Q) Q)
def isCall (f : Nat) (o : Oper) : Bool :=
  match o.op with
  | .call c => match c.callee with
    | .value (.func g) => g == f
    | _ => false
  | _ => false
def cutOps (f : Oper → Bool) : List Oper → Option (List Oper × Oper × List Oper)
  | [] => none
  | o :: r => if f o then some ([], o, r) else (cutOps f r).map fun x => (o :: x.1, x.2.1, x.2.2)
/-- The code ahead of the one call of f, the call, the code behind it. -/
def cutAt (f : Oper → Bool) : Code → Option (List Piece × Oper × List Piece)
  | .seq x y => match cutAt f x with
    | some (bs, o, cs) => some (bs, o, cs ++ [.code y])
    | none => match cutAt f y with
      | some (bs, o, cs) => some (.code x :: bs, o, cs)
      | none => none
  | .region _ ops false => if ops.toList.all (fun o => o.guard.isNone) then (cutOps f ops.toList).map fun x => ([.ops x.1], x.2.1, [.ops x.2.2]) else none
  | _ => none
theorem then_then {K L : Act → World → Prop} {Q : Exit → Act → World → Prop} : Exit.then K (Exit.then L Q) = Exit.then K Q := by
  funext e a w; cases e <;> rfl
theorem then_self {Q : Exit → Act → World → Prop} : Exit.then (Q .normal) Q = Q := by
  funext e a w; cases e <;> rfl
theorem seqWp_then {P : Program} {L : Act → World → Prop} {Q : Exit → Act → World → Prop} : ∀ (xs : List Piece) (K : Act → World → Prop), seqWp P xs K (Exit.then L Q) = seqWp P xs K Q
  | [], K => rfl
  | x :: xs, K => by simp only [seqWp, seqWp_then xs K, then_then]
theorem seqWp_append {P : Program} {Q : Exit → Act → World → Prop} : ∀ (xs ys : List Piece) (K : Act → World → Prop), seqWp P (xs ++ ys) K Q = seqWp P xs (seqWp P ys K Q) Q
  | [], ys, K => rfl
  | x :: xs, ys, K => by simp only [List.cons_append, seqWp, seqWp_append xs ys K]
theorem seqWp_mono {P : Program} {Q : Exit → Act → World → Prop} : ∀ (xs : List Piece) {K K' : Act → World → Prop} (_ : ∀ a w, K a w → K' a w) {a : Act} {w : World}, seqWp P xs K Q a w → seqWp P xs K' Q a w
  | [], _, _, h, _, _, hw => h _ _ hw
  | x :: xs, K, K', h, a, w, hw => Piece.wp_mono (p := x) (fun e a w hq => by
    cases e <;> first | exact seqWp_mono xs h hq | exact hq) hw
theorem cutOps_ok {f : Oper → Bool} : ∀ (l bs cs : List Oper) (o : Oper), cutOps f l = some (bs, o, cs) → l = bs ++ o :: cs
  | [], bs, cs, o, h => by simp [cutOps] at h
  | x :: r, bs, cs, o, h => by
    unfold cutOps at h
    split at h
    · simp at h; obtain ⟨rfl, rfl, rfl⟩ := h; rfl
    · obtain ⟨⟨b', o', c'⟩, h1, h2⟩ := Option.map_eq_some_iff.1 h
      simp at h2
      obtain ⟨rfl, rfl, rfl⟩ := h2
      rw [cutOps_ok r b' c' o' h1]; rfl
theorem wanted_none {o : Oper} (h : o.guard.isNone = true) (y : Nat → Option Bool) : Region.wanted o y = true := by
  unfold Region.wanted
  cases hg : o.guard with
  | none => rfl
  | some x => rw [hg] at h; cases h
theorem wpList_free {P : Program} {Q : Exit → Act → World → Prop} (ops ops' : Array Oper) : ∀ (l : List Oper), (∀ o ∈ l, o.guard.isNone = true) → wpList P ops Q l = wpList P ops' Q l
  | [], _ => rfl
  | o :: r, h => by
    have ih := wpList_free (P := P) (Q := Q) ops ops' r (fun x hx => h x (List.mem_cons_of_mem _ hx))
    have hw := wanted_none (h o List.mem_cons_self)
    funext a w
    simp only [wpList, hw, if_true, ih]
theorem wpList_app {P : Program} {Q : Exit → Act → World → Prop} (ops : Array Oper) : ∀ (l m : List Oper), (∀ o ∈ l, o.guard.isNone = true) → ∀ (a : Act) (w : World), wpList P ops (Exit.then (wpList P ops Q m) Q) l a w → wpList P ops Q (l ++ m) a w
  | [], m, _, a, w, h => h
  | o :: r, m, hg, a, w, h => by
    have hw := wanted_none (hg o List.mem_cons_self)
    simp only [List.cons_append, wpList, hw, if_true] at h ⊢
    rcases h with h | ⟨h1, a₀, w₀, h2⟩
    · refine Or.inl ?_
      have h1 := oper_imp (Q' := Exit.then (wpList P ops Q m) Q) (fun a w => wpList_app ops r m (fun x hx => hg x (List.mem_cons_of_mem _ hx)) a w) (fun _ _ _ h => h) (fun _ _ h => h) h
      unfold Oper.wp at *
      generalize (execOp a.eval o).run P w = z at *
      cases z with
      | ok n w' =>
        cases n <;> simp only [Oper.upon] at h1 ⊢ <;>
          first
            | exact h1
            | exact Calls.mono h1 (fun e w'' he => by cases e <;> exact he)
      | halt x w' => cases x <;> simp only [Oper.upon] at h1 ⊢ <;> exact h1
    · exact Or.inr ⟨h1, a₀, w₀, h2⟩
theorem cutAt_ok {P : Program} {f : Oper → Bool} : ∀ (c : Code) (bs cs : List Piece) (o : Oper), cutAt f c = some (bs, o, cs) → ∀ (Q : Exit → Act → World → Prop) (a : Act) (w : World),
    seqWp P bs (fun a w => o.wp P a w (seqWp P cs (Q .normal) Q) Q) Q a w → c.wp P Q a w
  | .seq x y, bs, cs, o, h, Q, a, w, hw => by
    unfold cutAt at h
    split at h
    · rename_i b' o' c' hx
      simp only [Option.some.injEq, Prod.mk.injEq] at h
      obtain ⟨rfl, rfl, rfl⟩ := h
      refine wp_seq (cutAt_ok x _ _ _ hx _ a w ?_)
      rw [seqWp_then]
      refine seqWp_mono _ (fun a w ho => ?_) hw
      refine oper_imp (fun a w hs => ?_) (fun c a w hq => hq) (fun a w hq => hq) ho
      rw [seqWp_append] at hs
      rw [seqWp_then]
      refine seqWp_mono _ (fun a w hy => ?_) hs
      have : seqWp P [Piece.code y] (Q .normal) Q a w = y.wp P (Exit.then (Q .normal) Q) a w := rfl
      rw [this, then_self] at hy
      exact hy
    · split at h
      · rename_i b' o' c' hy
        simp only [Option.some.injEq, Prod.mk.injEq] at h
        obtain ⟨rfl, rfl, rfl⟩ := h
        refine wp_seq (Code.wp_mono (fun e a w hq => ?_) (show x.wp P (Exit.then _ Q) a w from hw))
        cases e <;> first | exact cutAt_ok y _ _ _ hy Q _ _ hq | exact hq
      · cases h
  | .region id ops false, bs, cs, o, h, Q, a, w, hw => by
    unfold cutAt at h
    split at h
    · rename_i hg
      obtain ⟨⟨b', o', c'⟩, h1, h2⟩ := Option.map_eq_some_iff.1 h
      simp only [Prod.mk.injEq] at h2
      obtain ⟨rfl, rfl, rfl⟩ := h2
      have hl := cutOps_ok _ _ _ _ h1
      have hg' : ∀ x ∈ ops.toList, x.guard.isNone = true := fun x hx => List.all_eq_true.1 hg x hx
      rw [hl] at hg'
      refine wp_region_list ?_
      rw [hl]
      refine wpList_app _ _ _ (fun x hx => hg' x (List.mem_append_left _ hx)) a w ?_
      have hw1 : wpList P b'.toArray (Exit.then (fun a w => o'.wp P a w (seqWp P [.ops c'] (Q .normal) Q) Q) Q) b' a w := hw
      rw [wpList_free b'.toArray ops b' (fun x hx => hg' x (List.mem_append_left _ hx))] at hw1
      refine wpList_mono (fun e a w hq => ?_) hw1
      cases e with
      | normal =>
        have hwant := wanted_none (hg' o' (List.mem_append_right _ List.mem_cons_self))
        simp only [Exit.then, wpList, hwant, if_true] at hq ⊢
        refine Or.inl (oper_imp (fun a w hs => ?_) (fun _ _ _ h => h) (fun _ _ h => h) hq)
        have hs1 : wpList P c'.toArray (Exit.then (Q .normal) Q) c' a w := hs
        rw [then_self, wpList_free c'.toArray ops c' (fun x hx => hg' x (List.mem_append_right _ (List.mem_cons_of_mem _ hx)))] at hs1
        exact hs1
      | _ => exact hq
    · cases h
  | .region _ _ true, _, _, _, h, _, _, _, _ => by simp [cutAt] at h
  | .skip, _, _, _, h, _, _, _, _ => by simp [cutAt] at h
  | .cond .., _, _, _, h, _, _, _, _ => by simp [cutAt] at h
  | .block .., _, _, _, h, _, _, _, _ => by simp [cutAt] at h
  | .loop _, _, _, _, h, _, _, _, _ => by simp [cutAt] at h
  | .rangeFunc .., _, _, _, h, _, _, _, _ => by simp [cutAt] at h
  | .exit _, _, _, _, h, _, _, _, _ => by simp [cutAt] at h
  | .scope _, _, _, _, h, _, _, _, _ => by simp [cutAt] at h
  | .label _, _, _, _, h, _, _, _, _ => by simp [cutAt] at h
  | .goto _, _, _, _, h, _, _, _, _ => by simp [cutAt] at h
  | .ret, _, _, _, h, _, _, _, _ => by simp [cutAt] at h
  | .refuse _, _, _, _, h, _, _, _, _ => by simp [cutAt] at h

/-- The pieces cut at the first operation of a kind. -/
def cutL (f : Oper → Bool) : List Piece → Option (List Piece × Oper × List Piece)
  | [] => none
  | .code c :: r => match cutAt f c with
    | some (bs, o, cs) => some (bs, o, cs ++ r)
    | none => (cutL f r).map fun x => (.code c :: x.1, x.2.1, x.2.2)
  | .ops l :: r => (cutL f r).map fun x => (.ops l :: x.1, x.2.1, x.2.2)
theorem cutL_ok {P : Program} {f : Oper → Bool} {K : Act → World → Prop} {Q : Exit → Act → World → Prop} : ∀ (ps bs cs : List Piece) (o : Oper), cutL f ps = some (bs, o, cs) → ∀ (a : Act) (w : World),
    seqWp P bs (fun a w => o.wp P a w (seqWp P cs K Q) Q) Q a w → seqWp P ps K Q a w
  | [], bs, cs, o, h, a, w, hw => by simp [cutL] at h
  | .code c :: r, bs, cs, o, h, a, w, hw => by
    unfold cutL at h
    split at h
    · rename_i b' o' c' hx
      simp only [Option.some.injEq, Prod.mk.injEq] at h
      obtain ⟨rfl, rfl, rfl⟩ := h
      refine cutAt_ok c _ _ _ hx (Exit.then (seqWp P r K Q) Q) a w ?_
      rw [seqWp_then]
      refine seqWp_mono _ (fun a w ho => ?_) hw
      refine oper_imp (fun a w hs => ?_) (fun c a w hq => hq) (fun a w hq => hq) ho
      rw [seqWp_append] at hs
      rw [seqWp_then]
      exact hs
    · obtain ⟨⟨b', o', c'⟩, h1, h2⟩ := Option.map_eq_some_iff.1 h
      simp only [Prod.mk.injEq] at h2
      obtain ⟨rfl, rfl, rfl⟩ := h2
      refine Piece.wp_mono (p := .code c) (fun e a w hq => ?_) (show (Piece.code c).wp P (Exit.then (seqWp P b' _ Q) Q) a w from hw)
      cases e <;> first | exact cutL_ok r _ _ _ h1 _ _ hq | exact hq
  | .ops l :: r, bs, cs, o, h, a, w, hw => by
    unfold cutL at h
    obtain ⟨⟨b', o', c'⟩, h1, h2⟩ := Option.map_eq_some_iff.1 h
    simp only [Prod.mk.injEq] at h2
    obtain ⟨rfl, rfl, rfl⟩ := h2
    refine Piece.wp_mono (p := .ops l) (fun e a w hq => ?_) (show (Piece.ops l).wp P (Exit.then (seqWp P b' _ Q) Q) a w from hw)
    cases e <;> first | exact cutL_ok r _ _ _ h1 _ _ hq | exact hq


section
variable {X : Cx} {E : Env} {ρ : Pl} {kn : Kn} {B : List HE × Pl}

def execP (X : Cx) (kn : Kn) (n : Nat) (p : Piece) (s : St) : Res (Ex × St) :=
  match p with
  | .code c => exec X kn n c s
  | .ops l => (runRegion { X with call := callBody X (exec X kn n) } kn l.toArray false s).bind fun s' => .ok (.normal, s')
def execL (X : Cx) (kn : Kn) (n : Nat) : List Piece → St → Res (Ex × St)
  | [], s => .ok (.normal, s)
  | p :: ps, s => (execP X kn n p s).bind fun r => match r with
    | (.normal, s') => execL X kn n ps s'
    | r => .ok r
theorem execP_ok (hk : kn.ok E) {w0 : World} (hX : XOk X w0 E) (hm : X.P.follows .mixedOrders = true) {n : Nat} {p : Piece} {s : St} {x : Ex} {s' : St} (h : execP X kn n p s = .ok (x, s')) {a : Act} {w : World} (hs : Sat B w0 E s ρ a w) :
    p.wp X.P (After B w0 E x s') a w := by
  cases p with
  | code c => exact (exec_ok' hk hX hm n).1 c s x s' h B ρ a w hs
  | ops l =>
    simp only [execP] at h
    obtain ⟨s1, h1, h2⟩ := Res.bind_ok h
    simp at h2; obtain ⟨rfl, rfl⟩ := h2
    unfold runRegion at h1
    obtain ⟨s2, h3, h4⟩ := Res.bind_ok h1
    simp at h4; subst h4
    have hX' := hX.with_call (exec_ok' hk hX hm n).1
    have hs0 := sat_free hs (made l.toArray.toList)
    have := runSeq_ok (X := { X with call := callBody X (exec X kn n) }) (Q := After B w0 E .normal s2) hk hX' _ _ _ h3 ρ a w hs0 (fun ρ' a' w' hs' => ⟨rfl, ρ', hs'⟩)
    rw [List.range_eq_range', ← Array.length_toList, wpOps_eq_wpList l.toArray.toList 0 (by simp)] at this
    exact this
theorem execL_ok (hk : kn.ok E) {w0 : World} (hX : XOk X w0 E) (hm : X.P.follows .mixedOrders = true) {n : Nat} {x : Ex} {s' : St} {K : Act → World → Prop} {Q : Exit → Act → World → Prop}
    (hK : x = .normal → ∀ ρ' a' w', Sat B w0 E s' ρ' a' w' → K a' w') (hQ : x ≠ .normal → ∀ ρ' a' w', Sat B w0 E s' ρ' a' w' → Q x.toExit a' w') : ∀ (ps : List Piece) (s : St), execL X kn n ps s = .ok (x, s') →
    ∀ (ρ : Pl) (a : Act) (w : World), Sat B w0 E s ρ a w → seqWp X.P ps K Q a w
  | [], s, h, ρ, a, w, hs => by
    simp [execL] at h; obtain ⟨rfl, rfl⟩ := h
    exact hK rfl ρ a w hs
  | p :: ps, s, h, ρ, a, w, hs => by
    simp only [execL] at h
    obtain ⟨⟨x1, s1⟩, h1, h2⟩ := Res.bind_ok h
    refine Piece.wp_mono (fun e a' w' hq => ?_) (execP_ok hk hX hm h1 hs)
    obtain ⟨rfl, ρ', hs'⟩ := hq
    cases x1 with
    | normal => exact execL_ok hk hX hm hK hQ ps s1 h2 ρ' a' w' hs'
    | exit id => simp at h2; obtain ⟨rfl, rfl⟩ := h2; exact hQ (by simp) ρ' a' w' hs'
    | ret => simp at h2; obtain ⟨rfl, rfl⟩ := h2; exact hQ (by simp) ρ' a' w' hs'

def runAfter (X : Cx) (kn : Kn) (n : Nat) (ps : List Piece) (s : St) (res : List ResultVar) : Res SVal :=
  (execL X kn n ps s).bind fun r => match r with
    | (.exit _, _) => .fail 71
    | (_, s') => match resVal X.P s' res with
      | some cs => if (SVal.ofRes cs).flat then .ok (SVal.ofRes cs) else .fail 72
      | none => .fail 73
theorem runAfter_ok (hk : kn.ok E) {w0 : World} (hX : XOk X w0 E) (hm : X.P.follows .mixedOrders = true) {n : Nat} {ps : List Piece} {s : St} {fn : Func} {r : SVal} (h : runAfter X kn n ps s fn.results.toList = .ok r) {a : Act} {w : World} (hs : Sat B w0 E s ρ a w) :
    seqWp X.P ps (bodyPost X.P fn (Gives (r.den E Pl.no) w0) .normal) (bodyPost X.P fn (Gives (r.den E Pl.no) w0)) a w := by
  unfold runAfter at h
  obtain ⟨⟨x, s'⟩, h1, h2⟩ := Res.bind_ok h
  have fin : ∀ {y : Res SVal}, y = (match resVal X.P s' fn.results.toList with | some cs => if (SVal.ofRes cs).flat then Res.ok (SVal.ofRes cs) else .fail 72 | none => .fail 73) → y = .ok r → ∀ ρ' a' w', Sat B w0 E s' ρ' a' w' →
      a'.defers = [] ∧ ∃ v, (results fn a'.tmps).run X.P w' = .ok v w' ∧ Gives (r.den E Pl.no) w0 (.returned v) w' := by
    intro y hy hr ρ' a' w' hs'
    rw [hr] at hy
    split at hy
    · rename_i cs hcs
      split at hy
      · rename_i hfl
        simp at hy; subst hy
        exact ⟨hs'.d, _, results_run (X := X) hs' hcs, by rw [SVal.flat_den _ hfl ρ' Pl.no], hs'.h.below⟩
      · cases hy
    · cases hy
  cases x with
  | exit id => simp at h2
  | normal => exact execL_ok hk hX hm (fun _ => fin rfl h2) (fun h => (h rfl).elim) ps s h1 ρ a w hs
  | ret => exact execL_ok hk hX hm (fun h => by cases h) (fun _ => fin rfl h2) ps s h1 ρ a w hs
def exploreL (X : Cx) (n : Nat) (ps : List Piece) (s : St) (res : List ResultVar) : Nat → Kn → Tree
  | 0, _ => .dead 0
  | d + 1, kn => match runAfter X kn n ps s res with
    | .ok r => .leaf r
    | .need c => .node c (exploreL X n ps s res d ((c, true) :: kn)) (exploreL X n ps s res d ((c, false) :: kn))
    | .fail m => .dead m
theorem exploreL_ok {w0 : World} (hX : XOk X w0 E) (hm : X.P.follows .mixedOrders = true) {n : Nat} {ps : List Piece} {s : St} {fn : Func} {v : Value} {a : Act} {w : World} (hs : Sat B w0 E s ρ a w) : ∀ (d : Nat) (kn : Kn), kn.ok E →
    (exploreL X n ps s fn.results.toList d kn).den E = some v → seqWp X.P ps (bodyPost X.P fn (Gives v w0) .normal) (bodyPost X.P fn (Gives v w0)) a w
  | 0, kn, _, h => by simp [exploreL, Tree.den] at h
  | d + 1, kn, hk, h => by
    unfold exploreL at h
    split at h
    · rename_i r hr
      simp [Tree.den] at h; subst h
      exact runAfter_ok hk hX hm hr hs
    · rename_i c hc
      simp only [Tree.den] at h
      cases hb : c.den E
      · rw [hb] at h
        exact exploreL_ok hX hm hs d _ (kn_cons hk hb) h
      · rw [hb] at h
        exact exploreL_ok hX hm hs d _ (kn_cons hk hb) h
    · simp [Tree.den] at h

/-! ### What hangs on no letter -/
def At.closed : At → Bool
  | .int _ (.lit _) => true
  | .int _ (.var 0) => true
  | .int _ _ => false
  | .bool (.lit _) => true
  | .bool (.cmp _ (.lit _) (.var 0)) => true
  | .bool (.cmp _ (.var 0) (.lit _)) => true
  | .bool _ => false
  | .slc _ (.lit _) => true
  | .slc _ _ => false
  | _ => true
def CV.closed (c : CV) : Bool := c.cells.all At.closed
def SVal.closed : SVal → Bool
  | .cv c => c.closed
  | .tup cs => cs.all CV.closed
def HE.closed : HE → Bool
  | .blk b => b.cs.all At.closed
  | _ => true
theorem At.closed_den {E E' : Env} (hv : (∀ i, E'.v i = E.v i) ∧ E'.i 0 = E.i 0) (a : At) (h : a.closed = true) (ρ : Pl) : a.den E' ρ = a.den E ρ := by
  obtain ⟨hv, h0⟩ := hv
  unfold At.closed at h
  split at h <;> first | (cases h; done) | (simp only [At.den, SE.den, SB.den, h0]; done) | skip
  cases a <;> simp_all [At.den]
theorem ats_closed_den {E E' : Env} (hv : (∀ i, E'.v i = E.v i) ∧ E'.i 0 = E.i 0) (cs : List At) (h : cs.all At.closed = true) (ρ : Pl) : cs.map (At.den E' ρ) = cs.map (At.den E ρ) :=
  List.map_congr_left fun a ha => At.closed_den hv a (List.all_eq_true.1 h a ha) ρ
theorem CV.closed_den {E E' : Env} (hv : (∀ i, E'.v i = E.v i) ∧ E'.i 0 = E.i 0) (c : CV) (h : c.closed = true) (ρ : Pl) : c.den E' ρ = c.den E ρ := by
  cases c with
  | one a => exact At.closed_den hv a (by simpa [CV.closed, CV.cells] using h) ρ
  | agg cs => simp only [CV.den]; rw [ats_closed_den hv cs h ρ]
theorem SVal.closed_den {E E' : Env} (hv : (∀ i, E'.v i = E.v i) ∧ E'.i 0 = E.i 0) (s : SVal) (h : s.closed = true) (ρ : Pl) : s.den E' ρ = s.den E ρ := by
  cases s with
  | cv c => exact CV.closed_den hv c h ρ
  | tup cs =>
    simp only [SVal.den]
    congr 2
    exact List.map_congr_left fun c hc => CV.closed_den hv c (List.all_eq_true.1 h c hc) ρ
theorem Sat.closed {E E' : Env} (hv : (∀ i, E'.v i = E.v i) ∧ E'.i 0 = E.i 0) {w0 : World} {s : St} {a : Act} {w : World} (hs : Sat B w0 E s ρ a w) (hT : s.T.all SVal.closed = true) (hH : s.H.all HE.closed = true) : Sat B w0 E' s ρ a w := by
  refine ⟨?_, hs.d, ⟨hs.h.below, hs.h.ge, fun l b hl => ?_, hs.h.inj⟩, hs.v⟩
  · have := hs.t
    unfold TOk at this ⊢
    rw [this]
    congr 1
    exact (List.map_congr_left fun x hx => SVal.closed_den hv x (List.all_eq_true.1 hT x hx) ρ).symm
  · have hb := hs.h.blk l b hl
    have hc := List.all_eq_true.1 hH _ (List.mem_of_getElem? hl)
    unfold BlkAt at hb ⊢
    rw [ats_closed_den hv b.cs hc ρ]; exact hb
end

/-- Letters, and one value that came in. -/
def envV (v : Value) (h : v.oneCell' = true) (zs : List Int) (fi : Nat → Nat → List Int → Int) (fb : Nat → Nat → List Int → Bool) : Env := { envOf zs fi fb with v := fun _ => v, v1 := fun _ => h }
/-- The call that draws hands on the whole value that came in. -/
def drawsBy (D : Nat) (o : Oper) (T : List SVal) : Bool :=
  match o.op with
  | .call c => match c.callee with
    | .value (.func g) => g == D && (match mapAop T c.args with | some [.cv (.one (.opq 0))] => true | _ => false)
    | _ => false
  | _ => false
def isLen (o : Oper) : Bool :=
  match o.op with
  | .call c => match c.callee with
    | .builtin .len => true
    | _ => false
  | _ => false
/-- The length of what came in is asked for. -/
def lenBy (P : Program) (o : Oper) (T : List SVal) : Bool :=
  match o.op with
  | .call c => match c.callee with
    | .builtin .len => (match mapAop T c.args with | some [.cv (.one (.opq 0))] => true | _ => false) && (match c.argTypes[0]? with
      | some t => (match P.underlying t with | some (.slice _) => true | _ => false)
      | none => false)
    | _ => false
  | _ => false
def startOf (fn : Func) : St := ⟨[.cv (.one (.opq 0))] ++ List.replicate (fn.ntmps - 1) (.tup []), []⟩
def longBy : SB := .cmp .lt (.lit 1048576) (.var 0)
def lenIn (s : St) (o : Oper) : St := ⟨putT s.T o.dst (.cv (.one (.int .i64 (.var 0)))), s.H⟩
def retTrue (P : Program) (s : St) (fn : Func) : Bool :=
  match resVal P s fn.results.toList with
  | some [.one (.bool (.lit true))] => true
  | _ => false
/-- The beginning of a law walked: what stands at the draw, where the drawn goes, the code behind it. -/
def lawPrep (X : Cx) (n D : Nat) (fn : Func) : Option (St × Option Tmp × List Piece) :=
  match fn.body with
  | none => none
  | some c => match cutAt isLen c with
    | none => none
    | some (bs0, o0, cs0) => match cutL (isCall D) cs0 with
      | none => none
      | some (bs, o, cs) => match execL X [] n bs0 (startOf fn) with
        | .ok (.normal, s0) => match execL X [(longBy, true)] n bs (lenIn s0 o0) with
          | .ok (.ret, sr) => match execL X [(longBy, false)] n bs (lenIn s0 o0) with
            | .ok (.normal, s1) => if (lenBy X.P o0 s0.T && retTrue X.P sr fn) && ((s1.T.all SVal.closed && s1.H.all HE.closed) && drawsBy D o s1.T) then some (s1, o.dst, cs) else none
            | _ => none
          | _ => none
        | _ => none
def lawTree (X : Cx) (n L D : Nat) (out : SVal) (d : Nat) : Tree :=
  match X.P.funcs[L]? with
  | none => .dead 100
  | some fn => match lawPrep X n D fn with
    | none => .dead 101
    | some (s1, dst, cs) => exploreL X n cs ⟨putT s1.T dst out, s1.H⟩ fn.results.toList d []

theorem law_ok {X : Cx} (hm : X.P.follows .mixedOrders = true) {n L D d : Nat} (hent : Enters X.P D) {w0 : World} {p : Option Addr} {len cap : Nat} {fi : Nat → Nat → List Int → Int} {fb : Nat → Nat → List Int → Bool}
    (Good : List Int → Prop) (hX : ∀ zs, XOk X w0 (envV (.slice p len cap) rfl ((len : Int) :: zs) fi fb)) (out : SVal) (hout : out.flat = true)
    (hD : ∀ w, Below w0.heap.size w0 w → Calls X.P D #[.slice p len cap] w fun e w' => ∃ zs, Good zs ∧ e = .returned (out.den (envV (.slice p len cap) rfl ((len : Int) :: zs) fi fb) Pl.no) ∧ Below w.heap.size w w')
    {t : Tree} (hT : lawTree X n L D out d = t) (ht : ∀ zs, Good zs → t.den (envV (.slice p len cap) rfl ((len : Int) :: zs) fi fb) = some (.bool true)) (hne : ∃ zs, Good zs) :
    Calls X.P L #[.slice p len cap] w0 (Gives (.bool true) w0) := by
  obtain ⟨z0, hz0⟩ := hne
  have ht0 := ht z0 hz0
  subst hT
  unfold lawTree at ht ht0
  split at ht0
  · cases ht0
  rename_i fn hf
  rw [hf] at ht
  simp only at ht ht0
  split at ht0
  · cases ht0
  rename_i s1 dst cs hprep
  rw [hprep] at ht
  simp only at ht
  clear ht0 hz0
  unfold lawPrep at hprep
  split at hprep
  · cases hprep
  rename_i c hb
  split at hprep
  · cases hprep
  rename_i bs0 o0 cs0 hcut0
  split at hprep
  · cases hprep
  rename_i bs o cs' hcut
  split at hprep <;> try (cases hprep; done)
  rename_i s0 hs0
  split at hprep <;> try (cases hprep; done)
  rename_i sr hl1
  split at hprep <;> try (cases hprep; done)
  rename_i s1' hs1
  split at hprep <;> try (cases hprep; done)
  rename_i hall
  simp only [Option.some.injEq, Prod.mk.injEq] at hprep
  obtain ⟨rfl, rfl, rfl⟩ := hprep
  simp only [Bool.and_eq_true] at hall
  obtain ⟨⟨hlen, hret⟩, ⟨hc1, hc2⟩, hdr⟩ := hall
  refine calls_of_wp hf hb ?_
  refine cutAt_ok c bs0 cs0 o0 hcut0 _ _ _ ?_
  generalize hE0 : envV (.slice p len cap) rfl ((len : Int) :: z0) fi fb = E0
  have hEv : ∀ zs i, (envV (.slice p len cap) rfl ((len : Int) :: zs) fi fb).v i = .slice p len cap := fun _ _ => rfl
  have hE0v : ∀ i, E0.v i = .slice p len cap := by subst hE0; exact hEv z0
  have hE0i : E0.i 0 = len := by subst hE0; rfl
  have hX0 : XOk X w0 E0 := by subst hE0; exact hX z0
  have h0 : Sat ([], Pl.no) w0 E0 (startOf fn) Pl.no { tmps := #[.slice p len cap] ++ Array.replicate (fn.ntmps - #[Value.slice p len cap].size) undef, defers := [] } w0 := by
    refine ⟨?_, rfl, ⟨Below.refl _ _, fun l b hl => by simp [startOf] at hl, fun l b hl => by simp [startOf] at hl, fun l l' b b' hl => by simp [startOf] at hl⟩, Via.refl _ _⟩
    unfold TOk startOf
    simp [SVal.den, CV.den, At.den, hE0v, undef]
  refine execL_ok (fun p hp => by cases hp) hX0 hm (fun _ ρ' a' w' hs' => ?_) (fun h => (h rfl).elim) bs0 _ hs0 Pl.no _ w0 h0
  unfold lenBy at hlen
  split at hlen <;> try (cases hlen; done)
  rename_i cl hop
  split at hlen <;> try (cases hlen; done)
  rename_i hcal
  simp only [Bool.and_eq_true] at hlen
  obtain ⟨hla, hlt⟩ := hlen
  split at hla <;> try (cases hla; done)
  rename_i hargs
  split at hlt <;> try (cases hlt; done)
  rename_i tt htt
  split at hlt <;> try (cases hlt; done)
  rename_i el hu
  have hargs' : cl.args.map a'.eval = #[.slice p len cap] := by rw [mapAop_den hs'.t hargs]; simp [SVal.den, CV.den, At.den, hE0v]
  unfold Oper.wp execOp
  simp only [hop]
  simp only [resolve, hcal, Sem.run_bind, Sem.run_pure, Result.andThen_ok, invoke, hargs']
  have hbl : ∀ (ty : TypeId) (cs : Array Bool), (builtin .len cl.argTypes ty cs #[.slice p len cap]).run X.P w' = .ok (.value (.int .i64 (len : Int))) w' := fun ty cs => by
    simp only [builtin, Builtin.len_, Sem.run_bind]
    simp [htt, run_underlying' hu, go_sem, goInt]
  rw [hbl]
  simp only [Oper.upon]
  have hs2 : Sat ([], Pl.no) w0 E0 (lenIn s0 o0) ρ' (a'.put o0.dst (.int .i64 (len : Int))) w' := by
    refine ⟨?_, by rw [put_defers]; exact hs'.d, hs'.h, hs'.v⟩
    have := putT_ok hs'.t o0.dst (.cv (.one (.int .i64 (.var 0))))
    simp only [SVal.den, CV.den, At.den, SE.den, hE0i] at this
    exact this
  refine cutL_ok _ _ _ _ hcut _ _ ?_
  cases hlc : longBy.den E0
  · have hk : Kn.ok E0 [(longBy, false)] := fun p hp => by simp at hp; subst hp; exact hlc
    refine execL_ok hk hX0 hm (fun _ ρ' a' w' hs' => ?_) (fun h => (h rfl).elim) bs _ hs1 _ _ w' hs2
    unfold drawsBy at hdr
    split at hdr <;> try (cases hdr; done)
    rename_i c' hop
    split at hdr <;> try (cases hdr; done)
    rename_i g hcal
    simp only [Bool.and_eq_true, beq_iff_eq] at hdr
    obtain ⟨rfl, hdr⟩ := hdr
    split at hdr <;> try (cases hdr; done)
    rename_i hargs
    have hargs' : (#[] ++ c'.args.map a'.eval ++ #[]) = #[.slice p len cap] := by rw [mapAop_den hs'.t hargs]; simp [SVal.den, CV.den, At.den, hE0v]
    unfold Oper.wp execOp
    simp only [hop]
    simp only [resolve, hcal, Act.eval, Deferred.ofValue, Sem.run_bind, Sem.run_pure, Result.andThen_ok, invoke]
    simp only [hargs']
    rw [hent]
    simp only [Oper.upon]
    refine (hD w' hs'.h.below).mono ?_
    rintro e w'' ⟨zs, hg, rfl, hbel⟩
    have hs2 : Sat ([], Pl.no) w0 (envV (.slice p len cap) rfl ((len : Int) :: zs) fi fb) s1' ρ' a' w'' := by
      have := hs'.closed (E' := envV (.slice p len cap) rfl ((len : Int) :: zs) fi fb) ⟨fun i => by rw [hEv, hE0v], by rw [hE0i]; rfl⟩ hc1 hc2
      exact ⟨this.t, this.d, this.h.below' hbel, this.v⟩
    have hs3 : Sat ([], Pl.no) w0 (envV (.slice p len cap) rfl ((len : Int) :: zs) fi fb) ⟨putT s1'.T o.dst out, s1'.H⟩ ρ' (a'.put o.dst (out.den (envV (.slice p len cap) rfl ((len : Int) :: zs) fi fb) Pl.no)) w'' := by
      refine ⟨?_, by rw [put_defers]; exact hs2.d, hs2.h, hs2.v⟩
      have := putT_ok hs2.t o.dst out
      rw [SVal.flat_den out hout ρ' Pl.no] at this
      exact this
    exact exploreL_ok (hX zs) hm hs3 d [] (fun p hp => by cases hp) (ht zs hg)
  · have hk : Kn.ok E0 [(longBy, true)] := fun p hp => by simp at hp; subst hp; exact hlc
    refine execL_ok hk hX0 hm (fun h => by cases h) (fun _ ρ' a' w' hs' => ?_) bs _ hl1 _ _ w' hs2
    unfold retTrue at hret
    split at hret <;> try (cases hret; done)
    rename_i hl2
    exact ⟨hs'.d, _, results_run (X := X) hs' hl2, by simp [SVal.ofRes, SVal.den, CV.den, At.den, SB.den], hs'.h.below⟩

end Go.Proofs.Ytdgfipdlfgcfeaa.Eng
