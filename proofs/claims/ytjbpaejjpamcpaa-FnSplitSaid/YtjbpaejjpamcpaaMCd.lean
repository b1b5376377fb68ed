import Derived.Test.YtjbpaejjpamcpaaMCc
/- Workers and their starter: what holds of the machine and the trace at every moment ('Com'); how it is kept: by a draw, by a worker's step, by the starter's, by a go statement. No program in sight. -/
namespace Go.Proofs.Ytjbpaejjpamcpaa.Sim
set_option linter.unusedSimpArgs false
set_option linter.unusedVariables false
open Go Go.Conc
open Go.ConcN (WgLive CTag WD CT Apart OkW Ok0 RelBy upd upd_same upd_ne Deaf_still Deaf_absent)
open Go.ConcR (KK WgAt stA smA rd wr mk Bk)

/-- A worker's release, behind which it touches nothing but the group's cells, deaf. -/
structure RelQ (Sh : Loc → Prop) (a : Addr) (t : Trace) (k r : Nat) : Prop extends RelBy a t k r where
  sh : ∀ i, r < i → t.g? i = some k → ∀ x, touchAt t i = some x → Sh x.loc
theorem RelQ.appNot {Sh : Loc → Prop} {a : Addr} {t u : Trace} {k r : Nat} (h : RelQ Sh a t k r) (hu : ∀ op ∈ u, op.g ≠ k) : RelQ Sh a (t ++ u) k r := by
  refine ⟨h.toRelBy.appNot hu, fun i hi hg x hx => ?_⟩
  obtain ⟨op, ho, hog⟩ := Option.map_eq_some_iff.1 hg
  rcases getElem?_append_cases ho with ⟨hlt, ho'⟩ | ⟨_, hou⟩
  · exact h.sh i hi (by rw [← g?_old (u := u) hlt]; exact hg) x (by rw [← touchAt_old (u := u) hlt]; exact hx)
  · exact absurd hog (hu op hou)
theorem RelQ.book {Q : Nat → Prop} {Wg : Nat} {a : Addr} {t : Trace} {k r d : Nat} (hQ : Q Wg) (h : RelQ (Cl Q) a t k r) (hdk : Deaf t k = d) (fn : FuncId) (pos : String) {es : Array Event} (hes : ∀ e ∈ es, Bk Wg e)
    (hd : ∀ j e, es[j]? = some e → (MemAct.ofEvent e).touch? = none ∨ 0 < deafBehind d (es.extract 0 j)) : RelQ (Cl Q) a (t ++ MemOp.ofEvents k fn pos es) k r := by
  refine ⟨h.toRelBy.book hdk fn pos hes hd, fun i hi hg x hx => ?_⟩
  obtain ⟨op, ho, hox⟩ := touch_of hx
  rcases getElem?_append_cases ho with ⟨hlt, ho'⟩ | ⟨_, hou⟩
  · exact h.sh i hi (by rw [← g?_old (u := MemOp.ofEvents k fn pos es) hlt]; exact hg) x (by rw [← touchAt_old (u := MemOp.ofEvents k fn pos es) hlt]; exact hx)
  · obtain ⟨e, he, rfl⟩ := Go.Conc.mem_ofEvents hou
    rcases hes e he with h1 | h1 | ⟨ad, wr, rfl, hb⟩
    · simp only [Go.ConcR.ofEvent_loc_mark h1] at hox; cases hox
    · simp only [Go.ConcR.ofEvent_loc_mark h1] at hox; cases hox
    · simp only [ofEvent_cell0, MemAct.touch?, Option.some.injEq] at hox
      subst hox
      exact ⟨ad, rfl, by rw [hb]; exact hQ⟩
theorem RelQ.new {Sh : Loc → Prop} {a : Addr} {t : Trace} {k : Nat} (hd : Deaf t k = 0) (fn : FuncId) (pos : String) : RelQ Sh a (t ++ MemOp.ofEvents k fn pos #[Go.ConcR.mk (.releaseMerge a)]) k t.size := by
  refine ⟨Go.ConcN.RelBy.new hd fn pos, fun i hi hg => ?_⟩
  have h1 := Go.ConcN.RelBy.new (a := a) hd fn pos
  exfalso
  obtain ⟨op, ho, _⟩ := Option.map_eq_some_iff.1 hg
  have := lt_size_of_getElem? ho
  rw [ofEvents_eq] at this
  simp at this
  omega

/-- What is held of each worker beside the machine. -/
structure Gh where
  D : Nat → WD
  κ : Nat → Rk
  Ew : Nat → Nat → Prop
  F : Nat → Nat → Prop
  Ws : Nat → World
  cb : Nat → Nat

/-- Whose blocks are whose: E0 the starter's, Ew i worker i's, F i what worker i reads, Z what nobody writes, Q the groups'. -/
structure Dj (Q E0 : Nat → Prop) (Ew F : Nat → Nat → Prop) (Z : Nat → Prop) (B : Nat) : Prop where
  eB : ∀ b, E0 b → b < B ∧ ¬ Q b
  qB : ∀ b, Q b → b < B
  wB : ∀ i b, Ew i b → b < B ∧ ¬ Q b ∧ ¬ E0 b
  wW : ∀ i i' b, Ew i b → Ew i' b → i = i'
  fB : ∀ i b, F i b → b < B ∧ ¬ Q b ∧ ¬ E0 b ∧ ∀ i', ¬ Ew i' b
  zB : ∀ b, Z b → b < B ∧ ¬ Q b ∧ ¬ E0 b ∧ ∀ i', ¬ Ew i' b
def OwnF (Ew : Nat → Nat → Prop) (k : Nat) (l : Loc) : Prop := ∃ i, k = i + 1 ∧ Blk (Ew i) l
def RdF (F : Nat → Nat → Prop) (k : Nat) (l : Loc) : Prop := ∃ i, k = i + 1 ∧ Cl (F i) l
theorem blk_cases {E : Nat → Prop} {l : Loc} (h : Blk E l) : ∃ b, E b ∧ (l = .obj b ∨ ∃ a, l = .cell a ∧ a.block = b) := by
  rcases h with ⟨a, rfl, he⟩ | ⟨b, rfl, he⟩
  · exact ⟨_, he, .inr ⟨a, rfl, rfl⟩⟩
  · exact ⟨_, he, .inl rfl⟩
section
variable {Q E0 : Nat → Prop} {Ew F : Nat → Nat → Prop} {Z : Nat → Prop} {B B' : Nat}
theorem Dj.apart (h : Dj Q E0 Ew F Z B) : Apart (Cl Q) (OwnF Ew) (RdF F) := by
  refine ⟨fun k k' l ⟨i, e, hb⟩ ⟨i', e', hb'⟩ => ?_, fun k k' l ⟨i, e, hb⟩ ⟨i', e', ⟨a, ea, hf⟩⟩ => ?_, fun k l ⟨i, e, hb⟩ ⟨a, ea, hq⟩ => ?_, fun k l ⟨i, e, ⟨a, ea, hf⟩⟩ ⟨a', ea', hq⟩ => ?_⟩
  · obtain ⟨b, h1, h2⟩ := blk_cases hb
    obtain ⟨b', h1', h2'⟩ := blk_cases hb'
    have : b = b' := by
      rcases h2 with rfl | ⟨a, rfl, rfl⟩ <;> rcases h2' with e2 | ⟨a', e2, rfl⟩ <;> cases e2 <;> rfl
    subst this
    rw [e, e', h.wW i i' b h1 h1']
  · obtain ⟨b, h1, h2⟩ := blk_cases hb
    rcases h2 with rfl | ⟨a', rfl, rfl⟩
    · cases ea
    · cases ea; exact (h.fB i' _ hf).2.2.2 i h1
  · obtain ⟨b, h1, h2⟩ := blk_cases hb
    rcases h2 with rfl | ⟨a', rfl, rfl⟩
    · cases ea
    · cases ea; exact (h.wB i _ h1).2.1 hq
  · subst ea; cases ea'; exact (h.fB i _ hf).2.1 hq
theorem Dj.growW (h : Dj Q E0 Ew F Z B) (hB : B ≤ B') {i : Nat} {E' : Nat → Prop} (hE : ∀ b, E' b → Ew i b ∨ (B ≤ b ∧ b < B')) : Dj Q E0 (upd Ew i E') F Z B' := by
  have ewB : ∀ b, E' b → b < B' ∧ ¬ Q b ∧ ¬ E0 b := fun b hb => by
    rcases hE b hb with hb | ⟨h1, h2⟩
    · exact ⟨Nat.lt_of_lt_of_le (h.wB i b hb).1 hB, (h.wB i b hb).2⟩
    · exact ⟨h2, fun hq => by have := h.qB b hq; omega, fun he => by have := (h.eB b he).1; omega⟩
  have hnE : ∀ b, b < B → (∀ i', ¬ Ew i' b) → ∀ i', ¬ upd Ew i E' i' b := fun b hb hn i' hb' => by
    by_cases e : i' = i
    · subst e; rw [upd_same] at hb'
      rcases hE b hb' with h1 | ⟨h1, _⟩
      · exact hn _ h1
      · omega
    · rw [upd_ne _ _ e] at hb'; exact hn i' hb'
  refine ⟨fun b hb => ⟨Nat.lt_of_lt_of_le (h.eB b hb).1 hB, (h.eB b hb).2⟩, fun b hb => Nat.lt_of_lt_of_le (h.qB b hb) hB, fun i' b hb => ?_, fun i₁ i₂ b h1 h2 => ?_,
    fun i' b hb => ⟨Nat.lt_of_lt_of_le (h.fB i' b hb).1 hB, (h.fB i' b hb).2.1, (h.fB i' b hb).2.2.1, hnE b (h.fB i' b hb).1 (h.fB i' b hb).2.2.2⟩,
    fun b hb => ⟨Nat.lt_of_lt_of_le (h.zB b hb).1 hB, (h.zB b hb).2.1, (h.zB b hb).2.2.1, hnE b (h.zB b hb).1 (h.zB b hb).2.2.2⟩⟩
  · by_cases e : i' = i
    · subst e; rw [upd_same] at hb; exact ewB b hb
    · rw [upd_ne _ _ e] at hb; exact ⟨Nat.lt_of_lt_of_le (h.wB i' b hb).1 hB, (h.wB i' b hb).2⟩
  · by_cases e1 : i₁ = i <;> by_cases e2 : i₂ = i
    · rw [e1, e2]
    · subst e1; rw [upd_same] at h1; rw [upd_ne _ _ e2] at h2
      rcases hE b h1 with h1 | ⟨h1, _⟩
      · exact h.wW _ _ b h1 h2
      · have := (h.wB i₂ b h2).1; omega
    · subst e2; rw [upd_same] at h2; rw [upd_ne _ _ e1] at h1
      rcases hE b h2 with h2 | ⟨h2, _⟩
      · exact h.wW _ _ b h1 h2
      · have := (h.wB i₁ b h1).1; omega
    · rw [upd_ne _ _ e1] at h1; rw [upd_ne _ _ e2] at h2; exact h.wW _ _ b h1 h2
theorem Dj.grow0 (h : Dj Q E0 Ew F Z B) (hB : B ≤ B') {E' : Nat → Prop} (hE : ∀ b, E' b → E0 b ∨ (B ≤ b ∧ b < B')) : Dj Q E' Ew F Z B' := by
  have hn : ∀ b, b < B → ¬ E0 b → ¬ E' b := fun b hb h0 he => by
    rcases hE b he with h1 | ⟨h1, _⟩
    · exact h0 h1
    · omega
  refine ⟨fun b hb => ?_, fun b hb => Nat.lt_of_lt_of_le (h.qB b hb) hB, fun i b hb => ⟨Nat.lt_of_lt_of_le (h.wB i b hb).1 hB, (h.wB i b hb).2.1, hn b (h.wB i b hb).1 (h.wB i b hb).2.2⟩, h.wW,
    fun i b hb => ⟨Nat.lt_of_lt_of_le (h.fB i b hb).1 hB, (h.fB i b hb).2.1, hn b (h.fB i b hb).1 (h.fB i b hb).2.2.1, (h.fB i b hb).2.2.2⟩,
    fun b hb => ⟨Nat.lt_of_lt_of_le (h.zB b hb).1 hB, (h.zB b hb).2.1, hn b (h.zB b hb).1 (h.zB b hb).2.2.1, (h.zB b hb).2.2.2⟩⟩
  rcases hE b hb with h1 | ⟨h1, h2⟩
  · exact ⟨Nat.lt_of_lt_of_le (h.eB b h1).1 hB, (h.eB b h1).2⟩
  · exact ⟨h2, fun hq => by have := h.qB b hq; omega⟩
/-- A worker is given a block c; it and others read Fk. -/
theorem Dj.spawn (h : Dj Q E0 Ew F Z B) {j c : Nat} {Fk : Nat → Prop} (hE : ∀ b, ¬ Ew j b) (hc : E0 c) (hF : ∀ b, Fk b → (E0 b ∧ b ≠ c) ∨ Z b) :
    Dj Q (fun b => E0 b ∧ b ≠ c ∧ ¬ Fk b) (upd Ew j (fun b => b = c)) (upd F j Fk) (fun b => Z b ∨ Fk b) B := by
  have hn : ∀ b, b ≠ c → (∀ i, ¬ Ew i b) → ∀ i, ¬ upd Ew j (fun b => b = c) i b := fun b hb hi i he => by
    by_cases e : i = j
    · subst e; rw [upd_same] at he; exact hb he
    · rw [upd_ne _ _ e] at he; exact hi i he
  have hk : ∀ b, Fk b → b < B ∧ ¬ Q b ∧ ¬ (E0 b ∧ b ≠ c ∧ ¬ Fk b) ∧ ∀ i', ¬ upd Ew j (fun b => b = c) i' b := fun b hb => by
    rcases hF b hb with ⟨h1, h2⟩ | h1
    · exact ⟨(h.eB b h1).1, (h.eB b h1).2, fun x => x.2.2 hb, hn b h2 fun i he => (h.wB i b he).2.2 h1⟩
    · exact ⟨(h.zB b h1).1, (h.zB b h1).2.1, fun x => x.2.2 hb, hn b (fun e => (h.zB b h1).2.2.1 (e ▸ hc)) (h.zB b h1).2.2.2⟩
  refine ⟨fun b hb => h.eB b hb.1, h.qB, fun i b hb => ?_, fun i₁ i₂ b h1 h2 => ?_, fun i b hb => ?_, fun b hb => ?_⟩
  · by_cases e : i = j
    · subst e; rw [upd_same] at hb; subst hb; exact ⟨(h.eB _ hc).1, (h.eB _ hc).2, fun x => x.2.1 rfl⟩
    · rw [upd_ne _ _ e] at hb; exact ⟨(h.wB i b hb).1, (h.wB i b hb).2.1, fun x => (h.wB i b hb).2.2 x.1⟩
  · by_cases e1 : i₁ = j <;> by_cases e2 : i₂ = j
    · rw [e1, e2]
    · subst e1; rw [upd_same] at h1; rw [upd_ne _ _ e2] at h2; subst h1; exact absurd hc (h.wB i₂ _ h2).2.2
    · subst e2; rw [upd_same] at h2; rw [upd_ne _ _ e1] at h1; subst h2; exact absurd hc (h.wB i₁ _ h1).2.2
    · rw [upd_ne _ _ e1] at h1; rw [upd_ne _ _ e2] at h2; exact h.wW _ _ b h1 h2
  · by_cases e : i = j
    · subst e; rw [upd_same] at hb; exact hk b hb
    · rw [upd_ne _ _ e] at hb
      exact ⟨(h.fB i b hb).1, (h.fB i b hb).2.1, fun x => (h.fB i b hb).2.2.1 x.1, hn b (fun e => (h.fB i b hb).2.2.1 (e ▸ hc)) (h.fB i b hb).2.2.2⟩
  · rcases hb with hb | hb
    · exact ⟨(h.zB b hb).1, (h.zB b hb).2.1, fun x => (h.zB b hb).2.2.1 x.1, hn b (fun e => (h.zB b hb).2.2.1 (e ▸ hc)) (h.zB b hb).2.2.2⟩
    · exact hk b hb
end

section
variable (P : Program) (ty : TypeId) (Wg j0 : Nat) (val : Nat → Value) (Q : Nat → Prop) (W0 : World)
structure Com (J : Nat) (gs : Array Goroutine) (w : World) (t : Trace) (γ : Gh) (d0 : Nat) (x : Xs) (E0 : Nat → Prop) : Prop where
  size : gs.size = J + 1
  hj : j0 ≤ J
  wk : ∀ i, i < J → ∃ g, gs[i + 1]? = some g ∧ WS P ty Wg (γ.F i) (γ.Ws i) (γ.cb i) (val i) (γ.D i).stage (γ.D i).fuel (γ.D i).deaf (γ.κ i) (γ.Ew i) g w
  live : WgLive ty Wg w
  inv : ∀ i, i < J → ∀ b, γ.F i b → w.heap[b]? = (γ.Ws i).heap[b]?
  invx : ∀ b, x.Z b → w.heap[b]? = x.W.heap[b]?
  ct : CT (Cl Q) (OwnF γ.Ew) (RdF γ.F) t J
  norel : ∀ a, NoRelease a t
  deaf0 : Deaf t 0 = d0
  deafW : ∀ i, i < J → Deaf t (i + 1) = (γ.D i).deaf
  seen : ∀ op ∈ t, op.act.low w.heap.size
  old : ∀ i, i < j0 → (γ.D i).stage = 1
  rel : ∀ i, j0 ≤ i → i < J → (γ.D i).stage ≤ 6 → ∃ r, RelQ (Cl Q) (stA Wg) t (i + 1) r
  known : ∀ i a k, touchAt t i = some a → ¬ Cl Q a.loc → t.g? i = some k → k ≤ j0 → Knows t 0 i
  over : ∀ i k, t.g? i = some k → k ≠ 0 → k ≤ j0 → t.counts i → ∃ j, t.g? j = some 0 ∧ HappensBefore t i j
  has : ∀ i, j0 ≤ i → i < J → (γ.D i).stage ≤ 6 → w.heap[γ.cb i]? = some (full1 (val i))
  cbE : ∀ i, j0 ≤ i → i < J → γ.Ew i (γ.cb i)
  cbs : ∀ i c, x.cbs[i]? = some c → j0 + i < J ∧ c = γ.cb (j0 + i)
  len : x.cbs.length = J - j0
  hQ : Q Wg
  dj : Dj Q E0 γ.Ew γ.F x.Z w.heap.size
  out : ∀ i, J ≤ i → (∀ b, ¬ γ.Ew i b) ∧ ∀ b, ¬ γ.F i b
  same : w.tape = W0.tape ∧ w.os = W0.os ∧ w.output = W0.output
end

section
variable {P : Program} {ty : TypeId} {Wg j0 : Nat} {val : Nat → Value} {Q : Nat → Prop} {W0 : World} {J : Nat} {gs : Array Goroutine} {w w' : World} {t : Trace} {γ : Gh} {d0 : Nat} {x : Xs} {E0 : Nat → Prop}

theorem Com.invW (h : Com P ty Wg j0 val Q W0 J gs w t γ d0 x E0) {i : Nat} (hi : i < J) : InvW ty Wg (γ.F i) (γ.Ws i) w := ⟨h.live, h.inv i hi⟩
theorem Com.invX (h : Com P ty Wg j0 val Q W0 J gs w t γ d0 x E0) : InvW ty Wg x.Z x.W w := ⟨h.live, h.invx⟩
theorem Com.at (h : Com P ty Wg j0 val Q W0 J gs w t γ d0 x E0) (d : Nat) : Com P ty Wg j0 val Q W0 J gs (w.at d) t γ d0 x E0 :=
  { h with wk := fun i hi => let ⟨g, hg, hs⟩ := h.wk i hi; ⟨g, hg, hs.rely ⟨rely_at _ w d, (h.invW hi).at d⟩⟩, live := h.live, inv := h.inv, invx := h.invx, seen := h.seen, has := h.has, dj := h.dj, same := h.same }

theorem known_app {t u : Trace} {Sh : Loc → Prop} {j0 : Nat} (h : ∀ i a k, touchAt t i = some a → ¬ Sh a.loc → t.g? i = some k → k ≤ j0 → Knows t 0 i)
    (hu : ∀ op ∈ u, op.g ≤ j0 → op.g = 0 ∨ op.act.touch? = none) : ∀ i a k, touchAt (t ++ u) i = some a → ¬ Sh a.loc → (t ++ u).g? i = some k → k ≤ j0 → Knows (t ++ u) 0 i := by
  intro i a k ha hs hg hk
  obtain ⟨op, ho, hoa⟩ := touch_of ha
  rcases getElem?_append_cases ho with ⟨hlt, ho'⟩ | ⟨_, hou⟩
  · exact (h i a k (by rw [← touchAt_old (u := u) hlt]; exact ha) hs (by rw [← g?_old (u := u) hlt]; exact hg) hk).app u
  · obtain ⟨op', ho', hog⟩ := Option.map_eq_some_iff.1 hg
    rw [ho] at ho'; cases ho'
    rcases hu op hou (by omega) with h0 | h0
    · have := knows_own ho
      rwa [h0] at this
    · rw [h0] at hoa; cases hoa
theorem over_app {t u : Trace} {j0 : Nat} (h : ∀ i k, t.g? i = some k → k ≠ 0 → k ≤ j0 → t.counts i → ∃ j, t.g? j = some 0 ∧ HappensBefore t i j)
    (hu : ∀ op ∈ u, op.g ≤ j0 → op.g = 0 ∨ op.act.touch? = none) : ∀ i k, (t ++ u).g? i = some k → k ≠ 0 → k ≤ j0 → (t ++ u).counts i → ∃ j, (t ++ u).g? j = some 0 ∧ HappensBefore (t ++ u) i j := by
  intro i k hg hne hk hc
  obtain ⟨op, ho, hog⟩ := Option.map_eq_some_iff.1 hg
  rcases getElem?_append_cases ho with ⟨hlt, ho'⟩ | ⟨_, hou⟩
  · obtain ⟨j, hj, hb⟩ := h i k (by rw [← g?_old (u := u) hlt]; exact hg) hne hk ((Go.Conc.counts_old hlt).1 hc)
    have hjl : j < t.size := by
      obtain ⟨z, hz, _⟩ := Option.map_eq_some_iff.1 hj
      exact lt_size_of_getElem? hz
    exact ⟨j, by rw [g?_old hjl]; exact hj, hb_app u hb⟩
  · obtain ⟨y, hy, _⟩ := hc
    obtain ⟨op', ho', hox⟩ := touch_of hy
    rw [ho] at ho'; cases ho'
    rcases hu op hou (by omega) with h0 | h0
    · exact absurd (hog.symm.trans h0) hne
    · rw [h0] at hox; cases hox

theorem ownF_upd {Ew : Nat → Nat → Prop} {i : Nat} {E' : Nat → Prop} (k : Nat) (l : Loc) : OwnF (upd Ew i E') k l ↔ if k = i + 1 then Blk E' l else OwnF Ew k l := by
  refine ⟨fun ⟨i', e', hb⟩ => ?_, fun hl => ?_⟩
  · by_cases e : i' = i
    · subst e; rw [upd_same] at hb; rw [if_pos e']; exact hb
    · rw [upd_ne _ _ e] at hb; rw [if_neg (by omega)]; exact ⟨i', e', hb⟩
  · split at hl
    · rename_i e; exact ⟨i, e, by rw [upd_same]; exact hl⟩
    · rename_i e; obtain ⟨i', e', hb⟩ := hl
      exact ⟨i', e', by rw [upd_ne _ _ (by omega)]; exact hb⟩

/-- A STEP OF WORKER NUMBER i. -/
theorem Com.stepW (h : Com P ty Wg j0 val Q W0 J gs w t γ d0 x E0) {i : Nat} (hi : i < J) {gs' : Array Goroutine} {g g' : Goroutine} {u : Trace} {s' m' dd' : Nat} {κ' : Rk} {E' : Nat → Prop}
    (hz : gs'.size = gs.size) (hg' : gs'[i + 1]? = some g') (hoth : (∀ j x, j ≠ i + 1 → gs[j]? = some x → gs'[j]? = some (woken P g g' w' x)) ∨ (∀ j, j ≠ i + 1 → gs'[j]? = gs[j]?))
    (hsz : w.heap.size ≤ w'.heap.size) (hkeep : ∀ b, ¬ γ.Ew i b → b ≠ Wg → b < w.heap.size → w'.heap[b]? = w.heap[b]?) (hlive : WgLive ty Wg w') (hsame : w'.tape = w.tape ∧ w'.os = w.os ∧ w'.output = w.output)
    (hE : ∀ b, E' b → γ.Ew i b ∨ (w.heap.size ≤ b ∧ b < w'.heap.size)) (hE' : ∀ b, γ.Ew i b → E' b)
    (hs' : WS P ty Wg (γ.F i) (γ.Ws i) (γ.cb i) (val i) s' m' dd' κ' E' g' w')
    (hok : ∀ op ∈ u, OkW (Cl Q) (OwnF (upd γ.Ew i E')) (RdF γ.F) (i + 1) op) (hnr : ∀ op ∈ u, ∀ a, op.act ≠ .mark (.release a)) (hlow : ∀ op ∈ u, op.act.low w'.heap.size)
    (hdeaf : Deaf (t ++ u) (i + 1) = dd') (hrel : j0 ≤ i → s' ≤ 6 → ∃ r, RelQ (Cl Q) (stA Wg) (t ++ u) (i + 1) r) (hhas : j0 ≤ i → s' ≤ 6 → w'.heap[γ.cb i]? = some (full1 (val i)))
    (hold : i < j0 → s' = 1 ∧ ∀ op ∈ u, op.act.touch? = none) :
    Com P ty Wg j0 val Q W0 J gs' w' (t ++ u) { γ with D := upd γ.D i ⟨s', m', dd'⟩, κ := upd γ.κ i κ', Ew := upd γ.Ew i E' } d0 x E0 := by
  have hg0 : ∀ op ∈ u, op.g = i + 1 := fun op hop => (hok op hop).1
  have hus : ∀ op ∈ u, op.g ≤ j0 → op.g = 0 ∨ op.act.touch? = none := fun op hop hle => .inr ((hold (by have := hg0 op hop; omega)).2 op hop)
  have hW : ∀ {b}, ¬ Q b → b ≠ Wg := fun hb e => hb (e ▸ h.hQ)
  have hEw : ∀ i' b, i' ≠ i → γ.Ew i' b → w'.heap[b]? = w.heap[b]? := fun i' b hne hb => hkeep b (fun hb' => hne (h.dj.wW i' i b hb hb')) (hW (h.dj.wB i' b hb).2.1) (h.dj.wB i' b hb).1
  have hF : ∀ i' b, γ.F i' b → w'.heap[b]? = w.heap[b]? := fun i' b hb => hkeep b ((h.dj.fB i' b hb).2.2.2 i) (hW (h.dj.fB i' b hb).2.1) (h.dj.fB i' b hb).1
  have hct : CT (Cl Q) (OwnF (upd γ.Ew i E')) (RdF γ.F) t J := by
    refine ct_reown h.ct (fun k _ _ l hl => (ownF_upd k l).2 ?_) (fun k _ _ l hl => ?_) (fun _ _ _ _ => Iff.rfl)
    · by_cases e : k = i + 1
      · rw [if_pos e]; obtain ⟨i', e', hb⟩ := hl
        obtain rfl : i' = i := by omega
        exact hb.mono hE'
      · rw [if_neg e]; exact hl
    · have hl := (ownF_upd k l).1 hl
      by_cases e : k = i + 1
      · rw [if_pos e] at hl
        have key : ∀ b, E' b → (γ.Ew i b) ∨ w.heap.size ≤ b := fun b hb => (hE b hb).imp id And.left
        rcases hl with ⟨a, rfl, hb⟩ | ⟨b, rfl, hb⟩
        · rcases key _ hb with hb | hb
          · exact .inl ⟨i, e, .inl ⟨a, rfl, hb⟩⟩
          · exact .inr (untouched_of_low h.seen (by show ¬ a.block < _; omega))
        · rcases key _ hb with hb | hb
          · exact .inl ⟨i, e, .inr ⟨b, rfl, hb⟩⟩
          · exact .inr (untouched_of_low h.seen (by show ¬ b < _; omega))
      · rw [if_neg e] at hl; exact .inl hl
  have hdj := h.dj.growW hsz hE
  exact {
    size := hz.trans h.size
    hj := h.hj
    wk := fun i' hi' => by
      by_cases e : i' = i
      · subst e
        refine ⟨g', hg', ?_⟩
        simp only [upd_same]
        exact hs'
      · obtain ⟨y, hy, hs⟩ := h.wk i' hi'
        refine ⟨y, ?_, ?_⟩
        · rcases hoth with ho | ho
          · have := ho (i' + 1) y (by omega) hy
            rw [this, hs.woken (h.invW hi')]
          · rw [ho (i' + 1) (by omega)]; exact hy
        · simp only [upd_ne _ _ e]
          exact hs.rely ⟨⟨fun b hb => hEw i' b e hb, hsz⟩, hlive, fun b hb => (hF i' b hb).trans (h.inv i' hi' b hb)⟩
    live := hlive
    inv := fun i' hi' b hb => (hF i' b hb).trans (h.inv i' hi' b hb)
    invx := fun b hb => (hkeep b ((h.dj.zB b hb).2.2.2 i) (hW (h.dj.zB b hb).2.1) (h.dj.zB b hb).1).trans (h.invx b hb)
    ct := hct.appW hdj.apart (by omega) (by omega) hok
    norel := fun a => (h.norel a).app fun op hop => hnr op hop a
    deaf0 := (Deaf_other t (by omega) _ hg0).trans h.deaf0
    deafW := fun i' hi' => by
      by_cases e : i' = i
      · subst e; simp only [upd_same]; exact hdeaf
      · simp only [upd_ne _ _ e]
        rw [Deaf_other t (by omega) _ hg0]
        exact h.deafW i' hi'
    seen := fun op hop => (Array.mem_append.1 hop).elim (fun x => MemAct.low_mono hsz (h.seen op x)) (hlow op)
    old := fun i' hi' => by
      by_cases e : i' = i
      · subst e; simp only [upd_same]; exact (hold hi').1
      · simp only [upd_ne _ _ e]; exact h.old i' hi'
    rel := fun i' h0 hi' hst => by
      by_cases e : i' = i
      · subst e; simp only [upd_same] at hst; exact hrel h0 hst
      · simp only [upd_ne _ _ e] at hst
        obtain ⟨r, hr⟩ := h.rel i' h0 hi' hst
        exact ⟨r, hr.appNot fun op hop => by have := hg0 op hop; omega⟩
    known := known_app h.known hus
    over := over_app h.over hus
    has := fun i' h0 hi' hst => by
      by_cases e : i' = i
      · subst e; simp only [upd_same] at hst; exact hhas h0 hst
      · simp only [upd_ne _ _ e] at hst
        exact (hEw i' _ e (h.cbE i' h0 hi')).trans (h.has i' h0 hi' hst)
    cbE := fun i' h0 hi' => by
      by_cases e : i' = i
      · subst e; simp only [upd_same]; exact hE' _ (h.cbE i' h0 hi')
      · simp only [upd_ne _ _ e]; exact h.cbE i' h0 hi'
    cbs := h.cbs
    len := h.len
    hQ := h.hQ
    dj := hdj
    out := fun i' hi' => by simp only [upd_ne _ _ (show i' ≠ i by omega)]; exact h.out i' hi'
    same := ⟨hsame.1.trans h.same.1, hsame.2.1.trans h.same.2.1, hsame.2.2.trans h.same.2.2⟩ }

/-- A STEP OF THE STARTER's. -/
theorem Com.step0 (h : Com P ty Wg j0 val Q W0 J gs w t γ d0 x E0) {gs' : Array Goroutine} {a a' : Goroutine} {u : Trace} {d0' : Nat} {E' : Nat → Prop}
    (hz : gs'.size = gs.size) (hoth : (∀ j x, j ≠ 0 → gs[j]? = some x → gs'[j]? = some (woken P a a' w' x)) ∨ (∀ j, j ≠ 0 → gs'[j]? = gs[j]?))
    (hsz : w.heap.size ≤ w'.heap.size) (hkeep : ∀ b, ¬ E0 b → b ≠ Wg → b < w.heap.size → w'.heap[b]? = w.heap[b]?) (hlive : WgLive ty Wg w') (hsame : w'.tape = w.tape ∧ w'.os = w.os ∧ w'.output = w.output)
    (hE : ∀ b, E' b → E0 b ∨ (w.heap.size ≤ b ∧ b < w'.heap.size))
    (hok : ∀ op ∈ u, Ok0 (Cl Q) (OwnF γ.Ew) (RdF γ.F) J op) (hnr : ∀ op ∈ u, ∀ a, op.act ≠ .mark (.release a)) (hlow : ∀ op ∈ u, op.act.low w'.heap.size) (hdeaf : Deaf (t ++ u) 0 = d0') :
    Com P ty Wg j0 val Q W0 J gs' w' (t ++ u) γ d0' x E' := by
  have hg0 : ∀ op ∈ u, op.g = 0 := fun op hop => (hok op hop).1
  have hus : ∀ op ∈ u, op.g ≤ j0 → op.g = 0 ∨ op.act.touch? = none := fun op hop _ => .inl (hg0 op hop)
  have hW : ∀ {b}, ¬ Q b → b ≠ Wg := fun hb e => hb (e ▸ h.hQ)
  have hEw : ∀ i' b, γ.Ew i' b → w'.heap[b]? = w.heap[b]? := fun i' b hb => hkeep b (h.dj.wB i' b hb).2.2 (hW (h.dj.wB i' b hb).2.1) (h.dj.wB i' b hb).1
  have hF : ∀ i' b, γ.F i' b → w'.heap[b]? = w.heap[b]? := fun i' b hb => hkeep b (h.dj.fB i' b hb).2.2.1 (hW (h.dj.fB i' b hb).2.1) (h.dj.fB i' b hb).1
  exact {
    size := hz.trans h.size
    hj := h.hj
    wk := fun i' hi' => by
      obtain ⟨y, hy, hs⟩ := h.wk i' hi'
      refine ⟨y, ?_, hs.rely ⟨⟨fun b hb => hEw i' b hb, hsz⟩, hlive, fun b hb => (hF i' b hb).trans (h.inv i' hi' b hb)⟩⟩
      rcases hoth with ho | ho
      · have := ho (i' + 1) y (by omega) hy
        rw [this, hs.woken (h.invW hi')]
      · rw [ho (i' + 1) (by omega)]; exact hy
    live := hlive
    inv := fun i' hi' b hb => (hF i' b hb).trans (h.inv i' hi' b hb)
    invx := fun b hb => (hkeep b (h.dj.zB b hb).2.2.1 (hW (h.dj.zB b hb).2.1) (h.dj.zB b hb).1).trans (h.invx b hb)
    ct := h.ct.app0 h.dj.apart hok
    norel := fun a => (h.norel a).app fun op hop => hnr op hop a
    deaf0 := hdeaf
    deafW := fun i' hi' => (Deaf_other t (by omega) _ hg0).trans (h.deafW i' hi')
    seen := fun op hop => (Array.mem_append.1 hop).elim (fun x => MemAct.low_mono hsz (h.seen op x)) (hlow op)
    old := h.old
    rel := fun i' h0 hi' hst => by
      obtain ⟨r, hr⟩ := h.rel i' h0 hi' hst
      exact ⟨r, hr.appNot fun op hop => by have := hg0 op hop; omega⟩
    known := known_app h.known hus
    over := over_app h.over hus
    has := fun i' h0 hi' hst => (hEw i' _ (h.cbE i' h0 hi')).trans (h.has i' h0 hi' hst)
    cbE := h.cbE
    cbs := h.cbs
    len := h.len
    hQ := h.hQ
    dj := h.dj.grow0 hsz hE
    out := h.out
    same := ⟨hsame.1.trans h.same.1, hsame.2.1.trans h.same.2.1, hsame.2.2.trans h.same.2.2⟩ }

/-- THE go STATEMENT: worker number J is started. -/
theorem Com.spawn (h : Com P ty Wg j0 val Q W0 J gs w t γ 0 x E0) {a' child : Goroutine} {ox oy : MemOp} {c : Nat} {Fk : Nat → Prop} {κ' : Rk} (h0 : 0 < gs.size) (hx : ox.g = 0 ∧ ox.act = .go (J + 1)) (hy : oy.g = J + 1 ∧ oy.act = .start)
    (hc : E0 c) (hF : ∀ b, Fk b → (E0 b ∧ b ≠ c) ∨ x.Z b)
    (hw : WayR P false Fk (InvW ty Wg Fk w) (SR0 P ty Wg Fk w c (val J)) κ' (fun b => b = c) child w) :
    Com P ty Wg j0 val Q W0 (J + 1) ((gs.setIfInBounds 0 a').push child) w (t ++ #[ox, oy]) { D := upd γ.D J ⟨7, 0, 0⟩, κ := upd γ.κ J κ', Ew := upd γ.Ew J (fun b => b = c), F := upd γ.F J Fk, Ws := upd γ.Ws J w, cb := upd γ.cb J c } 0
      ⟨x.cbs ++ [c], fun b => x.Z b ∨ Fk b, w⟩ (fun b => E0 b ∧ b ≠ c ∧ ¬ Fk b) := by
  have hm : ∀ op ∈ #[ox, oy], op = ox ∨ op = oy := by intro op hop; simpa using hop
  have hst : ∀ op ∈ #[ox, oy], op.act ≠ .mark .disable ∧ op.act ≠ .mark .enable := by
    intro op hop
    rcases hm op hop with rfl | rfl
    · rw [hx.2]; exact ⟨by simp, by simp⟩
    · rw [hy.2]; exact ⟨by simp, by simp⟩
  have hnt : ∀ op ∈ #[ox, oy], op.act.touch? = none := by
    intro op hop
    rcases hm op hop with rfl | rfl
    · rw [hx.2]; rfl
    · rw [hy.2]; rfl
  have hus : ∀ op ∈ #[ox, oy], op.g ≤ j0 → op.g = 0 ∨ op.act.touch? = none := fun op hop _ => .inr (hnt op hop)
  have hout := h.out J (Nat.le_refl _)
  have hdj := h.dj.spawn (j := J) hout.1 hc hF
  have hct : CT (Cl Q) (OwnF (upd γ.Ew J (fun b => b = c))) (RdF (upd γ.F J Fk)) t J := by
    refine ct_reown h.ct (fun k _ kj l hl => ?_) (fun k _ kj l hl => .inl ?_) (fun k _ kj l => ⟨fun ⟨i, e, hb⟩ => ?_, fun ⟨i, e, hb⟩ => ?_⟩)
    · obtain ⟨i, e, hb⟩ := hl
      exact ⟨i, e, by rw [upd_ne _ _ (by omega)]; exact hb⟩
    · obtain ⟨i, e, hb⟩ := hl
      exact ⟨i, e, by rw [upd_ne _ _ (by omega)] at hb; exact hb⟩
    · exact ⟨i, e, by rw [upd_ne _ _ (by omega)] at hb; exact hb⟩
    · exact ⟨i, e, by rw [upd_ne _ _ (by omega)]; exact hb⟩
  have hJ := h.hj
  exact {
    size := by simp [h.size]
    hj := by omega
    wk := fun i hi => by
      rcases Nat.lt_or_ge i J with hlt | hge
      · obtain ⟨g, hg, hs⟩ := h.wk i hlt
        refine ⟨g, ?_, ?_⟩
        · rw [Array.getElem?_push_lt (by simp [h.size]; omega), ← Array.getElem?_eq_getElem, Array.getElem?_setIfInBounds_ne (by omega)]
          exact hg
        · simp only [upd_ne _ _ (show i ≠ J by omega)]; exact hs
      · obtain rfl : i = J := by omega
        refine ⟨child, ?_, ?_⟩
        · rw [show i + 1 = (gs.setIfInBounds 0 a').size by simp [h.size], Array.getElem?_push_size]
        · simp only [upd_same]; exact .r0 hw
    live := h.live
    inv := fun i hi b hb => by
      rcases Nat.lt_or_ge i J with hlt | hge
      · simp only [upd_ne _ _ (show i ≠ J by omega)] at hb ⊢; exact h.inv i hlt b hb
      · obtain rfl : i = J := by omega
        simp only [upd_same]
    invx := fun _ _ => rfl
    ct := hct.fork hdj.apart hx hy h.deaf0
    norel := fun a => (h.norel a).app fun op hop => by
      rcases hm op hop with rfl | rfl
      · rw [hx.2]; simp
      · rw [hy.2]; simp
    deaf0 := (Deaf_still t 0 _ hst).trans h.deaf0
    deafW := fun i hi => by
      rw [Deaf_still t _ _ hst]
      rcases Nat.lt_or_ge i J with hlt | hge
      · simp only [upd_ne _ _ (show i ≠ J by omega)]; exact h.deafW i hlt
      · obtain rfl : i = J := by omega
        simp only [upd_same]
        exact Deaf_absent fun a op ha e => by have := h.ct.gs a op ha; omega
    seen := fun op hop => (Array.mem_append.1 hop).elim (h.seen op) fun x => by
      rcases hm op x with rfl | rfl
      · rw [hx.2]; trivial
      · rw [hy.2]; trivial
    old := fun i hi => by simp only [upd_ne _ _ (show i ≠ J by omega)]; exact h.old i hi
    rel := fun i hi0 hi hs => by
      rcases Nat.lt_or_ge i J with hlt | hge
      · simp only [upd_ne _ _ (show i ≠ J by omega)] at hs
        obtain ⟨r, hr⟩ := h.rel i hi0 hlt hs
        refine ⟨r, hr.appNot fun op hop => ?_⟩
        rcases hm op hop with rfl | rfl
        · rw [hx.1]; omega
        · rw [hy.1]; omega
      · obtain rfl : i = J := by omega
        simp only [upd_same] at hs
        omega
    known := known_app h.known hus
    over := over_app h.over hus
    has := fun i hi0 hi hs => by
      rcases Nat.lt_or_ge i J with hlt | hge
      · simp only [upd_ne _ _ (show i ≠ J by omega)] at hs ⊢; exact h.has i hi0 hlt hs
      · obtain rfl : i = J := by omega
        simp only [upd_same] at hs
        omega
    cbE := fun i hi0 hi => by
      rcases Nat.lt_or_ge i J with hlt | hge
      · simp only [upd_ne _ _ (show i ≠ J by omega)]; exact h.cbE i hi0 hlt
      · obtain rfl : i = J := by omega
        simp only [upd_same]
    cbs := fun i y hy' => by
      have hl := h.len
      rcases Nat.lt_or_ge i x.cbs.length with hlt | hge
      · rw [List.getElem?_append_left hlt] at hy'
        obtain ⟨h1, h2⟩ := h.cbs i y hy'
        exact ⟨by omega, by show y = upd γ.cb J c (j0 + i); rw [upd_ne _ _ (by omega)]; exact h2⟩
      · rw [List.getElem?_append_right hge] at hy'
        have : i - x.cbs.length = 0 := by
          rcases Nat.eq_zero_or_pos (i - x.cbs.length) with h0 | h0
          · exact h0
          · rw [List.getElem?_eq_none (by simp; omega)] at hy'; cases hy'
        rw [this] at hy'
        simp at hy'
        have e : j0 + i = J := by omega
        exact ⟨by omega, by show y = upd γ.cb J c (j0 + i); rw [e, upd_same]; exact hy'.symm⟩
    len := by have := h.len; simp; omega
    hQ := h.hQ
    dj := hdj
    out := fun i hi => by simp only [upd_ne _ _ (show i ≠ J by omega)]; exact h.out i (by omega)
    same := h.same }
end
end Go.Proofs.Ytjbpaejjpamcpaa.Sim
/- Workers and their starter: the measure; the invariant; a worker's step keeps it and lowers the measure. No program in sight. -/
namespace Go.Proofs.Ytjbpaejjpamcpaa.Sim
set_option linter.unusedSimpArgs false
set_option linter.unusedVariables false
open Go Go.Conc
open Go.ConcN (WgLive CTag WD CT Apart OkW Ok0 RelBy upd upd_same upd_ne sumTo sumTo_upd Deaf_still Deaf_absent phi Vc Ssum Fsum cnt isOpen isW3 isFin pend OpenSt AllQuit phi_mono phi_retag Vc_le Vc_upd le_sumTo others_uncounted exists_counted)
open Go.ConcR (KK WgAt stA smA rd wr Bk)

/-! ### the measure -/
/-- One of the first n ranks falls; the others stand. -/
def RkP (n : Nat) (f' f : Nat → Rk) : Prop := ∃ i, i < n ∧ Rk.lt (f' i) (f i) ∧ ∀ j, j ≠ i → f' j = f j
theorem rkP_acc : ∀ (n : Nat) (f : Nat → Rk), Acc (RkP n) f
  | 0, f => ⟨f, fun f' ⟨i, hi, _⟩ => absurd hi (by omega)⟩
  | n + 1, f => by
    suffices H : ∀ a f, f n = a → Acc (RkP (n + 1)) f from H _ f rfl
    intro a
    induction a using Rk.wf.induction with
    | _ a ih =>
      intro f
      have hf := rkP_acc n f
      induction hf with
      | intro f _ ihf =>
        intro ha
        refine ⟨f, fun f' ⟨i, hi, hlt, hoth⟩ => ?_⟩
        by_cases e : i = n
        · subst e; exact ih (f' i) (by rw [← ha]; exact hlt) f' rfl
        · exact ihf f' ⟨i, by omega, hlt, hoth⟩ (by rw [hoth n (Ne.symm e)]; exact ha)
abbrev Mu := Nat × Nat × (Nat → Rk) × Nat × Rk
abbrev Lt5 (N : Nat) : Mu → Mu → Prop := Prod.Lex (· < ·) (Prod.Lex (· < ·) (Prod.Lex (RkP N) (Prod.Lex (· < ·) Rk.lt)))
theorem lt5_wf (N : Nat) : WellFounded (Lt5 N) :=
  (Prod.lex ⟨_, Nat.lt_wfRel.wf⟩ (Prod.lex ⟨_, Nat.lt_wfRel.wf⟩ (Prod.lex ⟨_, ⟨rkP_acc N⟩⟩ (Prod.lex ⟨_, Nat.lt_wfRel.wf⟩ ⟨_, Rk.wf⟩)))).wf

section
variable (P : Program) (ty : TypeId) (Wg N j0 : Nat) (val : Nat → Value) (Anch : St) (AnchW : Xs → St) (Q : Nat → Prop) (W0 : World)
def mu (J : Nat) (γ : Gh) (tag : CTag) (f0 : Nat) (κ0 : Rk) : Mu := (phi N (Vc J γ.D) tag + Ssum J γ.D, Fsum J γ.D, γ.κ, f0, κ0)
def PInv (μ : Mu) (m : Machine) (t : Trace) : Prop :=
  ∃ (gs : Array Goroutine) (w : World) (sl : Option (Nat × Nat)) (J : Nat) (γ : Gh) (tag : CTag) (f0 d0 : Nat) (κ0 : Rk) (x : Xs) (E0 : Nat → Prop) (a : Goroutine) (st sm : Int),
    m = crowd gs w sl ∧ gs[0]? = some a ∧ CS P ty Wg N j0 val Anch AnchW tag J f0 d0 κ0 x E0 a w ∧ Com P ty Wg j0 val Q W0 J gs w t γ d0 x E0 ∧ WgAt ty Wg w st sm ∧ Go.ConcN.Mode J γ.D tag st sm ∧ μ = mu N J γ tag f0 κ0
end

section
variable {P : Program} {ty : TypeId} {Wg N j0 : Nat} {val : Nat → Value} {Anch : St} {AnchW : Xs → St} {Q : Nat → Prop} {W0 : World} {gs : Array Goroutine} {w w' : World} {sl : Option (Nat × Nat)} {J : Nat} {γ : Gh} {tag : CTag} {f0 d0 : Nat} {κ0 : Rk} {x : Xs} {E0 : Nat → Prop}
  {a : Goroutine} {t : Trace} {st sm : Int}

theorem Com.stat (h : Com P ty Wg j0 val Q W0 J gs w t γ d0 x E0) (hAr : ∀ x E g w, AnchW x E g w → g.status = .running) (ha : gs[0]? = some a) (hcs : CS P ty Wg N j0 val Anch AnchW tag J f0 d0 κ0 x E0 a w) :
    ∀ g ∈ gs, g.status = .running ∨ g.status = .finished ∨ (g.status = .blocked ∧ g.offers = none) := by
  intro g hg
  obtain ⟨i, hi⟩ := Array.mem_iff_getElem?.1 hg
  cases i with
  | zero =>
    rw [ha] at hi; cases hi
    rcases hcs.status hAr h.invX with ⟨hs, _⟩ | ⟨hs, ho, _⟩
    · exact .inl hs
    · exact .inr (.inr ⟨hs, ho⟩)
  | succ i =>
    have hlt : i < J := by have := (Array.getElem?_eq_some_iff.1 hi).1; rw [h.size] at this; omega
    obtain ⟨g', hg', hs⟩ := h.wk i hlt
    rw [hi] at hg'; cases hg'
    rcases hs.status (h.invW hlt) with hs | hs
    · exact .inl hs
    · exact .inr (.inl hs)
theorem Com.off (h : Com P ty Wg j0 val Q W0 J gs w t γ d0 x E0) (hAr : ∀ x E g w, AnchW x E g w → g.status = .running) (ha : gs[0]? = some a) (hcs : CS P ty Wg N j0 val Anch AnchW tag J f0 d0 κ0 x E0 a w) :
    ∀ g ∈ gs, g.status = .blocked → g.offers = none := by
  intro g hg hb
  rcases h.stat hAr ha hcs g hg with hs | hs | ⟨_, ho⟩
  · rw [hs] at hb; cases hb
  · rw [hs] at hb; cases hb
  · exact ho

/-- WHATEVER STEP OF WORKER NUMBER i. -/
theorem workerStep (hAr : ∀ x E g w, AnchW x E g w → g.status = .running) (ha : gs[0]? = some a) (hcs : CS P ty Wg N j0 val Anch AnchW tag J f0 d0 κ0 x E0 a w) (hcom : Com P ty Wg j0 val Q W0 J gs w t γ d0 x E0)
    {i : Nat} (hi : i < J) {gs' : Array Goroutine} {g g' : Goroutine} {u : Trace} {s' m' dd' : Nat} {κ' : Rk} {E' : Nat → Prop} {st' sm' : Int}
    (hrun : runT P (crowd gs w sl) (i + 1) = (.next (crowd gs' w' sl), u)) (hz : gs'.size = gs.size) (hg' : gs'[i + 1]? = some g')
    (hoth : (∀ j x, j ≠ i + 1 → gs[j]? = some x → gs'[j]? = some (woken P g g' w' x)) ∨ (∀ j, j ≠ i + 1 → gs'[j]? = gs[j]?))
    (hsz : w.heap.size ≤ w'.heap.size) (hkeep : ∀ b, ¬ γ.Ew i b → b ≠ Wg → b < w.heap.size → w'.heap[b]? = w.heap[b]?) (hsame : w'.tape = w.tape ∧ w'.os = w.os ∧ w'.output = w.output)
    (hE : ∀ b, E' b → γ.Ew i b ∨ (w.heap.size ≤ b ∧ b < w'.heap.size)) (hE' : ∀ b, γ.Ew i b → E' b)
    (hs' : WS P ty Wg (γ.F i) (γ.Ws i) (γ.cb i) (val i) s' m' dd' κ' E' g' w')
    (hok : ∀ op ∈ u, OkW (Cl Q) (OwnF (upd γ.Ew i E')) (RdF γ.F) (i + 1) op) (hnr : ∀ op ∈ u, ∀ a, op.act ≠ .mark (.release a)) (hlow : ∀ op ∈ u, op.act.low w'.heap.size)
    (hdeaf : Deaf (t ++ u) (i + 1) = dd') (hrel : j0 ≤ i → s' ≤ 6 → ∃ r, RelQ (Cl Q) (stA Wg) (t ++ u) (i + 1) r) (hhas : j0 ≤ i → s' ≤ 6 → w'.heap[γ.cb i]? = some (full1 (val i)))
    (hold : i < j0 → s' = 1 ∧ ∀ op ∈ u, op.act.touch? = none) (hwg : WgAt ty Wg w' st' sm')
    (hmode : ∀ tag', (tag' = tag ∨ (tag = .blk ∧ tag' = .w3)) → ((∀ j x, j ≠ i + 1 → gs[j]? = some x → gs'[j]? = some (woken P g g' w' x)) → mayWake P g = true → g'.status = .running → tag' ≠ .blk) → Go.ConcN.Mode J (upd γ.D i ⟨s', m', dd'⟩) tag' st' sm')
    (hlt : (s' < (γ.D i).stage ∧ cnt ⟨s', m', dd'⟩ ≤ cnt (γ.D i)) ∨ (s' = (γ.D i).stage ∧ m' < (γ.D i).fuel) ∨ (s' = (γ.D i).stage ∧ m' = (γ.D i).fuel ∧ Rk.lt κ' (γ.κ i))) :
    ∃ m₁ ops μ', runT P (crowd gs w sl) (i + 1) = (.next m₁, ops) ∧ Lt5 N μ' (mu N J γ tag f0 κ0) ∧ PInv P ty Wg N j0 val Anch AnchW Q W0 μ' m₁ (t ++ ops) := by
  have hcom' := hcom.stepW hi hz hg' hoth hsz hkeep ⟨_, _, hwg⟩ hsame hE hE' hs' hok hnr hlow hdeaf hrel hhas hold
  have hr0 : Rely E0 w w' := ⟨fun b hb => hkeep b (fun hb' => (hcom.dj.wB i b hb').2.2 hb) (fun e => (hcom.dj.eB b hb).2 (e ▸ hcom.hQ)) (hcom.dj.eB b hb).1, hsz⟩
  obtain ⟨tag', f', κ0', a', ha', hcs', htag, hwk⟩ : ∃ tag' f' κ0' a', gs'[0]? = some a' ∧ CS P ty Wg N j0 val Anch AnchW tag' J f' d0 κ0' x E0 a' w' ∧ (tag' = tag ∨ (tag = .blk ∧ tag' = .w3)) ∧
      ((∀ j x, j ≠ i + 1 → gs[j]? = some x → gs'[j]? = some (woken P g g' w' x)) → mayWake P g = true → g'.status = .running → tag' ≠ .blk) := by
    by_cases hA : ∀ j x, j ≠ i + 1 → gs[j]? = some x → gs'[j]? = some (woken P g g' w' x)
    · obtain ⟨tag', f', κ0', h1, h2, h3⟩ := hcs.wokenBy hAr hr0 hcom'.invX g g'
      exact ⟨tag', f', κ0', _, hA 0 a (by omega) ha, h1, h2, fun _ => h3⟩
    · refine ⟨tag, f0, κ0, a, ?_, hcs.rely hr0, .inl rfl, fun h => absurd h hA⟩
      rcases hoth with ho | ho
      · exact absurd ho hA
      · rw [ho 0 (by omega)]; exact ha
  refine ⟨_, _, _, hrun, ?_, gs', w', sl, J, _, tag', f', d0, κ0', x, E0, a', st', sm', rfl, ha', hcs', hcom', hwg, hmode tag' htag hwk, rfl⟩
  have e1 := sumTo_upd γ.D (⟨s', m', dd'⟩ : WD) cnt hi
  have e2 := sumTo_upd γ.D (⟨s', m', dd'⟩ : WD) WD.stage hi
  have e3 := sumTo_upd γ.D (⟨s', m', dd'⟩ : WD) WD.fuel hi
  dsimp only at e1 e2 e3
  have hb := hcs.bound
  unfold mu
  simp only [Vc, Ssum, Fsum]
  rcases hlt with ⟨h1, h2⟩ | ⟨h1, h2⟩ | ⟨h1, h2, h3⟩
  · refine Prod.Lex.left _ _ ?_
    have := phi_mono N (v' := sumTo J fun a => cnt (upd γ.D i ⟨s', m', dd'⟩ a)) (v := sumTo J fun a => cnt (γ.D a)) (by omega) tag
    have er := phi_retag N (sumTo J fun a => cnt (upd γ.D i ⟨s', m', dd'⟩ a)) htag
    omega
  · have ec : cnt (⟨s', m', dd'⟩ : WD) = cnt (γ.D i) := by simp only [cnt, h1]
    have ev : (sumTo J fun a => cnt (upd γ.D i ⟨s', m', dd'⟩ a)) = sumTo J fun a => cnt (γ.D a) := by omega
    have es' : (sumTo J fun a => (upd γ.D i ⟨s', m', dd'⟩ a).stage) = sumTo J fun a => (γ.D a).stage := by omega
    rw [ev, es', phi_retag N _ htag]
    exact Prod.Lex.right _ (Prod.Lex.left _ _ (by omega))
  · have ec : cnt (⟨s', m', dd'⟩ : WD) = cnt (γ.D i) := by simp only [cnt, h1]
    have ev : (sumTo J fun a => cnt (upd γ.D i ⟨s', m', dd'⟩ a)) = sumTo J fun a => cnt (γ.D a) := by omega
    have es' : (sumTo J fun a => (upd γ.D i ⟨s', m', dd'⟩ a).stage) = sumTo J fun a => (γ.D a).stage := by omega
    have ef : (sumTo J fun a => (upd γ.D i ⟨s', m', dd'⟩ a).fuel) = sumTo J fun a => (γ.D a).fuel := by omega
    rw [ev, es', ef, phi_retag N _ htag]
    exact Prod.Lex.right _ (Prod.Lex.right _ (Prod.Lex.left _ _ ⟨i, by omega, by rw [upd_same]; exact h3, fun j hj => by rw [upd_ne _ _ hj]⟩))

theorem okW_ev {Own Rd : Nat → Loc → Prop} {Fr E : Nat → Prop} {k : Nat} {fn : FuncId} {pos : String} {es : Array Event} {f : Trace} {B : Nat} (he : ∀ e ∈ es, EvK Fr E e) (hf : ∀ op ∈ f, op.g = k ∧ Cm B op.act)
    (hO : ∀ l, Blk E l → Own k l) (hR : ∀ l, Cl Fr l → Rd k l) : ∀ op ∈ MemOp.ofEvents k fn pos es ++ f, OkW (Cl Q) Own Rd k op := by
  intro op hop
  rcases ofE_cases hop with ⟨e, hee, rfl⟩ | hx
  · refine ⟨rfl, fun y hy => ?_⟩
    rcases (he e hee).touch hy with h | ⟨h, hw⟩
    · exact .inr (.inl (hO _ h))
    · exact .inr (.inr ⟨hR _ h, hw⟩)
  · exact ⟨(hf op hx).1, fun y hy => by rw [(hf op hx).2.touch] at hy; cases hy⟩
theorem nomark_ev {Fr E : Nat → Prop} {k : Nat} {fn : FuncId} {pos : String} {es : Array Event} {f : Trace} {B : Nat} (he : ∀ e ∈ es, EvK Fr E e) (hf : ∀ op ∈ f, op.g = k ∧ Cm B op.act) :
    ∀ op ∈ MemOp.ofEvents k fn pos es ++ f, op.act ≠ .mark .disable ∧ op.act ≠ .mark .enable ∧ ∀ a, op.act ≠ .mark (.release a) := by
  intro op hop
  rcases ofE_cases hop with ⟨e, hee, rfl⟩ | hx
  · obtain ⟨k1, k2, k3⟩ := (he e hee).still
    exact ⟨fun x => k1 (ofEvent_mark_loc x), fun x => k2 (ofEvent_mark_loc x), fun a x => k3 a (ofEvent_mark_loc x)⟩
  · exact ⟨(hf op hx).2.nomark _, (hf op hx).2.nomark _, fun a => (hf op hx).2.nomark _⟩
theorem low_ev {Fr E : Nat → Prop} {k : Nat} {fn : FuncId} {pos : String} {es : Array Event} {f : Trace} {B B' : Nat} (he : ∀ e ∈ es, EvK Fr E e) (hf : ∀ op ∈ f, op.g = k ∧ Cm B op.act) (hB : B ≤ B')
    (hE : ∀ b, E b → b < B') (hF : ∀ b, Fr b → b < B') : ∀ op ∈ MemOp.ofEvents k fn pos es ++ f, op.act.low B' := by
  intro op hop
  rcases ofE_cases hop with ⟨e, hee, rfl⟩ | hx
  · exact (he e hee).low hE hF
  · exact MemAct.low_mono hB (hf op hx).2.low
theorem low_bk {k : Nat} {fn : FuncId} {pos : String} {es : Array Event} {B : Nat} (he : ∀ e ∈ es, Bk Wg e) (hB : Wg < B) : ∀ op ∈ MemOp.ofEvents k fn pos es, op.act.low B := by
  intro op hop
  obtain ⟨e, hee, rfl⟩ := Go.Conc.mem_ofEvents hop
  rcases he e hee with h1 | h1 | ⟨ad, wr, rfl, hb⟩
  · simp only [Go.ConcR.ofEvent_loc_mark h1]; trivial
  · simp only [Go.ConcR.ofEvent_loc_mark h1]; trivial
  · simp only [ofEvent_cell0]; show ad.block < B; rw [hb]; exact hB
theorem norel_bk {k : Nat} {fn : FuncId} {pos : String} {es : Array Event} (he : ∀ e ∈ es, Bk Wg e) : ∀ op ∈ MemOp.ofEvents k fn pos es, ∀ a, op.act ≠ .mark (.release a) := by
  intro op hop a ea
  obtain ⟨e, hee, rfl⟩ := Go.Conc.mem_ofEvents hop
  have := ofEvent_mark_loc ea
  rcases he e hee with h1 | h1 | ⟨ad, wr, rfl, hb⟩
  · rw [h1] at this; cases this
  · rw [h1] at this; cases this
  · cases this
theorem okW_bk {Own Rd : Nat → Loc → Prop} {k : Nat} {fn : FuncId} {pos : String} {es : Array Event} (hQ : Q Wg) (he : ∀ e ∈ es, Bk Wg e) : ∀ op ∈ MemOp.ofEvents k fn pos es, OkW (Cl Q) Own Rd k op := by
  intro op hop
  obtain ⟨e, hee, rfl⟩ := Go.Conc.mem_ofEvents hop
  refine ⟨rfl, fun y hy => ?_⟩
  rcases he e hee with h1 | h1 | ⟨ad, wr, rfl, hb⟩
  · simp only [Go.ConcR.ofEvent_loc_mark h1] at hy; cases hy
  · simp only [Go.ConcR.ofEvent_loc_mark h1] at hy; cases hy
  · simp only [ofEvent_cell0, MemAct.touch?, Option.some.injEq] at hy
    subst hy
    exact .inl ⟨⟨ad, rfl, by rw [hb]; exact hQ⟩, by simp, by simp⟩

theorem Aside.rest {w w' : World} (h : Aside Wg w w') : w.heap.size ≤ w'.heap.size ∧ (∀ b, b ≠ Wg → w'.heap[b]? = w.heap[b]?) ∧ (w'.tape = w.tape ∧ w'.os = w.os ∧ w'.output = w.output) :=
  ⟨Nat.le_of_eq h.size.symm, h.block, h.tape, h.os, h.output⟩

set_option maxHeartbeats 1600000 in
theorem stepWorker (hAr : ∀ x E g w, AnchW x E g w → g.status = .running) (hN : N < 2147483648) (ha : gs[0]? = some a) (hcs : CS P ty Wg N j0 val Anch AnchW tag J f0 d0 κ0 x E0 a w) (hcom : Com P ty Wg j0 val Q W0 J gs w t γ d0 x E0)
    (hwg : WgAt ty Wg w st sm) (hmode : Go.ConcN.Mode J γ.D tag st sm) {i : Nat} (hi : i < J) {g : Goroutine} (hg : gs[i + 1]? = some g) (hrun : g.status = .running) :
    ∃ m₁ ops μ', runT P (crowd gs w sl) (i + 1) = (.next m₁, ops) ∧ Lt5 N μ' (mu N J γ tag f0 κ0) ∧ PInv P ty Wg N j0 val Anch AnchW Q W0 μ' m₁ (t ++ ops) := by
  obtain ⟨g₁, hg₁, hs⟩ := hcom.wk i hi
  obtain rfl : g = g₁ := by rw [hg] at hg₁; exact Option.some.inj hg₁
  have hinv := hcom.invW hi
  have hrf : RI ty Wg (γ.F i) (γ.Ws i) (γ.Ew i) w w := ⟨Rely.refl _ _, hinv⟩
  have hoff := hcom.off hAr ha hcs
  have hlt : i + 1 < gs.size := (Array.getElem?_eq_some_iff.1 hg).1
  have hWgB : Wg < w.heap.size := hcom.dj.qB Wg hcom.hQ
  generalize hst : (γ.D i).stage = s at hs
  generalize hfu : (γ.D i).fuel = m at hs
  generalize hde : (γ.D i).deaf = dd at hs
  generalize hka : γ.κ i = κ at hs
  have hb := hcs.bound
  have hVj := Vc_le J γ.D
  have hdk : Deaf t (i + 1) = dd := by rw [hcom.deafW i hi, hde]
  have hold1 : i < j0 → s = 1 := fun h => by rw [← hst]; exact hcom.old i h
  have oth : ∀ {g' : Goroutine} {w' : World}, ∀ j x, j ≠ i + 1 → gs[j]? = some x → ((gs.map (woken P g g' w')).setIfInBounds (i + 1) g')[j]? = some (woken P g g' w' x) := fun j x hj hx => by
    rw [Array.getElem?_setIfInBounds_ne (Ne.symm hj), Array.getElem?_map, hx]; rfl
  -- A STEP OF THE LIBRARY's BOOKKEEPING: at most the group's block turns
  have bookG : ∀ {g' : Goroutine} {w' : World} {es : Array Event} {s' m' dd' : Nat} {st' sm' : Int}, stepG P false g w = .go g' w' es → Aside Wg w w' → WgAt ty Wg w' st' sm' → (∀ e ∈ es, Bk Wg e) →
      (∀ jx e, es[jx]? = some e → (MemAct.ofEvent e).touch? = none ∨ 0 < deafBehind dd (es.extract 0 jx)) → WS P ty Wg (γ.F i) (γ.Ws i) (γ.cb i) (val i) s' m' dd' κ (γ.Ew i) g' w' → deafBehind dd es = dd' → s ≤ 6 →
      (s = 1 → s' = 1 ∧ ∀ e ∈ es, (MemAct.ofEvent e).touch? = none) →
      (∀ tag', (tag' = tag ∨ (tag = .blk ∧ tag' = .w3)) → (mayWake P g = true → g'.status = .running → tag' ≠ .blk) → Go.ConcN.Mode J (upd γ.D i ⟨s', m', dd'⟩) tag' st' sm') → ((s' < s ∧ cnt ⟨s', m', dd'⟩ ≤ cnt (γ.D i)) ∨ (s' = s ∧ m' < m)) →
      ∃ m₁ ops μ', runT P (crowd gs w sl) (i + 1) = (.next m₁, ops) ∧ Lt5 N μ' (mu N J γ tag f0 κ0) ∧ PInv P ty Wg N j0 val Anch AnchW Q W0 μ' m₁ (t ++ ops) := by
    intro g' w' es s' m' dd' st' sm' hgo hAs hwg' hbk hd hs' hdd h6 hquit hmode' hlt'
    obtain ⟨k1, k2, k3⟩ := Aside.rest hAs
    have hrunT := runT_crowd_go (P := P) (sl := sl) (i := i + 1) hg (by simpa using hgo)
    refine workerStep (κ' := κ) hAr ha hcs hcom hi hrunT (by simp) (by simp [hlt]) (.inl oth) k1 (fun b _ hb _ => k2 b hb) k3 (fun b hb => .inl hb) (fun b hb => hb) hs' (okW_bk hcom.hQ hbk) (norel_bk hbk) (low_bk hbk (Nat.lt_of_lt_of_le hWgB k1))
      (by rw [Deaf_own, hdk]; exact hdd) (fun h0 _ => let ⟨r, hr⟩ := hcom.rel i h0 hi (by omega); ⟨r, hr.book hcom.hQ hdk _ _ hbk hd⟩) (fun h0 _ => ?_) (fun h0 => ?_) hwg' (fun tag' ht hw => hmode' tag' ht (hw oth)) ?_
    · rw [k2 (γ.cb i) (fun e => (hcom.dj.wB i _ (hcom.cbE i h0 hi)).2.1 (by rw [e]; exact hcom.hQ))]; exact hcom.has i h0 hi (by omega)
    · obtain ⟨h1, h2⟩ := hquit (hold1 h0)
      exact ⟨h1, fun op hop => by obtain ⟨e, he, rfl⟩ := Go.Conc.mem_ofEvents hop; exact h2 e he⟩
    · rw [hst, hfu]; rcases hlt' with h | h
      · exact .inl h
      · exact .inr (.inl h)
  have book : ∀ {g' : Goroutine} {w' : World} {es : Array Event} {s' m' dd' : Nat} {st' sm' : Int}, stepG P false g w = .go g' w' es → Aside Wg w w' → WgAt ty Wg w' st' sm' → (∀ e ∈ es, Bk Wg e) →
      (∀ jx e, es[jx]? = some e → (MemAct.ofEvent e).touch? = none ∨ 0 < deafBehind dd (es.extract 0 jx)) → WS P ty Wg (γ.F i) (γ.Ws i) (γ.cb i) (val i) s' m' dd' κ (γ.Ew i) g' w' → deafBehind dd es = dd' → s ≤ 6 →
      (s = 1 → s' = 1 ∧ ∀ e ∈ es, (MemAct.ofEvent e).touch? = none) → Go.ConcN.Mode J (upd γ.D i ⟨s', m', dd'⟩) tag st' sm' → ((s' < s ∧ cnt ⟨s', m', dd'⟩ ≤ cnt (γ.D i)) ∨ (s' = s ∧ m' < m)) →
      ∃ m₁ ops μ', runT P (crowd gs w sl) (i + 1) = (.next m₁, ops) ∧ Lt5 N μ' (mu N J γ tag f0 κ0) ∧ PInv P ty Wg N j0 val Anch AnchW Q W0 μ' m₁ (t ++ ops) :=
    fun hgo hAs hwg' hbk hd hs' hdd h6 hq hmode' hlt => bookG hgo hAs hwg' hbk hd hs' hdd h6 hq (fun _ ht _ => hmode'.retag ht) hlt
  -- AN IDLE STEP BEHIND THE RELEASE: nothing turns, nothing is listed
  have idle : ∀ {g' : Goroutine} {m' : Nat}, stepG P false g w = .go g' w #[] → WS P ty Wg (γ.F i) (γ.Ws i) (γ.cb i) (val i) s m' dd κ (γ.Ew i) g' w → m' < m → s ≤ 6 → s ≠ 1 →
      ∃ m₁ ops μ', runT P (crowd gs w sl) (i + 1) = (.next m₁, ops) ∧ Lt5 N μ' (mu N J γ tag f0 κ0) ∧ PInv P ty Wg N j0 val Anch AnchW Q W0 μ' m₁ (t ++ ops) := by
    intro g' m' hgo hs' hm h6 h1
    exact book hgo (.refl Wg w) hwg (by simp) (by simp) hs' rfl h6 (fun h => absurd h h1) (by have := hmode.same (i := i) m' dd; rwa [hst] at this) (.inr ⟨rfl, hm⟩)
  cases hs with
  | r0 h =>
    have hj : j0 ≤ i := Nat.le_of_not_lt fun h' => absurd (hold1 h') (by decide)
    cases κ with
    | leaf =>
      obtain ⟨_, hEc, hhas, g', hgo, m₂, hk⟩ := h w (Rely.refl _ _) hinv
      have hrunT := runT_crowd_go (P := P) (sl := sl) (i := i + 1) hg (by simpa using hgo)
      have hop : ∀ op ∈ MemOp.ofEvents (i + 1) g.frame.fn g.frame.place #[Go.ConcR.mk (.releaseMerge (stA Wg))], op.g = i + 1 ∧ op.act = .mark (.releaseMerge (stA Wg)) := fun op hop => by
        obtain ⟨e, he, rfl⟩ := Go.Conc.mem_ofEvents hop
        simp at he; subst he; exact ⟨rfl, rfl⟩
      refine workerStep (κ' := .leaf) hAr ha hcs hcom hi hrunT (by simp) (by simp [hlt]) (.inl oth) (Nat.le_refl _) (fun _ _ _ _ => rfl) ⟨rfl, rfl, rfl⟩ (fun b hb => .inl hb) (fun b hb => hb) (.k1 hk)
        (fun op ho => ⟨(hop op ho).1, fun y hy => by rw [(hop op ho).2] at hy; cases hy⟩) (fun op ho a => by rw [(hop op ho).2]; simp) (fun op ho => by rw [(hop op ho).2]; exact hWgB)
        (by rw [Deaf_own, hdk]; rfl) (fun _ _ => ⟨t.size, RelQ.new hdk _ _⟩) (fun _ _ => hhas) (fun h' => absurd h' (by omega)) hwg (fun _ ht _ => (hmode.counted hi (by omega) (.inl rfl) _ _).retag ht) (.inl ⟨by omega, by simp [cnt, hst]⟩)
    | node f =>
      obtain ⟨_, hstep⟩ := h
      obtain ⟨g', w', es, hmv, hgu, hi', hw'⟩ := hstep w (Rely.refl _ _) hinv
      obtain ⟨gs', f', hrunT, hz, hg', hoth, hcm⟩ := runT_mv (sl := sl) (i := i + 1) hg (by simpa using hmv) hoff
      have hEB : ∀ b, grown (γ.Ew i) w w' b → b < w'.heap.size := fun b hb => hb.elim (fun h => Nat.lt_of_lt_of_le (hcom.dj.wB i b h).1 hgu.size) And.right
      have hnm := nomark_ev (fn := g.frame.fn) (pos := g.frame.place) hgu.ev hcm
      refine workerStep (κ' := f w) hAr ha hcs hcom hi hrunT hz hg' hoth hgu.size (fun b hb _ hlt => hgu.other b hb hlt) ⟨hgu.tape, hgu.os, hgu.output⟩ (fun b hb => hb) (fun b hb => .inl hb) (.r0 hw')
        (okW_ev hgu.ev hcm (fun l hl => (ownF_upd _ _).2 (by rw [if_pos rfl]; exact hl)) (fun l hl => ⟨i, rfl, hl⟩)) (fun op hop => (hnm op hop).2.2) (low_ev hgu.ev hcm hgu.size hEB (fun b hb => Nat.lt_of_lt_of_le (hcom.dj.fB i b hb).1 hgu.size))
        (by rw [Deaf_still t _ _ fun op hop => ⟨(hnm op hop).1, (hnm op hop).2.1⟩, hdk]) (fun _ h => absurd h (by omega)) (fun _ h => absurd h (by omega)) (fun h' => absurd h' (by omega))
        (hwg.of_block (hgu.other Wg (fun hb => (hcom.dj.wB i _ hb).2.1 hcom.hQ) hWgB)) (fun _ ht _ => Go.ConcN.Mode.retag (by have := hmode.same (i := i) 0 0; rwa [hst] at this) ht) (.inr (.inr ⟨hst.symm, hfu.symm, by rw [hka]; exact ⟨w, rfl⟩⟩))
  | k1 h =>
    rcases Goes.cases h with hstop | ⟨m', rfl, hstep⟩
    · obtain ⟨_, g', hgo, m₂, hk⟩ := hstop w hrf
      exact book hgo (.refl Wg w) hwg (by intro e he; simp at he; subst he; exact .inl rfl) (by intro jx e he; exact .inl (by have := Array.mem_of_getElem? he; simp at this; subst this; rfl)) (.d1 hk) rfl (by omega) (fun h => absurd h (by decide))
        (hmode.counted hi (by omega) (.inr rfl) _ _) (.inl ⟨by omega, by simp [cnt, hst]⟩)
    · obtain ⟨g', w', es, hgo, ⟨rfl, rfl⟩, hg'⟩ := hstep w hrf
      exact idle hgo (.k1 hg') (by omega) (by omega) (by omega)
  | d1 h =>
    rcases Goes.cases h with hstop | ⟨m', rfl, hstep⟩
    · obtain ⟨_, hall⟩ := hstop w hrf
      have hc1 : cnt (γ.D i) = 1 := by simp [cnt, hst]
      have hV1 : 1 ≤ Vc J γ.D := by have := le_sumTo (f := fun x => cnt (γ.D x)) hi; simp only [Vc]; omega
      have bk2 : ∀ e ∈ #[rd (stA Wg), wr (stA Wg)], Bk Wg e := by intro e he; simp at he; rcases he with rfl | rfl <;> exact Go.ConcN.bk_cell _ _ rfl
      have df2 : ∀ jx e, (#[rd (stA Wg), wr (stA Wg)] : Array Event)[jx]? = some e → (MemAct.ofEvent e).touch? = none ∨ 0 < deafBehind 1 ((#[rd (stA Wg), wr (stA Wg)] : Array Event).extract 0 jx) := by
        intro jx e he
        match jx, he with
        | 0, _ => exact .inr (by simp [deafBehind])
        | 1, _ => exact .inr (by simp [deafBehind, rd])
        | jx + 2, he => simp at he
      have hq0 : ∀ q, cnt (⟨1, q, 1⟩ : WD) = 0 := fun _ => rfl
      have opq : ∀ q, OpenSt J γ.D → OpenSt J (upd γ.D i ⟨1, q, 1⟩) := fun q h a ha => by
        by_cases e : a = i
        · subst e; rw [upd_same]; simp
        · rw [upd_ne _ _ e]; exact h a ha
      cases hmode with
      | opn h1 h2 h3 =>
        obtain ⟨v, hv⟩ : ∃ v, Vc J γ.D + pend tag = v + 1 := ⟨Vc J γ.D + pend tag - 1, by omega⟩
        rw [hv] at hwg
        have hw1 : WgAt ty Wg w (((v : Nat) + 1) * KK + ((0 : Nat) : Int)) 0 := by simpa using hwg
        obtain ⟨g', hgo, _, hq⟩ := hall v 0 (by omega) (by omega) hw1
        obtain ⟨q, hq⟩ := hq (by omega)
        have hv' : Vc J (upd γ.D i ⟨1, q, 1⟩) + pend tag = v := by have := Vc_upd γ.D (⟨1, q, 1⟩ : WD) hi; have := hq0 q; omega
        refine book hgo (aside_setCell w (stA Wg) _) (hwg.setSt _) bk2 df2 (.quit hq) rfl (by omega) (fun h => absurd h (by decide)) ?_ (.inl ⟨by omega, by simp [cnt]⟩)
        have e : ((v : Nat) : Int) * KK + ((0 : Nat) : Int) = ((Vc J (upd γ.D i ⟨1, q, 1⟩) + pend tag : Nat) : Int) * KK := by rw [hv']; simp
        rw [e]
        exact .opn h1 (opq q h2) (fun vs ev => by have := h3 vs ev; omega)
      | reg h1 h2 h3 =>
        obtain ⟨v, hv⟩ : ∃ v, Vc J γ.D = v + 1 := ⟨Vc J γ.D - 1, by omega⟩
        rw [hv] at hwg
        have hp : pend tag = 0 := by cases tag <;> first | rfl | exact h1.elim
        have hw1 : WgAt ty Wg w (((v : Nat) + 1) * KK + ((1 : Nat) : Int)) 0 := by simpa using hwg
        obtain ⟨g', hgo, hl, hq⟩ := hall v 1 (by omega) (by omega) hw1
        by_cases hv0 : v = 0
        · subst hv0
          obtain ⟨m₂, hk⟩ := hl ⟨rfl, rfl⟩
          refine book hgo (aside_setCell w (stA Wg) _) (hwg.setSt _) bk2 df2 (.d2 hk) rfl (by omega) (fun h => absurd h (by decide)) ?_ (.inl ⟨by omega, by simp [cnt]⟩)
          have hoth : ∀ a, a < J → a ≠ i → (γ.D a).stage = 1 := fun a ha e => by
            have c0 := others_uncounted hi hv hc1 a ha e
            have := h2 a ha
            simp only [cnt] at c0
            split at c0 <;> omega
          have := Go.ConcN.Mode.last (j := J) (D := upd γ.D i ⟨4, m₂, 1⟩) (tag := tag) i h1 hi (by rw [upd_same]; simp) (fun a ha e => by rw [upd_ne _ _ e]; exact hoth a ha e)
          rw [upd_same] at this
          simpa using this
        · obtain ⟨q, hq⟩ := hq (by omega)
          have hv' : Vc J (upd γ.D i ⟨1, q, 1⟩) = v := by have := Vc_upd γ.D (⟨1, q, 1⟩ : WD) hi; have := hq0 q; omega
          refine book hgo (aside_setCell w (stA Wg) _) (hwg.setSt _) bk2 df2 (.quit hq) rfl (by omega) (fun h => absurd h (by decide)) ?_ (.inl ⟨by omega, by simp [cnt]⟩)
          have e : ((v : Nat) : Int) * KK + ((1 : Nat) : Int) = ((Vc J (upd γ.D i ⟨1, q, 1⟩) : Nat) : Int) * KK + 1 := by rw [hv']; simp
          rw [e]
          exact .reg h1 (opq q h2) (by omega)
      | last L _ h2 h3 h4 =>
        by_cases e : i = L
        · subst e; omega
        · have := h4 i hi e; omega
      | sema h2 => have := h2 i hi; omega
      | fin _ h2 => have := h2 i hi; omega
    · obtain ⟨g', w', es, hgo, ⟨rfl, rfl⟩, hg'⟩ := hstep w hrf
      exact idle hgo (.d1 hg') (by omega) (by omega) (by omega)
  | d2 h =>
    rcases Goes.cases h with hstop | ⟨m', rfl, hstep⟩
    · obtain ⟨_, hx⟩ := hstop w hrf
      obtain ⟨hW3, hoth, rfl, rfl⟩ := hmode.isLast hi (by omega)
      simp only [hst] at hwg
      obtain ⟨g', hgo, m₂, hk⟩ := hx (by simpa using hwg)
      refine book hgo (.refl Wg w) hwg (by intro e he; simp at he; subst he; exact Go.ConcN.bk_cell _ _ rfl) (by intro jx e he; match jx, he with | 0, _ => exact .inr (by simp [deafBehind]) | jx + 1, he => simp at he) (.d3 hk) rfl (by omega) (fun h => absurd h (by decide)) ?_ (.inl ⟨by omega, by simp [cnt]⟩)
      have := Go.ConcN.Mode.last (j := J) (D := upd γ.D i ⟨3, m₂, 1⟩) (tag := tag) i hW3 hi (by rw [upd_same]; simp) (fun a ha e => by rw [upd_ne _ _ e]; exact hoth a ha e)
      rw [upd_same] at this
      simpa using this
    · obtain ⟨g', w', es, hgo, ⟨rfl, rfl⟩, hg'⟩ := hstep w hrf
      exact idle hgo (.d2 hg') (by omega) (by omega) (by omega)
  | d3 h =>
    rcases Goes.cases h with hstop | ⟨m', rfl, hstep⟩
    · obtain ⟨_, hx⟩ := hstop w hrf
      obtain ⟨hW3, hoth, rfl, rfl⟩ := hmode.isLast hi (by omega)
      simp only [hst] at hwg
      obtain ⟨g', hgo, m₂, hk⟩ := hx (by simpa using hwg)
      refine book hgo (aside_setCell w (stA Wg) _) (hwg.setSt 0) (by intro e he; simp at he; subst he; exact Go.ConcN.bk_cell _ _ rfl) (by intro jx e he; match jx, he with | 0, _ => exact .inr (by simp [deafBehind]) | jx + 1, he => simp at he) (.d4 hk) rfl (by omega) (fun h => absurd h (by decide)) ?_ (.inl ⟨by omega, by simp [cnt]⟩)
      have := Go.ConcN.Mode.last (j := J) (D := upd γ.D i ⟨2, m₂, 1⟩) (tag := tag) i hW3 hi (by rw [upd_same]; simp) (fun a ha e => by rw [upd_ne _ _ e]; exact hoth a ha e)
      rw [upd_same] at this
      simpa using this
    · obtain ⟨g', w', es, hgo, ⟨rfl, rfl⟩, hg'⟩ := hstep w hrf
      exact idle hgo (.d3 hg') (by omega) (by omega) (by omega)
  | d4 h =>
    rcases Goes.cases h with hstop | ⟨m', rfl, hstep⟩
    · obtain ⟨_, hmw, hx⟩ := hstop w hrf
      obtain ⟨hW3, hoth, rfl, rfl⟩ := hmode.isLast hi (by omega)
      simp only [hst] at hwg
      obtain ⟨g', hgo, q, hq⟩ := hx (by simpa using hwg)
      have hrun' : g'.status = .running := by
        cases q with
        | zero => exact absurd hq.2 (by decide)
        | succ q => exact hq.elim (fun x => absurd x.2 (by decide)) (fun x => x.1)
      refine bookG hgo (aside_setCell w (smA Wg) _) (hwg.setSm 1) (es := semEvents (smA Wg)) Go.ConcN.bk_sem ?_ (.quit hq) (by simp [deafBehind, semEvents]) (by omega) (fun h => absurd h (by decide)) ?_ (.inl ⟨by omega, by simp [cnt]⟩)
      · intro jx e he
        match jx, he with
        | 0, he => simp [semEvents] at he; subst he; exact .inl rfl
        | 1, _ => exact .inr (by simp [deafBehind, semEvents])
        | 2, _ => exact .inr (by simp [deafBehind, semEvents])
        | 3, he => simp [semEvents] at he; subst he; exact .inl rfl
        | jx + 4, he => simp [semEvents] at he
      · intro tag' ht hw
        have hnb := hw hmw hrun'
        have e3 : tag' = .w3 := by
          rcases ht with rfl | ⟨_, rfl⟩
          · cases tag' <;> first | rfl | exact hW3.elim | exact absurd rfl hnb
          · rfl
        subst e3
        simp only [if_true]
        exact .sema fun a ha => by
          by_cases e : a = i
          · subst e; rw [upd_same]
          · rw [upd_ne _ _ e]; exact hoth a ha e
    · obtain ⟨g', w', es, hgo, ⟨rfl, rfl⟩, hg'⟩ := hstep w hrf
      exact idle hgo (.d4 hg') (by omega) (by omega) (by omega)
  | quit h =>
    cases m with
    | zero => rw [h.1] at hrun; cases hrun
    | succ q =>
      rcases h with ⟨hf, _⟩ | ⟨_, g', es, hmute, hstep, hq⟩
      · rw [hf] at hrun; cases hrun
      · have hbk : ∀ e ∈ es, Bk Wg e := fun e he => Go.ConcR.bk_of_mute (hmute e he)
        have hno : ∀ e ∈ es, (MemAct.ofEvent e).touch? = none := fun e he => touch_mute (hmute e he)
        exact book (hstep w) (.refl Wg w) hwg hbk (fun jx e he => .inl (hno e (Array.mem_of_getElem? he))) (.quit hq) rfl (by omega) (fun _ => ⟨rfl, hno⟩) (by have := hmode.same (i := i) q (deafBehind dd es); rwa [hst] at this) (.inr ⟨rfl, by omega⟩)
end
end Go.Proofs.Ytjbpaejjpamcpaa.Sim
/- Workers and their starter: the starter's step keeps the invariant and lowers the measure, or the join is done; ████ from the group's laying to behind the join, on whatever tape ('phase'). ████ No program in sight. -/
namespace Go.Proofs.Ytjbpaejjpamcpaa.Sim
set_option linter.unusedSimpArgs false
set_option linter.unusedVariables false
open Go Go.Conc
open Go.ConcN (WgLive CTag WD CT Apart OkW Ok0 RelBy upd upd_same upd_ne sumTo sumTo_upd sumTo_upd_out Deaf_still Deaf_absent phi Vc Ssum Fsum cnt isOpen isW3 isFin pend OpenSt AllQuit phi_mono phi_retag Vc_le Vc_upd le_sumTo exists_counted allQuit_of)
open Go.ConcR (KK WgAt stA smA rd wr Bk)

/-- A run to a place, on whatever tape. -/
theorem run_until {P : Program} {α : Type} {r : α → α → Prop} (wf : WellFounded r) (Inv : α → Machine → Trace → Prop) (Z : Machine → Trace → Prop)
    (h : ∀ μ m t, Inv μ m t → ∃ m' ops, stepT P m = (.next m', ops) ∧ (Z m' (t ++ ops) ∨ ∃ μ', r μ' μ ∧ Inv μ' m' (t ++ ops))) :
    ∀ μ m t, Inv μ m t → ∃ n m' t', runNT P n m t = (.next m', t') ∧ Z m' t' := by
  intro μ
  induction μ using wf.induction with
  | _ μ ih =>
    intro m t hI
    obtain ⟨m', ops, hs, hq | ⟨μ', hr, hI'⟩⟩ := h μ m t hI
    · exact ⟨1, m', t ++ ops, by simp [runNT, hs], hq⟩
    · obtain ⟨n, m₂, t₂, h1, h2⟩ := ih μ' hr m' (t ++ ops) hI'
      exact ⟨n + 1, m₂, t₂, by rw [runNT_succ_next hs]; exact h1, h2⟩

theorem lt5_left {N : Nat} {a b c : Mu} (h : Lt5 N a b) (h' : b.1 < c.1) : Lt5 N a c := by
  obtain ⟨a1, a2⟩ := a
  obtain ⟨b1, b2⟩ := b
  obtain ⟨c1, c2⟩ := c
  rcases Prod.lex_def.1 h with h | ⟨h1, _⟩
  · exact Prod.Lex.left _ _ (Nat.lt_trans h h')
  · simp only at h1 h'; subst h1; exact Prod.Lex.left _ _ h'

/-- What the library lists of the group's. -/
def BkS (Wg : Nat) (e : Event) : Prop := Bk Wg e ∨ e = Go.ConcR.mk (.read (smA Wg)) ∨ e = Go.ConcR.mk (.write (smA Wg)) ∨ e = Go.ConcR.mk (.acquire (stA Wg))

section
variable (P : Program) (N : Nat) (Anch : St) (Q : Nat → Prop) (W0 : World)
/-- Behind the join: all others only leave. -/
def Joined (m : Machine) (t : Trace) : Prop :=
  ∃ gs w sl q E a, m = crowd gs w sl ∧ gs[0]? = some a ∧ Fra P Q N gs w t q E ∧ Anch E a w ∧ w.tape = W0.tape ∧ w.os = W0.os ∧ w.output = W0.output
end

section
variable {P : Program} {ty : TypeId} {Wg N j0 : Nat} {val : Nat → Value} {Anch : St} {AnchW : Xs → St} {Q : Nat → Prop} {W0 : World} {gs : Array Goroutine} {w w' : World} {sl : Option (Nat × Nat)} {J : Nat} {γ : Gh} {tag tag' : CTag} {f0 f' d0 : Nat} {κ0 : Rk} {x : Xs} {E0 : Nat → Prop}
  {a a' : Goroutine} {t : Trace} {st sm st' sm' : Int} {es : Array Event}

theorem bkS_touch {e : Event} (h : BkS Wg e) {y : Touch} (hy : (MemAct.ofEvent e).touch? = some y) : (∃ ad, y.loc = .cell ad ∧ ad.block = Wg) ∧ y.kind ≠ .plain := by
  rcases h with (h1 | h1 | ⟨ad, wr, rfl, hb⟩) | rfl | rfl | rfl
  · simp only [Go.ConcR.ofEvent_loc_mark h1] at hy; cases hy
  · simp only [Go.ConcR.ofEvent_loc_mark h1] at hy; cases hy
  · simp only [ofEvent_cell0, MemAct.touch?, Option.some.injEq] at hy
    subst hy
    exact ⟨⟨ad, rfl, hb⟩, by simp⟩
  · simp [Go.ConcR.mk, MemAct.ofEvent, MemAct.touch?] at hy; subst hy; exact ⟨⟨_, rfl, rfl⟩, by simp⟩
  · simp [Go.ConcR.mk, MemAct.ofEvent, MemAct.touch?] at hy; subst hy; exact ⟨⟨_, rfl, rfl⟩, by simp⟩
  · simp [Go.ConcR.mk, MemAct.ofEvent, MemAct.touch?] at hy
theorem bkS_low {e : Event} (h : BkS Wg e) {B : Nat} (hB : Wg < B) : (MemAct.ofEvent e).low B := by
  rcases h with (h1 | h1 | ⟨ad, wr, rfl, hb⟩) | rfl | rfl | rfl
  · simp only [Go.ConcR.ofEvent_loc_mark h1]; trivial
  · simp only [Go.ConcR.ofEvent_loc_mark h1]; trivial
  · simp only [ofEvent_cell0]; show ad.block < B; rw [hb]; exact hB
  · exact hB
  · exact hB
  · exact hB
theorem bkS_norel {e : Event} (h : BkS Wg e) (a : Addr) : MemAct.ofEvent e ≠ .mark (.release a) := by
  intro ea
  have := ofEvent_mark_loc ea
  rcases h with (h1 | h1 | ⟨ad, wr, rfl, hb⟩) | rfl | rfl | rfl
  · rw [h1] at this; cases this
  · rw [h1] at this; cases this
  · cases this
  · simp [Go.ConcR.mk] at this
  · simp [Go.ConcR.mk] at this
  · simp [Go.ConcR.mk] at this

/-- WHATEVER STEP OF THE STARTER's THAT IS NO go STATEMENT. -/
theorem callerStep (hcom : Com P ty Wg j0 val Q W0 J gs w t γ d0 x E0) {gs' : Array Goroutine} {u : Trace} {d0' : Nat} {E' : Nat → Prop} {κ' : Rk}
    (hrun : runT P (crowd gs w sl) 0 = (.next (crowd gs' w' sl), u)) (hz : gs'.size = gs.size) (ha' : gs'[0]? = some a') (hoth : (∀ j x, j ≠ 0 → gs[j]? = some x → gs'[j]? = some (woken P a a' w' x)) ∨ (∀ j, j ≠ 0 → gs'[j]? = gs[j]?))
    (hsz : w.heap.size ≤ w'.heap.size) (hkeep : ∀ b, ¬ E0 b → b ≠ Wg → b < w.heap.size → w'.heap[b]? = w.heap[b]?) (hsame : w'.tape = w.tape ∧ w'.os = w.os ∧ w'.output = w.output)
    (hE : ∀ b, E' b → E0 b ∨ (w.heap.size ≤ b ∧ b < w'.heap.size))
    (hok : ∀ op ∈ u, Ok0 (Cl Q) (OwnF γ.Ew) (RdF γ.F) J op) (hnr : ∀ op ∈ u, ∀ a, op.act ≠ .mark (.release a)) (hlow : ∀ op ∈ u, op.act.low w'.heap.size) (hdeaf : Deaf (t ++ u) 0 = d0')
    (hcs' : CS P ty Wg N j0 val Anch AnchW tag' J f' d0' κ' x E' a' w') (hwg : WgAt ty Wg w' st' sm') (hmode' : Go.ConcN.Mode J γ.D tag' st' sm')
    (hlt : phi N (Vc J γ.D) tag' < phi N (Vc J γ.D) tag ∨ (phi N (Vc J γ.D) tag' = phi N (Vc J γ.D) tag ∧ f' < f0) ∨ (phi N (Vc J γ.D) tag' = phi N (Vc J γ.D) tag ∧ f' = f0 ∧ Rk.lt κ' κ0)) :
    ∃ m₁ ops μ', runT P (crowd gs w sl) 0 = (.next m₁, ops) ∧ Lt5 N μ' (mu N J γ tag f0 κ0) ∧ PInv P ty Wg N j0 val Anch AnchW Q W0 μ' m₁ (t ++ ops) := by
  have hcom' := hcom.step0 hz hoth hsz hkeep ⟨_, _, hwg⟩ hsame hE hok hnr hlow hdeaf
  refine ⟨_, _, _, hrun, ?_, gs', w', sl, J, γ, tag', f', d0', κ', x, E', a', st', sm', rfl, ha', hcs', hcom', hwg, hmode', rfl⟩
  unfold mu
  rcases hlt with h | ⟨h1, h2⟩ | ⟨h1, rfl, h2⟩
  · exact Prod.Lex.left _ _ (by omega)
  · rw [h1]; exact Prod.Lex.right _ (Prod.Lex.right _ (Prod.Lex.right _ (Prod.Lex.left _ _ h2)))
  · rw [h1]; exact Prod.Lex.right _ (Prod.Lex.right _ (Prod.Lex.right _ (Prod.Lex.right _ h2)))

/-- AN IDLE STEP OF THE STARTER's. -/
theorem idleC (hoff : ∀ g ∈ gs, g.status = .blocked → g.offers = none) (ha : gs[0]? = some a) (hcom : Com P ty Wg j0 val Q W0 J gs w t γ d0 x E0) (hwg : WgAt ty Wg w st sm) (hmode : Go.ConcN.Mode J γ.D tag st sm)
    {S : St} {f : World → Rk} (h : MR P ty Wg x S (.node f) E0 a w) (mkc : ∀ κ E a w, MR P ty Wg x S κ E a w → CS P ty Wg N j0 val Anch AnchW tag J f0 d0 κ x E a w) :
    ∃ m₁ ops μ', runT P (crowd gs w sl) 0 = (.next m₁, ops) ∧ Lt5 N μ' (mu N J γ tag f0 (.node f)) ∧ PInv P ty Wg N j0 val Anch AnchW Q W0 μ' m₁ (t ++ ops) := by
  obtain ⟨_, hstep⟩ := h
  obtain ⟨a', w', es, hmv, hgu, hi', hw'⟩ := hstep w (Rely.refl _ _) hcom.invX
  obtain ⟨gs', f', hrunT, hz, hg', hoth, hcm⟩ := runT_mv (sl := sl) (i := 0) ha (by simpa using hmv) hoff
  have hdj := hcom.dj.grow0 hgu.size (E' := grown E0 w w') (fun b hb => hb)
  have hnm := nomark_ev (fn := a.frame.fn) (pos := a.frame.place) hgu.ev hcm
  have hWgB : Wg < w.heap.size := hcom.dj.qB Wg hcom.hQ
  refine callerStep (κ' := f w) hcom hrunT hz hg' hoth hgu.size (fun b hb _ hlt => hgu.other b hb hlt) ⟨hgu.tape, hgu.os, hgu.output⟩ (fun b hb => hb) (fun op hop => ?_) (fun op hop => (hnm op hop).2.2)
    (low_ev hgu.ev hcm hgu.size (fun b hb => (hdj.eB b hb).1) (fun b hb => (hdj.zB b hb).1)) ((Deaf_still t _ _ fun op hop => ⟨(hnm op hop).1, (hnm op hop).2.1⟩).trans hcom.deaf0) (mkc _ _ _ _ hw')
    (hwg.of_block (hgu.other Wg (fun hb => (hcom.dj.eB _ hb).2 hcom.hQ) hWgB)) hmode (.inr (.inr ⟨rfl, rfl, ⟨w, rfl⟩⟩))
  rcases ofE_cases hop with ⟨e, hee, rfl⟩ | hx
  · refine ⟨rfl, fun y hy => .inr ?_⟩
    rcases (hgu.ev e hee).touch hy with hb | ⟨⟨ad, ead, hz⟩, hwf⟩
    · obtain ⟨b, hb, hl⟩ := blk_cases hb
      refine ⟨fun ⟨ad, e1, hq⟩ => ?_, fun k _ _ ⟨i, _, ho⟩ => ?_, fun _ k _ _ ⟨i, _, ⟨ad, e1, hf⟩⟩ => ?_⟩
      · rcases hl with e2 | ⟨ad', e2, rfl⟩ <;> rw [e2] at e1 <;> cases e1
        exact (hdj.eB _ hb).2 hq
      · obtain ⟨b', hb', hl'⟩ := blk_cases ho
        have : b = b' := by
          rcases hl with e2 | ⟨ad', e2, rfl⟩ <;> rcases hl' with e3 | ⟨ad'', e3, rfl⟩ <;> rw [e2] at e3 <;> cases e3 <;> rfl
        subst this
        exact (hdj.wB i b hb').2.2 hb
      · rcases hl with e2 | ⟨ad', e2, rfl⟩ <;> rw [e2] at e1 <;> cases e1
        exact (hdj.fB i _ hf).2.2.1 hb
    · refine ⟨fun ⟨ad', e1, hq⟩ => ?_, fun k _ _ ⟨i, _, ho⟩ => ?_, fun h => absurd h (by rw [hwf]; simp)⟩
      · rw [ead] at e1; cases e1; exact (hdj.zB _ hz).2.1 hq
      · obtain ⟨b', hb', hl'⟩ := blk_cases ho
        rcases hl' with e3 | ⟨ad'', e3, rfl⟩ <;> rw [ead] at e3 <;> cases e3
        exact (hdj.zB _ hz).2.2.2 i hb'
  · exact ⟨(hcm op hx).1, fun y hy => by rw [(hcm op hx).2.touch] at hy; cases hy⟩

theorem invX_aside (hcom : Com P ty Wg j0 val Q W0 J gs w t γ d0 x E0) (hAs : Aside Wg w w') (hwg' : WgAt ty Wg w' st' sm') : InvW ty Wg x.Z x.W w' :=
  ⟨⟨_, _, hwg'⟩, fun b hb => ((Aside.rest hAs).2.1 b (fun e => (hcom.dj.zB b hb).2.1 (e ▸ hcom.hQ))).trans (hcom.invx b hb)⟩

/-- A STEP OF THE LIBRARY's BOOKKEEPING, by the starter: at most the group's block turns. -/
theorem bookC0 (ha : gs[0]? = some a) (hcom : Com P ty Wg j0 val Q W0 J gs w t γ d0 x E0)
    (hgo : stepG P true a w = .go a' w' es) (hAs : Aside Wg w w') (hwg' : WgAt ty Wg w' st' sm') (hbk : ∀ e ∈ es, BkS Wg e) {κ' : Rk} (hcs' : CS P ty Wg N j0 val Anch AnchW tag' J f' (deafBehind d0 es) κ' x E0 a' w')
    (hmode' : Go.ConcN.Mode J γ.D tag' st' sm') (hlt : phi N (Vc J γ.D) tag' < phi N (Vc J γ.D) tag ∨ (phi N (Vc J γ.D) tag' = phi N (Vc J γ.D) tag ∧ f' < f0)) :
    ∃ m₁ ops μ', runT P (crowd gs w sl) 0 = (.next m₁, ops) ∧ Lt5 N μ' (mu N J γ tag f0 κ0) ∧ PInv P ty Wg N j0 val Anch AnchW Q W0 μ' m₁ (t ++ ops) := by
  obtain ⟨k1, k2, k3⟩ := Aside.rest hAs
  have hlt0 : 0 < gs.size := (Array.getElem?_eq_some_iff.1 ha).1
  have hWgB : Wg < w.heap.size := hcom.dj.qB Wg hcom.hQ
  have hrunT := runT_crowd_go (P := P) (sl := sl) (i := 0) ha (show stepG P (0 == 0) a w = _ from hgo)
  refine callerStep hcom hrunT (by simp) (by simp [hlt0]) (.inl fun j y hj hy => by rw [Array.getElem?_setIfInBounds_ne (Ne.symm hj), Array.getElem?_map, hy]; rfl) k1 (fun b _ hb _ => k2 b hb) k3 (fun b hb => .inl hb)
    (fun op hop => ?_) (fun op hop => ?_) (fun op hop => ?_) (by rw [Deaf_own, hcom.deaf0]) hcs' hwg' hmode' (hlt.imp id fun h => .inl h)
  · obtain ⟨e, he, rfl⟩ := Go.Conc.mem_ofEvents hop
    refine ⟨rfl, fun y hy => .inl ?_⟩
    obtain ⟨⟨ad, e1, e2⟩, hk⟩ := bkS_touch (hbk e he) hy
    exact ⟨⟨ad, e1, by rw [e2]; exact hcom.hQ⟩, hk⟩
  · obtain ⟨e, he, rfl⟩ := Go.Conc.mem_ofEvents hop
    exact fun a => bkS_norel (hbk e he) a
  · obtain ⟨e, he, rfl⟩ := Go.Conc.mem_ofEvents hop
    exact bkS_low (hbk e he) (Nat.lt_of_lt_of_le hWgB k1)
theorem bookC (ha : gs[0]? = some a) (hcom : Com P ty Wg j0 val Q W0 J gs w t γ d0 x E0)
    (hgo : stepG P true a w = .go a' w' es) (hAs : Aside Wg w w') (hwg' : WgAt ty Wg w' st' sm') (hbk : ∀ e ∈ es, BkS Wg e) {S : St} (hk : MW P ty Wg x S E0 a' w') (mkc : ∀ κ, MR P ty Wg x S κ E0 a' w' → CS P ty Wg N j0 val Anch AnchW tag' J f' (deafBehind d0 es) κ x E0 a' w')
    (hmode' : Go.ConcN.Mode J γ.D tag' st' sm') (hlt : phi N (Vc J γ.D) tag' < phi N (Vc J γ.D) tag ∨ (phi N (Vc J γ.D) tag' = phi N (Vc J γ.D) tag ∧ f' < f0)) :
    ∃ m₁ ops μ', runT P (crowd gs w sl) 0 = (.next m₁, ops) ∧ Lt5 N μ' (mu N J γ tag f0 κ0) ∧ PInv P ty Wg N j0 val Anch AnchW Q W0 μ' m₁ (t ++ ops) := by
  obtain ⟨κ, hκ⟩ := hk.ranked (invX_aside hcom hAs hwg')
  exact bookC0 ha hcom hgo hAs hwg' hbk (mkc κ hκ) hmode' hlt

theorem bks_dis : ∀ e ∈ #[Go.ConcR.mk .disable], BkS Wg e := fun e he => .inl (Go.ConcN.bk_dis e he)
theorem bks_en : ∀ e ∈ #[Go.ConcR.mk .enable], BkS Wg e := fun e he => .inl (Go.ConcN.bk_en e he)
theorem bks_rd : ∀ e ∈ #[rd (stA Wg)], BkS Wg e := fun e he => .inl (Go.ConcN.bk_rd e he)
theorem bks_rw : ∀ e ∈ #[rd (stA Wg), wr (stA Wg)], BkS Wg e := fun e he => .inl (Go.ConcN.bk_rw e he)
theorem bks_sem : ∀ e ∈ semEvents (smA Wg), BkS Wg e := fun e he => .inl (Go.ConcN.bk_sem e he)
theorem bks_read : ∀ e ∈ #[Go.ConcR.mk (.read (smA Wg))], BkS Wg e := fun e he => by simp at he; exact .inr (.inl he)
theorem bks_write : ∀ e ∈ #[Go.ConcR.mk (.write (smA Wg))], BkS Wg e := fun e he => by simp at he; exact .inr (.inr (.inl he))

/-- THE LOAD IN Wait. -/
theorem w1Step (hoff : ∀ g ∈ gs, g.status = .blocked → g.offers = none) (hN : N < 2147483648) (ha : gs[0]? = some a) (hcom : Com P ty Wg j0 val Q W0 N gs w t γ 1 x E0) (hwg : WgAt ty Wg w st sm) (hmode : Go.ConcN.Mode N γ.D .w1 st sm)
    (h : MR P ty Wg x (JW1 P ty Wg j0 val Anch AnchW x) κ0 E0 a w) :
    ∃ m₁ ops μ', runT P (crowd gs w sl) 0 = (.next m₁, ops) ∧ Lt5 N μ' (mu N N γ .w1 0 κ0) ∧ PInv P ty Wg N j0 val Anch AnchW Q W0 μ' m₁ (t ++ ops) := by
  cases κ0 with
  | leaf =>
    obtain ⟨_, hall⟩ := h w (Rely.refl _ _) hcom.invX
    obtain ⟨ho, rfl, rfl, _⟩ := hmode.open_inv trivial
    have hV := Vc_le N γ.D
    obtain ⟨a', hgo, h0, hne⟩ := hall (Vc N γ.D) (by omega) (by simpa [pend] using hwg)
    by_cases hv : Vc N γ.D = 0
    · refine bookC ha hcom hgo (.refl Wg w) hwg bks_rd (h0 hv) (fun _ hk => .ke hk) ?_ (.inl (by simp only [phi]; omega))
      have e : ((Vc N γ.D + pend .w1 : Nat) : Int) * KK = 0 := by rw [hv]; simp [pend]
      rw [e]
      exact .fin trivial (allQuit_of ho hv)
    · exact bookC ha hcom hgo (.refl Wg w) hwg bks_rd (hne hv) (fun _ hk => .w2 hk) (hmode.reopen trivial trivial rfl (fun vs e => by cases e; omega)) (.inl (by simp only [phi]; omega))
  | node f => exact idleC hoff ha hcom hwg hmode h fun _ _ _ _ => .w1

/-- THE JOIN IS DONE. -/
theorem joined (ha : gs[0]? = some a) (hcom : Com P ty Wg j0 val Q W0 N gs w t γ 0 x E0) (hq : AllQuit N γ.D) (h : JAcq P Wg j0 val Anch x E0 a w) :
    ∃ m₁ ops, runT P (crowd gs w sl) 0 = (.next m₁, ops) ∧ Joined P N Anch Q W0 m₁ (t ++ ops) := by
  obtain ⟨_, a', hgo, hA⟩ := h
  have hrunT := runT_crowd_go (P := P) (sl := sl) (i := 0) ha (show stepG P (0 == 0) a w = _ from hgo)
  have hlt0 : 0 < gs.size := (Array.getElem?_eq_some_iff.1 ha).1
  have hWgB : Wg < w.heap.size := hcom.dj.qB Wg hcom.hQ
  have e1 : MemOp.ofEvents 0 a.frame.fn a.frame.place #[Go.ConcR.mk (.acquire (stA Wg))] = #[{ g := 0, fn := a.frame.fn, pos := a.frame.place, act := .mark (.acquire (stA Wg)) }] := by rw [ofEvents_eq]; simp [Go.ConcR.ofEvent_mk]
  have hop : ∀ op ∈ MemOp.ofEvents 0 a.frame.fn a.frame.place #[Go.ConcR.mk (.acquire (stA Wg))], op.g = 0 ∧ op.act = .mark (.acquire (stA Wg)) := fun op hop => by
    rw [e1] at hop; simp at hop; subst hop; exact ⟨rfl, rfl⟩
  have hcom' := hcom.step0 (P := P) (a := a) (a' := a') (gs' := (gs.map (woken P a a' w)).setIfInBounds 0 a') (w' := w) (u := MemOp.ofEvents 0 a.frame.fn a.frame.place #[Go.ConcR.mk (.acquire (stA Wg))]) (E' := E0) (d0' := 0) (by simp)
    (.inl fun j y hj hy => by rw [Array.getElem?_setIfInBounds_ne (Ne.symm hj), Array.getElem?_map, hy]; rfl) (Nat.le_refl _) (fun _ _ _ _ => rfl) hcom.live ⟨rfl, rfl, rfl⟩ (fun _ hb => .inl hb)
    (fun op ho => ⟨(hop op ho).1, fun y hy => by rw [(hop op ho).2] at hy; cases hy⟩) (fun op ho a => by rw [(hop op ho).2]; simp) (fun op ho => by rw [(hop op ho).2]; exact hWgB) (by rw [Deaf_own, hcom.deaf0]; rfl)
  -- the edge from each release to the acquire
  have hqat : (t ++ MemOp.ofEvents 0 a.frame.fn a.frame.place #[Go.ConcR.mk (.acquire (stA Wg))])[t.size]? = some { g := 0, fn := a.frame.fn, pos := a.frame.place, act := .mark (.acquire (stA Wg)) } := by rw [e1]; simp
  have hheard : (t ++ MemOp.ofEvents 0 a.frame.fn a.frame.place #[Go.ConcR.mk (.acquire (stA Wg))]).heard t.size := ⟨0, by simp [Trace.g?, hqat], by rw [deaf_old (Nat.le_refl _)]; exact hcom.deaf0⟩
  have edge : ∀ i, j0 ≤ i → i < N → ∃ r, RelQ (Cl Q) (stA Wg) (t ++ MemOp.ofEvents 0 a.frame.fn a.frame.place #[Go.ConcR.mk (.acquire (stA Wg))]) (i + 1) r ∧ HappensBefore (t ++ MemOp.ofEvents 0 a.frame.fn a.frame.place #[Go.ConcR.mk (.acquire (stA Wg))]) r t.size := by
    intro i h0 hi
    obtain ⟨r, hr⟩ := hcom.rel i h0 hi (by rw [hq i hi]; omega)
    have hrt : r < t.size := lt_of_act? hr.act
    have hr' := hr.appNot (u := MemOp.ofEvents 0 a.frame.fn a.frame.place #[Go.ConcR.mk (.acquire (stA Wg))]) fun op ho => by rw [(hop op ho).1]; omega
    exact ⟨r, hr', .single (.inr ⟨.marked hrt (.inr hr'.act) (act?_of hqat) (fun k _ _ => hcom'.norel _ k), hr'.heard, hheard⟩)⟩
  have gk : ∀ {i k}, (t ++ MemOp.ofEvents 0 a.frame.fn a.frame.place #[Go.ConcR.mk (.acquire (stA Wg))]).g? i = some k → k ≤ N := fun {i k} hg => by
    obtain ⟨op, ho, rfl⟩ := Option.map_eq_some_iff.1 hg
    exact hcom'.ct.gs i op ho
  have before : ∀ {i k r}, (t ++ MemOp.ofEvents 0 a.frame.fn a.frame.place #[Go.ConcR.mk (.acquire (stA Wg))]).g? i = some k → (t ++ MemOp.ofEvents 0 a.frame.fn a.frame.place #[Go.ConcR.mk (.acquire (stA Wg))]).g? r = some k → i ≤ r →
      HappensBefore (t ++ MemOp.ofEvents 0 a.frame.fn a.frame.place #[Go.ConcR.mk (.acquire (stA Wg))]) r t.size → HappensBefore (t ++ MemOp.ofEvents 0 a.frame.fn a.frame.place #[Go.ConcR.mk (.acquire (stA Wg))]) i t.size := fun {i k r} hi hr hle hb => by
    rcases Nat.lt_or_ge i r with hlt | hge
    · exact .trans (.single (.inl ⟨hlt, k, hi, hr⟩)) hb
    · obtain rfl : i = r := by omega
      exact hb
  have hall : ∀ i y, touchAt (t ++ MemOp.ofEvents 0 a.frame.fn a.frame.place #[Go.ConcR.mk (.acquire (stA Wg))]) i = some y → ¬ Cl Q y.loc → Knows (t ++ MemOp.ofEvents 0 a.frame.fn a.frame.place #[Go.ConcR.mk (.acquire (stA Wg))]) 0 i := by
    intro i y hy hs
    obtain ⟨op, ho, _⟩ := touch_of hy
    have hg : (t ++ MemOp.ofEvents 0 a.frame.fn a.frame.place #[Go.ConcR.mk (.acquire (stA Wg))]).g? i = some op.g := by simp [Trace.g?, ho]
    rcases Nat.lt_or_ge j0 op.g with hlt | hge
    · obtain ⟨k, hk⟩ : ∃ k, op.g = k + 1 := ⟨op.g - 1, by omega⟩
      have hkN := gk hg
      obtain ⟨r, hr, hb⟩ := edge k (by omega) (by omega)
      rw [hk] at hg
      have hle : i ≤ r := Nat.le_of_not_lt fun h => hs (hr.sh i h hg y hy)
      exact ⟨t.size, _, hqat, rfl, .inr (before hg hr.g hle hb)⟩
    · exact hcom'.known i y op.g hy hs hg hge
  have hgs' : ((gs.map (woken P a a' w)).setIfInBounds 0 a')[0]? = some a' := by simp [hlt0]
  refine ⟨_, _, hrunT, _, w, sl, fun i => (γ.D i).fuel, _, a', rfl, hgs', ⟨hcom'.size, fun i g hi hg => ?_, ct_join hcom'.ct hall, hcom'.deaf0, hcom'.seen, fun i k hg hne hc => ?_, hcom'.norel, fun b hb => ?_, hcom'.dj.qB⟩, hA fun i c hc => ?_, hcom'.same⟩
  · obtain ⟨g', hg', hs⟩ := hcom'.wk i hi
    rw [hg] at hg'; cases hg'
    rw [hcom'.deafW i hi]
    exact hs.quits (hq i hi)
  · rcases Nat.lt_or_ge j0 k with hlt | hge
    · obtain ⟨k, rfl⟩ : ∃ k', k = k' + 1 := ⟨k - 1, by omega⟩
      have hkN := gk hg
      obtain ⟨r, hr, hb⟩ := edge k (by omega) (by omega)
      have hle : i ≤ r := Nat.le_of_not_lt fun h => hr.after i h hg hc
      exact ⟨t.size, by simp [Trace.g?, hqat], before hg hr.g hle hb⟩
    · exact hcom'.over i k hg hne hge hc
  · rcases hb with hb | hb
    · exact hcom'.dj.eB b hb
    · obtain ⟨i, hi⟩ := List.mem_iff_getElem?.1 hb
      obtain ⟨h1, rfl⟩ := hcom'.cbs i b hi
      have := hcom'.dj.wB _ _ (hcom'.cbE (j0 + i) (by omega) h1)
      exact ⟨this.1, this.2.1⟩
  · obtain ⟨h1, rfl⟩ := hcom.cbs i c hc
    exact hcom.has (j0 + i) (by omega) h1 (by rw [hq _ h1]; omega)

set_option maxHeartbeats 1600000 in
theorem stepCaller (hAr : ∀ x E g w, AnchW x E g w → g.status = .running) (hAn : ∀ x E g w, AnchW x E g w → MW P ty Wg x (JW1 P ty Wg j0 val Anch AnchW x) E g w) (hN : N < 2147483648)
    (ha : gs[0]? = some a) (hcs : CS P ty Wg N j0 val Anch AnchW tag J f0 d0 κ0 x E0 a w) (hcom : Com P ty Wg j0 val Q W0 J gs w t γ d0 x E0) (hwg : WgAt ty Wg w st sm) (hmode : Go.ConcN.Mode J γ.D tag st sm) (hrun : a.status = .running) :
    (∃ m₁ ops, runT P (crowd gs w sl) 0 = (.next m₁, ops) ∧ Joined P N Anch Q W0 m₁ (t ++ ops)) ∨
    (∃ m₁ ops μ', runT P (crowd gs w sl) 0 = (.next m₁, ops) ∧ Lt5 N μ' (mu N J γ tag f0 κ0) ∧ PInv P ty Wg N j0 val Anch AnchW Q W0 μ' m₁ (t ++ ops)) := by
  have hVj := Vc_le J γ.D
  have hoff := hcom.off hAr ha hcs
  have hinv := hcom.invX
  have hb := hcs.bound
  cases hcs with
  | skd hr h =>
    refine .inr ?_
    cases κ0 with
    | leaf =>
      obtain ⟨_, a', hgo, hk⟩ := h w (Rely.refl _ _) hinv
      exact bookC ha hcom hgo (.refl Wg w) hwg bks_dis hk (fun _ hk => .sa1 hr hk) (hmode.reopen trivial trivial rfl (by simp)) (.inl (by simp only [phi]; omega))
    | node f => exact idleC hoff ha hcom hwg hmode h fun _ _ _ _ => .skd hr
  | sa1 hr h =>
    rename_i r
    refine .inr ?_
    cases κ0 with
    | leaf =>
      obtain ⟨_, hall⟩ := h w (Rely.refl _ _) hinv
      obtain ⟨ho, rfl, rfl, _⟩ := hmode.open_inv trivial
      obtain ⟨a', hgo, hk⟩ := hall (Vc (N - (r + 1)) γ.D) (by omega) (by simpa [pend] using hwg)
      have e : (((Vc (N - (r + 1)) γ.D : Nat) : Int) + 1) * KK = ((Vc (N - (r + 1)) γ.D + pend (.sp r 3) : Nat) : Int) * KK := by simp [pend]
      have hm : Go.ConcN.Mode (N - (r + 1)) γ.D (.sp r 3) ((((Vc (N - (r + 1)) γ.D : Nat) : Int) + 1) * KK) 0 := by rw [e]; exact .opn trivial ho (by simp)
      rcases hk with hk | hk
      · exact bookC ha hcom hgo (aside_setCell w (stA Wg) _) (hwg.setSt _) bks_rw hk (fun _ hk => .ssd hr hk) hm (.inl (by simp only [phi]; omega))
      · exact bookC ha hcom hgo (aside_setCell w (stA Wg) _) (hwg.setSt _) bks_rw hk (fun _ hk => .ske hr hk) hm (.inl (by simp only [phi]; omega))
    | node f => exact idleC hoff ha hcom hwg hmode h fun _ _ _ _ => .sa1 hr
  | ssd hr h =>
    refine .inr ?_
    cases κ0 with
    | leaf =>
      obtain ⟨_, a', hgo, hk⟩ := h w (Rely.refl _ _) hinv
      exact bookC ha hcom hgo (.refl Wg w) hwg bks_read hk (fun _ hk => .ske hr hk) hmode (.inr ⟨rfl, by omega⟩)
    | node f => exact idleC hoff ha hcom hwg hmode h fun _ _ _ _ => .ssd hr
  | ske hr h =>
    refine .inr ?_
    cases κ0 with
    | leaf =>
      obtain ⟨_, a', hgo, hk⟩ := h w (Rely.refl _ _) hinv
      exact bookC ha hcom hgo (.refl Wg w) hwg bks_en hk (fun _ hk => .sgo hr hk) (hmode.reopen trivial trivial rfl (by simp)) (.inl (by simp only [phi]; omega))
    | node f => exact idleC hoff ha hcom hwg hmode h fun _ _ _ _ => .ske hr
  | sgo hr h =>
    rename_i r
    refine .inr ?_
    cases κ0 with
    | leaf =>
      obtain ⟨_, a', child, c, Fk, hsp, hc, hF, hwk, hnext⟩ := h w (Rely.refl _ _) hinv
      obtain ⟨κw, hκw⟩ := hwk.ranked ⟨hcom.live, fun _ _ => rfl⟩
      obtain ⟨ho, rfl, rfl, _⟩ := hmode.open_inv trivial
      have hlt0 : 0 < gs.size := (Array.getElem?_eq_some_iff.1 ha).1
      have hrun' := runT_crowd_spawn (P := P) (sl := sl) (i := 0) ha (show stepG P (0 == 0) a w = _ from hsp)
      rw [hcom.size] at hrun'
      have hcom' := hcom.spawn (a' := a') (ox := { g := 0, fn := a.frame.fn, pos := a.frame.place, act := .go (N - (r + 1) + 1) }) (oy := { g := N - (r + 1) + 1, fn := child.frame.fn, pos := a.frame.place, act := .start }) hlt0 ⟨rfl, rfl⟩ ⟨rfl, rfl⟩ hc hF hκw
      have eV : Vc (N - (r + 1) + 1) (upd γ.D (N - (r + 1)) ⟨7, 0, 0⟩) = Vc (N - (r + 1)) γ.D + 1 := by
        simp only [Vc, sumTo, upd_same]
        rw [sumTo_upd_out γ.D _ cnt (Nat.le_refl _)]; rfl
      have eS : Ssum (N - (r + 1) + 1) (upd γ.D (N - (r + 1)) ⟨7, 0, 0⟩) = Ssum (N - (r + 1)) γ.D + 7 := by
        simp only [Ssum, sumTo, upd_same]
        rw [sumTo_upd_out γ.D _ WD.stage (Nat.le_refl _)]
      have ho' : OpenSt (N - (r + 1) + 1) (upd γ.D (N - (r + 1)) ⟨7, 0, 0⟩) := fun i hi => by
        by_cases e : i = N - (r + 1)
        · subst e; rw [upd_same]; simp
        · rw [upd_ne _ _ e]; exact ho i (by omega)
      have ha' : ((gs.setIfInBounds 0 a').push child)[0]? = some a' := by
        rw [Array.getElem?_push_lt (by simp [hcom.size]), ← Array.getElem?_eq_getElem]
        simp [hcom.size]
      have ej : N - (r + 1) + 1 = N - r := by omega
      rw [ej] at hrun' hcom' eV eS ho'
      have est : ∀ tag', pend tag' = 0 → ((Vc (N - (r + 1)) γ.D + pend (.sp r 2) : Nat) : Int) * KK = ((Vc (N - r) (upd γ.D (N - (r + 1)) ⟨7, 0, 0⟩) + pend tag' : Nat) : Int) * KK := fun tag' hp => by rw [eV, hp]; simp [pend]
      cases r with
      | zero =>
        have hnext : MW P ty Wg ⟨x.cbs ++ [c], fun b => x.Z b ∨ Fk b, w⟩ (JKd P ty Wg AnchW ⟨x.cbs ++ [c], fun b => x.Z b ∨ Fk b, w⟩) (fun b => E0 b ∧ b ≠ c ∧ ¬ Fk b) a' w := hnext
        obtain ⟨κ, hκ⟩ := hnext.ranked ⟨hcom.live, fun _ _ => rfl⟩
        simp only [Nat.sub_zero] at hrun' hcom' eV eS ho' est
        refine ⟨_, _, _, hrun', ?_, _, w, sl, N, _, .kd, 0, 0, κ, _, _, a', _, _, rfl, ha', .kd hκ, hcom', hwg, ?_, rfl⟩
        · unfold mu
          refine Prod.Lex.left _ _ ?_
          simp only [phi]
          omega
        · rw [est .kd rfl]
          exact .opn trivial ho' (by simp)
      | succ r' =>
        obtain ⟨κ, hκ⟩ := Way.ranked (show MW P ty Wg ⟨x.cbs ++ [c], fun b => x.Z b ∨ Fk b, w⟩ (MKd P ty Wg val (N - (r' + 1)) ⟨x.cbs ++ [c], fun b => x.Z b ∨ Fk b, w⟩ (Spawns P ty Wg N val (Into P ty Wg AnchW) r')) (fun b => E0 b ∧ b ≠ c ∧ ¬ Fk b) a' w from hnext) ⟨hcom.live, fun _ _ => rfl⟩
        refine ⟨_, _, _, hrun', ?_, _, w, sl, N - (r' + 1), _, .sp r' 5, 0, 0, κ, _, _, a', _, _, rfl, ha', .skd (by omega) hκ, hcom', hwg, ?_, rfl⟩
        · unfold mu
          refine Prod.Lex.left _ _ ?_
          simp only [phi]
          omega
        · rw [est (.sp r' 5) rfl]
          exact .opn trivial ho' (by simp)
    | node f => exact idleC hoff ha hcom hwg hmode h fun _ _ _ _ => .sgo hr
  | kd h =>
    refine .inr ?_
    cases κ0 with
    | leaf =>
      obtain ⟨_, a', hgo, hk⟩ := h w (Rely.refl _ _) hinv
      exact bookC ha hcom hgo (.refl Wg w) hwg bks_dis hk (fun _ hk => .anch hk) (hmode.reopen trivial trivial rfl (by simp)) (.inl (by simp only [phi]; omega))
    | node f => exact idleC hoff ha hcom hwg hmode h fun _ _ _ _ => .kd
  | anch h =>
    refine .inr ?_
    cases κ0 with
    | leaf =>
      obtain ⟨κ, hκ⟩ := (hAn x E0 a w (h w (Rely.refl _ _) hinv)).ranked hinv
      obtain ⟨m₁, ops, μ', h1, h2, h3⟩ := w1Step (sl := sl) hoff hN ha hcom hwg (hmode.reopen trivial trivial rfl (by simp)) hκ
      exact ⟨m₁, ops, μ', h1, lt5_left h2 (by simp only [mu, phi]; omega), h3⟩
    | node f => exact idleC hoff ha hcom hwg hmode h fun _ _ _ _ => .anch
  | w1 h => exact .inr (w1Step hoff hN ha hcom hwg hmode h)
  | w2 h =>
    rename_i vs
    refine .inr ?_
    cases κ0 with
    | leaf =>
      obtain ⟨_, hall⟩ := h w (Rely.refl _ _) hinv
      obtain ⟨ho, rfl, rfl, hw2⟩ := hmode.open_inv trivial
      obtain ⟨hle, h1⟩ := hw2 vs rfl
      obtain ⟨hhit, hmiss⟩ := hall (Vc N γ.D) (by omega) (by simpa [pend] using hwg)
      by_cases e : Vc N γ.D = vs
      · obtain ⟨a', hgo, hk⟩ := hhit e
        exact bookC ha hcom hgo (aside_setCell w (stA Wg) _) (hwg.setSt _) bks_rw hk (fun _ hk => .wsd hk) (.reg trivial ho (by omega)) (.inl (by simp only [phi]; omega))
      · obtain ⟨a', hgo, hk⟩ := hmiss e
        exact bookC ha hcom hgo (.refl Wg w) hwg bks_rd hk (fun _ hk => .anch hk) (hmode.reopen trivial trivial rfl (by simp)) (.inl (by simp only [phi]; omega))
    | node f => exact idleC hoff ha hcom hwg hmode h fun _ _ _ _ => .w2
  | wsd h =>
    refine .inr ?_
    cases κ0 with
    | leaf =>
      obtain ⟨_, a', hgo, hk⟩ := h w (Rely.refl _ _) hinv
      exact bookC ha hcom hgo (.refl Wg w) hwg bks_write hk (fun _ hk => .w3 hk) hmode (.inr ⟨rfl, by omega⟩)
    | node f => exact idleC hoff ha hcom hwg hmode h fun _ _ _ _ => .wsd
  | w3 h =>
    refine .inr ?_
    cases κ0 with
    | leaf =>
      obtain ⟨_, hoff', hblk, htake⟩ := h w (Rely.refl _ _) hinv
      cases hmode with
      | opn h1 _ _ => exact h1.elim
      | reg h1 h2 h3 => exact bookC0 (κ' := .leaf) ha hcom (hblk ⟨_, hwg⟩) (.refl Wg w) hwg (by simp) (.blk h) (.reg trivial h2 h3) (.inr ⟨rfl, by omega⟩)
      | last L h1 h2 h3 h4 => exact bookC0 (κ' := .leaf) ha hcom (hblk ⟨_, hwg⟩) (.refl Wg w) hwg (by simp) (.blk h) (.last L trivial h2 h3 h4) (.inr ⟨rfl, by omega⟩)
      | sema h2 =>
        obtain ⟨a', hgo, hk⟩ := htake hwg
        exact bookC ha hcom hgo (aside_setCell w (smA Wg) _) (hwg.setSm 0) bks_sem hk (fun _ hk => .w4 hk) (.fin trivial h2) (.inl (by simp only [phi]; omega))
      | fin h1 _ => exact h1.elim
    | node f => exact idleC hoff ha hcom hwg hmode h fun _ _ _ _ => .w3
  | blk h => simp at hrun
  | w4 h =>
    refine .inr ?_
    cases κ0 with
    | leaf =>
      obtain ⟨_, hx⟩ := h w (Rely.refl _ _) hinv
      obtain ⟨hq, rfl, rfl⟩ := hmode.fin_inv trivial
      obtain ⟨a', hgo, hk⟩ := hx hwg
      exact bookC ha hcom hgo (.refl Wg w) hwg bks_rd hk (fun _ hk => .ke hk) (.fin trivial hq) (.inl (by simp only [phi]; omega))
    | node f => exact idleC hoff ha hcom hwg hmode h fun _ _ _ _ => .w4
  | ke h =>
    refine .inr ?_
    cases κ0 with
    | leaf =>
      obtain ⟨_, a', hgo, hk⟩ := h w (Rely.refl _ _) hinv
      obtain ⟨hq, rfl, rfl⟩ := hmode.fin_inv trivial
      exact bookC ha hcom hgo (.refl Wg w) hwg bks_en hk (fun _ hk => .acq hk) (.fin trivial hq) (.inl (by simp only [phi]; omega))
    | node f => exact idleC hoff ha hcom hwg hmode h fun _ _ _ _ => .ke
  | acq h =>
    cases κ0 with
    | leaf =>
      obtain ⟨hq, rfl, rfl⟩ := hmode.fin_inv trivial
      exact .inl (joined ha hcom hq (h w (Rely.refl _ _) hinv))
    | node f => exact .inr (idleC hoff ha hcom hwg hmode h fun _ _ _ _ => .acq)

/-- NO DEADLOCK. -/
theorem someone_runs (hAr : ∀ x E g w, AnchW x E g w → g.status = .running) (ha : gs[0]? = some a) (hcs : CS P ty Wg N j0 val Anch AnchW tag J f0 d0 κ0 x E0 a w) (hcom : Com P ty Wg j0 val Q W0 J gs w t γ d0 x E0) (hmode : Go.ConcN.Mode J γ.D tag st sm) :
    ∃ (i : Nat) (g : Goroutine), gs[i]? = some g ∧ g.status = .running := by
  rcases hcs.status hAr hcom.invX with ⟨hs, _⟩ | ⟨_, _, rfl⟩
  · exact ⟨0, a, ha, hs⟩
  · cases hmode with
    | opn h1 _ _ => exact h1.elim
    | reg _ _ h3 =>
      obtain ⟨i, hi, h5⟩ := exists_counted h3
      obtain ⟨g, hg, hs⟩ := hcom.wk i hi
      exact ⟨i + 1, g, hg, hs.running_of (hcom.invW hi) (by omega)⟩
    | last L _ h2 h3 _ =>
      obtain ⟨g, hg, hs⟩ := hcom.wk L h2
      exact ⟨L + 1, g, hg, hs.running_of (hcom.invW h2) (by omega)⟩
    | fin h1 _ => exact h1.elim
theorem all_awake (hAr : ∀ x E g w, AnchW x E g w → g.status = .running) (ha : gs[0]? = some a) (hcs : CS P ty Wg N j0 val Anch AnchW tag J f0 d0 κ0 x E0 a w) (hcom : Com P ty Wg j0 val Q W0 J gs w t γ d0 x E0) : ∀ g ∈ gs, awake g := by
  intro g hg tm
  rcases hcom.stat hAr ha hcs g hg with h | h | ⟨h, _⟩ <;> rw [h] <;> simp

theorem phase_step (hAr : ∀ x E g w, AnchW x E g w → g.status = .running) (hAn : ∀ x E g w, AnchW x E g w → MW P ty Wg x (JW1 P ty Wg j0 val Anch AnchW x) E g w) (hN : N < 2147483648) (μ : Mu) (m : Machine) (t : Trace)
    (h : PInv P ty Wg N j0 val Anch AnchW Q W0 μ m t) : ∃ m' ops, stepT P m = (.next m', ops) ∧ (Joined P N Anch Q W0 m' (t ++ ops) ∨ ∃ μ', Lt5 N μ' μ ∧ PInv P ty Wg N j0 val Anch AnchW Q W0 μ' m' (t ++ ops)) := by
  obtain ⟨gs, w, sl, J, γ, tag, f0, d0, κ0, x, E0, a, st, sm, rfl, ha, hcs, hcom, hwg, hmode, rfl⟩ := h
  obtain ⟨i, g, d, sl', hg, hrun, hstep⟩ := crowd_pick (P := P) (w := w) (sl := sl) (all_awake hAr ha hcs hcom) (someone_runs hAr ha hcs hcom hmode)
  rw [hstep]
  have hcs' := hcs.rely (rely_at E0 w d)
  have hcom' := hcom.at d
  have hwg' : WgAt ty Wg (w.at d) st sm := hwg
  cases i with
  | zero =>
    rw [ha] at hg; cases hg
    rcases stepCaller (sl := sl') hAr hAn hN ha hcs' hcom' hwg' hmode hrun with ⟨m₁, ops, h1, h2⟩ | ⟨m₁, ops, μ', h1, h2, h3⟩
    · exact ⟨m₁, ops, h1, .inl h2⟩
    · exact ⟨m₁, ops, h1, .inr ⟨μ', h2, h3⟩⟩
  | succ i =>
    have hi : i < J := by have := (Array.getElem?_eq_some_iff.1 hg).1; rw [hcom.size] at this; omega
    obtain ⟨m₁, ops, μ', h1, h2, h3⟩ := stepWorker (sl := sl') hAr hN ha hcs' hcom' hwg' hmode hi hg hrun
    exact ⟨m₁, ops, h1, .inr ⟨μ', h2, h3⟩⟩
end

theorem sumTo_zero : ∀ j : Nat, sumTo j (fun _ => 0) = 0
  | 0 => rfl
  | j + 1 => by simp [sumTo, sumTo_zero j]
/-- ████ FROM WHERE A GROUP IS LAID TO BEHIND THE JOIN, ON WHATEVER TAPE. ████ -/
theorem phase {P : Program} {ty : TypeId} {j0 n : Nat} {val : Nat → Value} {Anch : St} {AnchW : Nat → Xs → St} {Q : Nat → Prop} {gs : Array Goroutine} {w : World} {sl : Option (Nat × Nat)} {t : Trace} {q : Nat → Nat} {E Z : Nat → Prop} {a : Goroutine} (h0 : gs[0]? = some a)
    (hfr : Fra P Q j0 gs w t q E) (hr : a.status = .running) (hn : 0 < n) (hN : j0 + n < 2147483648)
    (hnew : ∀ d, ∃ a', stepG P true a (w.at d) = .go a' ((w.at d).alloc (Go.ConcR.wgBlock ty 0 0)) #[] ∧ Spawns P ty w.heap.size (j0 + n) val (Into P ty w.heap.size (AnchW w.heap.size)) n ⟨[], Z, (w.at d).alloc (Go.ConcR.wgBlock ty 0 0)⟩ E a' ((w.at d).alloc (Go.ConcR.wgBlock ty 0 0)))
    (hZ : ∀ b, Z b → b < w.heap.size ∧ ¬ Q b ∧ ¬ E b)
    (hAr : ∀ x E g w', AnchW w.heap.size x E g w' → g.status = .running) (hAn : ∀ x E g w', AnchW w.heap.size x E g w' → MW P ty w.heap.size x (JW1 P ty w.heap.size j0 val Anch (AnchW w.heap.size) x) E g w') :
    ∃ k gs' w' sl' t' q' E' a', runNT P k (crowd gs w sl) t = (.next (crowd gs' w' sl'), t') ∧ gs'[0]? = some a' ∧ Fra P (fun b => Q b ∨ b = w.heap.size) (j0 + n) gs' w' t' q' E' ∧ Anch E' a' w' ∧ w'.tape = w.tape ∧ w'.os = w.os ∧ w'.output = w.output := by
  obtain ⟨k, gs', sl', t', q', a', d, hrun, h0', hgo, hfr', hlow⟩ := step_new _ gs w sl t q rfl h0 hr hfr fun d => let ⟨a', h, _⟩ := hnew d; ⟨a', h⟩
  obtain ⟨a₂, hgo₂, hsp⟩ := hnew d
  rw [hgo] at hgo₂
  obtain rfl : a' = a₂ := by simpa using hgo₂
  have hsz : ((w.at d).alloc (Go.ConcR.wgBlock ty 0 0)).heap.size = w.heap.size + 1 := World.size_alloc _ _
  have hwg : WgAt ty w.heap.size ((w.at d).alloc (Go.ConcR.wgBlock ty 0 0)) 0 0 := heap_alloc_new (w.at d) _
  have hinv : InvW ty w.heap.size Z ((w.at d).alloc (Go.ConcR.wgBlock ty 0 0)) ((w.at d).alloc (Go.ConcR.wgBlock ty 0 0)) := ⟨⟨_, _, hwg⟩, fun _ _ => rfl⟩
  obtain ⟨r, rfl⟩ : ∃ r, n = r + 1 := ⟨n - 1, by omega⟩
  obtain ⟨κ, hκ⟩ := Way.ranked (show MW P ty w.heap.size ⟨[], Z, (w.at d).alloc (Go.ConcR.wgBlock ty 0 0)⟩ (MKd P ty w.heap.size val (j0 + (r + 1) - (r + 1)) ⟨[], Z, (w.at d).alloc (Go.ConcR.wgBlock ty 0 0)⟩ (Spawns P ty w.heap.size (j0 + (r + 1)) val (Into P ty w.heap.size (AnchW w.heap.size)) r)) E a' ((w.at d).alloc (Go.ConcR.wgBlock ty 0 0)) from hsp) hinv
  have ej : j0 + (r + 1) - (r + 1) = j0 := by omega
  have hcs : CS P ty w.heap.size (j0 + (r + 1)) j0 val Anch (AnchW w.heap.size) (.sp r 5) j0 0 0 κ ⟨[], Z, (w.at d).alloc (Go.ConcR.wgBlock ty 0 0)⟩ E a' ((w.at d).alloc (Go.ConcR.wgBlock ty 0 0)) := by
    have := CS.skd (P := P) (ty := ty) (Wg := w.heap.size) (N := j0 + (r + 1)) (j0 := j0) (val := val) (Anch := Anch) (AnchW := AnchW w.heap.size) (r := r) (by omega) hκ
    rwa [ej] at this
  let γ : Gh := { D := fun i => ⟨1, q' i, Deaf t' (i + 1)⟩, κ := fun _ => .leaf, Ew := fun _ _ => False, F := fun _ _ => False, Ws := fun _ => w, cb := fun _ => 0 }
  have hcom : Com P ty w.heap.size j0 val (fun b => Q b ∨ b = w.heap.size) w j0 gs' ((w.at d).alloc (Go.ConcR.wgBlock ty 0 0)) t' γ 0 ⟨[], Z, (w.at d).alloc (Go.ConcR.wgBlock ty 0 0)⟩ E := {
    size := hfr'.size
    hj := Nat.le_refl _
    wk := fun i hi => by
      have hlt : i + 1 < gs'.size := by rw [hfr'.size]; omega
      exact ⟨_, Array.getElem?_eq_getElem hlt, .quit (hfr'.wk i _ hi (Array.getElem?_eq_getElem hlt))⟩
    live := ⟨_, _, hwg⟩
    inv := fun i _ b hb => hb.elim
    invx := fun _ _ => rfl
    ct := by
      have h1 := ct_reshare (Sh' := Cl (fun b => Q b ∨ b = w.heap.size)) hfr'.ct (fun l ⟨ad, e, hq⟩ => ⟨ad, e, .inl hq⟩) (fun l ⟨ad, e, hq⟩ => by
        rcases hq with hq | hq
        · exact .inl ⟨ad, e, hq⟩
        · exact .inr (untouched_of_low hlow (by rw [e]; show ¬ ad.block < _; omega)))
      refine ct_reown h1 (fun k _ _ l hl => hl.elim) (fun k _ _ l ⟨i, _, hb⟩ => ?_) (fun k _ _ l => ⟨fun ⟨i, _, ad, _, hb⟩ => hb, fun h => h.elim⟩)
      obtain ⟨b, hb, _⟩ := blk_cases hb
      exact hb.elim
    norel := hfr'.norel
    deaf0 := hfr'.deaf0
    deafW := fun _ _ => rfl
    seen := hfr'.seen
    old := fun _ _ => rfl
    rel := fun i h1 h2 => by omega
    known := fun i y k hy hs _ _ => hfr'.ct.free y.loc (fun ⟨ad, e, hq⟩ => hs ⟨ad, e, .inl hq⟩) (fun _ _ _ => ⟨id, id⟩) i y hy rfl
    over := fun i k hg hne _ hc => hfr'.over i k hg hne hc
    has := fun i h1 h2 => by omega
    cbE := fun i h1 h2 => by omega
    cbs := fun i c hc => by simp at hc
    len := by simp
    hQ := .inr rfl
    dj := ⟨fun b hb => ⟨(hfr'.eB b hb).1, fun h => h.elim (hfr'.eB b hb).2 (fun e => by have := (hfr.eB b hb).1; omega)⟩, fun b hb => hb.elim (fun h => hfr'.qB b h) (fun e => by omega),
      fun _ _ h => h.elim, fun _ _ _ h => h.elim, fun _ _ h => h.elim, fun b hb => by
        obtain ⟨h1, h2, h3⟩ := hZ b hb
        exact ⟨by omega, fun h => h.elim h2 (fun e => by omega), h3, fun _ => id⟩⟩
    out := fun _ _ => ⟨fun _ => id, fun _ => id⟩
    same := ⟨rfl, rfl, rfl⟩ }
  have hmode : Go.ConcN.Mode j0 γ.D (.sp r 5) 0 0 := by
    have hV : Vc j0 γ.D = 0 := by
      have : Vc j0 γ.D = sumTo j0 (fun _ => 0) := Go.ConcN.sumTo_congr fun i _ => by show cnt ⟨1, _, _⟩ = 0; rfl
      rw [this, sumTo_zero]
    have := Go.ConcN.Mode.opn (j := j0) (D := γ.D) (tag := .sp r 5) trivial (fun i _ => .inr (.inr (.inr rfl))) (fun vs e => by cases e)
    rw [hV] at this
    simpa [pend] using this
  obtain ⟨k₂, m', t₂, hrun₂, gs₂, w₂, sl₂, q₂, E₂, b₂, rfl, hg₂, hf₂, hA₂, hs₂⟩ := run_until (lt5_wf (j0 + (r + 1))) (PInv P ty w.heap.size (j0 + (r + 1)) j0 val Anch (AnchW w.heap.size) (fun b => Q b ∨ b = w.heap.size) w)
    (Joined P (j0 + (r + 1)) Anch (fun b => Q b ∨ b = w.heap.size) w) (phase_step hAr hAn hN) _ _ t' ⟨gs', (w.at d).alloc (Go.ConcR.wgBlock ty 0 0), sl', j0, γ, .sp r 5, 0, 0, κ, _, E, a', 0, 0, rfl, h0', hcs, hcom, hwg, hmode, rfl⟩
  exact ⟨k + k₂, gs₂, w₂, sl₂, t₂, q₂, E₂, b₂, by rw [runNT_add, hrun]; exact hrun₂, hg₂, hf₂, hA₂, hs₂⟩
end Go.Proofs.Ytjbpaejjpamcpaa.Sim
