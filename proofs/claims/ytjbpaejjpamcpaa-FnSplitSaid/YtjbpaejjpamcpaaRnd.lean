/- A round of a range over a function: its body walked in the round's own frame. No program in sight. -/
import Derived.Test.YtjbpaejjpamcpaaLoop
import Derived.LoopNIn
import Derived.OrdersIn
import Derived.RangeFuncLeaves
import Derived.RangeFuncRecord
namespace Go.Proofs.Ytjbpaejjpamcpaa.Eng
set_option linter.unusedSimpArgs false
set_option linter.unusedVariables false
open Go Go.RowKit

/-- No bar; whether the frame is a round's (and of which loop). -/
abbrev Rg (r : Option Nat) : Fence := { Fence.wide with round := r }
theorem rg_none : Rg none = Fence.wide := rfl
theorem rg_some (l : Nat) : Rg (some l) = Fence.wide.inRound l := rfl
def plainOp (o : Oper) : Bool :=
  match o.op with
  | .defer _ => false
  | _ => true
section
variable {P : Program} {l : Option Nat} {n : Nat}
theorem calls_rf {f : FuncId} {args : Array Value} {w : World} {R : Ending → World → Prop} (h : Calls P f args w R) : CallsIn (Rg l) n P f args w R := callsIn_wide.2 h
theorem oper_rf {o : Oper} (hp : plainOp o = true) {a : Act} {w : World} {K : Act → World → Prop} {Q : Exit → Act → World → Prop} (h : o.wp P a w K Q) : o.wpIn (Rg l) n P a w K Q := by
  refine ⟨fun _ _ => trivial, ?_⟩
  rw [Oper.semAt_eq _ _ _ (fun c hc => by rw [plainOp, hc] at hp; cases hp)]
  unfold Oper.wp at h
  generalize (execOp a.eval o).run P w = r at *
  cases r with
  | ok x w' =>
    cases x <;> simp only [Oper.upon] at h <;> simp only [Oper.uponIn] <;>
      first
        | exact h
        | exact h.elim
        | exact ⟨fun hd => absurd hd (by simp [Rg, Fence.wide]), calls_rf (Calls.mono h (fun e w'' he => by cases e <;> exact he))⟩
        | exact ⟨fun hd => absurd hd (by simp [Rg, Fence.wide]), fun c cs _ => let ⟨v, w1, r, st⟩ := h c cs; ⟨v, w1, r, stepsIn_wide.2 st⟩⟩
  | halt x w' => cases x <;> simp only [Oper.upon] at h <;> simp only [Oper.uponIn] <;> first | exact h | exact h.elim
theorem wpOps_rf {ops : Array Oper} (hops : ∀ o ∈ ops.toList, plainOp o = true) {Q : Exit → Act → World → Prop} (hQ : ¬ LetsOut Q) : ∀ (r : List Nat) (a : Act) (w : World), wpOps P ops Q r a w → wpOpsIn (Rg l) n P ops Q r a w
  | [], a, w, h => h
  | i :: r, a, w, h => by
    unfold wpOps at h
    unfold wpOpsIn
    cases ho : ops[i]? with
    | none => simp only [ho] at h ⊢; exact wpOps_rf hops hQ r a w h
    | some o =>
      simp only [ho] at h ⊢
      split
      · rename_i hw
        rw [if_pos hw] at h
        rcases h with h | ⟨_, h⟩
        · have hm : o ∈ ops.toList := by
            have := (Array.getElem?_eq_some_iff.1 ho)
            obtain ⟨h1, h2⟩ := this
            rw [← h2]; exact Array.getElem_mem_toList h1
          exact oper_rf (hops o hm) (Oper.wp_mono (fun a w h => wpOps_rf hops hQ r a w h) h)
        · exact (hQ h).elim
      · rename_i hw
        rw [if_neg hw] at h
        exact ⟨fun _ _ => trivial, wpOps_rf hops hQ r _ w h⟩
end
/-- Code of regions, ways that part, blocks: no loop, no deferred call. -/
def plainCode : Code → Bool
  | .seq x y => plainCode x && plainCode y
  | .cond _ x y => plainCode x && plainCode y
  | .block _ c => plainCode c
  | .region _ ops _ => ops.toList.all plainOp
  | .skip => true
  | .label _ => true
  | .ret => true
  | .exit _ => true
  | _ => false
section
variable {X : Cx} {E : Env} {ρ : Pl} {kn : Kn} {B : Base} {l : Option Nat} {m : Nat}
theorem after_out {w0 : Wb} {x : Ex} {s : St} : ¬ LetsOut (After B w0 E x s) := by
  rintro ⟨a, w, h, -⟩
  cases x <;> cases h
theorem runRegion_rf (hk : kn.ok E) {w0 : Wb} (hX : XOk X w0 E) (hm : X.P.follows .mixedOrders = true) {id : Nat} {ops : Array Oper} (hp : ops.toList.all plainOp = true) {draw : Bool} {s s' : St} (h : runRegion X kn ops draw s = .ok s') {a : Act} {w : World} (hs : Sat B w0 E s ρ a w) :
    (Code.region id ops draw).wpIn (Rg l) m X.P (After B w0 E .normal s') a w := by
  have hp' : ∀ o ∈ ops.toList, plainOp o = true := fun o ho => List.all_eq_true.1 hp o ho
  unfold runRegion at h
  obtain ⟨s1, h1, h2⟩ := Res.bind_ok h
  have hs0 := sat_free hs (made ops.toList)
  cases draw
  · simp at h2; subst h2
    exact wpIn_region (wpOps_rf hp' after_out _ _ _ (runSeq_ok hk hX _ _ _ h1 ρ a w hs0 (fun ρ' a' w' hs' => ⟨rfl, ρ', hs'⟩)))
  · simp only [if_true] at h2
    split at h2
    · rename_i hsel
      refine wpIn_region_draw (fun t => ?_)
      simp only [Region.schedule, hm, Bool.true_or, if_true]
      refine wpOps_rf hp' after_out _ _ _ (wpAny_sound ops.size t _ a _ (wpAny_of_held (S := Keeps (s.H ++ List.replicate (made ops.toList) .free) (storesOf X (s.H ++ List.replicate (made ops.toList) HE.free).length s1.T ops) ρ w) _ _ _ _ ?_))
      refine goAny_ok hk hX hsel (fun c a w hq => by cases hq.1) (fun ρ' a' w' hs' => ⟨rfl, ρ', hs'⟩) _ _ _ h2 ρ a _ (sat_drew hs0 _) (fun l b _ hb => ⟨rfl, hb⟩) (fun l b _ _ => rfl)
    · cases h2
theorem exec_rf (hk : kn.ok E) {w0 : Wb} (hX : XOk X w0 E) (hm : X.P.follows .mixedOrders = true) : ∀ (n : Nat) (key : Option Key) (c : Code) (s : St) (x : Ex) (s' : St), plainCode c = true → exec X kn n key c s = .ok (x, s') →
    ∀ (ρ : Pl) (a : Act) (w : World), Sat B w0 E s ρ a w → c.wpIn (Rg l) m X.P (After B w0 E x s') a w := by
  intro n
  induction n with
  | zero => intro key c s x s' _ h; simp [exec] at h
  | succ n ih =>
    intro key c s x s' hpl h ρ a w hs
    have hin := (exec_ok' hk hX hm n).1
    unfold exec at h
    split at h
    · simp at h; obtain ⟨rfl, rfl⟩ := h; exact wpIn_skip ⟨rfl, ρ, hs⟩
    · simp at h; obtain ⟨rfl, rfl⟩ := h; exact wpIn_label ⟨rfl, ρ, hs⟩
    · simp at h; obtain ⟨rfl, rfl⟩ := h; exact wpIn_ret ⟨rfl, ρ, hs⟩
    · simp at h; obtain ⟨rfl, rfl⟩ := h; exact wpIn_exit ⟨rfl, ρ, hs⟩
    · obtain ⟨s1, h1, h2⟩ := Res.bind_ok h
      simp at h2; obtain ⟨rfl, rfl⟩ := h2
      exact runRegion_rf (X := { X with call := callTop X (exec X kn n) }) hk (hX.with_call hin) hm hpl h1 hs
    · rename_i c1 c2
      simp only [plainCode, Bool.and_eq_true] at hpl
      obtain ⟨⟨x1, s1⟩, h1, h2⟩ := Res.bind_ok h
      refine wpIn_seq ?_
      refine wpIn_mono (ih _ c1 s x1 s1 hpl.1 h1 ρ a w hs) (fun e a' w' hq => ?_)
      obtain ⟨rfl, ρ', hs'⟩ := hq
      cases x1 with
      | normal => exact ih _ c2 s1 x s' hpl.2 h2 ρ' a' w' hs'
      | exit id => simp at h2; obtain ⟨rfl, rfl⟩ := h2; exact ⟨rfl, ρ', hs'⟩
      | ret => simp at h2; obtain ⟨rfl, rfl⟩ := h2; exact ⟨rfl, ρ', hs'⟩
    · rename_i c c1 c2
      simp only [plainCode, Bool.and_eq_true] at hpl
      split at h
      · rename_i e he
        obtain ⟨b, h1, h2⟩ := Res.bind_ok h
        have hb := ask_ok hk _ _ h1
        have hc : a.eval c = .bool b := by rw [aat_den hs.t he]; simp [At.den, hb]
        refine wpIn_cond hc ?_
        cases b
        · exact ih _ _ s x s' hpl.2 h2 ρ a w hs
        · exact ih _ _ s x s' hpl.1 h2 ρ a w hs
      · cases h
    · rename_i id c1
      obtain ⟨⟨x1, s1⟩, h1, h2⟩ := Res.bind_ok h
      refine wpIn_block ?_
      refine wpIn_mono (ih _ c1 s x1 s1 hpl h1 ρ a w hs) (fun e a' w' hq => ?_)
      obtain ⟨rfl, ρ', hs'⟩ := hq
      cases x1 with
      | normal => simp at h2; obtain ⟨rfl, rfl⟩ := h2; exact ⟨rfl, ρ', hs'⟩
      | exit id' =>
        simp only [Ex.toExit, Exit.inBlock]
        by_cases hid : id' = id
        · simp [hid] at h2; obtain ⟨rfl, rfl⟩ := h2; rw [if_pos hid]; exact ⟨rfl, ρ', hs'⟩
        · simp [hid] at h2; obtain ⟨rfl, rfl⟩ := h2; rw [if_neg hid]; exact ⟨rfl, ρ', hs'⟩
      | ret => simp at h2; obtain ⟨rfl, rfl⟩ := h2; exact ⟨rfl, ρ', hs'⟩
    · simp [plainCode] at hpl
    · cases h
end
/-! ### Objects that turn -/
def Env.setO (E : Env) (i : Nat) (o : Obj) (h : cellsObj o = false) : Env := { E with o := fun j => if j = i then o else E.o j, oc := fun j => by split; exact h; exact E.oc j }
mutual
theorem SE.den_setO (E : Env) (i : Nat) (o : Obj) (h : cellsObj o = false) : ∀ e : SE, e.den (E.setO i o h) = e.den E
  | .var _ => rfl
  | .lit _ => rfl
  | .bin _ _ a b => by simp only [SE.den, SE.den_setO E i o h a, SE.den_setO E i o h b]
  | .wrap _ a => by simp only [SE.den, SE.den_setO E i o h a]
  | .ite c a b => by simp only [SE.den, SE.den_setO E i o h a, SE.den_setO E i o h b, SB.den_setO E i o h c]
  | .app _ _ xs => by simp only [SE.den, SL.den_setO E i o h xs]; rfl
theorem SB.den_setO (E : Env) (i : Nat) (o : Obj) (h : cellsObj o = false) : ∀ e : SB, e.den (E.setO i o h) = e.den E
  | .var _ => rfl
  | .lit _ => rfl
  | .cmp _ a b => by simp only [SB.den, SE.den_setO E i o h a, SE.den_setO E i o h b]
  | .not a => by simp only [SB.den, SB.den_setO E i o h a]
  | .and a b => by simp only [SB.den, SB.den_setO E i o h a, SB.den_setO E i o h b]
  | .beq a b => by simp only [SB.den, SB.den_setO E i o h a, SB.den_setO E i o h b]
  | .app _ _ xs => by simp only [SB.den, SL.den_setO E i o h xs]; rfl
theorem SL.den_setO (E : Env) (i : Nat) (o : Obj) (h : cellsObj o = false) : ∀ e : SL, e.den (E.setO i o h) = e.den E
  | .nil => rfl
  | .cons x xs => by simp only [SL.den, SE.den_setO E i o h x, SL.den_setO E i o h xs]
end
section
variable {E : Env} {ρ : Pl} {i : Nat} {o : Obj} {h : cellsObj o = false}
theorem At.den_setO (a : At) : a.den (E.setO i o h) ρ = a.den E ρ := by
  cases a <;> first | rfl | simp only [At.den, SE.den_setO, SB.den_setO]
theorem ats_den_setO (cs : List At) : cs.map (At.den (E.setO i o h) ρ) = cs.map (At.den E ρ) := List.map_congr_left fun a _ => At.den_setO a
theorem CV.den_setO (c : CV) : c.den (E.setO i o h) ρ = c.den E ρ := by
  cases c with
  | one a => exact At.den_setO a
  | agg cs => simp only [CV.den, ats_den_setO]
theorem SVal.den_setO (s : SVal) : s.den (E.setO i o h) ρ = s.den E ρ := by
  cases s with
  | cv c => exact CV.den_setO c
  | tup cs =>
    simp only [SVal.den]
    congr 2
    exact List.map_congr_left fun c _ => CV.den_setO c
  | any => rfl
theorem TOk.setO {T : List SVal} {a : Act} (ht : TOk E ρ T a) : TOk (E.setO i o h) ρ T a := Fits.turn ht (fun s _ _ => (SVal.den_setO s).symm)
theorem Kn.ok_setO {kn : Kn} (hk : kn.ok E) : kn.ok (E.setO i o h) := fun p hp => by rw [SB.den_setO]; exact hk p hp
theorem sdens_setO (es : List SE) : es.map (SE.den (E.setO i o h)) = es.map (SE.den E) := List.map_congr_left fun e _ => SE.den_setO E i o h e
theorem rowAt_setO {w : World} {l ty : Nat} {r : Row} : RowAt (E.setO i o h) ρ w l ty r ↔ RowAt E ρ w l ty r := by
  unfold RowAt
  simp only [SE.den_setO, sdens_setO]
  rfl
/-- The loop's record turns. -/
theorem RelH.setO {w0 : Wb} {w : World} {H : List HE} (hH : RelH w0 E H ρ w) {l : Nat} {b : Blk} (hl : H[l]? = some (.blk b)) (hb : b.ob = some (.obj i)) (huniq : ∀ m b', H[m]? = some (.blk b') → b'.ob = some (.obj i) → m = l) : RelH w0 (E.setO i o h) H ρ (w.putObj (ρ l).1 o) := by
  have hge := hH.ge l b hl
  have hlt := (hH.blk l b hl).lt
  refine ⟨hH.below.transX rfl rfl rfl (by simp) (fun k hk hx => World.putObj_heap_other (hge.ne hk hx)), hH.ge, fun m b' hm => ?_, hH.inj⟩
  by_cases e : m = l
  · subst e
    rw [hl] at hm
    simp at hm; subst hm
    obtain ⟨h2, h3, h4⟩ := (hH.blk m b hl).obj hb
    refine Or.inr (Or.inl ⟨i, hb, h2, h3, ?_⟩)
    rw [World.putObj_heap_same hlt]
    simp [Env.setO]
  · have hne : (ρ m).1 ≠ (ρ l).1 := fun he => e (hH.inj m l b' b hm hl he)
    rcases hH.blk m b' hm with ⟨h0, h1⟩ | ⟨j, h1, h2, h3, h4⟩ | ⟨r, h1, h2, h3, h4⟩
    · refine Or.inl ⟨h0, ?_⟩
      unfold CellsAt at h1 ⊢
      rw [ats_den_setO, World.putObj_heap_other hne]; exact h1
    · refine Or.inr (Or.inl ⟨j, h1, h2, h3, ?_⟩)
      rw [World.putObj_heap_other hne, h4]
      have : j ≠ i := fun e' => e (huniq m b' hm (by rw [h1, e']))
      simp [Env.setO, this]
    · refine Or.inr (Or.inr ⟨r, h1, h2, h3, rowAt_setO.2 ?_⟩)
      unfold RowAt at h4 ⊢
      rw [World.putObj_heap_other hne]; exact h4
end
end Go.Proofs.Ytjbpaejjpamcpaa.Eng
