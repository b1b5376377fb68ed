/- Contracts of functions that give a row of so many numbers, laid one by one. No program in sight. -/
import Derived.Test.YtjbpaejjpamcpaaMRo
namespace Go.Proofs.Ytjbpaejjpamcpaa.Eng
set_option linter.unusedSimpArgs false
set_option linter.unusedVariables false
open Go Go.RowKit

def rowResL (e : REnt) (cs : List CV) (H : List HE) : Option (List SE × List CV) :=
  match cs with
  | .one (.slc l ln) :: out => match H[l]? with
    | some (.blk b) => if b.ty = e.ty ∧ out.all CV.flat = true ∧ b.ob.isNone = true ∧ b.sz = e.m ∧ e.m ≠ 0 then
        (match flatAts b.cs with
        | some es => some (ln :: es, out)
        | none => none)
      else none
    | _ => none
  | _ => none
/-- What the row must be, number by number. -/
def REnt.dueL (e : REnt) (E0 : Env) : List Int × List Value :=
  (e.len.den E0 :: ((List.range (e.len.den E0).toNat).map fun (k : Nat) => (List.range e.m).map fun (j : Nat) => E0.fi e.sg j (e.args.map (SE.den E0) ++ [(k : Int)])).flatten, e.out.map (CV.den E0 Pl.no))
theorem flat_get {α : Type} (m : Nat) (f : Nat → Nat → α) : ∀ (L k j : Nat), k < L → j < m → (((List.range L).map fun k => (List.range m).map fun j => f k j).flatten)[k * m + j]? = some (f k j) := by
  intro L
  induction L with
  | zero => intro k j hk; omega
  | succ L ih =>
    intro k j hk hj
    have hlen : (((List.range L).map fun k => (List.range m).map fun j => f k j).flatten).length = L * m := by
      rw [List.length_flatten]
      simp [List.sum_replicate_nat, Function.comp_def, List.map_const']
    rw [List.range_succ, List.map_append, List.flatten_append]
    by_cases h : k < L
    · have : k * m + j < L * m := by
        have := Nat.mul_le_mul_right m (show k + 1 ≤ L from h)
        rw [Nat.add_mul, Nat.one_mul] at this; omega
      rw [List.getElem?_append_left (by rw [hlen]; exact this)]
      exact ih k j h hj
    · have e : k = L := by omega
      subst e
      rw [List.getElem?_append_right (by rw [hlen]; omega), hlen]
      have e2 : k * m + j - k * m = j := by omega
      rw [e2]
      simp [hj]
theorem rowResL_ok {P : Program} {e : REnt} {cs : List CV} {H : List HE} {p : List SE × List CV} (h : rowResL e cs H = some p) {E E0 : Env} (hf : E.fi = E0.fi) (hd : denL E p = e.dueL E0) {ρ : Pl} {w0 : World} {w : World} (hH : RelH w0 E H ρ w) :
    ∃ B cap : Nat, (SVal.ofRes cs).den E ρ = retVals (Value.slice (some ⟨B, 0, none⟩) (e.len.den E0).toNat cap :: e.out.map (CV.den E0 Pl.no)) ∧ w0.heap.size ≤ B ∧ RowAt E0 (fun _ => (B, cap)) w 0 e.ty ⟨e.sg, e.m, e.args, e.len, e.len, none, []⟩ := by
  unfold rowResL at h
  split at h <;> try (cases h; done)
  rename_i l ln out
  split at h <;> try (cases h; done)
  rename_i b hb
  split at h <;> try (cases h; done)
  rename_i hc
  obtain ⟨hty, hfl, hob, hsz, hm⟩ := hc
  split at h <;> try (cases h; done)
  rename_i es hes
  cases h
  have hob : b.ob = none := by simpa using hob
  obtain ⟨rest, h1, _, h3⟩ := (hH.blk l b hb).cells hob
  have h3 := h3 (by rw [hsz]; exact hm)
  obtain ⟨fd, fl⟩ := flatAts_den (E := E) (ρ := ρ) _ _ hes
  simp only [denL, REnt.dueL, Prod.mk.injEq, List.map_cons, List.cons.injEq] at hd
  obtain ⟨⟨d1, d2⟩, d3⟩ := hd
  have hL : (((List.range (e.len.den E0).toNat).map fun (k : Nat) => (List.range e.m).map fun (j : Nat) => E0.fi e.sg j (e.args.map (SE.den E0) ++ [(k : Int)])).flatten).length = (e.len.den E0).toNat * e.m := by
    rw [List.length_flatten]
    simp [List.sum_replicate_nat, Function.comp_def, List.map_const']
  have hcl : b.cs.length = (e.len.den E0).toNat * e.m := by rw [← fl, ← hL, ← d2, List.length_map]
  have hcap : (e.len.den E0).toNat ≤ (ρ l).2 := by
    have : (e.len.den E0).toNat * e.m ≤ (ρ l).2 * e.m := by rw [← hcl, ← hsz]; omega
    exact Nat.le_of_mul_le_mul_right this (by omega)
  refine ⟨(ρ l).1, (ρ l).2, ?_, (hH.ge l b hb).resolve_right (by intro e; cases e), _, by rw [← hty]; exact h1, ?_, hcap, hcap, fun e he => (by cases he), fun k j hk hj => ?_, fun j v hj => (by simp at hj)⟩
  · have ho : out.map (CV.den E ρ) = out.map (CV.den E Pl.no) := List.map_congr_left fun c hc => CV.flat_den c (List.all_eq_true.1 hfl c hc) ρ Pl.no
    simp only [ofRes_den, List.map_cons, CV.den, At.den, ho, d1, d3]
  · rw [hsz] at h3; simpa using h3
  · have hg := flat_get e.m (fun (k j : Nat) => E0.fi e.sg j (e.args.map (SE.den E0) ++ [(k : Int)])) (e.len.den E0).toNat k j hk hj
    rw [← d2] at hg
    have hlt : k * e.m + j < b.cs.length := by
      rw [hcl]
      have := Nat.mul_le_mul_right e.m (show k + 1 ≤ (e.len.den E0).toNat from hk)
      rw [Nat.add_mul, Nat.one_mul] at this
      have : j < e.m := hj
      omega
    rw [fd]
    rw [List.getElem?_map] at hg
    obtain ⟨x, g1, g2⟩ := Option.map_eq_some_iff.1 hg
    rw [List.getElem?_toArray, List.getElem?_append_left (by rw [List.length_map, fl]; exact hlt), List.getElem?_map, g1]
    simp only [Option.map_some, g2]
def rowLeafL (e : REnt) (r : SVal × List HE) : RTree :=
  match resList r.1 with
  | some cs => match rowResL e cs r.2 with
    | some p => .leaf p.1 p.2
    | none => .dead 200
  | none => .dead 201
def exploreRL (X : Cx) (fuel : Nat) (e : REnt) : Nat → Kn → RTree
  | 0, _ => .dead 0
  | d + 1, kn => match callBody X (exec X kn fuel) e.f (lettersFrom 0 e.ins) [] with
    | .ok r => rowLeafL e r
    | .need c => .node c (exploreRL X fuel e d ((c, true) :: kn)) (exploreRL X fuel e d ((c, false) :: kn))
    | .fail n => .dead n
    | .stop _ => .dead 99
theorem exploreRL_ok {X : Cx} {E : Env} {w0 : World} (hX : XOk X w0 E) (hm : X.P.follows .mixedOrders = true) {fuel : Nat} {e : REnt} : ∀ (d : Nat) (kn : Kn), kn.ok E →
    (exploreRL X fuel e d kn).den E = some (e.dueL E) → Calls X.P e.f ((lettersFrom 0 e.ins).map (SVal.den E Pl.no)).toArray w0 (GivesRow e E w0)
  | 0, kn, _, h => by simp [exploreRL, RTree.den] at h
  | d + 1, kn, hk, h => by
    unfold exploreRL at h
    split at h
    · rename_i r hr
      unfold rowLeafL at h
      split at h <;> try (cases h; done)
      rename_i cs hcs
      split at h <;> try (cases h; done)
      rename_i p hp
      simp only [RTree.den, Option.some.injEq] at h
      obtain ⟨r1, r2⟩ := r
      simp only [] at hcs hp
      obtain rfl := resList_ok hcs
      refine (callBody_ok (exec_ok' hk hX hm fuel).1 e.f (lettersFrom 0 e.ins) [] _ r2 hr Pl.no w0 (noRel w0 E)).mono ?_
      rintro en w' ⟨ρ', rfl, hrel, _⟩
      obtain ⟨B, cap, h1, h2, h3⟩ := rowResL_ok (P := X.P) hp (E := E) (E0 := E) rfl h hrel
      exact ⟨Hb.below hrel.below, B, cap, by rw [h1], h2, h3⟩
    · rename_i c hc
      simp only [RTree.den] at h
      cases hb : c.den E
      · rw [hb] at h
        exact exploreRL_ok hX hm d _ (kn_cons hk hb) h
      · rw [hb] at h
        exact exploreRL_ok hX hm d _ (kn_cons hk hb) h
    · simp [RTree.den] at h
    · simp [RTree.den] at h
end Go.Proofs.Ytjbpaejjpamcpaa.Eng
