/- A range over a function: the statement. No program in sight. -/
import Derived.Test.YthggppjdapmgdaaIter4
namespace Go.Proofs.Ythggppjdapmgdaa.Eng
set_option linter.unusedSimpArgs false
set_option linter.unusedVariables false
open Go Go.RowKit

section
variable {E : Env} {ρ : Pl}
theorem BlkAt.setO {w : World} {m i : Nat} {b : Blk} {o : Obj} {ho : cellsObj o = false} (h : BlkAt E ρ w m b) (hb : b.ob ≠ some (.obj i)) : BlkAt (E.setO i o ho) ρ w m b := by
  unfold BlkAt CellsAt at h ⊢
  rw [ats_den_setO]
  rcases h with h | ⟨j, h1, h2, h3, h4⟩ | ⟨r, h1, h2, h3, h4⟩
  · exact Or.inl h
  · refine Or.inr (Or.inl ⟨j, h1, h2, h3, ?_⟩)
    have : j ≠ i := fun e => hb (by rw [h1, e])
    rw [h4]; simp [Env.setO, this]
  · exact Or.inr (Or.inr ⟨r, h1, h2, h3, rowAt_setO.2 h4⟩)
/-- A new block that is no cells. -/
theorem RelH.newObj {w0 : Wb} {w : World} {H : List HE} (h : RelH w0 E H ρ w) {nid i : Nat} {o : Obj} (ho : cellsObj o = false) (hn : H[nid]? = some .free) (hf : H.any (HE.names nid) = false) (hu : ∀ (m : Nat) (b : Blk), H[m]? = some (HE.blk b) → b.ob ≠ some (.obj i)) :
    RelH w0 (E.setO i o ho) (H.set nid (.blk ⟨0, [], 0, some (.obj i)⟩)) (ρ.put nid (w.heap.size, 0)) (w.alloc o) := by
  have hlt : nid < H.length := (List.getElem?_eq_some_iff.1 hn).1
  have case : ∀ l b', (H.set nid (.blk ⟨0, [], 0, some (.obj i)⟩))[l]? = some (.blk b') → (l = nid ∧ b' = ⟨0, [], 0, some (.obj i)⟩) ∨ (l ≠ nid ∧ H[l]? = some (.blk b')) := by
    intro l b' hl
    rw [List.getElem?_set] at hl
    by_cases e : nid = l
    · subst e; simp [hlt] at hl; exact Or.inl ⟨rfl, hl.symm⟩
    · rw [if_neg e] at hl; exact Or.inr ⟨fun h => e h.symm, hl⟩
  have hp : (ρ.put nid (w.heap.size, 0)) nid = (w.heap.size, 0) := by simp [Pl.put]
  have hq : ∀ l, l ≠ nid → (ρ.put nid (w.heap.size, 0)) l = ρ l := fun l hl => by simp [Pl.put, hl]
  have hw0 := h.below.size
  refine ⟨h.below.alloc hw0 _, ?_, ?_, ?_⟩
  · intro l b' hl
    rcases case l b' hl with ⟨rfl, rfl⟩ | ⟨h1, h2⟩
    · rw [hp]; exact Own.new hw0
    · rw [hq l h1]; exact h.ge l b' h2
  · intro l b' hl
    rcases case l b' hl with ⟨rfl, rfl⟩ | ⟨h1, h2⟩
    · refine Or.inr (Or.inl ⟨i, rfl, rfl, rfl, ?_⟩)
      rw [hp]
      show (w.heap.push _)[w.heap.size]? = _
      simp [Env.setO]
    · refine BlkAt.put ?_ _ _ h1 (any_of_H hf h2)
      exact ((h.blk l b' h2).of_heap (Below.heap_alloc _ _ _ (h.blk l b' h2).lt)).setO (hu l b' h2)
  · intro l l' b1 b2 hl hl' he
    rcases case l b1 hl with ⟨rfl, rfl⟩ | ⟨h1, h2⟩ <;> rcases case l' b2 hl' with ⟨rfl, rfl⟩ | ⟨h1', h2'⟩
    · rfl
    · rw [hp, hq l' h1'] at he
      have := (h.blk l' b2 h2').lt
      simp at he; omega
    · rw [hp, hq l h1] at he
      have := (h.blk l b1 h2).lt
      simp at he; omega
    · rw [hq l h1, hq l' h1'] at he
      exact h.inj l l' b1 b2 h2 h2' he
end
end Go.Proofs.Ythggppjdapmgdaa.Eng
