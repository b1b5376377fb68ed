/- The row's frame for a law over bytes: the argument can be read. -/
import Derived.Test.YtjbpaejjpamcpaaRow
import Derived.Test.YtjbpaejjpamcpaaDraw
namespace Go.Proofs.Ytjbpaejjpamcpaa
set_option linter.unusedSimpArgs false
set_option linter.unusedVariables false
open Go.ChangeShapes Go.WideShapes Go.ChangeAt Go.RowKit Go.Joins

theorem add_addr (b off i : Nat) : (⟨b, off, none⟩ : Addr).add i = ⟨b, off + i, none⟩ := by
  unfold Addr.add
  split
  · rename_i h; subst h; rfl
  · rfl

theorem bytes_of_ints {H : Type} {w : World} {a : Option Addr} {len cap : Nat} {x : DataW H × List MemPlace}
    (h : ((Value.slice a len cap).cells.toList = [.slice none 0 0] ∧ x = (.nil, [])) ∨
    ∃ (a' : Addr) (len' cap' : Nat) (zs : List Int), (Value.slice a len cap).cells.toList = [.slice (some a') len' cap'] ∧ 0 ≤ a'.block ∧ len' ≤ cap' ∧ cap' ≤ maxLen ∧ zs.length = (if (fun _ => true) a'.block then cap' else len') ∧
      x = (.slice (lits .u8 (zs.take len')) (lits .u8 (zs.drop len')), MemPlace.row a' zs.length) ∧
      (∀ i, i < zs.length → w.cell? (a'.add i) = some (.int .u8 (zs.getD i 0))) ∧ (∀ n ∈ zs, (Lit.int .u8 n).wf = true)) : BytesOk w w.heap.size (.slice a len cap) := by
  rcases h with ⟨h, _⟩ | ⟨⟨b, off, spot⟩, l, c, zs, hcs, _, hl, hm, hz, _, hcell, hwf⟩
  · simp [Value.cells] at h
    obtain ⟨rfl, rfl, rfl⟩ := h
    exact Or.inl ⟨none, 0, rfl⟩
  · simp [Value.cells] at hcs
    obtain ⟨rfl, rfl, rfl⟩ := hcs
    simp at hz
    unfold maxLen at hm
    by_cases h0 : len = 0
    · subst h0; exact Or.inl ⟨_, _, rfl⟩
    · have hc0 := hcell 0 (by omega)
      have hspot : spot = none := by simpa [Addr.add] using World.cell?_spot hc0
      subst hspot
      refine Or.inr ⟨b, off, len, cap, fun i => zs.getD i 0, rfl, hl, hm, fun i => ?_, fun i hi => ?_⟩
      · by_cases hi : i < zs.length
        · have hw := hwf (zs.getD i 0) (by rw [List.getD_eq_getElem?_getD, List.getElem?_eq_getElem hi]; simp)
          simp [Lit.wf, IntKind.min, IntKind.max, IntKind.signed, IntKind.bits] at hw
          simp only [List.getD_eq_getElem?_getD]
          omega
        · simp only [List.getD_eq_getElem?_getD]
          rw [List.getElem?_eq_none (by omega)]; simp
      · have hc := hcell i (by omega)
        rw [add_addr] at hc
        exact ⟨World.block_lt_of_cell? _ _ hc, hc⟩

end Go.Proofs.Ytjbpaejjpamcpaa
