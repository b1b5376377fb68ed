/- The reference's AnglePeriod: what it gives. -/
import Derived.Test.YtlochdfemphhfaaDoorPr1
import Derived.Laws.MakeOwn
namespace Go.Proofs.YtlochdfemphhfaaDoor
set_option linter.unusedSimpArgs false
set_option linter.unusedVariables false
open Go.RowKit
/-- The table of what was met, behind i rounds. -/
structure Met (n d B i : Nat) (w wr : World) : Prop where
  below : Below w.heap.size w wr
  den : wr.cell? ⟨w.heap.size, 1, none⟩ = some (.int .i64 d)
  met : ∀ j, j < i → wr.cell? ⟨B, dbl n d j, none⟩ = some (.int .i64 ((j : Int) + 1))
  not : ∀ v, v < d → (∀ j, j < i → dbl n d j ≠ v) → wr.cell? ⟨B, v, none⟩ = some (.int .i64 0)
  fr : ∀ v, v < d → wr.frozen? ⟨B, v, none⟩ = false
  lt : w.heap.size < B
theorem Met.step {n d B i : Nat} {w wr : World} (h : Met n d B i w wr) (hd : 0 < d) (hne : ∀ j, j < i → dbl n d j ≠ dbl n d i) : Met n d B (i + 1) w (wr.setCell ⟨B, dbl n d i, none⟩ (.int .i64 ((i : Int) + 1))) := by
  have h0 := h.not _ (dbl_lt hd i) hne
  refine ⟨h.below.setCell (by have := h.lt; show _ ≤ B; omega) _, ?_, fun j hj => ?_, fun v hv hn => ?_, fun v hv => ?_, h.lt⟩
  · rw [World.cell?_setCell_other _ _ _ _ (by have := h.lt; simp <;> omega)]; exact h.den
  · by_cases he : j = i
    · subst he; exact World.cell?_setCell_same _ _ _ h0
    · rw [World.cell?_setCell_other _ _ _ _ (by have := hne j (by omega); simp <;> omega)]; exact h.met j (by omega)
  · rw [World.cell?_setCell_other _ _ _ _ (by have := hn i (by omega); simp <;> omega)]
    exact h.not v hv fun j hj => hn j (by omega)
  · rw [World.frozen?_setCell]; exact h.fr v hv
theorem made {w1 : World} {o : Obj} : (w1.alloc o).heap[w1.heap.size]? = some o := by
  show (w1.heap.push o)[w1.heap.size]? = some o
  exact Array.getElem?_push_size
theorem Met.start {n d : Nat} {w w1 : World} (hb : Below w.heap.size w w1) (hden : w1.cell? ⟨w.heap.size, 1, none⟩ = some (.int .i64 d)) (hlt : w.heap.size < w1.heap.size) : Met n d w1.heap.size 0 w (w1.alloc (.cells (madeCells #[.int .i64 0] d) 3)) := by
  refine ⟨hb.alloc (by omega) _, ?_, fun j hj => by omega, fun v hv _ => ?_, fun v hv => ?_, hlt⟩
  · rw [World.cell?_alloc_old _ _ _ (by show w.heap.size ≠ w1.heap.size; omega)]; exact hden
  · unfold World.cell?
    simp only [made]
    simp [madeCells, hv, Nat.mod_one]
  · unfold World.frozen?
    simp only [made]
    simp
theorem dblI_next (n d i : Nat) : ((dbl n d (i + 1) : Nat) : Int) = 2 * (dbl n d i : Int) % (d : Int) := by
  rw [dbl_succ]; simp
theorem spec_AnglePeriod_yes (n d p m : Nat) (w : World) (h : AV n d = true) (hd5 : d ≤ 5000) (h1 : 1 ≤ m) (hpm : p + m ≤ 10000) (hb : ∀ i j, i ≤ p + m → j < i → dbl n d i = dbl n d j → i = p + m ∧ j = p) (hc : dbl n d (p + m) = dbl n d p) :
    Calls Tryd.prog 4 #[.agg #[.int .i64 n, .int .i64 d]] w (Gives (.tuple #[.int .i64 p, .int .i64 m, .bool true]) w) := by
  obtain ⟨a1, a2, a3, a4, _⟩ := (AV_iff n d).1 h
  have H := Lib.hid h; clear h
  have HB := Lib.hid hb; clear hb
  have HC := Lib.hid hc; clear hc
  have hd0 : ¬ ((d : Int) = 0) := by omega
  have hmk : ∀ u : World, (Instr.makeSlice 30 (.int .i64 d) (.int .i64 d)).run Tryd.prog u = .ok (.slice (some ⟨u.heap.size, 0, none⟩) d d) (u.alloc (.cells (madeCells #[.int .i64 0] d) 3)) := fun u => by
    have := run_makeSlice (P := Tryd.prog) u 30 3 Tryd.t3 (.int .i64 0) Tryd.underlying30 (by kernel_rfl) (by kernel_rfl) .i64 .i64 d d (by omega) (Int.le_refl _) (by show (d : Int).toNat * 1 ≤ _; omega) (by show ((8 : Nat) : Int) * d ≤ _; omega) (by omega)
    simpa [show Tryd.t3.size = 1 from rfl, Value.cells] using this
  go_enter Tryd.func4, Tryd.ntmps4
  go_wp2_with (first | (go_at_call 7; refine (spec_AngleValid_any n d _).mono ?_; rw [H.out]; rintro e w1 ⟨rfl, hb⟩; have hB : Below w.heap.size w w1 := Below.trans (by go_grown) (hb.mono (by go_size)); have hz := hB.size; have hz2 := hb.size; (try simp at hz2); have hs0 : w.heap.size < w1.heap.size := (by omega); obtain ⟨hc, hf⟩ := bcell hb; clear hb))
  have hden : w1.cell? ⟨w.heap.size, 1, none⟩ = some (.int .i64 (d : Int)) := by go_simp
  have hst := Met.start (n := n) hB hden hs0
  go_loopw [6, 7] (fun u v wr => ∃ i : Nat, u = .int .i64 (dbl n d i : Int) ∧ v = .int .i64 ((i : Int) + 1) ∧ i ≤ p + m ∧ Met n d w1.heap.size i w wr) (fun _ v _ => p + m + 1 - (intOf v).toNat)
  case atStart => exact ⟨0, by rw [dbl_zero (by omega)], rfl, by omega, hst⟩
  case round =>
    obtain ⟨i, rfl, rfl, k1, hr⟩ := hrel
    clear hst hmk hc hf
    have hd1 : 0 < d := by omega
    have hx := dbl_lt (n := n) hd1 i
    have HR := Lib.hid hr
    have gden := hr.den
    by_cases hi : i = p + m
    · subst hi
      have hcell := hr.met p (by omega)
      rw [← HC.out] at hcell
      clear hr
      obtain ⟨x, hxe⟩ : ∃ x, dbl n d (p + m) = x := ⟨_, rfl⟩
      rw [hxe] at hcell hx ⊢
      go_wp2
      go_region
      go_wp2
      go_returns
      exact ⟨by simp <;> omega, HR.out.below.drew⟩
    · have hne : ∀ j, j < i → dbl n d j ≠ dbl n d i := fun j hj he => hi (HB.out i j k1 hj he.symm).1
      have hcell := hr.not _ hx hne
      have hfr := hr.fr _ hx
      have hs := hr.step hd1 hne
      have nx := dblI_next n d i
      have HS := Lib.hid hs
      have NX := Lib.hid nx
      obtain ⟨x, hxe⟩ : ∃ x, dbl n d i = x := ⟨_, rfl⟩
      rw [hxe] at hcell hx hfr ⊢
      clear hr hs nx hne
      go_wp2
      refine ⟨⟨i + 1, by rw [NX.out, hxe], by simp, by omega, ?_⟩, by simp [intOf]; omega⟩
      have := HS.out
      rw [hxe] at this
      exact this
end Go.Proofs.YtlochdfemphhfaaDoor
