/- What the program's DyadAdd gives. -/
import Derived.Test.YtjpmpjcenajmbaaDoorDyW5
import Derived.Deep.RegionHeld3
import Derived.Deep.DeepCutAuto
namespace Go.Proofs.YtjpmpjcenajmbaaDoor
set_option linter.unusedSimpArgs false
set_option linter.unusedVariables false
open Go.RowKit

theorem shl_up (x : Int) (k : Int) (h : -2305843009213693952 ≤ x * 2 ^ k.toNat) (h' : x * 2 ^ k.toNat ≤ 2305843009213693952) : wrap64 (x * 2 ^ k.toNat) = x * 2 ^ k.toNat :=
  IntWalk.wrap64_in _ ⟨by omega, by omega⟩
theorem shl_i64 {x : Int} {k : Int} {p : Int} (hw : wrap64 (x * 2 ^ k.toNat) = p) : IntKind.i64.wrap (x * 2 ^ k.toNat) = p := by
  rw [IntKind.wrap_i64]; unfold wrap64 at hw; exact hw
theorem set3_out {w : World} {b c o : Nat} {u x y z : Value} (h : w.cell? ⟨c, o, none⟩ = some u) (hn : b ≠ c) : (((w.setCell ⟨b, 0, none⟩ x).setCell ⟨b, 1, none⟩ y).setCell ⟨b, 2, none⟩ z).cell? ⟨c, o, none⟩ = some u := by
  have e : ∀ k, (⟨b, k, none⟩ : Addr) ≠ ⟨c, o, none⟩ := fun k e => hn (by injection e)
  rw [World.cell?_setCell_other _ _ _ _ (e 2), World.cell?_setCell_other _ _ _ _ (e 1), World.cell?_setCell_other _ _ _ _ (e 0)]; exact h

theorem impl_DyadAdd_a (r i s x y t : Int) (w : World) (h1 : DV r i s = false) :
    Calls Tryd.prog 37 #[.agg #[.int .i64 r, .int .i64 i, .int .i64 s], .agg #[.int .i64 x, .int .i64 y, .int .i64 t]] w (Gives (.tuple #[.agg #[.int .i64 0, .int .i64 0, .int .i64 0], .bool false]) w) := by
  have H1 := Lib.hid h1; clear h1
  go_enter Tryd.func37, Tryd.ntmps37
  go_wp2_with fail
  refine (valid_any r i s _).mono ?_
  rw [H1.out]
  rintro e u1 ⟨rfl, hb⟩
  have hB1 : Below w.heap.size w u1 := Below.trans (by go_grown) (hb.mono (by go_size))
  have hz1 := hb.size
  try simp at hz1
  have hw1 := hB1.size
  obtain ⟨hc1, hf1⟩ := bcell hb
  clear hb
  try have s0_0_1 : w.heap.size < u1.heap.size := by omega
  try have l0_0_1 : w.heap.size ≤ u1.heap.size := by omega
  try have s0_1_1 : w.heap.size + 1 < u1.heap.size := by omega
  try have l0_1_1 : w.heap.size + 1 ≤ u1.heap.size := by omega
  try have s0_2_1 : w.heap.size + 2 < u1.heap.size := by omega
  try have l0_2_1 : w.heap.size + 2 ≤ u1.heap.size := by omega
  go_wp2
  have b0 : u1.cell? ⟨w.heap.size + 1 + 1, 0, none⟩ = some (.int .i64 0) := by go_simp
  have b1 : u1.cell? ⟨w.heap.size + 1 + 1, 1, none⟩ = some (.int .i64 0) := by go_simp
  have b2 : u1.cell? ⟨w.heap.size + 1 + 1, 2, none⟩ = some (.int .i64 0) := by go_simp
  refine ret_cell_tmp Tryd.results37 rfl rfl (load_Dyad _ _ _ _ _ (set3 b0 b1 b2 _ _ _).1 (set3 b0 b1 b2 _ _ _).2.1 (set3 b0 b1 b2 _ _ _).2.2) ⟨rfl, by go_grown⟩
theorem impl_DyadAdd_b (r i s x y t : Int) (w : World) (h1 : DV r i s = true) (h2 : DV x y t = false) :
    Calls Tryd.prog 37 #[.agg #[.int .i64 r, .int .i64 i, .int .i64 s], .agg #[.int .i64 x, .int .i64 y, .int .i64 t]] w (Gives (.tuple #[.agg #[.int .i64 0, .int .i64 0, .int .i64 0], .bool false]) w) := by
  have H1 := Lib.hid h1; have H2 := Lib.hid h2; clear h1 h2
  go_enter Tryd.func37, Tryd.ntmps37
  go_wp2_with fail
  refine (valid_any r i s _).mono ?_
  rw [H1.out]
  rintro e u1 ⟨rfl, hb⟩
  have hB1 : Below w.heap.size w u1 := Below.trans (by go_grown) (hb.mono (by go_size))
  have hz1 := hb.size
  try simp at hz1
  have hw1 := hB1.size
  obtain ⟨hc1, hf1⟩ := bcell hb
  clear hb
  try have s0_0_1 : w.heap.size < u1.heap.size := by omega
  try have l0_0_1 : w.heap.size ≤ u1.heap.size := by omega
  try have s0_1_1 : w.heap.size + 1 < u1.heap.size := by omega
  try have l0_1_1 : w.heap.size + 1 ≤ u1.heap.size := by omega
  try have s0_2_1 : w.heap.size + 2 < u1.heap.size := by omega
  try have l0_2_1 : w.heap.size + 2 ≤ u1.heap.size := by omega
  go_wp2_with fail
  refine (valid_any x y t _).mono ?_
  rw [H2.out]
  rintro e u2 ⟨rfl, hb⟩
  have hB2 : Below w.heap.size w u2 := Below.trans (by go_grown) (hb.mono (by go_size))
  have hz2 := hb.size
  try simp at hz2
  have hw2 := hB2.size
  obtain ⟨hc2, hf2⟩ := bcell hb
  clear hb
  try have s0_0_2 : w.heap.size < u2.heap.size := by omega
  try have l0_0_2 : w.heap.size ≤ u2.heap.size := by omega
  try have s0_1_2 : w.heap.size + 1 < u2.heap.size := by omega
  try have l0_1_2 : w.heap.size + 1 ≤ u2.heap.size := by omega
  try have s0_2_2 : w.heap.size + 2 < u2.heap.size := by omega
  try have l0_2_2 : w.heap.size + 2 ≤ u2.heap.size := by omega
  try have s1_0_2 : u1.heap.size < u2.heap.size := by omega
  try have l1_0_2 : u1.heap.size ≤ u2.heap.size := by omega
  go_wp2
  have b0 : u2.cell? ⟨w.heap.size + 1 + 1, 0, none⟩ = some (.int .i64 0) := by go_simp
  have b1 : u2.cell? ⟨w.heap.size + 1 + 1, 1, none⟩ = some (.int .i64 0) := by go_simp
  have b2 : u2.cell? ⟨w.heap.size + 1 + 1, 2, none⟩ = some (.int .i64 0) := by go_simp
  refine ret_cell_tmp Tryd.results37 rfl rfl (load_Dyad _ _ _ _ _ (set3 b0 b1 b2 _ _ _).1 (set3 b0 b1 b2 _ _ _).2.1 (set3 b0 b1 b2 _ _ _).2.2) ⟨rfl, by go_grown⟩
theorem impl_DyadAdd_ge_zero (r i s x y t : Int) (w : World) (h1 : DV r i s = true) (h2 : DV x y t = true) (ho : t ≤ s) (hz : x = 0 ∧ y = 0 ∧ t = 0) :
    Calls Tryd.prog 37 #[.agg #[.int .i64 r, .int .i64 i, .int .i64 s], .agg #[.int .i64 x, .int .i64 y, .int .i64 t]] w (Gives (.tuple #[.agg #[.int .i64 r, .int .i64 i, .int .i64 s], .bool true]) w) := by
  obtain ⟨a1, a2, a3, a4, a5, a6, -⟩ := (DV_iff r i s).1 h1
  obtain ⟨b1, b2, b3, b4, b5, b6, -⟩ := (DV_iff x y t).1 h2
  have H1 := Lib.hid h1; have H2 := Lib.hid h2; clear h1 h2
  obtain ⟨rfl, rfl, rfl⟩ := hz
  go_enter Tryd.func37, Tryd.ntmps37
  go_wp2_with fail
  refine (valid_any r i s _).mono ?_
  rw [H1.out]
  rintro e u1 ⟨rfl, hb⟩
  have hB1 : Below w.heap.size w u1 := Below.trans (by go_grown) (hb.mono (by go_size))
  have hz1 := hb.size
  try simp at hz1
  have hw1 := hB1.size
  obtain ⟨hc1, hf1⟩ := bcell hb
  clear hb
  try have s0_0_1 : w.heap.size < u1.heap.size := by omega
  try have l0_0_1 : w.heap.size ≤ u1.heap.size := by omega
  try have s0_1_1 : w.heap.size + 1 < u1.heap.size := by omega
  try have l0_1_1 : w.heap.size + 1 ≤ u1.heap.size := by omega
  try have s0_2_1 : w.heap.size + 2 < u1.heap.size := by omega
  try have l0_2_1 : w.heap.size + 2 ≤ u1.heap.size := by omega
  go_wp2_with fail
  refine (valid_any 0 0 0 _).mono ?_
  rw [H2.out]
  rintro e u2 ⟨rfl, hb⟩
  have hB2 : Below w.heap.size w u2 := Below.trans (by go_grown) (hb.mono (by go_size))
  have hz2 := hb.size
  try simp at hz2
  have hw2 := hB2.size
  obtain ⟨hc2, hf2⟩ := bcell hb
  clear hb
  try have s0_0_2 : w.heap.size < u2.heap.size := by omega
  try have l0_0_2 : w.heap.size ≤ u2.heap.size := by omega
  try have s0_1_2 : w.heap.size + 1 < u2.heap.size := by omega
  try have l0_1_2 : w.heap.size + 1 ≤ u2.heap.size := by omega
  try have s0_2_2 : w.heap.size + 2 < u2.heap.size := by omega
  try have l0_2_2 : w.heap.size + 2 ≤ u2.heap.size := by omega
  try have s1_0_2 : u1.heap.size < u2.heap.size := by omega
  try have l1_0_2 : u1.heap.size ≤ u2.heap.size := by omega
  have ku2_0_0 : u2.cell? ⟨w.heap.size, 0, none⟩ = some (.int .i64 r) := by go_simp
  have fu2_0_0 : u2.frozen? ⟨w.heap.size, 0, none⟩ = false := by go_simp
  have ku2_0_1 : u2.cell? ⟨w.heap.size, 1, none⟩ = some (.int .i64 i) := by go_simp
  have fu2_0_1 : u2.frozen? ⟨w.heap.size, 1, none⟩ = false := by go_simp
  have ku2_0_2 : u2.cell? ⟨w.heap.size, 2, none⟩ = some (.int .i64 s) := by go_simp
  have fu2_0_2 : u2.frozen? ⟨w.heap.size, 2, none⟩ = false := by go_simp
  have ku2_1_0 : u2.cell? ⟨w.heap.size + 1, 0, none⟩ = some (.int .i64 0) := by go_simp
  have fu2_1_0 : u2.frozen? ⟨w.heap.size + 1, 0, none⟩ = false := by go_simp
  have ku2_1_1 : u2.cell? ⟨w.heap.size + 1, 1, none⟩ = some (.int .i64 0) := by go_simp
  have fu2_1_1 : u2.frozen? ⟨w.heap.size + 1, 1, none⟩ = false := by go_simp
  have ku2_1_2 : u2.cell? ⟨w.heap.size + 1, 2, none⟩ = some (.int .i64 0) := by go_simp
  have fu2_1_2 : u2.frozen? ⟨w.heap.size + 1, 2, none⟩ = false := by go_simp
  have ku2_2_0 : u2.cell? ⟨w.heap.size + 1 + 1, 0, none⟩ = some (.int .i64 0) := by go_simp
  have fu2_2_0 : u2.frozen? ⟨w.heap.size + 1 + 1, 0, none⟩ = false := by go_simp
  have ku2_2_1 : u2.cell? ⟨w.heap.size + 1 + 1, 1, none⟩ = some (.int .i64 0) := by go_simp
  have fu2_2_1 : u2.frozen? ⟨w.heap.size + 1 + 1, 1, none⟩ = false := by go_simp
  have ku2_2_2 : u2.cell? ⟨w.heap.size + 1 + 1, 2, none⟩ = some (.int .i64 0) := by go_simp
  have fu2_2_2 : u2.frozen? ⟨w.heap.size + 1 + 1, 2, none⟩ = false := by go_simp
  clear hc1 hf1
  clear hc2 hf2
  go_wp2
  have b0 : u2.cell? ⟨w.heap.size + 1 + 1, 0, none⟩ = some (.int .i64 0) := by go_simp
  have b1 : u2.cell? ⟨w.heap.size + 1 + 1, 1, none⟩ = some (.int .i64 0) := by go_simp
  have b2 : u2.cell? ⟨w.heap.size + 1 + 1, 2, none⟩ = some (.int .i64 0) := by go_simp
  refine ret_cell_tmp Tryd.results37 rfl rfl (load_Dyad _ _ _ _ _ (set3 b0 b1 b2 _ _ _).1 (set3 b0 b1 b2 _ _ _).2.1 (set3 b0 b1 b2 _ _ _).2.2) ⟨rfl, by go_grown⟩
theorem impl_DyadAdd_ge_far1 (r i s x y t : Int) (w : World) (h1 : DV r i s = true) (h2 : DV x y t = true) (_ho : t ≤ s) (hz : ¬ x = 0) (hf : 31 < s - t) :
    Calls Tryd.prog 37 #[.agg #[.int .i64 r, .int .i64 i, .int .i64 s], .agg #[.int .i64 x, .int .i64 y, .int .i64 t]] w (Gives (.tuple #[.agg #[.int .i64 0, .int .i64 0, .int .i64 0], .bool false]) w) := by
  obtain ⟨a1, a2, a3, a4, a5, a6, -⟩ := (DV_iff r i s).1 h1
  obtain ⟨b1, b2, b3, b4, b5, b6, -⟩ := (DV_iff x y t).1 h2
  have H1 := Lib.hid h1; have H2 := Lib.hid h2; clear h1 h2
  go_enter Tryd.func37, Tryd.ntmps37
  go_wp2_with fail
  refine (valid_any r i s _).mono ?_
  rw [H1.out]
  rintro e u1 ⟨rfl, hb⟩
  have hB1 : Below w.heap.size w u1 := Below.trans (by go_grown) (hb.mono (by go_size))
  have hz1 := hb.size
  try simp at hz1
  have hw1 := hB1.size
  obtain ⟨hc1, hf1⟩ := bcell hb
  clear hb
  try have s0_0_1 : w.heap.size < u1.heap.size := by omega
  try have l0_0_1 : w.heap.size ≤ u1.heap.size := by omega
  try have s0_1_1 : w.heap.size + 1 < u1.heap.size := by omega
  try have l0_1_1 : w.heap.size + 1 ≤ u1.heap.size := by omega
  try have s0_2_1 : w.heap.size + 2 < u1.heap.size := by omega
  try have l0_2_1 : w.heap.size + 2 ≤ u1.heap.size := by omega
  go_wp2_with fail
  refine (valid_any x y t _).mono ?_
  rw [H2.out]
  rintro e u2 ⟨rfl, hb⟩
  have hB2 : Below w.heap.size w u2 := Below.trans (by go_grown) (hb.mono (by go_size))
  have hz2 := hb.size
  try simp at hz2
  have hw2 := hB2.size
  obtain ⟨hc2, hf2⟩ := bcell hb
  clear hb
  try have s0_0_2 : w.heap.size < u2.heap.size := by omega
  try have l0_0_2 : w.heap.size ≤ u2.heap.size := by omega
  try have s0_1_2 : w.heap.size + 1 < u2.heap.size := by omega
  try have l0_1_2 : w.heap.size + 1 ≤ u2.heap.size := by omega
  try have s0_2_2 : w.heap.size + 2 < u2.heap.size := by omega
  try have l0_2_2 : w.heap.size + 2 ≤ u2.heap.size := by omega
  try have s1_0_2 : u1.heap.size < u2.heap.size := by omega
  try have l1_0_2 : u1.heap.size ≤ u2.heap.size := by omega
  have ku2_0_0 : u2.cell? ⟨w.heap.size, 0, none⟩ = some (.int .i64 r) := by go_simp
  have fu2_0_0 : u2.frozen? ⟨w.heap.size, 0, none⟩ = false := by go_simp
  have ku2_0_1 : u2.cell? ⟨w.heap.size, 1, none⟩ = some (.int .i64 i) := by go_simp
  have fu2_0_1 : u2.frozen? ⟨w.heap.size, 1, none⟩ = false := by go_simp
  have ku2_0_2 : u2.cell? ⟨w.heap.size, 2, none⟩ = some (.int .i64 s) := by go_simp
  have fu2_0_2 : u2.frozen? ⟨w.heap.size, 2, none⟩ = false := by go_simp
  have ku2_1_0 : u2.cell? ⟨w.heap.size + 1, 0, none⟩ = some (.int .i64 x) := by go_simp
  have fu2_1_0 : u2.frozen? ⟨w.heap.size + 1, 0, none⟩ = false := by go_simp
  have ku2_1_1 : u2.cell? ⟨w.heap.size + 1, 1, none⟩ = some (.int .i64 y) := by go_simp
  have fu2_1_1 : u2.frozen? ⟨w.heap.size + 1, 1, none⟩ = false := by go_simp
  have ku2_1_2 : u2.cell? ⟨w.heap.size + 1, 2, none⟩ = some (.int .i64 t) := by go_simp
  have fu2_1_2 : u2.frozen? ⟨w.heap.size + 1, 2, none⟩ = false := by go_simp
  have ku2_2_0 : u2.cell? ⟨w.heap.size + 1 + 1, 0, none⟩ = some (.int .i64 0) := by go_simp
  have fu2_2_0 : u2.frozen? ⟨w.heap.size + 1 + 1, 0, none⟩ = false := by go_simp
  have ku2_2_1 : u2.cell? ⟨w.heap.size + 1 + 1, 1, none⟩ = some (.int .i64 0) := by go_simp
  have fu2_2_1 : u2.frozen? ⟨w.heap.size + 1 + 1, 1, none⟩ = false := by go_simp
  have ku2_2_2 : u2.cell? ⟨w.heap.size + 1 + 1, 2, none⟩ = some (.int .i64 0) := by go_simp
  have fu2_2_2 : u2.frozen? ⟨w.heap.size + 1 + 1, 2, none⟩ = false := by go_simp
  clear hc1 hf1
  clear hc2 hf2
  go_wp2
  have b0 : u2.cell? ⟨w.heap.size + 1 + 1, 0, none⟩ = some (.int .i64 0) := by go_simp
  have b1 : u2.cell? ⟨w.heap.size + 1 + 1, 1, none⟩ = some (.int .i64 0) := by go_simp
  have b2 : u2.cell? ⟨w.heap.size + 1 + 1, 2, none⟩ = some (.int .i64 0) := by go_simp
  refine ret_cell_tmp Tryd.results37 rfl rfl (load_Dyad _ _ _ _ _ (set3 b0 b1 b2 _ _ _).1 (set3 b0 b1 b2 _ _ _).2.1 (set3 b0 b1 b2 _ _ _).2.2) ⟨rfl, by go_grown⟩
theorem impl_DyadAdd_ge_far2 (r i s x y t : Int) (w : World) (h1 : DV r i s = true) (h2 : DV x y t = true) (_ho : t ≤ s) (hz0 : x = 0) (hz : ¬ y = 0) (hf : 31 < s - t) :
    Calls Tryd.prog 37 #[.agg #[.int .i64 r, .int .i64 i, .int .i64 s], .agg #[.int .i64 x, .int .i64 y, .int .i64 t]] w (Gives (.tuple #[.agg #[.int .i64 0, .int .i64 0, .int .i64 0], .bool false]) w) := by
  obtain ⟨a1, a2, a3, a4, a5, a6, -⟩ := (DV_iff r i s).1 h1
  obtain ⟨b1, b2, b3, b4, b5, b6, -⟩ := (DV_iff x y t).1 h2
  subst hz0
  have H1 := Lib.hid h1; have H2 := Lib.hid h2; clear h1 h2
  go_enter Tryd.func37, Tryd.ntmps37
  go_wp2_with fail
  refine (valid_any r i s _).mono ?_
  rw [H1.out]
  rintro e u1 ⟨rfl, hb⟩
  have hB1 : Below w.heap.size w u1 := Below.trans (by go_grown) (hb.mono (by go_size))
  have hz1 := hb.size
  try simp at hz1
  have hw1 := hB1.size
  obtain ⟨hc1, hf1⟩ := bcell hb
  clear hb
  try have s0_0_1 : w.heap.size < u1.heap.size := by omega
  try have l0_0_1 : w.heap.size ≤ u1.heap.size := by omega
  try have s0_1_1 : w.heap.size + 1 < u1.heap.size := by omega
  try have l0_1_1 : w.heap.size + 1 ≤ u1.heap.size := by omega
  try have s0_2_1 : w.heap.size + 2 < u1.heap.size := by omega
  try have l0_2_1 : w.heap.size + 2 ≤ u1.heap.size := by omega
  go_wp2_with fail
  refine (valid_any 0 y t _).mono ?_
  rw [H2.out]
  rintro e u2 ⟨rfl, hb⟩
  have hB2 : Below w.heap.size w u2 := Below.trans (by go_grown) (hb.mono (by go_size))
  have hz2 := hb.size
  try simp at hz2
  have hw2 := hB2.size
  obtain ⟨hc2, hf2⟩ := bcell hb
  clear hb
  try have s0_0_2 : w.heap.size < u2.heap.size := by omega
  try have l0_0_2 : w.heap.size ≤ u2.heap.size := by omega
  try have s0_1_2 : w.heap.size + 1 < u2.heap.size := by omega
  try have l0_1_2 : w.heap.size + 1 ≤ u2.heap.size := by omega
  try have s0_2_2 : w.heap.size + 2 < u2.heap.size := by omega
  try have l0_2_2 : w.heap.size + 2 ≤ u2.heap.size := by omega
  try have s1_0_2 : u1.heap.size < u2.heap.size := by omega
  try have l1_0_2 : u1.heap.size ≤ u2.heap.size := by omega
  have ku2_0_0 : u2.cell? ⟨w.heap.size, 0, none⟩ = some (.int .i64 r) := by go_simp
  have fu2_0_0 : u2.frozen? ⟨w.heap.size, 0, none⟩ = false := by go_simp
  have ku2_0_1 : u2.cell? ⟨w.heap.size, 1, none⟩ = some (.int .i64 i) := by go_simp
  have fu2_0_1 : u2.frozen? ⟨w.heap.size, 1, none⟩ = false := by go_simp
  have ku2_0_2 : u2.cell? ⟨w.heap.size, 2, none⟩ = some (.int .i64 s) := by go_simp
  have fu2_0_2 : u2.frozen? ⟨w.heap.size, 2, none⟩ = false := by go_simp
  have ku2_1_0 : u2.cell? ⟨w.heap.size + 1, 0, none⟩ = some (.int .i64 0) := by go_simp
  have fu2_1_0 : u2.frozen? ⟨w.heap.size + 1, 0, none⟩ = false := by go_simp
  have ku2_1_1 : u2.cell? ⟨w.heap.size + 1, 1, none⟩ = some (.int .i64 y) := by go_simp
  have fu2_1_1 : u2.frozen? ⟨w.heap.size + 1, 1, none⟩ = false := by go_simp
  have ku2_1_2 : u2.cell? ⟨w.heap.size + 1, 2, none⟩ = some (.int .i64 t) := by go_simp
  have fu2_1_2 : u2.frozen? ⟨w.heap.size + 1, 2, none⟩ = false := by go_simp
  have ku2_2_0 : u2.cell? ⟨w.heap.size + 1 + 1, 0, none⟩ = some (.int .i64 0) := by go_simp
  have fu2_2_0 : u2.frozen? ⟨w.heap.size + 1 + 1, 0, none⟩ = false := by go_simp
  have ku2_2_1 : u2.cell? ⟨w.heap.size + 1 + 1, 1, none⟩ = some (.int .i64 0) := by go_simp
  have fu2_2_1 : u2.frozen? ⟨w.heap.size + 1 + 1, 1, none⟩ = false := by go_simp
  have ku2_2_2 : u2.cell? ⟨w.heap.size + 1 + 1, 2, none⟩ = some (.int .i64 0) := by go_simp
  have fu2_2_2 : u2.frozen? ⟨w.heap.size + 1 + 1, 2, none⟩ = false := by go_simp
  clear hc1 hf1
  clear hc2 hf2
  go_wp2
  have b0 : u2.cell? ⟨w.heap.size + 1 + 1, 0, none⟩ = some (.int .i64 0) := by go_simp
  have b1 : u2.cell? ⟨w.heap.size + 1 + 1, 1, none⟩ = some (.int .i64 0) := by go_simp
  have b2 : u2.cell? ⟨w.heap.size + 1 + 1, 2, none⟩ = some (.int .i64 0) := by go_simp
  refine ret_cell_tmp Tryd.results37 rfl rfl (load_Dyad _ _ _ _ _ (set3 b0 b1 b2 _ _ _).1 (set3 b0 b1 b2 _ _ _).2.1 (set3 b0 b1 b2 _ _ _).2.2) ⟨rfl, by go_grown⟩
set_option maxHeartbeats 400000 in
theorem impl_DyadAdd_ge_yes1 (r i s x y t : Int) (w : World) (h1 : DV r i s = true) (h2 : DV x y t = true) (ho : t ≤ s) (hz : ¬ x = 0) (hn : s - t ≤ 31) (hl : DV (lR (AP r s x t) (AP i s y t) (max s t)) (lI (AP r s x t) (AP i s y t) (max s t)) (lS (AP r s x t) (AP i s y t) (max s t)) = true) :
    Calls Tryd.prog 37 #[.agg #[.int .i64 r, .int .i64 i, .int .i64 s], .agg #[.int .i64 x, .int .i64 y, .int .i64 t]] w (Gives (.tuple #[.agg #[.int .i64 (lR (AP r s x t) (AP i s y t) (max s t)), .int .i64 (lI (AP r s x t) (AP i s y t) (max s t)), .int .i64 (lS (AP r s x t) (AP i s y t) (max s t))], .bool true]) w) := by
  obtain ⟨a1, a2, a3, a4, a5, a6, -⟩ := (DV_iff r i s).1 h1
  obtain ⟨b1, b2, b3, b4, b5, b6, -⟩ := (DV_iff x y t).1 h2
  have hm : max s t = s := Int.max_eq_left ho
  obtain ⟨k0, k1, k2, k3, k4⟩ := add_near r i s x y t ho h1 h2 hn
  obtain ⟨p, hp⟩ : ∃ p : Int, x * 2 ^ (s - t).toNat = p := ⟨_, rfl⟩
  obtain ⟨q, hq⟩ : ∃ q : Int, y * 2 ^ (s - t).toNat = q := ⟨_, rfl⟩
  have w1 := (shl_up _ _ k1 k2).trans hp
  have v1 := shl_i64 w1
  have w2 := (shl_up _ _ k3 k4).trans hq
  have v2 := shl_i64 w2
  have ep : AP r s x t = r + p := by rw [AP_ge _ _ _ _ ho, hp]
  have eq' : AP i s y t = i + q := by rw [AP_ge _ _ _ _ ho, hq]
  have hk : MK (AP r s x t) (AP i s y t) (max s t) = true := by unfold MK; rw [k0, hl]; rfl
  rw [ep, eq', hm] at hk ⊢
  rw [hp] at k1 k2
  rw [hq] at k3 k4
  have v3 : IntKind.i64.wrap (r + p) = r + p := IntWalk.i64_in _ (by omega)
  have v4 : IntKind.i64.wrap (i + q) = i + q := IntWalk.i64_in _ (by omega)
  have HK := Lib.hid hk; clear hk ep eq' hm k0 hl
  have HP := Lib.hid hp; have HQ := Lib.hid hq; clear hp hq
  have n1 : 0 ≤ s - t := by omega
  have H1 := Lib.hid h1; have H2 := Lib.hid h2; clear h1 h2
  go_enter Tryd.func37, Tryd.ntmps37
  go_wp2_with fail
  refine (valid_any r i s _).mono ?_
  rw [H1.out]
  rintro e u1 ⟨rfl, hb⟩
  have hB1 : Below w.heap.size w u1 := Below.trans (by go_grown) (hb.mono (by go_size))
  have hz1 := hb.size
  try simp at hz1
  have hw1 := hB1.size
  obtain ⟨hc1, hf1⟩ := bcell hb
  clear hb
  try have s0_0_1 : w.heap.size < u1.heap.size := by omega
  try have l0_0_1 : w.heap.size ≤ u1.heap.size := by omega
  try have s0_1_1 : w.heap.size + 1 < u1.heap.size := by omega
  try have l0_1_1 : w.heap.size + 1 ≤ u1.heap.size := by omega
  try have s0_2_1 : w.heap.size + 2 < u1.heap.size := by omega
  try have l0_2_1 : w.heap.size + 2 ≤ u1.heap.size := by omega
  go_wp2_with fail
  refine (valid_any x y t _).mono ?_
  rw [H2.out]
  rintro e u2 ⟨rfl, hb⟩
  have hB2 : Below w.heap.size w u2 := Below.trans (by go_grown) (hb.mono (by go_size))
  have hz2 := hb.size
  try simp at hz2
  have hw2 := hB2.size
  obtain ⟨hc2, hf2⟩ := bcell hb
  clear hb
  try have s0_0_2 : w.heap.size < u2.heap.size := by omega
  try have l0_0_2 : w.heap.size ≤ u2.heap.size := by omega
  try have s0_1_2 : w.heap.size + 1 < u2.heap.size := by omega
  try have l0_1_2 : w.heap.size + 1 ≤ u2.heap.size := by omega
  try have s0_2_2 : w.heap.size + 2 < u2.heap.size := by omega
  try have l0_2_2 : w.heap.size + 2 ≤ u2.heap.size := by omega
  try have s1_0_2 : u1.heap.size < u2.heap.size := by omega
  try have l1_0_2 : u1.heap.size ≤ u2.heap.size := by omega
  have ku2_0_0 : u2.cell? ⟨w.heap.size, 0, none⟩ = some (.int .i64 r) := by go_simp
  have fu2_0_0 : u2.frozen? ⟨w.heap.size, 0, none⟩ = false := by go_simp
  have ku2_0_1 : u2.cell? ⟨w.heap.size, 1, none⟩ = some (.int .i64 i) := by go_simp
  have fu2_0_1 : u2.frozen? ⟨w.heap.size, 1, none⟩ = false := by go_simp
  have ku2_0_2 : u2.cell? ⟨w.heap.size, 2, none⟩ = some (.int .i64 s) := by go_simp
  have fu2_0_2 : u2.frozen? ⟨w.heap.size, 2, none⟩ = false := by go_simp
  have ku2_1_0 : u2.cell? ⟨w.heap.size + 1, 0, none⟩ = some (.int .i64 x) := by go_simp
  have fu2_1_0 : u2.frozen? ⟨w.heap.size + 1, 0, none⟩ = false := by go_simp
  have ku2_1_1 : u2.cell? ⟨w.heap.size + 1, 1, none⟩ = some (.int .i64 y) := by go_simp
  have fu2_1_1 : u2.frozen? ⟨w.heap.size + 1, 1, none⟩ = false := by go_simp
  have ku2_1_2 : u2.cell? ⟨w.heap.size + 1, 2, none⟩ = some (.int .i64 t) := by go_simp
  have fu2_1_2 : u2.frozen? ⟨w.heap.size + 1, 2, none⟩ = false := by go_simp
  have ku2_2_0 : u2.cell? ⟨w.heap.size + 1 + 1, 0, none⟩ = some (.int .i64 0) := by go_simp
  have fu2_2_0 : u2.frozen? ⟨w.heap.size + 1 + 1, 0, none⟩ = false := by go_simp
  have ku2_2_1 : u2.cell? ⟨w.heap.size + 1 + 1, 1, none⟩ = some (.int .i64 0) := by go_simp
  have fu2_2_1 : u2.frozen? ⟨w.heap.size + 1 + 1, 1, none⟩ = false := by go_simp
  have ku2_2_2 : u2.cell? ⟨w.heap.size + 1 + 1, 2, none⟩ = some (.int .i64 0) := by go_simp
  have fu2_2_2 : u2.frozen? ⟨w.heap.size + 1 + 1, 2, none⟩ = false := by go_simp
  clear hc1 hf1
  clear hc2 hf2
  have g0 : w.heap.size < u2.heap.size := by omega
  have g1 : w.heap.size + 1 < u2.heap.size := by omega
  have g2 : w.heap.size + 1 + 1 < u2.heap.size := by omega
  go_wp2
  go_region_held3 (fun w' => w'.cell? ⟨w.heap.size, 0, none⟩ = some (.int .i64 r) ∧ w'.cell? ⟨w.heap.size, 1, none⟩ = some (.int .i64 i) ∧ w'.cell? ⟨w.heap.size, 2, none⟩ = some (.int .i64 s) ∧ w'.cell? ⟨w.heap.size + 1, 0, none⟩ = some (.int .i64 x) ∧ w'.cell? ⟨w.heap.size + 1, 1, none⟩ = some (.int .i64 y))
    (first | exact ⟨ku2_0_0, ku2_0_1, ku2_0_2, ku2_1_0, ku2_1_1⟩ | exact ⟨hd0, hd1, hd2, hd3, hd4⟩ | exact ⟨set3_out hd0 (by omega), set3_out hd1 (by omega), set3_out hd2 (by omega), set3_out hd3 (by omega), set3_out hd4 (by omega)⟩)
    (first | (go_at_call 35; refine (impl_DyadMake_yes (r + p) (i + q) s _ HK.out).mono ?_; rintro e u4 ⟨rfl, hb⟩; have hB4 : Below w.heap.size w u4 := Below.trans (by go_grown) (hb.mono (by go_size)); have hd0 := (hb.cell (p := ⟨w.heap.size, 0, none⟩) g0).trans ku2_0_0; have hd1 := (hb.cell (p := ⟨w.heap.size, 1, none⟩) g0).trans ku2_0_1; have hd2 := (hb.cell (p := ⟨w.heap.size, 2, none⟩) g0).trans ku2_0_2; have hd3 := (hb.cell (p := ⟨w.heap.size + 1, 0, none⟩) g1).trans ku2_1_0; have hd4 := (hb.cell (p := ⟨w.heap.size + 1, 1, none⟩) g1).trans ku2_1_1; have e0 := (hb.cell (p := ⟨w.heap.size + 1 + 1, 0, none⟩) g2).trans ku2_2_0; have q0 := (hb.frozen (p := ⟨w.heap.size + 1 + 1, 0, none⟩) g2).trans fu2_2_0; have e1 := (hb.cell (p := ⟨w.heap.size + 1 + 1, 1, none⟩) g2).trans ku2_2_1; have q1 := (hb.frozen (p := ⟨w.heap.size + 1 + 1, 1, none⟩) g2).trans fu2_2_1; have e2 := (hb.cell (p := ⟨w.heap.size + 1 + 1, 2, none⟩) g2).trans ku2_2_2; have q2 := (hb.frozen (p := ⟨w.heap.size + 1 + 1, 2, none⟩) g2).trans fu2_2_2; clear hb))
  have hB4' := hB4
  go_wp2
  refine ret_cell_tmp Tryd.results37 rfl rfl (load_Dyad _ _ _ _ _ (set3 e0 e1 e2 _ _ _).1 (set3 e0 e1 e2 _ _ _).2.1 (set3 e0 e1 e2 _ _ _).2.2) ⟨rfl, by go_grown⟩
set_option maxHeartbeats 400000 in
theorem impl_DyadAdd_ge_yes2 (r i s x y t : Int) (w : World) (h1 : DV r i s = true) (h2 : DV x y t = true) (ho : t ≤ s) (hz0 : x = 0) (hz : ¬ y = 0) (hn : s - t ≤ 31) (hl : DV (lR (AP r s x t) (AP i s y t) (max s t)) (lI (AP r s x t) (AP i s y t) (max s t)) (lS (AP r s x t) (AP i s y t) (max s t)) = true) :
    Calls Tryd.prog 37 #[.agg #[.int .i64 r, .int .i64 i, .int .i64 s], .agg #[.int .i64 x, .int .i64 y, .int .i64 t]] w (Gives (.tuple #[.agg #[.int .i64 (lR (AP r s x t) (AP i s y t) (max s t)), .int .i64 (lI (AP r s x t) (AP i s y t) (max s t)), .int .i64 (lS (AP r s x t) (AP i s y t) (max s t))], .bool true]) w) := by
  obtain ⟨a1, a2, a3, a4, a5, a6, -⟩ := (DV_iff r i s).1 h1
  obtain ⟨b1, b2, b3, b4, b5, b6, -⟩ := (DV_iff x y t).1 h2
  subst hz0
  have hm : max s t = s := Int.max_eq_left ho
  obtain ⟨k0, k1, k2, k3, k4⟩ := add_near r i s 0 y t ho h1 h2 hn
  obtain ⟨p, hp⟩ : ∃ p : Int, 0 * 2 ^ (s - t).toNat = p := ⟨_, rfl⟩
  obtain ⟨q, hq⟩ : ∃ q : Int, y * 2 ^ (s - t).toNat = q := ⟨_, rfl⟩
  have w2 := (shl_up _ _ k3 k4).trans hq
  have v2 := shl_i64 w2
  have ep : AP r s 0 t = r + p := by rw [AP_ge _ _ _ _ ho, hp]
  have eq' : AP i s y t = i + q := by rw [AP_ge _ _ _ _ ho, hq]
  have hk : MK (AP r s 0 t) (AP i s y t) (max s t) = true := by unfold MK; rw [k0, hl]; rfl
  rw [ep, eq', hm] at hk ⊢
  rw [hp] at k1 k2
  rw [hq] at k3 k4
  have hp0 : p = 0 := by rw [← hp, Int.zero_mul]
  subst hp0
  rw [Int.add_zero] at hk ⊢
  have v3 : IntKind.i64.wrap r = r := IntWalk.i64_in _ (by omega)
  have v5 : IntKind.i64.wrap 0 = 0 := rfl
  have v4 : IntKind.i64.wrap (i + q) = i + q := IntWalk.i64_in _ (by omega)
  have HK := Lib.hid hk; clear hk ep eq' hm k0 hl
  have HP := Lib.hid hp; have HQ := Lib.hid hq; clear hp hq
  have n1 : 0 ≤ s - t := by omega
  have H1 := Lib.hid h1; have H2 := Lib.hid h2; clear h1 h2
  go_enter Tryd.func37, Tryd.ntmps37
  go_wp2_with fail
  refine (valid_any r i s _).mono ?_
  rw [H1.out]
  rintro e u1 ⟨rfl, hb⟩
  have hB1 : Below w.heap.size w u1 := Below.trans (by go_grown) (hb.mono (by go_size))
  have hz1 := hb.size
  try simp at hz1
  have hw1 := hB1.size
  obtain ⟨hc1, hf1⟩ := bcell hb
  clear hb
  try have s0_0_1 : w.heap.size < u1.heap.size := by omega
  try have l0_0_1 : w.heap.size ≤ u1.heap.size := by omega
  try have s0_1_1 : w.heap.size + 1 < u1.heap.size := by omega
  try have l0_1_1 : w.heap.size + 1 ≤ u1.heap.size := by omega
  try have s0_2_1 : w.heap.size + 2 < u1.heap.size := by omega
  try have l0_2_1 : w.heap.size + 2 ≤ u1.heap.size := by omega
  go_wp2_with fail
  refine (valid_any 0 y t _).mono ?_
  rw [H2.out]
  rintro e u2 ⟨rfl, hb⟩
  have hB2 : Below w.heap.size w u2 := Below.trans (by go_grown) (hb.mono (by go_size))
  have hz2 := hb.size
  try simp at hz2
  have hw2 := hB2.size
  obtain ⟨hc2, hf2⟩ := bcell hb
  clear hb
  try have s0_0_2 : w.heap.size < u2.heap.size := by omega
  try have l0_0_2 : w.heap.size ≤ u2.heap.size := by omega
  try have s0_1_2 : w.heap.size + 1 < u2.heap.size := by omega
  try have l0_1_2 : w.heap.size + 1 ≤ u2.heap.size := by omega
  try have s0_2_2 : w.heap.size + 2 < u2.heap.size := by omega
  try have l0_2_2 : w.heap.size + 2 ≤ u2.heap.size := by omega
  try have s1_0_2 : u1.heap.size < u2.heap.size := by omega
  try have l1_0_2 : u1.heap.size ≤ u2.heap.size := by omega
  have ku2_0_0 : u2.cell? ⟨w.heap.size, 0, none⟩ = some (.int .i64 r) := by go_simp
  have fu2_0_0 : u2.frozen? ⟨w.heap.size, 0, none⟩ = false := by go_simp
  have ku2_0_1 : u2.cell? ⟨w.heap.size, 1, none⟩ = some (.int .i64 i) := by go_simp
  have fu2_0_1 : u2.frozen? ⟨w.heap.size, 1, none⟩ = false := by go_simp
  have ku2_0_2 : u2.cell? ⟨w.heap.size, 2, none⟩ = some (.int .i64 s) := by go_simp
  have fu2_0_2 : u2.frozen? ⟨w.heap.size, 2, none⟩ = false := by go_simp
  have ku2_1_0 : u2.cell? ⟨w.heap.size + 1, 0, none⟩ = some (.int .i64 0) := by go_simp
  have fu2_1_0 : u2.frozen? ⟨w.heap.size + 1, 0, none⟩ = false := by go_simp
  have ku2_1_1 : u2.cell? ⟨w.heap.size + 1, 1, none⟩ = some (.int .i64 y) := by go_simp
  have fu2_1_1 : u2.frozen? ⟨w.heap.size + 1, 1, none⟩ = false := by go_simp
  have ku2_1_2 : u2.cell? ⟨w.heap.size + 1, 2, none⟩ = some (.int .i64 t) := by go_simp
  have fu2_1_2 : u2.frozen? ⟨w.heap.size + 1, 2, none⟩ = false := by go_simp
  have ku2_2_0 : u2.cell? ⟨w.heap.size + 1 + 1, 0, none⟩ = some (.int .i64 0) := by go_simp
  have fu2_2_0 : u2.frozen? ⟨w.heap.size + 1 + 1, 0, none⟩ = false := by go_simp
  have ku2_2_1 : u2.cell? ⟨w.heap.size + 1 + 1, 1, none⟩ = some (.int .i64 0) := by go_simp
  have fu2_2_1 : u2.frozen? ⟨w.heap.size + 1 + 1, 1, none⟩ = false := by go_simp
  have ku2_2_2 : u2.cell? ⟨w.heap.size + 1 + 1, 2, none⟩ = some (.int .i64 0) := by go_simp
  have fu2_2_2 : u2.frozen? ⟨w.heap.size + 1 + 1, 2, none⟩ = false := by go_simp
  clear hc1 hf1
  clear hc2 hf2
  have g0 : w.heap.size < u2.heap.size := by omega
  have g1 : w.heap.size + 1 < u2.heap.size := by omega
  have g2 : w.heap.size + 1 + 1 < u2.heap.size := by omega
  go_wp2
  go_region_held3 (fun w' => w'.cell? ⟨w.heap.size, 0, none⟩ = some (.int .i64 r) ∧ w'.cell? ⟨w.heap.size, 1, none⟩ = some (.int .i64 i) ∧ w'.cell? ⟨w.heap.size, 2, none⟩ = some (.int .i64 s) ∧ w'.cell? ⟨w.heap.size + 1, 0, none⟩ = some (.int .i64 0) ∧ w'.cell? ⟨w.heap.size + 1, 1, none⟩ = some (.int .i64 y))
    (first | exact ⟨ku2_0_0, ku2_0_1, ku2_0_2, ku2_1_0, ku2_1_1⟩ | exact ⟨hd0, hd1, hd2, hd3, hd4⟩ | exact ⟨set3_out hd0 (by omega), set3_out hd1 (by omega), set3_out hd2 (by omega), set3_out hd3 (by omega), set3_out hd4 (by omega)⟩)
    (first | (go_at_call 35; refine (impl_DyadMake_yes r (i + q) s _ HK.out).mono ?_; rintro e u4 ⟨rfl, hb⟩; have hB4 : Below w.heap.size w u4 := Below.trans (by go_grown) (hb.mono (by go_size)); have hd0 := (hb.cell (p := ⟨w.heap.size, 0, none⟩) g0).trans ku2_0_0; have hd1 := (hb.cell (p := ⟨w.heap.size, 1, none⟩) g0).trans ku2_0_1; have hd2 := (hb.cell (p := ⟨w.heap.size, 2, none⟩) g0).trans ku2_0_2; have hd3 := (hb.cell (p := ⟨w.heap.size + 1, 0, none⟩) g1).trans ku2_1_0; have hd4 := (hb.cell (p := ⟨w.heap.size + 1, 1, none⟩) g1).trans ku2_1_1; have e0 := (hb.cell (p := ⟨w.heap.size + 1 + 1, 0, none⟩) g2).trans ku2_2_0; have q0 := (hb.frozen (p := ⟨w.heap.size + 1 + 1, 0, none⟩) g2).trans fu2_2_0; have e1 := (hb.cell (p := ⟨w.heap.size + 1 + 1, 1, none⟩) g2).trans ku2_2_1; have q1 := (hb.frozen (p := ⟨w.heap.size + 1 + 1, 1, none⟩) g2).trans fu2_2_1; have e2 := (hb.cell (p := ⟨w.heap.size + 1 + 1, 2, none⟩) g2).trans ku2_2_2; have q2 := (hb.frozen (p := ⟨w.heap.size + 1 + 1, 2, none⟩) g2).trans fu2_2_2; clear hb))
  have hB4' := hB4
  go_wp2
  refine ret_cell_tmp Tryd.results37 rfl rfl (load_Dyad _ _ _ _ _ (set3 e0 e1 e2 _ _ _).1 (set3 e0 e1 e2 _ _ _).2.1 (set3 e0 e1 e2 _ _ _).2.2) ⟨rfl, by go_grown⟩
set_option maxHeartbeats 400000 in
theorem impl_DyadAdd_ge_no1 (r i s x y t : Int) (w : World) (h1 : DV r i s = true) (h2 : DV x y t = true) (ho : t ≤ s) (hz : ¬ x = 0) (hn : s - t ≤ 31) (hl : DV (lR (AP r s x t) (AP i s y t) (max s t)) (lI (AP r s x t) (AP i s y t) (max s t)) (lS (AP r s x t) (AP i s y t) (max s t)) = false) :
    Calls Tryd.prog 37 #[.agg #[.int .i64 r, .int .i64 i, .int .i64 s], .agg #[.int .i64 x, .int .i64 y, .int .i64 t]] w (Gives (.tuple #[.agg #[.int .i64 0, .int .i64 0, .int .i64 0], .bool false]) w) := by
  obtain ⟨a1, a2, a3, a4, a5, a6, -⟩ := (DV_iff r i s).1 h1
  obtain ⟨b1, b2, b3, b4, b5, b6, -⟩ := (DV_iff x y t).1 h2
  have hm : max s t = s := Int.max_eq_left ho
  obtain ⟨k0, k1, k2, k3, k4⟩ := add_near r i s x y t ho h1 h2 hn
  obtain ⟨p, hp⟩ : ∃ p : Int, x * 2 ^ (s - t).toNat = p := ⟨_, rfl⟩
  obtain ⟨q, hq⟩ : ∃ q : Int, y * 2 ^ (s - t).toNat = q := ⟨_, rfl⟩
  have w1 := (shl_up _ _ k1 k2).trans hp
  have v1 := shl_i64 w1
  have w2 := (shl_up _ _ k3 k4).trans hq
  have v2 := shl_i64 w2
  have ep : AP r s x t = r + p := by rw [AP_ge _ _ _ _ ho, hp]
  have eq' : AP i s y t = i + q := by rw [AP_ge _ _ _ _ ho, hq]
  have hk : MK (AP r s x t) (AP i s y t) (max s t) = false := by unfold MK; rw [k0, hl]; rfl
  rw [ep, eq', hm] at hk
  rw [hp] at k1 k2
  rw [hq] at k3 k4
  have v3 : IntKind.i64.wrap (r + p) = r + p := IntWalk.i64_in _ (by omega)
  have v4 : IntKind.i64.wrap (i + q) = i + q := IntWalk.i64_in _ (by omega)
  have HK := Lib.hid hk; clear hk ep eq' hm k0 hl
  have HP := Lib.hid hp; have HQ := Lib.hid hq; clear hp hq
  have n1 : 0 ≤ s - t := by omega
  have H1 := Lib.hid h1; have H2 := Lib.hid h2; clear h1 h2
  go_enter Tryd.func37, Tryd.ntmps37
  go_wp2_with fail
  refine (valid_any r i s _).mono ?_
  rw [H1.out]
  rintro e u1 ⟨rfl, hb⟩
  have hB1 : Below w.heap.size w u1 := Below.trans (by go_grown) (hb.mono (by go_size))
  have hz1 := hb.size
  try simp at hz1
  have hw1 := hB1.size
  obtain ⟨hc1, hf1⟩ := bcell hb
  clear hb
  try have s0_0_1 : w.heap.size < u1.heap.size := by omega
  try have l0_0_1 : w.heap.size ≤ u1.heap.size := by omega
  try have s0_1_1 : w.heap.size + 1 < u1.heap.size := by omega
  try have l0_1_1 : w.heap.size + 1 ≤ u1.heap.size := by omega
  try have s0_2_1 : w.heap.size + 2 < u1.heap.size := by omega
  try have l0_2_1 : w.heap.size + 2 ≤ u1.heap.size := by omega
  go_wp2_with fail
  refine (valid_any x y t _).mono ?_
  rw [H2.out]
  rintro e u2 ⟨rfl, hb⟩
  have hB2 : Below w.heap.size w u2 := Below.trans (by go_grown) (hb.mono (by go_size))
  have hz2 := hb.size
  try simp at hz2
  have hw2 := hB2.size
  obtain ⟨hc2, hf2⟩ := bcell hb
  clear hb
  try have s0_0_2 : w.heap.size < u2.heap.size := by omega
  try have l0_0_2 : w.heap.size ≤ u2.heap.size := by omega
  try have s0_1_2 : w.heap.size + 1 < u2.heap.size := by omega
  try have l0_1_2 : w.heap.size + 1 ≤ u2.heap.size := by omega
  try have s0_2_2 : w.heap.size + 2 < u2.heap.size := by omega
  try have l0_2_2 : w.heap.size + 2 ≤ u2.heap.size := by omega
  try have s1_0_2 : u1.heap.size < u2.heap.size := by omega
  try have l1_0_2 : u1.heap.size ≤ u2.heap.size := by omega
  have ku2_0_0 : u2.cell? ⟨w.heap.size, 0, none⟩ = some (.int .i64 r) := by go_simp
  have fu2_0_0 : u2.frozen? ⟨w.heap.size, 0, none⟩ = false := by go_simp
  have ku2_0_1 : u2.cell? ⟨w.heap.size, 1, none⟩ = some (.int .i64 i) := by go_simp
  have fu2_0_1 : u2.frozen? ⟨w.heap.size, 1, none⟩ = false := by go_simp
  have ku2_0_2 : u2.cell? ⟨w.heap.size, 2, none⟩ = some (.int .i64 s) := by go_simp
  have fu2_0_2 : u2.frozen? ⟨w.heap.size, 2, none⟩ = false := by go_simp
  have ku2_1_0 : u2.cell? ⟨w.heap.size + 1, 0, none⟩ = some (.int .i64 x) := by go_simp
  have fu2_1_0 : u2.frozen? ⟨w.heap.size + 1, 0, none⟩ = false := by go_simp
  have ku2_1_1 : u2.cell? ⟨w.heap.size + 1, 1, none⟩ = some (.int .i64 y) := by go_simp
  have fu2_1_1 : u2.frozen? ⟨w.heap.size + 1, 1, none⟩ = false := by go_simp
  have ku2_1_2 : u2.cell? ⟨w.heap.size + 1, 2, none⟩ = some (.int .i64 t) := by go_simp
  have fu2_1_2 : u2.frozen? ⟨w.heap.size + 1, 2, none⟩ = false := by go_simp
  have ku2_2_0 : u2.cell? ⟨w.heap.size + 1 + 1, 0, none⟩ = some (.int .i64 0) := by go_simp
  have fu2_2_0 : u2.frozen? ⟨w.heap.size + 1 + 1, 0, none⟩ = false := by go_simp
  have ku2_2_1 : u2.cell? ⟨w.heap.size + 1 + 1, 1, none⟩ = some (.int .i64 0) := by go_simp
  have fu2_2_1 : u2.frozen? ⟨w.heap.size + 1 + 1, 1, none⟩ = false := by go_simp
  have ku2_2_2 : u2.cell? ⟨w.heap.size + 1 + 1, 2, none⟩ = some (.int .i64 0) := by go_simp
  have fu2_2_2 : u2.frozen? ⟨w.heap.size + 1 + 1, 2, none⟩ = false := by go_simp
  clear hc1 hf1
  clear hc2 hf2
  have g0 : w.heap.size < u2.heap.size := by omega
  have g1 : w.heap.size + 1 < u2.heap.size := by omega
  have g2 : w.heap.size + 1 + 1 < u2.heap.size := by omega
  go_wp2
  go_region_held3 (fun w' => w'.cell? ⟨w.heap.size, 0, none⟩ = some (.int .i64 r) ∧ w'.cell? ⟨w.heap.size, 1, none⟩ = some (.int .i64 i) ∧ w'.cell? ⟨w.heap.size, 2, none⟩ = some (.int .i64 s) ∧ w'.cell? ⟨w.heap.size + 1, 0, none⟩ = some (.int .i64 x) ∧ w'.cell? ⟨w.heap.size + 1, 1, none⟩ = some (.int .i64 y))
    (first | exact ⟨ku2_0_0, ku2_0_1, ku2_0_2, ku2_1_0, ku2_1_1⟩ | exact ⟨hd0, hd1, hd2, hd3, hd4⟩ | exact ⟨set3_out hd0 (by omega), set3_out hd1 (by omega), set3_out hd2 (by omega), set3_out hd3 (by omega), set3_out hd4 (by omega)⟩)
    (first | (go_at_call 35; refine (impl_DyadMake_no (r + p) (i + q) s _ HK.out).mono ?_; rintro e u4 ⟨rfl, hb⟩; have hB4 : Below w.heap.size w u4 := Below.trans (by go_grown) (hb.mono (by go_size)); have hd0 := (hb.cell (p := ⟨w.heap.size, 0, none⟩) g0).trans ku2_0_0; have hd1 := (hb.cell (p := ⟨w.heap.size, 1, none⟩) g0).trans ku2_0_1; have hd2 := (hb.cell (p := ⟨w.heap.size, 2, none⟩) g0).trans ku2_0_2; have hd3 := (hb.cell (p := ⟨w.heap.size + 1, 0, none⟩) g1).trans ku2_1_0; have hd4 := (hb.cell (p := ⟨w.heap.size + 1, 1, none⟩) g1).trans ku2_1_1; have e0 := (hb.cell (p := ⟨w.heap.size + 1 + 1, 0, none⟩) g2).trans ku2_2_0; have q0 := (hb.frozen (p := ⟨w.heap.size + 1 + 1, 0, none⟩) g2).trans fu2_2_0; have e1 := (hb.cell (p := ⟨w.heap.size + 1 + 1, 1, none⟩) g2).trans ku2_2_1; have q1 := (hb.frozen (p := ⟨w.heap.size + 1 + 1, 1, none⟩) g2).trans fu2_2_1; have e2 := (hb.cell (p := ⟨w.heap.size + 1 + 1, 2, none⟩) g2).trans ku2_2_2; have q2 := (hb.frozen (p := ⟨w.heap.size + 1 + 1, 2, none⟩) g2).trans fu2_2_2; clear hb))
  have hB4' := hB4
  go_wp2
  refine ret_cell_tmp Tryd.results37 rfl rfl (load_Dyad _ _ _ _ _ (set3 e0 e1 e2 _ _ _).1 (set3 e0 e1 e2 _ _ _).2.1 (set3 e0 e1 e2 _ _ _).2.2) ⟨rfl, by go_grown⟩
set_option maxHeartbeats 400000 in
theorem impl_DyadAdd_ge_no2 (r i s x y t : Int) (w : World) (h1 : DV r i s = true) (h2 : DV x y t = true) (ho : t ≤ s) (hz0 : x = 0) (hz : ¬ y = 0) (hn : s - t ≤ 31) (hl : DV (lR (AP r s x t) (AP i s y t) (max s t)) (lI (AP r s x t) (AP i s y t) (max s t)) (lS (AP r s x t) (AP i s y t) (max s t)) = false) :
    Calls Tryd.prog 37 #[.agg #[.int .i64 r, .int .i64 i, .int .i64 s], .agg #[.int .i64 x, .int .i64 y, .int .i64 t]] w (Gives (.tuple #[.agg #[.int .i64 0, .int .i64 0, .int .i64 0], .bool false]) w) := by
  obtain ⟨a1, a2, a3, a4, a5, a6, -⟩ := (DV_iff r i s).1 h1
  obtain ⟨b1, b2, b3, b4, b5, b6, -⟩ := (DV_iff x y t).1 h2
  subst hz0
  have hm : max s t = s := Int.max_eq_left ho
  obtain ⟨k0, k1, k2, k3, k4⟩ := add_near r i s 0 y t ho h1 h2 hn
  obtain ⟨p, hp⟩ : ∃ p : Int, 0 * 2 ^ (s - t).toNat = p := ⟨_, rfl⟩
  obtain ⟨q, hq⟩ : ∃ q : Int, y * 2 ^ (s - t).toNat = q := ⟨_, rfl⟩
  have w2 := (shl_up _ _ k3 k4).trans hq
  have v2 := shl_i64 w2
  have ep : AP r s 0 t = r + p := by rw [AP_ge _ _ _ _ ho, hp]
  have eq' : AP i s y t = i + q := by rw [AP_ge _ _ _ _ ho, hq]
  have hk : MK (AP r s 0 t) (AP i s y t) (max s t) = false := by unfold MK; rw [k0, hl]; rfl
  rw [ep, eq', hm] at hk
  rw [hp] at k1 k2
  rw [hq] at k3 k4
  have hp0 : p = 0 := by rw [← hp, Int.zero_mul]
  subst hp0
  rw [Int.add_zero] at hk
  have v3 : IntKind.i64.wrap r = r := IntWalk.i64_in _ (by omega)
  have v5 : IntKind.i64.wrap 0 = 0 := rfl
  have v4 : IntKind.i64.wrap (i + q) = i + q := IntWalk.i64_in _ (by omega)
  have HK := Lib.hid hk; clear hk ep eq' hm k0 hl
  have HP := Lib.hid hp; have HQ := Lib.hid hq; clear hp hq
  have n1 : 0 ≤ s - t := by omega
  have H1 := Lib.hid h1; have H2 := Lib.hid h2; clear h1 h2
  go_enter Tryd.func37, Tryd.ntmps37
  go_wp2_with fail
  refine (valid_any r i s _).mono ?_
  rw [H1.out]
  rintro e u1 ⟨rfl, hb⟩
  have hB1 : Below w.heap.size w u1 := Below.trans (by go_grown) (hb.mono (by go_size))
  have hz1 := hb.size
  try simp at hz1
  have hw1 := hB1.size
  obtain ⟨hc1, hf1⟩ := bcell hb
  clear hb
  try have s0_0_1 : w.heap.size < u1.heap.size := by omega
  try have l0_0_1 : w.heap.size ≤ u1.heap.size := by omega
  try have s0_1_1 : w.heap.size + 1 < u1.heap.size := by omega
  try have l0_1_1 : w.heap.size + 1 ≤ u1.heap.size := by omega
  try have s0_2_1 : w.heap.size + 2 < u1.heap.size := by omega
  try have l0_2_1 : w.heap.size + 2 ≤ u1.heap.size := by omega
  go_wp2_with fail
  refine (valid_any 0 y t _).mono ?_
  rw [H2.out]
  rintro e u2 ⟨rfl, hb⟩
  have hB2 : Below w.heap.size w u2 := Below.trans (by go_grown) (hb.mono (by go_size))
  have hz2 := hb.size
  try simp at hz2
  have hw2 := hB2.size
  obtain ⟨hc2, hf2⟩ := bcell hb
  clear hb
  try have s0_0_2 : w.heap.size < u2.heap.size := by omega
  try have l0_0_2 : w.heap.size ≤ u2.heap.size := by omega
  try have s0_1_2 : w.heap.size + 1 < u2.heap.size := by omega
  try have l0_1_2 : w.heap.size + 1 ≤ u2.heap.size := by omega
  try have s0_2_2 : w.heap.size + 2 < u2.heap.size := by omega
  try have l0_2_2 : w.heap.size + 2 ≤ u2.heap.size := by omega
  try have s1_0_2 : u1.heap.size < u2.heap.size := by omega
  try have l1_0_2 : u1.heap.size ≤ u2.heap.size := by omega
  have ku2_0_0 : u2.cell? ⟨w.heap.size, 0, none⟩ = some (.int .i64 r) := by go_simp
  have fu2_0_0 : u2.frozen? ⟨w.heap.size, 0, none⟩ = false := by go_simp
  have ku2_0_1 : u2.cell? ⟨w.heap.size, 1, none⟩ = some (.int .i64 i) := by go_simp
  have fu2_0_1 : u2.frozen? ⟨w.heap.size, 1, none⟩ = false := by go_simp
  have ku2_0_2 : u2.cell? ⟨w.heap.size, 2, none⟩ = some (.int .i64 s) := by go_simp
  have fu2_0_2 : u2.frozen? ⟨w.heap.size, 2, none⟩ = false := by go_simp
  have ku2_1_0 : u2.cell? ⟨w.heap.size + 1, 0, none⟩ = some (.int .i64 0) := by go_simp
  have fu2_1_0 : u2.frozen? ⟨w.heap.size + 1, 0, none⟩ = false := by go_simp
  have ku2_1_1 : u2.cell? ⟨w.heap.size + 1, 1, none⟩ = some (.int .i64 y) := by go_simp
  have fu2_1_1 : u2.frozen? ⟨w.heap.size + 1, 1, none⟩ = false := by go_simp
  have ku2_1_2 : u2.cell? ⟨w.heap.size + 1, 2, none⟩ = some (.int .i64 t) := by go_simp
  have fu2_1_2 : u2.frozen? ⟨w.heap.size + 1, 2, none⟩ = false := by go_simp
  have ku2_2_0 : u2.cell? ⟨w.heap.size + 1 + 1, 0, none⟩ = some (.int .i64 0) := by go_simp
  have fu2_2_0 : u2.frozen? ⟨w.heap.size + 1 + 1, 0, none⟩ = false := by go_simp
  have ku2_2_1 : u2.cell? ⟨w.heap.size + 1 + 1, 1, none⟩ = some (.int .i64 0) := by go_simp
  have fu2_2_1 : u2.frozen? ⟨w.heap.size + 1 + 1, 1, none⟩ = false := by go_simp
  have ku2_2_2 : u2.cell? ⟨w.heap.size + 1 + 1, 2, none⟩ = some (.int .i64 0) := by go_simp
  have fu2_2_2 : u2.frozen? ⟨w.heap.size + 1 + 1, 2, none⟩ = false := by go_simp
  clear hc1 hf1
  clear hc2 hf2
  have g0 : w.heap.size < u2.heap.size := by omega
  have g1 : w.heap.size + 1 < u2.heap.size := by omega
  have g2 : w.heap.size + 1 + 1 < u2.heap.size := by omega
  go_wp2
  go_region_held3 (fun w' => w'.cell? ⟨w.heap.size, 0, none⟩ = some (.int .i64 r) ∧ w'.cell? ⟨w.heap.size, 1, none⟩ = some (.int .i64 i) ∧ w'.cell? ⟨w.heap.size, 2, none⟩ = some (.int .i64 s) ∧ w'.cell? ⟨w.heap.size + 1, 0, none⟩ = some (.int .i64 0) ∧ w'.cell? ⟨w.heap.size + 1, 1, none⟩ = some (.int .i64 y))
    (first | exact ⟨ku2_0_0, ku2_0_1, ku2_0_2, ku2_1_0, ku2_1_1⟩ | exact ⟨hd0, hd1, hd2, hd3, hd4⟩ | exact ⟨set3_out hd0 (by omega), set3_out hd1 (by omega), set3_out hd2 (by omega), set3_out hd3 (by omega), set3_out hd4 (by omega)⟩)
    (first | (go_at_call 35; refine (impl_DyadMake_no r (i + q) s _ HK.out).mono ?_; rintro e u4 ⟨rfl, hb⟩; have hB4 : Below w.heap.size w u4 := Below.trans (by go_grown) (hb.mono (by go_size)); have hd0 := (hb.cell (p := ⟨w.heap.size, 0, none⟩) g0).trans ku2_0_0; have hd1 := (hb.cell (p := ⟨w.heap.size, 1, none⟩) g0).trans ku2_0_1; have hd2 := (hb.cell (p := ⟨w.heap.size, 2, none⟩) g0).trans ku2_0_2; have hd3 := (hb.cell (p := ⟨w.heap.size + 1, 0, none⟩) g1).trans ku2_1_0; have hd4 := (hb.cell (p := ⟨w.heap.size + 1, 1, none⟩) g1).trans ku2_1_1; have e0 := (hb.cell (p := ⟨w.heap.size + 1 + 1, 0, none⟩) g2).trans ku2_2_0; have q0 := (hb.frozen (p := ⟨w.heap.size + 1 + 1, 0, none⟩) g2).trans fu2_2_0; have e1 := (hb.cell (p := ⟨w.heap.size + 1 + 1, 1, none⟩) g2).trans ku2_2_1; have q1 := (hb.frozen (p := ⟨w.heap.size + 1 + 1, 1, none⟩) g2).trans fu2_2_1; have e2 := (hb.cell (p := ⟨w.heap.size + 1 + 1, 2, none⟩) g2).trans ku2_2_2; have q2 := (hb.frozen (p := ⟨w.heap.size + 1 + 1, 2, none⟩) g2).trans fu2_2_2; clear hb))
  have hB4' := hB4
  go_wp2
  refine ret_cell_tmp Tryd.results37 rfl rfl (load_Dyad _ _ _ _ _ (set3 e0 e1 e2 _ _ _).1 (set3 e0 e1 e2 _ _ _).2.1 (set3 e0 e1 e2 _ _ _).2.2) ⟨rfl, by go_grown⟩
theorem impl_DyadAdd_lt_zero (r i s x y t : Int) (w : World) (h1 : DV r i s = true) (h2 : DV x y t = true) (ho : s < t) (hz : r = 0 ∧ i = 0 ∧ s = 0) :
    Calls Tryd.prog 37 #[.agg #[.int .i64 r, .int .i64 i, .int .i64 s], .agg #[.int .i64 x, .int .i64 y, .int .i64 t]] w (Gives (.tuple #[.agg #[.int .i64 x, .int .i64 y, .int .i64 t], .bool true]) w) := by
  obtain ⟨a1, a2, a3, a4, a5, a6, -⟩ := (DV_iff r i s).1 h1
  obtain ⟨b1, b2, b3, b4, b5, b6, -⟩ := (DV_iff x y t).1 h2
  have H1 := Lib.hid h1; have H2 := Lib.hid h2; clear h1 h2
  obtain ⟨rfl, rfl, rfl⟩ := hz
  go_enter Tryd.func37, Tryd.ntmps37
  go_wp2_with fail
  refine (valid_any 0 0 0 _).mono ?_
  rw [H1.out]
  rintro e u1 ⟨rfl, hb⟩
  have hB1 : Below w.heap.size w u1 := Below.trans (by go_grown) (hb.mono (by go_size))
  have hz1 := hb.size
  try simp at hz1
  have hw1 := hB1.size
  obtain ⟨hc1, hf1⟩ := bcell hb
  clear hb
  try have s0_0_1 : w.heap.size < u1.heap.size := by omega
  try have l0_0_1 : w.heap.size ≤ u1.heap.size := by omega
  try have s0_1_1 : w.heap.size + 1 < u1.heap.size := by omega
  try have l0_1_1 : w.heap.size + 1 ≤ u1.heap.size := by omega
  try have s0_2_1 : w.heap.size + 2 < u1.heap.size := by omega
  try have l0_2_1 : w.heap.size + 2 ≤ u1.heap.size := by omega
  go_wp2_with fail
  refine (valid_any x y t _).mono ?_
  rw [H2.out]
  rintro e u2 ⟨rfl, hb⟩
  have hB2 : Below w.heap.size w u2 := Below.trans (by go_grown) (hb.mono (by go_size))
  have hz2 := hb.size
  try simp at hz2
  have hw2 := hB2.size
  obtain ⟨hc2, hf2⟩ := bcell hb
  clear hb
  try have s0_0_2 : w.heap.size < u2.heap.size := by omega
  try have l0_0_2 : w.heap.size ≤ u2.heap.size := by omega
  try have s0_1_2 : w.heap.size + 1 < u2.heap.size := by omega
  try have l0_1_2 : w.heap.size + 1 ≤ u2.heap.size := by omega
  try have s0_2_2 : w.heap.size + 2 < u2.heap.size := by omega
  try have l0_2_2 : w.heap.size + 2 ≤ u2.heap.size := by omega
  try have s1_0_2 : u1.heap.size < u2.heap.size := by omega
  try have l1_0_2 : u1.heap.size ≤ u2.heap.size := by omega
  have ku2_0_0 : u2.cell? ⟨w.heap.size, 0, none⟩ = some (.int .i64 0) := by go_simp
  have fu2_0_0 : u2.frozen? ⟨w.heap.size, 0, none⟩ = false := by go_simp
  have ku2_0_1 : u2.cell? ⟨w.heap.size, 1, none⟩ = some (.int .i64 0) := by go_simp
  have fu2_0_1 : u2.frozen? ⟨w.heap.size, 1, none⟩ = false := by go_simp
  have ku2_0_2 : u2.cell? ⟨w.heap.size, 2, none⟩ = some (.int .i64 0) := by go_simp
  have fu2_0_2 : u2.frozen? ⟨w.heap.size, 2, none⟩ = false := by go_simp
  have ku2_1_0 : u2.cell? ⟨w.heap.size + 1, 0, none⟩ = some (.int .i64 x) := by go_simp
  have fu2_1_0 : u2.frozen? ⟨w.heap.size + 1, 0, none⟩ = false := by go_simp
  have ku2_1_1 : u2.cell? ⟨w.heap.size + 1, 1, none⟩ = some (.int .i64 y) := by go_simp
  have fu2_1_1 : u2.frozen? ⟨w.heap.size + 1, 1, none⟩ = false := by go_simp
  have ku2_1_2 : u2.cell? ⟨w.heap.size + 1, 2, none⟩ = some (.int .i64 t) := by go_simp
  have fu2_1_2 : u2.frozen? ⟨w.heap.size + 1, 2, none⟩ = false := by go_simp
  have ku2_2_0 : u2.cell? ⟨w.heap.size + 1 + 1, 0, none⟩ = some (.int .i64 0) := by go_simp
  have fu2_2_0 : u2.frozen? ⟨w.heap.size + 1 + 1, 0, none⟩ = false := by go_simp
  have ku2_2_1 : u2.cell? ⟨w.heap.size + 1 + 1, 1, none⟩ = some (.int .i64 0) := by go_simp
  have fu2_2_1 : u2.frozen? ⟨w.heap.size + 1 + 1, 1, none⟩ = false := by go_simp
  have ku2_2_2 : u2.cell? ⟨w.heap.size + 1 + 1, 2, none⟩ = some (.int .i64 0) := by go_simp
  have fu2_2_2 : u2.frozen? ⟨w.heap.size + 1 + 1, 2, none⟩ = false := by go_simp
  clear hc1 hf1
  clear hc2 hf2
  go_upto_region 5 with (fail)
  obtain ⟨u3, hu3⟩ : ∃ u3 : World, ((((((u2.setCell ⟨w.heap.size, 0, none⟩ (.int .i64 x)).setCell ⟨w.heap.size, 1, none⟩ (.int .i64 y)).setCell ⟨w.heap.size, 2, none⟩ (.int .i64 t)).setCell ⟨w.heap.size + 1, 0, none⟩ (.int .i64 0)).setCell ⟨w.heap.size + 1, 1, none⟩ (.int .i64 0)).setCell ⟨w.heap.size + 1, 2, none⟩ (.int .i64 0)) = u3 := ⟨_, rfl⟩
  rw [hu3]
  have HU := Lib.hid hu3; clear hu3
  have hB3 : Below w.heap.size w u3 := by rw [← HU.out]; go_grown
  have z3 : u3.heap.size = u2.heap.size := by rw [← HU.out]; simp
  have ku3_0_0 : u3.cell? ⟨w.heap.size, 0, none⟩ = some (.int .i64 x) := by rw [← HU.out]; go_simp
  have fu3_0_0 : u3.frozen? ⟨w.heap.size, 0, none⟩ = false := by rw [← HU.out]; go_simp
  have ku3_0_1 : u3.cell? ⟨w.heap.size, 1, none⟩ = some (.int .i64 y) := by rw [← HU.out]; go_simp
  have fu3_0_1 : u3.frozen? ⟨w.heap.size, 1, none⟩ = false := by rw [← HU.out]; go_simp
  have ku3_0_2 : u3.cell? ⟨w.heap.size, 2, none⟩ = some (.int .i64 t) := by rw [← HU.out]; go_simp
  have fu3_0_2 : u3.frozen? ⟨w.heap.size, 2, none⟩ = false := by rw [← HU.out]; go_simp
  have ku3_1_0 : u3.cell? ⟨w.heap.size + 1, 0, none⟩ = some (.int .i64 0) := by rw [← HU.out]; go_simp
  have fu3_1_0 : u3.frozen? ⟨w.heap.size + 1, 0, none⟩ = false := by rw [← HU.out]; go_simp
  have ku3_1_1 : u3.cell? ⟨w.heap.size + 1, 1, none⟩ = some (.int .i64 0) := by rw [← HU.out]; go_simp
  have fu3_1_1 : u3.frozen? ⟨w.heap.size + 1, 1, none⟩ = false := by rw [← HU.out]; go_simp
  have ku3_1_2 : u3.cell? ⟨w.heap.size + 1, 2, none⟩ = some (.int .i64 0) := by rw [← HU.out]; go_simp
  have fu3_1_2 : u3.frozen? ⟨w.heap.size + 1, 2, none⟩ = false := by rw [← HU.out]; go_simp
  have ku3_2_0 : u3.cell? ⟨w.heap.size + 1 + 1, 0, none⟩ = some (.int .i64 0) := by rw [← HU.out]; go_simp
  have fu3_2_0 : u3.frozen? ⟨w.heap.size + 1 + 1, 0, none⟩ = false := by rw [← HU.out]; go_simp
  have ku3_2_1 : u3.cell? ⟨w.heap.size + 1 + 1, 1, none⟩ = some (.int .i64 0) := by rw [← HU.out]; go_simp
  have fu3_2_1 : u3.frozen? ⟨w.heap.size + 1 + 1, 1, none⟩ = false := by rw [← HU.out]; go_simp
  have ku3_2_2 : u3.cell? ⟨w.heap.size + 1 + 1, 2, none⟩ = some (.int .i64 0) := by rw [← HU.out]; go_simp
  have fu3_2_2 : u3.frozen? ⟨w.heap.size + 1 + 1, 2, none⟩ = false := by rw [← HU.out]; go_simp
  clear HU hB2
  clear ku2_0_0 fu2_0_0 ku2_0_1 fu2_0_1 ku2_0_2 fu2_0_2 ku2_1_0 fu2_1_0 ku2_1_1 fu2_1_1 ku2_1_2 fu2_1_2 ku2_2_0 fu2_2_0 ku2_2_1 fu2_2_1 ku2_2_2 fu2_2_2
  go_wp2
  have b0 : u3.cell? ⟨w.heap.size + 1 + 1, 0, none⟩ = some (.int .i64 0) := by go_simp
  have b1 : u3.cell? ⟨w.heap.size + 1 + 1, 1, none⟩ = some (.int .i64 0) := by go_simp
  have b2 : u3.cell? ⟨w.heap.size + 1 + 1, 2, none⟩ = some (.int .i64 0) := by go_simp
  refine ret_cell_tmp Tryd.results37 rfl rfl (load_Dyad _ _ _ _ _ (set3 b0 b1 b2 _ _ _).1 (set3 b0 b1 b2 _ _ _).2.1 (set3 b0 b1 b2 _ _ _).2.2) ⟨rfl, by go_grown⟩
theorem impl_DyadAdd_lt_far1 (r i s x y t : Int) (w : World) (h1 : DV r i s = true) (h2 : DV x y t = true) (ho : s < t) (hz : ¬ r = 0) (hf : 31 < t - s) :
    Calls Tryd.prog 37 #[.agg #[.int .i64 r, .int .i64 i, .int .i64 s], .agg #[.int .i64 x, .int .i64 y, .int .i64 t]] w (Gives (.tuple #[.agg #[.int .i64 0, .int .i64 0, .int .i64 0], .bool false]) w) := by
  obtain ⟨a1, a2, a3, a4, a5, a6, -⟩ := (DV_iff r i s).1 h1
  obtain ⟨b1, b2, b3, b4, b5, b6, -⟩ := (DV_iff x y t).1 h2
  have H1 := Lib.hid h1; have H2 := Lib.hid h2; clear h1 h2
  go_enter Tryd.func37, Tryd.ntmps37
  go_wp2_with fail
  refine (valid_any r i s _).mono ?_
  rw [H1.out]
  rintro e u1 ⟨rfl, hb⟩
  have hB1 : Below w.heap.size w u1 := Below.trans (by go_grown) (hb.mono (by go_size))
  have hz1 := hb.size
  try simp at hz1
  have hw1 := hB1.size
  obtain ⟨hc1, hf1⟩ := bcell hb
  clear hb
  try have s0_0_1 : w.heap.size < u1.heap.size := by omega
  try have l0_0_1 : w.heap.size ≤ u1.heap.size := by omega
  try have s0_1_1 : w.heap.size + 1 < u1.heap.size := by omega
  try have l0_1_1 : w.heap.size + 1 ≤ u1.heap.size := by omega
  try have s0_2_1 : w.heap.size + 2 < u1.heap.size := by omega
  try have l0_2_1 : w.heap.size + 2 ≤ u1.heap.size := by omega
  go_wp2_with fail
  refine (valid_any x y t _).mono ?_
  rw [H2.out]
  rintro e u2 ⟨rfl, hb⟩
  have hB2 : Below w.heap.size w u2 := Below.trans (by go_grown) (hb.mono (by go_size))
  have hz2 := hb.size
  try simp at hz2
  have hw2 := hB2.size
  obtain ⟨hc2, hf2⟩ := bcell hb
  clear hb
  try have s0_0_2 : w.heap.size < u2.heap.size := by omega
  try have l0_0_2 : w.heap.size ≤ u2.heap.size := by omega
  try have s0_1_2 : w.heap.size + 1 < u2.heap.size := by omega
  try have l0_1_2 : w.heap.size + 1 ≤ u2.heap.size := by omega
  try have s0_2_2 : w.heap.size + 2 < u2.heap.size := by omega
  try have l0_2_2 : w.heap.size + 2 ≤ u2.heap.size := by omega
  try have s1_0_2 : u1.heap.size < u2.heap.size := by omega
  try have l1_0_2 : u1.heap.size ≤ u2.heap.size := by omega
  have ku2_0_0 : u2.cell? ⟨w.heap.size, 0, none⟩ = some (.int .i64 r) := by go_simp
  have fu2_0_0 : u2.frozen? ⟨w.heap.size, 0, none⟩ = false := by go_simp
  have ku2_0_1 : u2.cell? ⟨w.heap.size, 1, none⟩ = some (.int .i64 i) := by go_simp
  have fu2_0_1 : u2.frozen? ⟨w.heap.size, 1, none⟩ = false := by go_simp
  have ku2_0_2 : u2.cell? ⟨w.heap.size, 2, none⟩ = some (.int .i64 s) := by go_simp
  have fu2_0_2 : u2.frozen? ⟨w.heap.size, 2, none⟩ = false := by go_simp
  have ku2_1_0 : u2.cell? ⟨w.heap.size + 1, 0, none⟩ = some (.int .i64 x) := by go_simp
  have fu2_1_0 : u2.frozen? ⟨w.heap.size + 1, 0, none⟩ = false := by go_simp
  have ku2_1_1 : u2.cell? ⟨w.heap.size + 1, 1, none⟩ = some (.int .i64 y) := by go_simp
  have fu2_1_1 : u2.frozen? ⟨w.heap.size + 1, 1, none⟩ = false := by go_simp
  have ku2_1_2 : u2.cell? ⟨w.heap.size + 1, 2, none⟩ = some (.int .i64 t) := by go_simp
  have fu2_1_2 : u2.frozen? ⟨w.heap.size + 1, 2, none⟩ = false := by go_simp
  have ku2_2_0 : u2.cell? ⟨w.heap.size + 1 + 1, 0, none⟩ = some (.int .i64 0) := by go_simp
  have fu2_2_0 : u2.frozen? ⟨w.heap.size + 1 + 1, 0, none⟩ = false := by go_simp
  have ku2_2_1 : u2.cell? ⟨w.heap.size + 1 + 1, 1, none⟩ = some (.int .i64 0) := by go_simp
  have fu2_2_1 : u2.frozen? ⟨w.heap.size + 1 + 1, 1, none⟩ = false := by go_simp
  have ku2_2_2 : u2.cell? ⟨w.heap.size + 1 + 1, 2, none⟩ = some (.int .i64 0) := by go_simp
  have fu2_2_2 : u2.frozen? ⟨w.heap.size + 1 + 1, 2, none⟩ = false := by go_simp
  clear hc1 hf1
  clear hc2 hf2
  go_upto_region 5 with (fail)
  obtain ⟨u3, hu3⟩ : ∃ u3 : World, ((((((u2.setCell ⟨w.heap.size, 0, none⟩ (.int .i64 x)).setCell ⟨w.heap.size, 1, none⟩ (.int .i64 y)).setCell ⟨w.heap.size, 2, none⟩ (.int .i64 t)).setCell ⟨w.heap.size + 1, 0, none⟩ (.int .i64 r)).setCell ⟨w.heap.size + 1, 1, none⟩ (.int .i64 i)).setCell ⟨w.heap.size + 1, 2, none⟩ (.int .i64 s)) = u3 := ⟨_, rfl⟩
  rw [hu3]
  have HU := Lib.hid hu3; clear hu3
  have hB3 : Below w.heap.size w u3 := by rw [← HU.out]; go_grown
  have z3 : u3.heap.size = u2.heap.size := by rw [← HU.out]; simp
  have ku3_0_0 : u3.cell? ⟨w.heap.size, 0, none⟩ = some (.int .i64 x) := by rw [← HU.out]; go_simp
  have fu3_0_0 : u3.frozen? ⟨w.heap.size, 0, none⟩ = false := by rw [← HU.out]; go_simp
  have ku3_0_1 : u3.cell? ⟨w.heap.size, 1, none⟩ = some (.int .i64 y) := by rw [← HU.out]; go_simp
  have fu3_0_1 : u3.frozen? ⟨w.heap.size, 1, none⟩ = false := by rw [← HU.out]; go_simp
  have ku3_0_2 : u3.cell? ⟨w.heap.size, 2, none⟩ = some (.int .i64 t) := by rw [← HU.out]; go_simp
  have fu3_0_2 : u3.frozen? ⟨w.heap.size, 2, none⟩ = false := by rw [← HU.out]; go_simp
  have ku3_1_0 : u3.cell? ⟨w.heap.size + 1, 0, none⟩ = some (.int .i64 r) := by rw [← HU.out]; go_simp
  have fu3_1_0 : u3.frozen? ⟨w.heap.size + 1, 0, none⟩ = false := by rw [← HU.out]; go_simp
  have ku3_1_1 : u3.cell? ⟨w.heap.size + 1, 1, none⟩ = some (.int .i64 i) := by rw [← HU.out]; go_simp
  have fu3_1_1 : u3.frozen? ⟨w.heap.size + 1, 1, none⟩ = false := by rw [← HU.out]; go_simp
  have ku3_1_2 : u3.cell? ⟨w.heap.size + 1, 2, none⟩ = some (.int .i64 s) := by rw [← HU.out]; go_simp
  have fu3_1_2 : u3.frozen? ⟨w.heap.size + 1, 2, none⟩ = false := by rw [← HU.out]; go_simp
  have ku3_2_0 : u3.cell? ⟨w.heap.size + 1 + 1, 0, none⟩ = some (.int .i64 0) := by rw [← HU.out]; go_simp
  have fu3_2_0 : u3.frozen? ⟨w.heap.size + 1 + 1, 0, none⟩ = false := by rw [← HU.out]; go_simp
  have ku3_2_1 : u3.cell? ⟨w.heap.size + 1 + 1, 1, none⟩ = some (.int .i64 0) := by rw [← HU.out]; go_simp
  have fu3_2_1 : u3.frozen? ⟨w.heap.size + 1 + 1, 1, none⟩ = false := by rw [← HU.out]; go_simp
  have ku3_2_2 : u3.cell? ⟨w.heap.size + 1 + 1, 2, none⟩ = some (.int .i64 0) := by rw [← HU.out]; go_simp
  have fu3_2_2 : u3.frozen? ⟨w.heap.size + 1 + 1, 2, none⟩ = false := by rw [← HU.out]; go_simp
  clear HU hB2
  clear ku2_0_0 fu2_0_0 ku2_0_1 fu2_0_1 ku2_0_2 fu2_0_2 ku2_1_0 fu2_1_0 ku2_1_1 fu2_1_1 ku2_1_2 fu2_1_2 ku2_2_0 fu2_2_0 ku2_2_1 fu2_2_1 ku2_2_2 fu2_2_2
  go_wp2
  have b0 : u3.cell? ⟨w.heap.size + 1 + 1, 0, none⟩ = some (.int .i64 0) := by go_simp
  have b1 : u3.cell? ⟨w.heap.size + 1 + 1, 1, none⟩ = some (.int .i64 0) := by go_simp
  have b2 : u3.cell? ⟨w.heap.size + 1 + 1, 2, none⟩ = some (.int .i64 0) := by go_simp
  refine ret_cell_tmp Tryd.results37 rfl rfl (load_Dyad _ _ _ _ _ (set3 b0 b1 b2 _ _ _).1 (set3 b0 b1 b2 _ _ _).2.1 (set3 b0 b1 b2 _ _ _).2.2) ⟨rfl, by go_grown⟩
theorem impl_DyadAdd_lt_far2 (r i s x y t : Int) (w : World) (h1 : DV r i s = true) (h2 : DV x y t = true) (ho : s < t) (hz0 : r = 0) (hz : ¬ i = 0) (hf : 31 < t - s) :
    Calls Tryd.prog 37 #[.agg #[.int .i64 r, .int .i64 i, .int .i64 s], .agg #[.int .i64 x, .int .i64 y, .int .i64 t]] w (Gives (.tuple #[.agg #[.int .i64 0, .int .i64 0, .int .i64 0], .bool false]) w) := by
  obtain ⟨a1, a2, a3, a4, a5, a6, -⟩ := (DV_iff r i s).1 h1
  obtain ⟨b1, b2, b3, b4, b5, b6, -⟩ := (DV_iff x y t).1 h2
  subst hz0
  have H1 := Lib.hid h1; have H2 := Lib.hid h2; clear h1 h2
  go_enter Tryd.func37, Tryd.ntmps37
  go_wp2_with fail
  refine (valid_any 0 i s _).mono ?_
  rw [H1.out]
  rintro e u1 ⟨rfl, hb⟩
  have hB1 : Below w.heap.size w u1 := Below.trans (by go_grown) (hb.mono (by go_size))
  have hz1 := hb.size
  try simp at hz1
  have hw1 := hB1.size
  obtain ⟨hc1, hf1⟩ := bcell hb
  clear hb
  try have s0_0_1 : w.heap.size < u1.heap.size := by omega
  try have l0_0_1 : w.heap.size ≤ u1.heap.size := by omega
  try have s0_1_1 : w.heap.size + 1 < u1.heap.size := by omega
  try have l0_1_1 : w.heap.size + 1 ≤ u1.heap.size := by omega
  try have s0_2_1 : w.heap.size + 2 < u1.heap.size := by omega
  try have l0_2_1 : w.heap.size + 2 ≤ u1.heap.size := by omega
  go_wp2_with fail
  refine (valid_any x y t _).mono ?_
  rw [H2.out]
  rintro e u2 ⟨rfl, hb⟩
  have hB2 : Below w.heap.size w u2 := Below.trans (by go_grown) (hb.mono (by go_size))
  have hz2 := hb.size
  try simp at hz2
  have hw2 := hB2.size
  obtain ⟨hc2, hf2⟩ := bcell hb
  clear hb
  try have s0_0_2 : w.heap.size < u2.heap.size := by omega
  try have l0_0_2 : w.heap.size ≤ u2.heap.size := by omega
  try have s0_1_2 : w.heap.size + 1 < u2.heap.size := by omega
  try have l0_1_2 : w.heap.size + 1 ≤ u2.heap.size := by omega
  try have s0_2_2 : w.heap.size + 2 < u2.heap.size := by omega
  try have l0_2_2 : w.heap.size + 2 ≤ u2.heap.size := by omega
  try have s1_0_2 : u1.heap.size < u2.heap.size := by omega
  try have l1_0_2 : u1.heap.size ≤ u2.heap.size := by omega
  have ku2_0_0 : u2.cell? ⟨w.heap.size, 0, none⟩ = some (.int .i64 0) := by go_simp
  have fu2_0_0 : u2.frozen? ⟨w.heap.size, 0, none⟩ = false := by go_simp
  have ku2_0_1 : u2.cell? ⟨w.heap.size, 1, none⟩ = some (.int .i64 i) := by go_simp
  have fu2_0_1 : u2.frozen? ⟨w.heap.size, 1, none⟩ = false := by go_simp
  have ku2_0_2 : u2.cell? ⟨w.heap.size, 2, none⟩ = some (.int .i64 s) := by go_simp
  have fu2_0_2 : u2.frozen? ⟨w.heap.size, 2, none⟩ = false := by go_simp
  have ku2_1_0 : u2.cell? ⟨w.heap.size + 1, 0, none⟩ = some (.int .i64 x) := by go_simp
  have fu2_1_0 : u2.frozen? ⟨w.heap.size + 1, 0, none⟩ = false := by go_simp
  have ku2_1_1 : u2.cell? ⟨w.heap.size + 1, 1, none⟩ = some (.int .i64 y) := by go_simp
  have fu2_1_1 : u2.frozen? ⟨w.heap.size + 1, 1, none⟩ = false := by go_simp
  have ku2_1_2 : u2.cell? ⟨w.heap.size + 1, 2, none⟩ = some (.int .i64 t) := by go_simp
  have fu2_1_2 : u2.frozen? ⟨w.heap.size + 1, 2, none⟩ = false := by go_simp
  have ku2_2_0 : u2.cell? ⟨w.heap.size + 1 + 1, 0, none⟩ = some (.int .i64 0) := by go_simp
  have fu2_2_0 : u2.frozen? ⟨w.heap.size + 1 + 1, 0, none⟩ = false := by go_simp
  have ku2_2_1 : u2.cell? ⟨w.heap.size + 1 + 1, 1, none⟩ = some (.int .i64 0) := by go_simp
  have fu2_2_1 : u2.frozen? ⟨w.heap.size + 1 + 1, 1, none⟩ = false := by go_simp
  have ku2_2_2 : u2.cell? ⟨w.heap.size + 1 + 1, 2, none⟩ = some (.int .i64 0) := by go_simp
  have fu2_2_2 : u2.frozen? ⟨w.heap.size + 1 + 1, 2, none⟩ = false := by go_simp
  clear hc1 hf1
  clear hc2 hf2
  go_upto_region 5 with (fail)
  obtain ⟨u3, hu3⟩ : ∃ u3 : World, ((((((u2.setCell ⟨w.heap.size, 0, none⟩ (.int .i64 x)).setCell ⟨w.heap.size, 1, none⟩ (.int .i64 y)).setCell ⟨w.heap.size, 2, none⟩ (.int .i64 t)).setCell ⟨w.heap.size + 1, 0, none⟩ (.int .i64 0)).setCell ⟨w.heap.size + 1, 1, none⟩ (.int .i64 i)).setCell ⟨w.heap.size + 1, 2, none⟩ (.int .i64 s)) = u3 := ⟨_, rfl⟩
  rw [hu3]
  have HU := Lib.hid hu3; clear hu3
  have hB3 : Below w.heap.size w u3 := by rw [← HU.out]; go_grown
  have z3 : u3.heap.size = u2.heap.size := by rw [← HU.out]; simp
  have ku3_0_0 : u3.cell? ⟨w.heap.size, 0, none⟩ = some (.int .i64 x) := by rw [← HU.out]; go_simp
  have fu3_0_0 : u3.frozen? ⟨w.heap.size, 0, none⟩ = false := by rw [← HU.out]; go_simp
  have ku3_0_1 : u3.cell? ⟨w.heap.size, 1, none⟩ = some (.int .i64 y) := by rw [← HU.out]; go_simp
  have fu3_0_1 : u3.frozen? ⟨w.heap.size, 1, none⟩ = false := by rw [← HU.out]; go_simp
  have ku3_0_2 : u3.cell? ⟨w.heap.size, 2, none⟩ = some (.int .i64 t) := by rw [← HU.out]; go_simp
  have fu3_0_2 : u3.frozen? ⟨w.heap.size, 2, none⟩ = false := by rw [← HU.out]; go_simp
  have ku3_1_0 : u3.cell? ⟨w.heap.size + 1, 0, none⟩ = some (.int .i64 0) := by rw [← HU.out]; go_simp
  have fu3_1_0 : u3.frozen? ⟨w.heap.size + 1, 0, none⟩ = false := by rw [← HU.out]; go_simp
  have ku3_1_1 : u3.cell? ⟨w.heap.size + 1, 1, none⟩ = some (.int .i64 i) := by rw [← HU.out]; go_simp
  have fu3_1_1 : u3.frozen? ⟨w.heap.size + 1, 1, none⟩ = false := by rw [← HU.out]; go_simp
  have ku3_1_2 : u3.cell? ⟨w.heap.size + 1, 2, none⟩ = some (.int .i64 s) := by rw [← HU.out]; go_simp
  have fu3_1_2 : u3.frozen? ⟨w.heap.size + 1, 2, none⟩ = false := by rw [← HU.out]; go_simp
  have ku3_2_0 : u3.cell? ⟨w.heap.size + 1 + 1, 0, none⟩ = some (.int .i64 0) := by rw [← HU.out]; go_simp
  have fu3_2_0 : u3.frozen? ⟨w.heap.size + 1 + 1, 0, none⟩ = false := by rw [← HU.out]; go_simp
  have ku3_2_1 : u3.cell? ⟨w.heap.size + 1 + 1, 1, none⟩ = some (.int .i64 0) := by rw [← HU.out]; go_simp
  have fu3_2_1 : u3.frozen? ⟨w.heap.size + 1 + 1, 1, none⟩ = false := by rw [← HU.out]; go_simp
  have ku3_2_2 : u3.cell? ⟨w.heap.size + 1 + 1, 2, none⟩ = some (.int .i64 0) := by rw [← HU.out]; go_simp
  have fu3_2_2 : u3.frozen? ⟨w.heap.size + 1 + 1, 2, none⟩ = false := by rw [← HU.out]; go_simp
  clear HU hB2
  clear ku2_0_0 fu2_0_0 ku2_0_1 fu2_0_1 ku2_0_2 fu2_0_2 ku2_1_0 fu2_1_0 ku2_1_1 fu2_1_1 ku2_1_2 fu2_1_2 ku2_2_0 fu2_2_0 ku2_2_1 fu2_2_1 ku2_2_2 fu2_2_2
  go_wp2
  have b0 : u3.cell? ⟨w.heap.size + 1 + 1, 0, none⟩ = some (.int .i64 0) := by go_simp
  have b1 : u3.cell? ⟨w.heap.size + 1 + 1, 1, none⟩ = some (.int .i64 0) := by go_simp
  have b2 : u3.cell? ⟨w.heap.size + 1 + 1, 2, none⟩ = some (.int .i64 0) := by go_simp
  refine ret_cell_tmp Tryd.results37 rfl rfl (load_Dyad _ _ _ _ _ (set3 b0 b1 b2 _ _ _).1 (set3 b0 b1 b2 _ _ _).2.1 (set3 b0 b1 b2 _ _ _).2.2) ⟨rfl, by go_grown⟩
set_option maxHeartbeats 400000 in
theorem impl_DyadAdd_lt_yes1 (r i s x y t : Int) (w : World) (h1 : DV r i s = true) (h2 : DV x y t = true) (ho : s < t) (hz : ¬ r = 0) (hn : t - s ≤ 31) (hl : DV (lR (AP r s x t) (AP i s y t) (max s t)) (lI (AP r s x t) (AP i s y t) (max s t)) (lS (AP r s x t) (AP i s y t) (max s t)) = true) :
    Calls Tryd.prog 37 #[.agg #[.int .i64 r, .int .i64 i, .int .i64 s], .agg #[.int .i64 x, .int .i64 y, .int .i64 t]] w (Gives (.tuple #[.agg #[.int .i64 (lR (AP r s x t) (AP i s y t) (max s t)), .int .i64 (lI (AP r s x t) (AP i s y t) (max s t)), .int .i64 (lS (AP r s x t) (AP i s y t) (max s t))], .bool true]) w) := by
  obtain ⟨a1, a2, a3, a4, a5, a6, -⟩ := (DV_iff r i s).1 h1
  obtain ⟨b1, b2, b3, b4, b5, b6, -⟩ := (DV_iff x y t).1 h2
  have hm : max s t = t := Int.max_eq_right (Int.le_of_lt ho)
  obtain ⟨k0, k1, k2, k3, k4⟩ := add_near x y t r i s (Int.le_of_lt ho) h2 h1 hn
  obtain ⟨p, hp⟩ : ∃ p : Int, r * 2 ^ (t - s).toNat = p := ⟨_, rfl⟩
  obtain ⟨q, hq⟩ : ∃ q : Int, i * 2 ^ (t - s).toNat = q := ⟨_, rfl⟩
  have w1 := (shl_up _ _ k1 k2).trans hp
  have v1 := shl_i64 w1
  have w2 := (shl_up _ _ k3 k4).trans hq
  have v2 := shl_i64 w2
  have ep : AP r s x t = x + p := by rw [AP_comm, AP_ge _ _ _ _ (Int.le_of_lt ho), hp]
  have eq' : AP i s y t = y + q := by rw [AP_comm, AP_ge _ _ _ _ (Int.le_of_lt ho), hq]
  rw [AP_comm, AP_comm y t i s, Int.max_comm] at k0
  have hk : MK (AP r s x t) (AP i s y t) (max s t) = true := by unfold MK; rw [k0, hl]; rfl
  rw [ep, eq', hm] at hk ⊢
  rw [hp] at k1 k2
  rw [hq] at k3 k4
  have v3 : IntKind.i64.wrap (x + p) = x + p := IntWalk.i64_in _ (by omega)
  have v4 : IntKind.i64.wrap (y + q) = y + q := IntWalk.i64_in _ (by omega)
  have HK := Lib.hid hk; clear hk ep eq' hm k0 hl
  have HP := Lib.hid hp; have HQ := Lib.hid hq; clear hp hq
  have n1 : 0 ≤ t - s := by omega
  have H1 := Lib.hid h1; have H2 := Lib.hid h2; clear h1 h2
  go_enter Tryd.func37, Tryd.ntmps37
  go_wp2_with fail
  refine (valid_any r i s _).mono ?_
  rw [H1.out]
  rintro e u1 ⟨rfl, hb⟩
  have hB1 : Below w.heap.size w u1 := Below.trans (by go_grown) (hb.mono (by go_size))
  have hz1 := hb.size
  try simp at hz1
  have hw1 := hB1.size
  obtain ⟨hc1, hf1⟩ := bcell hb
  clear hb
  try have s0_0_1 : w.heap.size < u1.heap.size := by omega
  try have l0_0_1 : w.heap.size ≤ u1.heap.size := by omega
  try have s0_1_1 : w.heap.size + 1 < u1.heap.size := by omega
  try have l0_1_1 : w.heap.size + 1 ≤ u1.heap.size := by omega
  try have s0_2_1 : w.heap.size + 2 < u1.heap.size := by omega
  try have l0_2_1 : w.heap.size + 2 ≤ u1.heap.size := by omega
  go_wp2_with fail
  refine (valid_any x y t _).mono ?_
  rw [H2.out]
  rintro e u2 ⟨rfl, hb⟩
  have hB2 : Below w.heap.size w u2 := Below.trans (by go_grown) (hb.mono (by go_size))
  have hz2 := hb.size
  try simp at hz2
  have hw2 := hB2.size
  obtain ⟨hc2, hf2⟩ := bcell hb
  clear hb
  try have s0_0_2 : w.heap.size < u2.heap.size := by omega
  try have l0_0_2 : w.heap.size ≤ u2.heap.size := by omega
  try have s0_1_2 : w.heap.size + 1 < u2.heap.size := by omega
  try have l0_1_2 : w.heap.size + 1 ≤ u2.heap.size := by omega
  try have s0_2_2 : w.heap.size + 2 < u2.heap.size := by omega
  try have l0_2_2 : w.heap.size + 2 ≤ u2.heap.size := by omega
  try have s1_0_2 : u1.heap.size < u2.heap.size := by omega
  try have l1_0_2 : u1.heap.size ≤ u2.heap.size := by omega
  have ku2_0_0 : u2.cell? ⟨w.heap.size, 0, none⟩ = some (.int .i64 r) := by go_simp
  have fu2_0_0 : u2.frozen? ⟨w.heap.size, 0, none⟩ = false := by go_simp
  have ku2_0_1 : u2.cell? ⟨w.heap.size, 1, none⟩ = some (.int .i64 i) := by go_simp
  have fu2_0_1 : u2.frozen? ⟨w.heap.size, 1, none⟩ = false := by go_simp
  have ku2_0_2 : u2.cell? ⟨w.heap.size, 2, none⟩ = some (.int .i64 s) := by go_simp
  have fu2_0_2 : u2.frozen? ⟨w.heap.size, 2, none⟩ = false := by go_simp
  have ku2_1_0 : u2.cell? ⟨w.heap.size + 1, 0, none⟩ = some (.int .i64 x) := by go_simp
  have fu2_1_0 : u2.frozen? ⟨w.heap.size + 1, 0, none⟩ = false := by go_simp
  have ku2_1_1 : u2.cell? ⟨w.heap.size + 1, 1, none⟩ = some (.int .i64 y) := by go_simp
  have fu2_1_1 : u2.frozen? ⟨w.heap.size + 1, 1, none⟩ = false := by go_simp
  have ku2_1_2 : u2.cell? ⟨w.heap.size + 1, 2, none⟩ = some (.int .i64 t) := by go_simp
  have fu2_1_2 : u2.frozen? ⟨w.heap.size + 1, 2, none⟩ = false := by go_simp
  have ku2_2_0 : u2.cell? ⟨w.heap.size + 1 + 1, 0, none⟩ = some (.int .i64 0) := by go_simp
  have fu2_2_0 : u2.frozen? ⟨w.heap.size + 1 + 1, 0, none⟩ = false := by go_simp
  have ku2_2_1 : u2.cell? ⟨w.heap.size + 1 + 1, 1, none⟩ = some (.int .i64 0) := by go_simp
  have fu2_2_1 : u2.frozen? ⟨w.heap.size + 1 + 1, 1, none⟩ = false := by go_simp
  have ku2_2_2 : u2.cell? ⟨w.heap.size + 1 + 1, 2, none⟩ = some (.int .i64 0) := by go_simp
  have fu2_2_2 : u2.frozen? ⟨w.heap.size + 1 + 1, 2, none⟩ = false := by go_simp
  clear hc1 hf1
  clear hc2 hf2
  go_upto_region 5 with (fail)
  obtain ⟨u3, hu3⟩ : ∃ u3 : World, ((((((u2.setCell ⟨w.heap.size, 0, none⟩ (.int .i64 x)).setCell ⟨w.heap.size, 1, none⟩ (.int .i64 y)).setCell ⟨w.heap.size, 2, none⟩ (.int .i64 t)).setCell ⟨w.heap.size + 1, 0, none⟩ (.int .i64 r)).setCell ⟨w.heap.size + 1, 1, none⟩ (.int .i64 i)).setCell ⟨w.heap.size + 1, 2, none⟩ (.int .i64 s)) = u3 := ⟨_, rfl⟩
  rw [hu3]
  have HU := Lib.hid hu3; clear hu3
  have hB3 : Below w.heap.size w u3 := by rw [← HU.out]; go_grown
  have z3 : u3.heap.size = u2.heap.size := by rw [← HU.out]; simp
  have ku3_0_0 : u3.cell? ⟨w.heap.size, 0, none⟩ = some (.int .i64 x) := by rw [← HU.out]; go_simp
  have fu3_0_0 : u3.frozen? ⟨w.heap.size, 0, none⟩ = false := by rw [← HU.out]; go_simp
  have ku3_0_1 : u3.cell? ⟨w.heap.size, 1, none⟩ = some (.int .i64 y) := by rw [← HU.out]; go_simp
  have fu3_0_1 : u3.frozen? ⟨w.heap.size, 1, none⟩ = false := by rw [← HU.out]; go_simp
  have ku3_0_2 : u3.cell? ⟨w.heap.size, 2, none⟩ = some (.int .i64 t) := by rw [← HU.out]; go_simp
  have fu3_0_2 : u3.frozen? ⟨w.heap.size, 2, none⟩ = false := by rw [← HU.out]; go_simp
  have ku3_1_0 : u3.cell? ⟨w.heap.size + 1, 0, none⟩ = some (.int .i64 r) := by rw [← HU.out]; go_simp
  have fu3_1_0 : u3.frozen? ⟨w.heap.size + 1, 0, none⟩ = false := by rw [← HU.out]; go_simp
  have ku3_1_1 : u3.cell? ⟨w.heap.size + 1, 1, none⟩ = some (.int .i64 i) := by rw [← HU.out]; go_simp
  have fu3_1_1 : u3.frozen? ⟨w.heap.size + 1, 1, none⟩ = false := by rw [← HU.out]; go_simp
  have ku3_1_2 : u3.cell? ⟨w.heap.size + 1, 2, none⟩ = some (.int .i64 s) := by rw [← HU.out]; go_simp
  have fu3_1_2 : u3.frozen? ⟨w.heap.size + 1, 2, none⟩ = false := by rw [← HU.out]; go_simp
  have ku3_2_0 : u3.cell? ⟨w.heap.size + 1 + 1, 0, none⟩ = some (.int .i64 0) := by rw [← HU.out]; go_simp
  have fu3_2_0 : u3.frozen? ⟨w.heap.size + 1 + 1, 0, none⟩ = false := by rw [← HU.out]; go_simp
  have ku3_2_1 : u3.cell? ⟨w.heap.size + 1 + 1, 1, none⟩ = some (.int .i64 0) := by rw [← HU.out]; go_simp
  have fu3_2_1 : u3.frozen? ⟨w.heap.size + 1 + 1, 1, none⟩ = false := by rw [← HU.out]; go_simp
  have ku3_2_2 : u3.cell? ⟨w.heap.size + 1 + 1, 2, none⟩ = some (.int .i64 0) := by rw [← HU.out]; go_simp
  have fu3_2_2 : u3.frozen? ⟨w.heap.size + 1 + 1, 2, none⟩ = false := by rw [← HU.out]; go_simp
  clear HU hB2
  clear ku2_0_0 fu2_0_0 ku2_0_1 fu2_0_1 ku2_0_2 fu2_0_2 ku2_1_0 fu2_1_0 ku2_1_1 fu2_1_1 ku2_1_2 fu2_1_2 ku2_2_0 fu2_2_0 ku2_2_1 fu2_2_1 ku2_2_2 fu2_2_2
  have g0 : w.heap.size < u3.heap.size := by omega
  have g1 : w.heap.size + 1 < u3.heap.size := by omega
  have g2 : w.heap.size + 1 + 1 < u3.heap.size := by omega
  clear z3
  go_wp2
  go_region_held3 (fun w' => w'.cell? ⟨w.heap.size, 0, none⟩ = some (.int .i64 x) ∧ w'.cell? ⟨w.heap.size, 1, none⟩ = some (.int .i64 y) ∧ w'.cell? ⟨w.heap.size, 2, none⟩ = some (.int .i64 t) ∧ w'.cell? ⟨w.heap.size + 1, 0, none⟩ = some (.int .i64 r) ∧ w'.cell? ⟨w.heap.size + 1, 1, none⟩ = some (.int .i64 i))
    (first | exact ⟨ku3_0_0, ku3_0_1, ku3_0_2, ku3_1_0, ku3_1_1⟩ | exact ⟨hd0, hd1, hd2, hd3, hd4⟩ | exact ⟨set3_out hd0 (by omega), set3_out hd1 (by omega), set3_out hd2 (by omega), set3_out hd3 (by omega), set3_out hd4 (by omega)⟩)
    (first | (go_at_call 35; refine (impl_DyadMake_yes (x + p) (y + q) t _ HK.out).mono ?_; rintro e u4 ⟨rfl, hb⟩; have hB4 : Below w.heap.size w u4 := Below.trans (by go_grown) (hb.mono (by go_size)); have hd0 := (hb.cell (p := ⟨w.heap.size, 0, none⟩) g0).trans ku3_0_0; have hd1 := (hb.cell (p := ⟨w.heap.size, 1, none⟩) g0).trans ku3_0_1; have hd2 := (hb.cell (p := ⟨w.heap.size, 2, none⟩) g0).trans ku3_0_2; have hd3 := (hb.cell (p := ⟨w.heap.size + 1, 0, none⟩) g1).trans ku3_1_0; have hd4 := (hb.cell (p := ⟨w.heap.size + 1, 1, none⟩) g1).trans ku3_1_1; have e0 := (hb.cell (p := ⟨w.heap.size + 1 + 1, 0, none⟩) g2).trans ku3_2_0; have q0 := (hb.frozen (p := ⟨w.heap.size + 1 + 1, 0, none⟩) g2).trans fu3_2_0; have e1 := (hb.cell (p := ⟨w.heap.size + 1 + 1, 1, none⟩) g2).trans ku3_2_1; have q1 := (hb.frozen (p := ⟨w.heap.size + 1 + 1, 1, none⟩) g2).trans fu3_2_1; have e2 := (hb.cell (p := ⟨w.heap.size + 1 + 1, 2, none⟩) g2).trans ku3_2_2; have q2 := (hb.frozen (p := ⟨w.heap.size + 1 + 1, 2, none⟩) g2).trans fu3_2_2; clear hb))
  have hB4' := hB4
  go_wp2
  refine ret_cell_tmp Tryd.results37 rfl rfl (load_Dyad _ _ _ _ _ (set3 e0 e1 e2 _ _ _).1 (set3 e0 e1 e2 _ _ _).2.1 (set3 e0 e1 e2 _ _ _).2.2) ⟨rfl, by go_grown⟩
set_option maxHeartbeats 400000 in
theorem impl_DyadAdd_lt_yes2 (r i s x y t : Int) (w : World) (h1 : DV r i s = true) (h2 : DV x y t = true) (ho : s < t) (hz0 : r = 0) (hz : ¬ i = 0) (hn : t - s ≤ 31) (hl : DV (lR (AP r s x t) (AP i s y t) (max s t)) (lI (AP r s x t) (AP i s y t) (max s t)) (lS (AP r s x t) (AP i s y t) (max s t)) = true) :
    Calls Tryd.prog 37 #[.agg #[.int .i64 r, .int .i64 i, .int .i64 s], .agg #[.int .i64 x, .int .i64 y, .int .i64 t]] w (Gives (.tuple #[.agg #[.int .i64 (lR (AP r s x t) (AP i s y t) (max s t)), .int .i64 (lI (AP r s x t) (AP i s y t) (max s t)), .int .i64 (lS (AP r s x t) (AP i s y t) (max s t))], .bool true]) w) := by
  obtain ⟨a1, a2, a3, a4, a5, a6, -⟩ := (DV_iff r i s).1 h1
  obtain ⟨b1, b2, b3, b4, b5, b6, -⟩ := (DV_iff x y t).1 h2
  subst hz0
  have hm : max s t = t := Int.max_eq_right (Int.le_of_lt ho)
  obtain ⟨k0, k1, k2, k3, k4⟩ := add_near x y t 0 i s (Int.le_of_lt ho) h2 h1 hn
  obtain ⟨p, hp⟩ : ∃ p : Int, 0 * 2 ^ (t - s).toNat = p := ⟨_, rfl⟩
  obtain ⟨q, hq⟩ : ∃ q : Int, i * 2 ^ (t - s).toNat = q := ⟨_, rfl⟩
  have w2 := (shl_up _ _ k3 k4).trans hq
  have v2 := shl_i64 w2
  have ep : AP 0 s x t = x + p := by rw [AP_comm, AP_ge _ _ _ _ (Int.le_of_lt ho), hp]
  have eq' : AP i s y t = y + q := by rw [AP_comm, AP_ge _ _ _ _ (Int.le_of_lt ho), hq]
  rw [AP_comm, AP_comm y t i s, Int.max_comm] at k0
  have hk : MK (AP 0 s x t) (AP i s y t) (max s t) = true := by unfold MK; rw [k0, hl]; rfl
  rw [ep, eq', hm] at hk ⊢
  rw [hp] at k1 k2
  rw [hq] at k3 k4
  have hp0 : p = 0 := by rw [← hp, Int.zero_mul]
  subst hp0
  rw [Int.add_zero] at hk ⊢
  have v3 : IntKind.i64.wrap x = x := IntWalk.i64_in _ (by omega)
  have v5 : IntKind.i64.wrap 0 = 0 := rfl
  have v4 : IntKind.i64.wrap (y + q) = y + q := IntWalk.i64_in _ (by omega)
  have HK := Lib.hid hk; clear hk ep eq' hm k0 hl
  have HP := Lib.hid hp; have HQ := Lib.hid hq; clear hp hq
  have n1 : 0 ≤ t - s := by omega
  have H1 := Lib.hid h1; have H2 := Lib.hid h2; clear h1 h2
  go_enter Tryd.func37, Tryd.ntmps37
  go_wp2_with fail
  refine (valid_any 0 i s _).mono ?_
  rw [H1.out]
  rintro e u1 ⟨rfl, hb⟩
  have hB1 : Below w.heap.size w u1 := Below.trans (by go_grown) (hb.mono (by go_size))
  have hz1 := hb.size
  try simp at hz1
  have hw1 := hB1.size
  obtain ⟨hc1, hf1⟩ := bcell hb
  clear hb
  try have s0_0_1 : w.heap.size < u1.heap.size := by omega
  try have l0_0_1 : w.heap.size ≤ u1.heap.size := by omega
  try have s0_1_1 : w.heap.size + 1 < u1.heap.size := by omega
  try have l0_1_1 : w.heap.size + 1 ≤ u1.heap.size := by omega
  try have s0_2_1 : w.heap.size + 2 < u1.heap.size := by omega
  try have l0_2_1 : w.heap.size + 2 ≤ u1.heap.size := by omega
  go_wp2_with fail
  refine (valid_any x y t _).mono ?_
  rw [H2.out]
  rintro e u2 ⟨rfl, hb⟩
  have hB2 : Below w.heap.size w u2 := Below.trans (by go_grown) (hb.mono (by go_size))
  have hz2 := hb.size
  try simp at hz2
  have hw2 := hB2.size
  obtain ⟨hc2, hf2⟩ := bcell hb
  clear hb
  try have s0_0_2 : w.heap.size < u2.heap.size := by omega
  try have l0_0_2 : w.heap.size ≤ u2.heap.size := by omega
  try have s0_1_2 : w.heap.size + 1 < u2.heap.size := by omega
  try have l0_1_2 : w.heap.size + 1 ≤ u2.heap.size := by omega
  try have s0_2_2 : w.heap.size + 2 < u2.heap.size := by omega
  try have l0_2_2 : w.heap.size + 2 ≤ u2.heap.size := by omega
  try have s1_0_2 : u1.heap.size < u2.heap.size := by omega
  try have l1_0_2 : u1.heap.size ≤ u2.heap.size := by omega
  have ku2_0_0 : u2.cell? ⟨w.heap.size, 0, none⟩ = some (.int .i64 0) := by go_simp
  have fu2_0_0 : u2.frozen? ⟨w.heap.size, 0, none⟩ = false := by go_simp
  have ku2_0_1 : u2.cell? ⟨w.heap.size, 1, none⟩ = some (.int .i64 i) := by go_simp
  have fu2_0_1 : u2.frozen? ⟨w.heap.size, 1, none⟩ = false := by go_simp
  have ku2_0_2 : u2.cell? ⟨w.heap.size, 2, none⟩ = some (.int .i64 s) := by go_simp
  have fu2_0_2 : u2.frozen? ⟨w.heap.size, 2, none⟩ = false := by go_simp
  have ku2_1_0 : u2.cell? ⟨w.heap.size + 1, 0, none⟩ = some (.int .i64 x) := by go_simp
  have fu2_1_0 : u2.frozen? ⟨w.heap.size + 1, 0, none⟩ = false := by go_simp
  have ku2_1_1 : u2.cell? ⟨w.heap.size + 1, 1, none⟩ = some (.int .i64 y) := by go_simp
  have fu2_1_1 : u2.frozen? ⟨w.heap.size + 1, 1, none⟩ = false := by go_simp
  have ku2_1_2 : u2.cell? ⟨w.heap.size + 1, 2, none⟩ = some (.int .i64 t) := by go_simp
  have fu2_1_2 : u2.frozen? ⟨w.heap.size + 1, 2, none⟩ = false := by go_simp
  have ku2_2_0 : u2.cell? ⟨w.heap.size + 1 + 1, 0, none⟩ = some (.int .i64 0) := by go_simp
  have fu2_2_0 : u2.frozen? ⟨w.heap.size + 1 + 1, 0, none⟩ = false := by go_simp
  have ku2_2_1 : u2.cell? ⟨w.heap.size + 1 + 1, 1, none⟩ = some (.int .i64 0) := by go_simp
  have fu2_2_1 : u2.frozen? ⟨w.heap.size + 1 + 1, 1, none⟩ = false := by go_simp
  have ku2_2_2 : u2.cell? ⟨w.heap.size + 1 + 1, 2, none⟩ = some (.int .i64 0) := by go_simp
  have fu2_2_2 : u2.frozen? ⟨w.heap.size + 1 + 1, 2, none⟩ = false := by go_simp
  clear hc1 hf1
  clear hc2 hf2
  go_upto_region 5 with (fail)
  obtain ⟨u3, hu3⟩ : ∃ u3 : World, ((((((u2.setCell ⟨w.heap.size, 0, none⟩ (.int .i64 x)).setCell ⟨w.heap.size, 1, none⟩ (.int .i64 y)).setCell ⟨w.heap.size, 2, none⟩ (.int .i64 t)).setCell ⟨w.heap.size + 1, 0, none⟩ (.int .i64 0)).setCell ⟨w.heap.size + 1, 1, none⟩ (.int .i64 i)).setCell ⟨w.heap.size + 1, 2, none⟩ (.int .i64 s)) = u3 := ⟨_, rfl⟩
  rw [hu3]
  have HU := Lib.hid hu3; clear hu3
  have hB3 : Below w.heap.size w u3 := by rw [← HU.out]; go_grown
  have z3 : u3.heap.size = u2.heap.size := by rw [← HU.out]; simp
  have ku3_0_0 : u3.cell? ⟨w.heap.size, 0, none⟩ = some (.int .i64 x) := by rw [← HU.out]; go_simp
  have fu3_0_0 : u3.frozen? ⟨w.heap.size, 0, none⟩ = false := by rw [← HU.out]; go_simp
  have ku3_0_1 : u3.cell? ⟨w.heap.size, 1, none⟩ = some (.int .i64 y) := by rw [← HU.out]; go_simp
  have fu3_0_1 : u3.frozen? ⟨w.heap.size, 1, none⟩ = false := by rw [← HU.out]; go_simp
  have ku3_0_2 : u3.cell? ⟨w.heap.size, 2, none⟩ = some (.int .i64 t) := by rw [← HU.out]; go_simp
  have fu3_0_2 : u3.frozen? ⟨w.heap.size, 2, none⟩ = false := by rw [← HU.out]; go_simp
  have ku3_1_0 : u3.cell? ⟨w.heap.size + 1, 0, none⟩ = some (.int .i64 0) := by rw [← HU.out]; go_simp
  have fu3_1_0 : u3.frozen? ⟨w.heap.size + 1, 0, none⟩ = false := by rw [← HU.out]; go_simp
  have ku3_1_1 : u3.cell? ⟨w.heap.size + 1, 1, none⟩ = some (.int .i64 i) := by rw [← HU.out]; go_simp
  have fu3_1_1 : u3.frozen? ⟨w.heap.size + 1, 1, none⟩ = false := by rw [← HU.out]; go_simp
  have ku3_1_2 : u3.cell? ⟨w.heap.size + 1, 2, none⟩ = some (.int .i64 s) := by rw [← HU.out]; go_simp
  have fu3_1_2 : u3.frozen? ⟨w.heap.size + 1, 2, none⟩ = false := by rw [← HU.out]; go_simp
  have ku3_2_0 : u3.cell? ⟨w.heap.size + 1 + 1, 0, none⟩ = some (.int .i64 0) := by rw [← HU.out]; go_simp
  have fu3_2_0 : u3.frozen? ⟨w.heap.size + 1 + 1, 0, none⟩ = false := by rw [← HU.out]; go_simp
  have ku3_2_1 : u3.cell? ⟨w.heap.size + 1 + 1, 1, none⟩ = some (.int .i64 0) := by rw [← HU.out]; go_simp
  have fu3_2_1 : u3.frozen? ⟨w.heap.size + 1 + 1, 1, none⟩ = false := by rw [← HU.out]; go_simp
  have ku3_2_2 : u3.cell? ⟨w.heap.size + 1 + 1, 2, none⟩ = some (.int .i64 0) := by rw [← HU.out]; go_simp
  have fu3_2_2 : u3.frozen? ⟨w.heap.size + 1 + 1, 2, none⟩ = false := by rw [← HU.out]; go_simp
  clear HU hB2
  clear ku2_0_0 fu2_0_0 ku2_0_1 fu2_0_1 ku2_0_2 fu2_0_2 ku2_1_0 fu2_1_0 ku2_1_1 fu2_1_1 ku2_1_2 fu2_1_2 ku2_2_0 fu2_2_0 ku2_2_1 fu2_2_1 ku2_2_2 fu2_2_2
  have g0 : w.heap.size < u3.heap.size := by omega
  have g1 : w.heap.size + 1 < u3.heap.size := by omega
  have g2 : w.heap.size + 1 + 1 < u3.heap.size := by omega
  clear z3
  go_wp2
  go_region_held3 (fun w' => w'.cell? ⟨w.heap.size, 0, none⟩ = some (.int .i64 x) ∧ w'.cell? ⟨w.heap.size, 1, none⟩ = some (.int .i64 y) ∧ w'.cell? ⟨w.heap.size, 2, none⟩ = some (.int .i64 t) ∧ w'.cell? ⟨w.heap.size + 1, 0, none⟩ = some (.int .i64 0) ∧ w'.cell? ⟨w.heap.size + 1, 1, none⟩ = some (.int .i64 i))
    (first | exact ⟨ku3_0_0, ku3_0_1, ku3_0_2, ku3_1_0, ku3_1_1⟩ | exact ⟨hd0, hd1, hd2, hd3, hd4⟩ | exact ⟨set3_out hd0 (by omega), set3_out hd1 (by omega), set3_out hd2 (by omega), set3_out hd3 (by omega), set3_out hd4 (by omega)⟩)
    (first | (go_at_call 35; refine (impl_DyadMake_yes x (y + q) t _ HK.out).mono ?_; rintro e u4 ⟨rfl, hb⟩; have hB4 : Below w.heap.size w u4 := Below.trans (by go_grown) (hb.mono (by go_size)); have hd0 := (hb.cell (p := ⟨w.heap.size, 0, none⟩) g0).trans ku3_0_0; have hd1 := (hb.cell (p := ⟨w.heap.size, 1, none⟩) g0).trans ku3_0_1; have hd2 := (hb.cell (p := ⟨w.heap.size, 2, none⟩) g0).trans ku3_0_2; have hd3 := (hb.cell (p := ⟨w.heap.size + 1, 0, none⟩) g1).trans ku3_1_0; have hd4 := (hb.cell (p := ⟨w.heap.size + 1, 1, none⟩) g1).trans ku3_1_1; have e0 := (hb.cell (p := ⟨w.heap.size + 1 + 1, 0, none⟩) g2).trans ku3_2_0; have q0 := (hb.frozen (p := ⟨w.heap.size + 1 + 1, 0, none⟩) g2).trans fu3_2_0; have e1 := (hb.cell (p := ⟨w.heap.size + 1 + 1, 1, none⟩) g2).trans ku3_2_1; have q1 := (hb.frozen (p := ⟨w.heap.size + 1 + 1, 1, none⟩) g2).trans fu3_2_1; have e2 := (hb.cell (p := ⟨w.heap.size + 1 + 1, 2, none⟩) g2).trans ku3_2_2; have q2 := (hb.frozen (p := ⟨w.heap.size + 1 + 1, 2, none⟩) g2).trans fu3_2_2; clear hb))
  have hB4' := hB4
  go_wp2
  refine ret_cell_tmp Tryd.results37 rfl rfl (load_Dyad _ _ _ _ _ (set3 e0 e1 e2 _ _ _).1 (set3 e0 e1 e2 _ _ _).2.1 (set3 e0 e1 e2 _ _ _).2.2) ⟨rfl, by go_grown⟩
set_option maxHeartbeats 400000 in
theorem impl_DyadAdd_lt_no1 (r i s x y t : Int) (w : World) (h1 : DV r i s = true) (h2 : DV x y t = true) (ho : s < t) (hz : ¬ r = 0) (hn : t - s ≤ 31) (hl : DV (lR (AP r s x t) (AP i s y t) (max s t)) (lI (AP r s x t) (AP i s y t) (max s t)) (lS (AP r s x t) (AP i s y t) (max s t)) = false) :
    Calls Tryd.prog 37 #[.agg #[.int .i64 r, .int .i64 i, .int .i64 s], .agg #[.int .i64 x, .int .i64 y, .int .i64 t]] w (Gives (.tuple #[.agg #[.int .i64 0, .int .i64 0, .int .i64 0], .bool false]) w) := by
  obtain ⟨a1, a2, a3, a4, a5, a6, -⟩ := (DV_iff r i s).1 h1
  obtain ⟨b1, b2, b3, b4, b5, b6, -⟩ := (DV_iff x y t).1 h2
  have hm : max s t = t := Int.max_eq_right (Int.le_of_lt ho)
  obtain ⟨k0, k1, k2, k3, k4⟩ := add_near x y t r i s (Int.le_of_lt ho) h2 h1 hn
  obtain ⟨p, hp⟩ : ∃ p : Int, r * 2 ^ (t - s).toNat = p := ⟨_, rfl⟩
  obtain ⟨q, hq⟩ : ∃ q : Int, i * 2 ^ (t - s).toNat = q := ⟨_, rfl⟩
  have w1 := (shl_up _ _ k1 k2).trans hp
  have v1 := shl_i64 w1
  have w2 := (shl_up _ _ k3 k4).trans hq
  have v2 := shl_i64 w2
  have ep : AP r s x t = x + p := by rw [AP_comm, AP_ge _ _ _ _ (Int.le_of_lt ho), hp]
  have eq' : AP i s y t = y + q := by rw [AP_comm, AP_ge _ _ _ _ (Int.le_of_lt ho), hq]
  rw [AP_comm, AP_comm y t i s, Int.max_comm] at k0
  have hk : MK (AP r s x t) (AP i s y t) (max s t) = false := by unfold MK; rw [k0, hl]; rfl
  rw [ep, eq', hm] at hk
  rw [hp] at k1 k2
  rw [hq] at k3 k4
  have v3 : IntKind.i64.wrap (x + p) = x + p := IntWalk.i64_in _ (by omega)
  have v4 : IntKind.i64.wrap (y + q) = y + q := IntWalk.i64_in _ (by omega)
  have HK := Lib.hid hk; clear hk ep eq' hm k0 hl
  have HP := Lib.hid hp; have HQ := Lib.hid hq; clear hp hq
  have n1 : 0 ≤ t - s := by omega
  have H1 := Lib.hid h1; have H2 := Lib.hid h2; clear h1 h2
  go_enter Tryd.func37, Tryd.ntmps37
  go_wp2_with fail
  refine (valid_any r i s _).mono ?_
  rw [H1.out]
  rintro e u1 ⟨rfl, hb⟩
  have hB1 : Below w.heap.size w u1 := Below.trans (by go_grown) (hb.mono (by go_size))
  have hz1 := hb.size
  try simp at hz1
  have hw1 := hB1.size
  obtain ⟨hc1, hf1⟩ := bcell hb
  clear hb
  try have s0_0_1 : w.heap.size < u1.heap.size := by omega
  try have l0_0_1 : w.heap.size ≤ u1.heap.size := by omega
  try have s0_1_1 : w.heap.size + 1 < u1.heap.size := by omega
  try have l0_1_1 : w.heap.size + 1 ≤ u1.heap.size := by omega
  try have s0_2_1 : w.heap.size + 2 < u1.heap.size := by omega
  try have l0_2_1 : w.heap.size + 2 ≤ u1.heap.size := by omega
  go_wp2_with fail
  refine (valid_any x y t _).mono ?_
  rw [H2.out]
  rintro e u2 ⟨rfl, hb⟩
  have hB2 : Below w.heap.size w u2 := Below.trans (by go_grown) (hb.mono (by go_size))
  have hz2 := hb.size
  try simp at hz2
  have hw2 := hB2.size
  obtain ⟨hc2, hf2⟩ := bcell hb
  clear hb
  try have s0_0_2 : w.heap.size < u2.heap.size := by omega
  try have l0_0_2 : w.heap.size ≤ u2.heap.size := by omega
  try have s0_1_2 : w.heap.size + 1 < u2.heap.size := by omega
  try have l0_1_2 : w.heap.size + 1 ≤ u2.heap.size := by omega
  try have s0_2_2 : w.heap.size + 2 < u2.heap.size := by omega
  try have l0_2_2 : w.heap.size + 2 ≤ u2.heap.size := by omega
  try have s1_0_2 : u1.heap.size < u2.heap.size := by omega
  try have l1_0_2 : u1.heap.size ≤ u2.heap.size := by omega
  have ku2_0_0 : u2.cell? ⟨w.heap.size, 0, none⟩ = some (.int .i64 r) := by go_simp
  have fu2_0_0 : u2.frozen? ⟨w.heap.size, 0, none⟩ = false := by go_simp
  have ku2_0_1 : u2.cell? ⟨w.heap.size, 1, none⟩ = some (.int .i64 i) := by go_simp
  have fu2_0_1 : u2.frozen? ⟨w.heap.size, 1, none⟩ = false := by go_simp
  have ku2_0_2 : u2.cell? ⟨w.heap.size, 2, none⟩ = some (.int .i64 s) := by go_simp
  have fu2_0_2 : u2.frozen? ⟨w.heap.size, 2, none⟩ = false := by go_simp
  have ku2_1_0 : u2.cell? ⟨w.heap.size + 1, 0, none⟩ = some (.int .i64 x) := by go_simp
  have fu2_1_0 : u2.frozen? ⟨w.heap.size + 1, 0, none⟩ = false := by go_simp
  have ku2_1_1 : u2.cell? ⟨w.heap.size + 1, 1, none⟩ = some (.int .i64 y) := by go_simp
  have fu2_1_1 : u2.frozen? ⟨w.heap.size + 1, 1, none⟩ = false := by go_simp
  have ku2_1_2 : u2.cell? ⟨w.heap.size + 1, 2, none⟩ = some (.int .i64 t) := by go_simp
  have fu2_1_2 : u2.frozen? ⟨w.heap.size + 1, 2, none⟩ = false := by go_simp
  have ku2_2_0 : u2.cell? ⟨w.heap.size + 1 + 1, 0, none⟩ = some (.int .i64 0) := by go_simp
  have fu2_2_0 : u2.frozen? ⟨w.heap.size + 1 + 1, 0, none⟩ = false := by go_simp
  have ku2_2_1 : u2.cell? ⟨w.heap.size + 1 + 1, 1, none⟩ = some (.int .i64 0) := by go_simp
  have fu2_2_1 : u2.frozen? ⟨w.heap.size + 1 + 1, 1, none⟩ = false := by go_simp
  have ku2_2_2 : u2.cell? ⟨w.heap.size + 1 + 1, 2, none⟩ = some (.int .i64 0) := by go_simp
  have fu2_2_2 : u2.frozen? ⟨w.heap.size + 1 + 1, 2, none⟩ = false := by go_simp
  clear hc1 hf1
  clear hc2 hf2
  go_upto_region 5 with (fail)
  obtain ⟨u3, hu3⟩ : ∃ u3 : World, ((((((u2.setCell ⟨w.heap.size, 0, none⟩ (.int .i64 x)).setCell ⟨w.heap.size, 1, none⟩ (.int .i64 y)).setCell ⟨w.heap.size, 2, none⟩ (.int .i64 t)).setCell ⟨w.heap.size + 1, 0, none⟩ (.int .i64 r)).setCell ⟨w.heap.size + 1, 1, none⟩ (.int .i64 i)).setCell ⟨w.heap.size + 1, 2, none⟩ (.int .i64 s)) = u3 := ⟨_, rfl⟩
  rw [hu3]
  have HU := Lib.hid hu3; clear hu3
  have hB3 : Below w.heap.size w u3 := by rw [← HU.out]; go_grown
  have z3 : u3.heap.size = u2.heap.size := by rw [← HU.out]; simp
  have ku3_0_0 : u3.cell? ⟨w.heap.size, 0, none⟩ = some (.int .i64 x) := by rw [← HU.out]; go_simp
  have fu3_0_0 : u3.frozen? ⟨w.heap.size, 0, none⟩ = false := by rw [← HU.out]; go_simp
  have ku3_0_1 : u3.cell? ⟨w.heap.size, 1, none⟩ = some (.int .i64 y) := by rw [← HU.out]; go_simp
  have fu3_0_1 : u3.frozen? ⟨w.heap.size, 1, none⟩ = false := by rw [← HU.out]; go_simp
  have ku3_0_2 : u3.cell? ⟨w.heap.size, 2, none⟩ = some (.int .i64 t) := by rw [← HU.out]; go_simp
  have fu3_0_2 : u3.frozen? ⟨w.heap.size, 2, none⟩ = false := by rw [← HU.out]; go_simp
  have ku3_1_0 : u3.cell? ⟨w.heap.size + 1, 0, none⟩ = some (.int .i64 r) := by rw [← HU.out]; go_simp
  have fu3_1_0 : u3.frozen? ⟨w.heap.size + 1, 0, none⟩ = false := by rw [← HU.out]; go_simp
  have ku3_1_1 : u3.cell? ⟨w.heap.size + 1, 1, none⟩ = some (.int .i64 i) := by rw [← HU.out]; go_simp
  have fu3_1_1 : u3.frozen? ⟨w.heap.size + 1, 1, none⟩ = false := by rw [← HU.out]; go_simp
  have ku3_1_2 : u3.cell? ⟨w.heap.size + 1, 2, none⟩ = some (.int .i64 s) := by rw [← HU.out]; go_simp
  have fu3_1_2 : u3.frozen? ⟨w.heap.size + 1, 2, none⟩ = false := by rw [← HU.out]; go_simp
  have ku3_2_0 : u3.cell? ⟨w.heap.size + 1 + 1, 0, none⟩ = some (.int .i64 0) := by rw [← HU.out]; go_simp
  have fu3_2_0 : u3.frozen? ⟨w.heap.size + 1 + 1, 0, none⟩ = false := by rw [← HU.out]; go_simp
  have ku3_2_1 : u3.cell? ⟨w.heap.size + 1 + 1, 1, none⟩ = some (.int .i64 0) := by rw [← HU.out]; go_simp
  have fu3_2_1 : u3.frozen? ⟨w.heap.size + 1 + 1, 1, none⟩ = false := by rw [← HU.out]; go_simp
  have ku3_2_2 : u3.cell? ⟨w.heap.size + 1 + 1, 2, none⟩ = some (.int .i64 0) := by rw [← HU.out]; go_simp
  have fu3_2_2 : u3.frozen? ⟨w.heap.size + 1 + 1, 2, none⟩ = false := by rw [← HU.out]; go_simp
  clear HU hB2
  clear ku2_0_0 fu2_0_0 ku2_0_1 fu2_0_1 ku2_0_2 fu2_0_2 ku2_1_0 fu2_1_0 ku2_1_1 fu2_1_1 ku2_1_2 fu2_1_2 ku2_2_0 fu2_2_0 ku2_2_1 fu2_2_1 ku2_2_2 fu2_2_2
  have g0 : w.heap.size < u3.heap.size := by omega
  have g1 : w.heap.size + 1 < u3.heap.size := by omega
  have g2 : w.heap.size + 1 + 1 < u3.heap.size := by omega
  clear z3
  go_wp2
  go_region_held3 (fun w' => w'.cell? ⟨w.heap.size, 0, none⟩ = some (.int .i64 x) ∧ w'.cell? ⟨w.heap.size, 1, none⟩ = some (.int .i64 y) ∧ w'.cell? ⟨w.heap.size, 2, none⟩ = some (.int .i64 t) ∧ w'.cell? ⟨w.heap.size + 1, 0, none⟩ = some (.int .i64 r) ∧ w'.cell? ⟨w.heap.size + 1, 1, none⟩ = some (.int .i64 i))
    (first | exact ⟨ku3_0_0, ku3_0_1, ku3_0_2, ku3_1_0, ku3_1_1⟩ | exact ⟨hd0, hd1, hd2, hd3, hd4⟩ | exact ⟨set3_out hd0 (by omega), set3_out hd1 (by omega), set3_out hd2 (by omega), set3_out hd3 (by omega), set3_out hd4 (by omega)⟩)
    (first | (go_at_call 35; refine (impl_DyadMake_no (x + p) (y + q) t _ HK.out).mono ?_; rintro e u4 ⟨rfl, hb⟩; have hB4 : Below w.heap.size w u4 := Below.trans (by go_grown) (hb.mono (by go_size)); have hd0 := (hb.cell (p := ⟨w.heap.size, 0, none⟩) g0).trans ku3_0_0; have hd1 := (hb.cell (p := ⟨w.heap.size, 1, none⟩) g0).trans ku3_0_1; have hd2 := (hb.cell (p := ⟨w.heap.size, 2, none⟩) g0).trans ku3_0_2; have hd3 := (hb.cell (p := ⟨w.heap.size + 1, 0, none⟩) g1).trans ku3_1_0; have hd4 := (hb.cell (p := ⟨w.heap.size + 1, 1, none⟩) g1).trans ku3_1_1; have e0 := (hb.cell (p := ⟨w.heap.size + 1 + 1, 0, none⟩) g2).trans ku3_2_0; have q0 := (hb.frozen (p := ⟨w.heap.size + 1 + 1, 0, none⟩) g2).trans fu3_2_0; have e1 := (hb.cell (p := ⟨w.heap.size + 1 + 1, 1, none⟩) g2).trans ku3_2_1; have q1 := (hb.frozen (p := ⟨w.heap.size + 1 + 1, 1, none⟩) g2).trans fu3_2_1; have e2 := (hb.cell (p := ⟨w.heap.size + 1 + 1, 2, none⟩) g2).trans ku3_2_2; have q2 := (hb.frozen (p := ⟨w.heap.size + 1 + 1, 2, none⟩) g2).trans fu3_2_2; clear hb))
  have hB4' := hB4
  go_wp2
  refine ret_cell_tmp Tryd.results37 rfl rfl (load_Dyad _ _ _ _ _ (set3 e0 e1 e2 _ _ _).1 (set3 e0 e1 e2 _ _ _).2.1 (set3 e0 e1 e2 _ _ _).2.2) ⟨rfl, by go_grown⟩
set_option maxHeartbeats 400000 in
theorem impl_DyadAdd_lt_no2 (r i s x y t : Int) (w : World) (h1 : DV r i s = true) (h2 : DV x y t = true) (ho : s < t) (hz0 : r = 0) (hz : ¬ i = 0) (hn : t - s ≤ 31) (hl : DV (lR (AP r s x t) (AP i s y t) (max s t)) (lI (AP r s x t) (AP i s y t) (max s t)) (lS (AP r s x t) (AP i s y t) (max s t)) = false) :
    Calls Tryd.prog 37 #[.agg #[.int .i64 r, .int .i64 i, .int .i64 s], .agg #[.int .i64 x, .int .i64 y, .int .i64 t]] w (Gives (.tuple #[.agg #[.int .i64 0, .int .i64 0, .int .i64 0], .bool false]) w) := by
  obtain ⟨a1, a2, a3, a4, a5, a6, -⟩ := (DV_iff r i s).1 h1
  obtain ⟨b1, b2, b3, b4, b5, b6, -⟩ := (DV_iff x y t).1 h2
  subst hz0
  have hm : max s t = t := Int.max_eq_right (Int.le_of_lt ho)
  obtain ⟨k0, k1, k2, k3, k4⟩ := add_near x y t 0 i s (Int.le_of_lt ho) h2 h1 hn
  obtain ⟨p, hp⟩ : ∃ p : Int, 0 * 2 ^ (t - s).toNat = p := ⟨_, rfl⟩
  obtain ⟨q, hq⟩ : ∃ q : Int, i * 2 ^ (t - s).toNat = q := ⟨_, rfl⟩
  have w2 := (shl_up _ _ k3 k4).trans hq
  have v2 := shl_i64 w2
  have ep : AP 0 s x t = x + p := by rw [AP_comm, AP_ge _ _ _ _ (Int.le_of_lt ho), hp]
  have eq' : AP i s y t = y + q := by rw [AP_comm, AP_ge _ _ _ _ (Int.le_of_lt ho), hq]
  rw [AP_comm, AP_comm y t i s, Int.max_comm] at k0
  have hk : MK (AP 0 s x t) (AP i s y t) (max s t) = false := by unfold MK; rw [k0, hl]; rfl
  rw [ep, eq', hm] at hk
  rw [hp] at k1 k2
  rw [hq] at k3 k4
  have hp0 : p = 0 := by rw [← hp, Int.zero_mul]
  subst hp0
  rw [Int.add_zero] at hk
  have v3 : IntKind.i64.wrap x = x := IntWalk.i64_in _ (by omega)
  have v5 : IntKind.i64.wrap 0 = 0 := rfl
  have v4 : IntKind.i64.wrap (y + q) = y + q := IntWalk.i64_in _ (by omega)
  have HK := Lib.hid hk; clear hk ep eq' hm k0 hl
  have HP := Lib.hid hp; have HQ := Lib.hid hq; clear hp hq
  have n1 : 0 ≤ t - s := by omega
  have H1 := Lib.hid h1; have H2 := Lib.hid h2; clear h1 h2
  go_enter Tryd.func37, Tryd.ntmps37
  go_wp2_with fail
  refine (valid_any 0 i s _).mono ?_
  rw [H1.out]
  rintro e u1 ⟨rfl, hb⟩
  have hB1 : Below w.heap.size w u1 := Below.trans (by go_grown) (hb.mono (by go_size))
  have hz1 := hb.size
  try simp at hz1
  have hw1 := hB1.size
  obtain ⟨hc1, hf1⟩ := bcell hb
  clear hb
  try have s0_0_1 : w.heap.size < u1.heap.size := by omega
  try have l0_0_1 : w.heap.size ≤ u1.heap.size := by omega
  try have s0_1_1 : w.heap.size + 1 < u1.heap.size := by omega
  try have l0_1_1 : w.heap.size + 1 ≤ u1.heap.size := by omega
  try have s0_2_1 : w.heap.size + 2 < u1.heap.size := by omega
  try have l0_2_1 : w.heap.size + 2 ≤ u1.heap.size := by omega
  go_wp2_with fail
  refine (valid_any x y t _).mono ?_
  rw [H2.out]
  rintro e u2 ⟨rfl, hb⟩
  have hB2 : Below w.heap.size w u2 := Below.trans (by go_grown) (hb.mono (by go_size))
  have hz2 := hb.size
  try simp at hz2
  have hw2 := hB2.size
  obtain ⟨hc2, hf2⟩ := bcell hb
  clear hb
  try have s0_0_2 : w.heap.size < u2.heap.size := by omega
  try have l0_0_2 : w.heap.size ≤ u2.heap.size := by omega
  try have s0_1_2 : w.heap.size + 1 < u2.heap.size := by omega
  try have l0_1_2 : w.heap.size + 1 ≤ u2.heap.size := by omega
  try have s0_2_2 : w.heap.size + 2 < u2.heap.size := by omega
  try have l0_2_2 : w.heap.size + 2 ≤ u2.heap.size := by omega
  try have s1_0_2 : u1.heap.size < u2.heap.size := by omega
  try have l1_0_2 : u1.heap.size ≤ u2.heap.size := by omega
  have ku2_0_0 : u2.cell? ⟨w.heap.size, 0, none⟩ = some (.int .i64 0) := by go_simp
  have fu2_0_0 : u2.frozen? ⟨w.heap.size, 0, none⟩ = false := by go_simp
  have ku2_0_1 : u2.cell? ⟨w.heap.size, 1, none⟩ = some (.int .i64 i) := by go_simp
  have fu2_0_1 : u2.frozen? ⟨w.heap.size, 1, none⟩ = false := by go_simp
  have ku2_0_2 : u2.cell? ⟨w.heap.size, 2, none⟩ = some (.int .i64 s) := by go_simp
  have fu2_0_2 : u2.frozen? ⟨w.heap.size, 2, none⟩ = false := by go_simp
  have ku2_1_0 : u2.cell? ⟨w.heap.size + 1, 0, none⟩ = some (.int .i64 x) := by go_simp
  have fu2_1_0 : u2.frozen? ⟨w.heap.size + 1, 0, none⟩ = false := by go_simp
  have ku2_1_1 : u2.cell? ⟨w.heap.size + 1, 1, none⟩ = some (.int .i64 y) := by go_simp
  have fu2_1_1 : u2.frozen? ⟨w.heap.size + 1, 1, none⟩ = false := by go_simp
  have ku2_1_2 : u2.cell? ⟨w.heap.size + 1, 2, none⟩ = some (.int .i64 t) := by go_simp
  have fu2_1_2 : u2.frozen? ⟨w.heap.size + 1, 2, none⟩ = false := by go_simp
  have ku2_2_0 : u2.cell? ⟨w.heap.size + 1 + 1, 0, none⟩ = some (.int .i64 0) := by go_simp
  have fu2_2_0 : u2.frozen? ⟨w.heap.size + 1 + 1, 0, none⟩ = false := by go_simp
  have ku2_2_1 : u2.cell? ⟨w.heap.size + 1 + 1, 1, none⟩ = some (.int .i64 0) := by go_simp
  have fu2_2_1 : u2.frozen? ⟨w.heap.size + 1 + 1, 1, none⟩ = false := by go_simp
  have ku2_2_2 : u2.cell? ⟨w.heap.size + 1 + 1, 2, none⟩ = some (.int .i64 0) := by go_simp
  have fu2_2_2 : u2.frozen? ⟨w.heap.size + 1 + 1, 2, none⟩ = false := by go_simp
  clear hc1 hf1
  clear hc2 hf2
  go_upto_region 5 with (fail)
  obtain ⟨u3, hu3⟩ : ∃ u3 : World, ((((((u2.setCell ⟨w.heap.size, 0, none⟩ (.int .i64 x)).setCell ⟨w.heap.size, 1, none⟩ (.int .i64 y)).setCell ⟨w.heap.size, 2, none⟩ (.int .i64 t)).setCell ⟨w.heap.size + 1, 0, none⟩ (.int .i64 0)).setCell ⟨w.heap.size + 1, 1, none⟩ (.int .i64 i)).setCell ⟨w.heap.size + 1, 2, none⟩ (.int .i64 s)) = u3 := ⟨_, rfl⟩
  rw [hu3]
  have HU := Lib.hid hu3; clear hu3
  have hB3 : Below w.heap.size w u3 := by rw [← HU.out]; go_grown
  have z3 : u3.heap.size = u2.heap.size := by rw [← HU.out]; simp
  have ku3_0_0 : u3.cell? ⟨w.heap.size, 0, none⟩ = some (.int .i64 x) := by rw [← HU.out]; go_simp
  have fu3_0_0 : u3.frozen? ⟨w.heap.size, 0, none⟩ = false := by rw [← HU.out]; go_simp
  have ku3_0_1 : u3.cell? ⟨w.heap.size, 1, none⟩ = some (.int .i64 y) := by rw [← HU.out]; go_simp
  have fu3_0_1 : u3.frozen? ⟨w.heap.size, 1, none⟩ = false := by rw [← HU.out]; go_simp
  have ku3_0_2 : u3.cell? ⟨w.heap.size, 2, none⟩ = some (.int .i64 t) := by rw [← HU.out]; go_simp
  have fu3_0_2 : u3.frozen? ⟨w.heap.size, 2, none⟩ = false := by rw [← HU.out]; go_simp
  have ku3_1_0 : u3.cell? ⟨w.heap.size + 1, 0, none⟩ = some (.int .i64 0) := by rw [← HU.out]; go_simp
  have fu3_1_0 : u3.frozen? ⟨w.heap.size + 1, 0, none⟩ = false := by rw [← HU.out]; go_simp
  have ku3_1_1 : u3.cell? ⟨w.heap.size + 1, 1, none⟩ = some (.int .i64 i) := by rw [← HU.out]; go_simp
  have fu3_1_1 : u3.frozen? ⟨w.heap.size + 1, 1, none⟩ = false := by rw [← HU.out]; go_simp
  have ku3_1_2 : u3.cell? ⟨w.heap.size + 1, 2, none⟩ = some (.int .i64 s) := by rw [← HU.out]; go_simp
  have fu3_1_2 : u3.frozen? ⟨w.heap.size + 1, 2, none⟩ = false := by rw [← HU.out]; go_simp
  have ku3_2_0 : u3.cell? ⟨w.heap.size + 1 + 1, 0, none⟩ = some (.int .i64 0) := by rw [← HU.out]; go_simp
  have fu3_2_0 : u3.frozen? ⟨w.heap.size + 1 + 1, 0, none⟩ = false := by rw [← HU.out]; go_simp
  have ku3_2_1 : u3.cell? ⟨w.heap.size + 1 + 1, 1, none⟩ = some (.int .i64 0) := by rw [← HU.out]; go_simp
  have fu3_2_1 : u3.frozen? ⟨w.heap.size + 1 + 1, 1, none⟩ = false := by rw [← HU.out]; go_simp
  have ku3_2_2 : u3.cell? ⟨w.heap.size + 1 + 1, 2, none⟩ = some (.int .i64 0) := by rw [← HU.out]; go_simp
  have fu3_2_2 : u3.frozen? ⟨w.heap.size + 1 + 1, 2, none⟩ = false := by rw [← HU.out]; go_simp
  clear HU hB2
  clear ku2_0_0 fu2_0_0 ku2_0_1 fu2_0_1 ku2_0_2 fu2_0_2 ku2_1_0 fu2_1_0 ku2_1_1 fu2_1_1 ku2_1_2 fu2_1_2 ku2_2_0 fu2_2_0 ku2_2_1 fu2_2_1 ku2_2_2 fu2_2_2
  have g0 : w.heap.size < u3.heap.size := by omega
  have g1 : w.heap.size + 1 < u3.heap.size := by omega
  have g2 : w.heap.size + 1 + 1 < u3.heap.size := by omega
  clear z3
  go_wp2
  go_region_held3 (fun w' => w'.cell? ⟨w.heap.size, 0, none⟩ = some (.int .i64 x) ∧ w'.cell? ⟨w.heap.size, 1, none⟩ = some (.int .i64 y) ∧ w'.cell? ⟨w.heap.size, 2, none⟩ = some (.int .i64 t) ∧ w'.cell? ⟨w.heap.size + 1, 0, none⟩ = some (.int .i64 0) ∧ w'.cell? ⟨w.heap.size + 1, 1, none⟩ = some (.int .i64 i))
    (first | exact ⟨ku3_0_0, ku3_0_1, ku3_0_2, ku3_1_0, ku3_1_1⟩ | exact ⟨hd0, hd1, hd2, hd3, hd4⟩ | exact ⟨set3_out hd0 (by omega), set3_out hd1 (by omega), set3_out hd2 (by omega), set3_out hd3 (by omega), set3_out hd4 (by omega)⟩)
    (first | (go_at_call 35; refine (impl_DyadMake_no x (y + q) t _ HK.out).mono ?_; rintro e u4 ⟨rfl, hb⟩; have hB4 : Below w.heap.size w u4 := Below.trans (by go_grown) (hb.mono (by go_size)); have hd0 := (hb.cell (p := ⟨w.heap.size, 0, none⟩) g0).trans ku3_0_0; have hd1 := (hb.cell (p := ⟨w.heap.size, 1, none⟩) g0).trans ku3_0_1; have hd2 := (hb.cell (p := ⟨w.heap.size, 2, none⟩) g0).trans ku3_0_2; have hd3 := (hb.cell (p := ⟨w.heap.size + 1, 0, none⟩) g1).trans ku3_1_0; have hd4 := (hb.cell (p := ⟨w.heap.size + 1, 1, none⟩) g1).trans ku3_1_1; have e0 := (hb.cell (p := ⟨w.heap.size + 1 + 1, 0, none⟩) g2).trans ku3_2_0; have q0 := (hb.frozen (p := ⟨w.heap.size + 1 + 1, 0, none⟩) g2).trans fu3_2_0; have e1 := (hb.cell (p := ⟨w.heap.size + 1 + 1, 1, none⟩) g2).trans ku3_2_1; have q1 := (hb.frozen (p := ⟨w.heap.size + 1 + 1, 1, none⟩) g2).trans fu3_2_1; have e2 := (hb.cell (p := ⟨w.heap.size + 1 + 1, 2, none⟩) g2).trans ku3_2_2; have q2 := (hb.frozen (p := ⟨w.heap.size + 1 + 1, 2, none⟩) g2).trans fu3_2_2; clear hb))
  have hB4' := hB4
  go_wp2
  refine ret_cell_tmp Tryd.results37 rfl rfl (load_Dyad _ _ _ _ _ (set3 e0 e1 e2 _ _ _).1 (set3 e0 e1 e2 _ _ _).2.1 (set3 e0 e1 e2 _ _ _).2.2) ⟨rfl, by go_grown⟩
theorem impl_DyadAdd_any (r i s x y t : Int) (w : World) :
    Calls Tryd.prog 37 #[.agg #[.int .i64 r, .int .i64 i, .int .i64 s], .agg #[.int .i64 x, .int .i64 y, .int .i64 t]] w (Gives (ADV r i s x y t) w) := by
  cases h1 : DV r i s
  · rw [ADV_no (by unfold ADD; rw [h1]; rfl)]; exact impl_DyadAdd_a r i s x y t w h1
  cases h2 : DV x y t
  · rw [ADV_no (by unfold ADD; rw [h1, h2]; rfl)]; exact impl_DyadAdd_b r i s x y t w h1 h2
  rcases Int.lt_or_le s t with ho | ho
  · have hle := Int.le_of_lt ho
    by_cases hz : r = 0 ∧ i = 0
    · obtain ⟨e1, e2⟩ := hz
      subst e1 e2
      have e3 := zero_shift _ h1
      subst e3
      obtain ⟨z1, z2, z3⟩ := add_zero' x y t 0 hle h2
      rw [AP_comm, AP_comm y, Int.max_comm] at z1 z2 z3
      have hv : ADD 0 0 0 x y t = true := by rw [ADD_low h1 h2, z1, z2, z3]; exact h2
      rw [ADV_yes hv, z1, z2, z3]
      exact impl_DyadAdd_lt_zero _ _ _ _ _ _ w h1 h2 ho ⟨rfl, rfl, rfl⟩
    · by_cases hf : 31 < t - s
      · have hv : ADD r i s x y t = false := by
          rw [ADD_comm]; unfold ADD
          rw [h1, h2, add_far x y t r i s hle h2 hz hf]; rfl
        rw [ADV_no hv]
        by_cases hx : r = 0
        · exact impl_DyadAdd_lt_far2 r i s x y t w h1 h2 ho hx (fun e => hz ⟨hx, e⟩) hf
        · exact impl_DyadAdd_lt_far1 r i s x y t w h1 h2 ho hx hf
      · cases c3 : DV (lR (AP r s x t) (AP i s y t) (max s t)) (lI (AP r s x t) (AP i s y t) (max s t)) (lS (AP r s x t) (AP i s y t) (max s t))
        · rw [ADV_no (by rw [ADD_low h1 h2, c3])]
          by_cases hx : r = 0
          · exact impl_DyadAdd_lt_no2 r i s x y t w h1 h2 ho hx (fun e => hz ⟨hx, e⟩) (by omega) c3
          · exact impl_DyadAdd_lt_no1 r i s x y t w h1 h2 ho hx (by omega) c3
        · rw [ADV_yes (by rw [ADD_low h1 h2, c3])]
          by_cases hx : r = 0
          · exact impl_DyadAdd_lt_yes2 r i s x y t w h1 h2 ho hx (fun e => hz ⟨hx, e⟩) (by omega) c3
          · exact impl_DyadAdd_lt_yes1 r i s x y t w h1 h2 ho hx (by omega) c3
  · have hle := ho
    by_cases hz : x = 0 ∧ y = 0
    · obtain ⟨e1, e2⟩ := hz
      subst e1 e2
      have e3 := zero_shift _ h2
      subst e3
      obtain ⟨z1, z2, z3⟩ := add_zero' r i s 0 hle h1
      have hv : ADD r i s 0 0 0 = true := by rw [ADD_low h1 h2, z1, z2, z3]; exact h1
      rw [ADV_yes hv, z1, z2, z3]
      exact impl_DyadAdd_ge_zero _ _ _ _ _ _ w h1 h2 ho ⟨rfl, rfl, rfl⟩
    · by_cases hf : 31 < s - t
      · have hv : ADD r i s x y t = false := by
          unfold ADD
          rw [h1, h2, add_far r i s x y t hle h1 hz hf]; rfl
        rw [ADV_no hv]
        by_cases hx : x = 0
        · exact impl_DyadAdd_ge_far2 r i s x y t w h1 h2 ho hx (fun e => hz ⟨hx, e⟩) hf
        · exact impl_DyadAdd_ge_far1 r i s x y t w h1 h2 ho hx hf
      · cases c3 : DV (lR (AP r s x t) (AP i s y t) (max s t)) (lI (AP r s x t) (AP i s y t) (max s t)) (lS (AP r s x t) (AP i s y t) (max s t))
        · rw [ADV_no (by rw [ADD_low h1 h2, c3])]
          by_cases hx : x = 0
          · exact impl_DyadAdd_ge_no2 r i s x y t w h1 h2 ho hx (fun e => hz ⟨hx, e⟩) (by omega) c3
          · exact impl_DyadAdd_ge_no1 r i s x y t w h1 h2 ho hx (by omega) c3
        · rw [ADV_yes (by rw [ADD_low h1 h2, c3])]
          by_cases hx : x = 0
          · exact impl_DyadAdd_ge_yes2 r i s x y t w h1 h2 ho hx (fun e => hz ⟨hx, e⟩) (by omega) c3
          · exact impl_DyadAdd_ge_yes1 r i s x y t w h1 h2 ho hx (by omega) c3

end Go.Proofs.YtjpmpjcenajmbaaDoor
