/- What the drawing functions of boxes give. -/
import Derived.Test.YtdgfipdlfgcfeaaBoD
namespace Go.Proofs.Ytdgfipdlfgcfeaa
set_option linter.unusedSimpArgs false
set_option linter.unusedVariables false
open Go.RowKit

theorem BytesOk.alloc {w : World} {v : Value} (h : BytesOk w w.heap.size v) (o : Obj) : BytesOk (w.alloc o) (w.alloc o).heap.size v :=
  h.kept (by simp) (fun k hk => ((Below.refl _ _).alloc (Nat.le_refl _) _).block k hk)
theorem DrawBoxValid_any (v : Value) (w : World) (hv : BytesOk w w.heap.size v) :
    Calls Try.prog 34 #[v] w fun e w' => ∃ a b c d : Int, e = .returned (.agg #[.int .i64 a, .int .i64 b, .int .i64 c, .int .i64 d]) ∧ (-200000000 ≤ a ∧ a ≤ 200000000 ∧ -200000000 ≤ b ∧ b ≤ 200000000 ∧ -200000000 ≤ c ∧ c ≤ 200000000 ∧ -200000000 ≤ d ∧ d ≤ 200000000) ∧ Below w.heap.size w w' := by
  have HV := Lib.hid hv; clear hv
  go_enter Try.func34, Try.ntmps34
  go_wp2_with fail
  refine (l6Open_any _ _ (HV.out.alloc _)).mono ?_
  rintro e u1 ⟨B, rfl, hlB, hr, hb⟩
  have hB1 : Below w.heap.size w u1 := Below.trans (by go_grown) (hb.mono (by go_size))
  have hz1 := hb.size
  try simp at hz1
  try simp at hlB
  obtain ⟨hc1, hf1⟩ := bcell hb
  clear hb
  have hnB := hr.lt
  have HR1 := Lib.hid hr; clear hr
  try have n0_0 : ¬ w.heap.size = B := by omega
  try have n1_0 : ¬ u1.heap.size = B := by omega
  try have s0_0_1 : w.heap.size < u1.heap.size := by omega
  try have l0_0_1 : w.heap.size ≤ u1.heap.size := by omega
  go_wp2_with fail
  refine (l92Box_any _ _ _ HR1.out (by omega)).mono ?_
  rintro e u2 ⟨a, b, c, d, p', rfl, hb, -, -, hp, -⟩
  have hB2 : Below w.heap.size w u2 := Below.trans hB1 ((hp.to_below (by omega) (by omega)).mono (by omega))
  have hc2 := hp.cell; have hf2 := hp.frozen; clear hp
  have b0 : u2.cell? ⟨w.heap.size, 0, none⟩ = some (.int .i64 0) := by go_simp
  have b1 : u2.cell? ⟨w.heap.size, 1, none⟩ = some (.int .i64 0) := by go_simp
  have b2 : u2.cell? ⟨w.heap.size, 2, none⟩ = some (.int .i64 0) := by go_simp
  have b3 : u2.cell? ⟨w.heap.size, 3, none⟩ = some (.int .i64 0) := by go_simp
  have f0 : u2.frozen? ⟨w.heap.size, 0, none⟩ = false := by go_simp
  have f1 : u2.frozen? ⟨w.heap.size, 1, none⟩ = false := by go_simp
  have f2 : u2.frozen? ⟨w.heap.size, 2, none⟩ = false := by go_simp
  have f3 : u2.frozen? ⟨w.heap.size, 3, none⟩ = false := by go_simp
  clear hc1 hf1 hc2 hf2
  go_wp2
  refine ret_cell Try.results34 rfl (load_Box _ _ _ _ _ _ (set4 b0 b1 b2 b3 _ _ _ _).1 (set4 b0 b1 b2 b3 _ _ _ _).2.1 (set4 b0 b1 b2 b3 _ _ _ _).2.2.1 (set4 b0 b1 b2 b3 _ _ _ _).2.2.2) ?_
  exact ⟨_, _, _, _, rfl, hb, by go_grown⟩
theorem DrawBoxNorm_any (v : Value) (w : World) (hv : BytesOk w w.heap.size v) :
    Calls Try.prog 21 #[v] w fun e w' => ∃ a b c d : Int, e = .returned (.agg #[.int .i64 a, .int .i64 b, .int .i64 c, .int .i64 d]) ∧ (-200000000 ≤ a ∧ a ≤ 200000000 ∧ -200000000 ≤ b ∧ b ≤ 200000000 ∧ -200000000 ≤ c ∧ c ≤ 200000000 ∧ -200000000 ≤ d ∧ d ≤ 200000000) ∧ Below w.heap.size w w' := by
  have HV := Lib.hid hv; clear hv
  go_enter Try.func21, Try.ntmps21
  go_wp2_with fail
  refine (l6Open_any _ _ (HV.out.alloc _)).mono ?_
  rintro e u1 ⟨B, rfl, hlB, hr, hb⟩
  have hB1 : Below w.heap.size w u1 := Below.trans (by go_grown) (hb.mono (by go_size))
  have hz1 := hb.size
  try simp at hz1
  try simp at hlB
  obtain ⟨hc1, hf1⟩ := bcell hb
  clear hb
  have hnB := hr.lt
  have HR1 := Lib.hid hr; clear hr
  try have n0_0 : ¬ w.heap.size = B := by omega
  try have n1_0 : ¬ u1.heap.size = B := by omega
  try have s0_0_1 : w.heap.size < u1.heap.size := by omega
  try have l0_0_1 : w.heap.size ≤ u1.heap.size := by omega
  go_wp2_with fail
  refine (l92Box_any _ _ _ HR1.out (by omega)).mono ?_
  rintro e u2 ⟨a, b, c, d, p', rfl, hb, -, -, hp, -⟩
  have hB2 : Below w.heap.size w u2 := Below.trans hB1 ((hp.to_below (by omega) (by omega)).mono (by omega))
  have hc2 := hp.cell; have hf2 := hp.frozen; clear hp
  have b0 : u2.cell? ⟨w.heap.size, 0, none⟩ = some (.int .i64 0) := by go_simp
  have b1 : u2.cell? ⟨w.heap.size, 1, none⟩ = some (.int .i64 0) := by go_simp
  have b2 : u2.cell? ⟨w.heap.size, 2, none⟩ = some (.int .i64 0) := by go_simp
  have b3 : u2.cell? ⟨w.heap.size, 3, none⟩ = some (.int .i64 0) := by go_simp
  have f0 : u2.frozen? ⟨w.heap.size, 0, none⟩ = false := by go_simp
  have f1 : u2.frozen? ⟨w.heap.size, 1, none⟩ = false := by go_simp
  have f2 : u2.frozen? ⟨w.heap.size, 2, none⟩ = false := by go_simp
  have f3 : u2.frozen? ⟨w.heap.size, 3, none⟩ = false := by go_simp
  clear hc1 hf1 hc2 hf2
  go_wp2
  refine ret_cell Try.results21 rfl (load_Box _ _ _ _ _ _ (set4 b0 b1 b2 b3 _ _ _ _).1 (set4 b0 b1 b2 b3 _ _ _ _).2.1 (set4 b0 b1 b2 b3 _ _ _ _).2.2.1 (set4 b0 b1 b2 b3 _ _ _ _).2.2.2) ?_
  exact ⟨_, _, _, _, rfl, hb, by go_grown⟩
theorem DrawBoxSquare_any (v : Value) (w : World) (hv : BytesOk w w.heap.size v) :
    Calls Try.prog 39 #[v] w fun e w' => ∃ a b c d : Int, e = .returned (.agg #[.int .i64 a, .int .i64 b, .int .i64 c, .int .i64 d]) ∧ (-200000000 ≤ a ∧ a ≤ 200000000 ∧ -200000000 ≤ b ∧ b ≤ 200000000 ∧ -200000000 ≤ c ∧ c ≤ 200000000 ∧ -200000000 ≤ d ∧ d ≤ 200000000) ∧ Below w.heap.size w w' := by
  have HV := Lib.hid hv; clear hv
  go_enter Try.func39, Try.ntmps39
  go_wp2_with fail
  refine (l6Open_any _ _ (HV.out.alloc _)).mono ?_
  rintro e u1 ⟨B, rfl, hlB, hr, hb⟩
  have hB1 : Below w.heap.size w u1 := Below.trans (by go_grown) (hb.mono (by go_size))
  have hz1 := hb.size
  try simp at hz1
  try simp at hlB
  obtain ⟨hc1, hf1⟩ := bcell hb
  clear hb
  have hnB := hr.lt
  have HR1 := Lib.hid hr; clear hr
  try have n0_0 : ¬ w.heap.size = B := by omega
  try have n1_0 : ¬ u1.heap.size = B := by omega
  try have s0_0_1 : w.heap.size < u1.heap.size := by omega
  try have l0_0_1 : w.heap.size ≤ u1.heap.size := by omega
  go_wp2_with fail
  refine (l92Box_any _ _ _ HR1.out (by omega)).mono ?_
  rintro e u2 ⟨a, b, c, d, p', rfl, hb, -, -, hp, -⟩
  have hB2 : Below w.heap.size w u2 := Below.trans hB1 ((hp.to_below (by omega) (by omega)).mono (by omega))
  have hc2 := hp.cell; have hf2 := hp.frozen; clear hp
  have b0 : u2.cell? ⟨w.heap.size, 0, none⟩ = some (.int .i64 0) := by go_simp
  have b1 : u2.cell? ⟨w.heap.size, 1, none⟩ = some (.int .i64 0) := by go_simp
  have b2 : u2.cell? ⟨w.heap.size, 2, none⟩ = some (.int .i64 0) := by go_simp
  have b3 : u2.cell? ⟨w.heap.size, 3, none⟩ = some (.int .i64 0) := by go_simp
  have f0 : u2.frozen? ⟨w.heap.size, 0, none⟩ = false := by go_simp
  have f1 : u2.frozen? ⟨w.heap.size, 1, none⟩ = false := by go_simp
  have f2 : u2.frozen? ⟨w.heap.size, 2, none⟩ = false := by go_simp
  have f3 : u2.frozen? ⟨w.heap.size, 3, none⟩ = false := by go_simp
  clear hc1 hf1 hc2 hf2
  go_wp2
  refine ret_cell Try.results39 rfl (load_Box _ _ _ _ _ _ (set4 b0 b1 b2 b3 _ _ _ _).1 (set4 b0 b1 b2 b3 _ _ _ _).2.1 (set4 b0 b1 b2 b3 _ _ _ _).2.2.1 (set4 b0 b1 b2 b3 _ _ _ _).2.2.2) ?_
  exact ⟨_, _, _, _, rfl, hb, by go_grown⟩
theorem DrawDiscBound_any (v : Value) (w : World) (hv : BytesOk w w.heap.size v) :
    Calls Try.prog 40 #[v] w fun e w' => ∃ a b c d : Int, e = .returned (.agg #[.int .i64 a, .int .i64 b, .int .i64 c, .int .i64 d]) ∧ (-200000000 ≤ a ∧ a ≤ 200000000 ∧ -200000000 ≤ b ∧ b ≤ 200000000 ∧ -200000000 ≤ c ∧ c ≤ 200000000 ∧ -200000000 ≤ d ∧ d ≤ 200000000) ∧ Below w.heap.size w w' := by
  have HV := Lib.hid hv; clear hv
  go_enter Try.func40, Try.ntmps40
  go_wp2_with fail
  refine (l6Open_any _ _ (HV.out.alloc _)).mono ?_
  rintro e u1 ⟨B, rfl, hlB, hr, hb⟩
  have hB1 : Below w.heap.size w u1 := Below.trans (by go_grown) (hb.mono (by go_size))
  have hz1 := hb.size
  try simp at hz1
  try simp at hlB
  obtain ⟨hc1, hf1⟩ := bcell hb
  clear hb
  have hnB := hr.lt
  have HR1 := Lib.hid hr; clear hr
  try have n0_0 : ¬ w.heap.size = B := by omega
  try have n1_0 : ¬ u1.heap.size = B := by omega
  try have s0_0_1 : w.heap.size < u1.heap.size := by omega
  try have l0_0_1 : w.heap.size ≤ u1.heap.size := by omega
  go_wp2_with fail
  refine (l92Box_any _ _ _ HR1.out (by omega)).mono ?_
  rintro e u2 ⟨a, b, c, d, p', rfl, hb, -, -, hp, -⟩
  have hB2 : Below w.heap.size w u2 := Below.trans hB1 ((hp.to_below (by omega) (by omega)).mono (by omega))
  have hc2 := hp.cell; have hf2 := hp.frozen; clear hp
  have b0 : u2.cell? ⟨w.heap.size, 0, none⟩ = some (.int .i64 0) := by go_simp
  have b1 : u2.cell? ⟨w.heap.size, 1, none⟩ = some (.int .i64 0) := by go_simp
  have b2 : u2.cell? ⟨w.heap.size, 2, none⟩ = some (.int .i64 0) := by go_simp
  have b3 : u2.cell? ⟨w.heap.size, 3, none⟩ = some (.int .i64 0) := by go_simp
  have f0 : u2.frozen? ⟨w.heap.size, 0, none⟩ = false := by go_simp
  have f1 : u2.frozen? ⟨w.heap.size, 1, none⟩ = false := by go_simp
  have f2 : u2.frozen? ⟨w.heap.size, 2, none⟩ = false := by go_simp
  have f3 : u2.frozen? ⟨w.heap.size, 3, none⟩ = false := by go_simp
  clear hc1 hf1 hc2 hf2
  go_wp2
  refine ret_cell Try.results40 rfl (load_Box _ _ _ _ _ _ (set4 b0 b1 b2 b3 _ _ _ _).1 (set4 b0 b1 b2 b3 _ _ _ _).2.1 (set4 b0 b1 b2 b3 _ _ _ _).2.2.1 (set4 b0 b1 b2 b3 _ _ _ _).2.2.2) ?_
  exact ⟨_, _, _, _, rfl, hb, by go_grown⟩
theorem DrawCardioidBound_any (v : Value) (w : World) (hv : BytesOk w w.heap.size v) :
    Calls Try.prog 43 #[v] w fun e w' => ∃ a b c d : Int, e = .returned (.agg #[.int .i64 a, .int .i64 b, .int .i64 c, .int .i64 d]) ∧ (-200000000 ≤ a ∧ a ≤ 200000000 ∧ -200000000 ≤ b ∧ b ≤ 200000000 ∧ -200000000 ≤ c ∧ c ≤ 200000000 ∧ -200000000 ≤ d ∧ d ≤ 200000000) ∧ Below w.heap.size w w' := by
  have HV := Lib.hid hv; clear hv
  go_enter Try.func43, Try.ntmps43
  go_wp2_with fail
  refine (l6Open_any _ _ (HV.out.alloc _)).mono ?_
  rintro e u1 ⟨B, rfl, hlB, hr, hb⟩
  have hB1 : Below w.heap.size w u1 := Below.trans (by go_grown) (hb.mono (by go_size))
  have hz1 := hb.size
  try simp at hz1
  try simp at hlB
  obtain ⟨hc1, hf1⟩ := bcell hb
  clear hb
  have hnB := hr.lt
  have HR1 := Lib.hid hr; clear hr
  try have n0_0 : ¬ w.heap.size = B := by omega
  try have n1_0 : ¬ u1.heap.size = B := by omega
  try have s0_0_1 : w.heap.size < u1.heap.size := by omega
  try have l0_0_1 : w.heap.size ≤ u1.heap.size := by omega
  go_wp2_with fail
  refine (l92Box_any _ _ _ HR1.out (by omega)).mono ?_
  rintro e u2 ⟨a, b, c, d, p', rfl, hb, -, -, hp, -⟩
  have hB2 : Below w.heap.size w u2 := Below.trans hB1 ((hp.to_below (by omega) (by omega)).mono (by omega))
  have hc2 := hp.cell; have hf2 := hp.frozen; clear hp
  have b0 : u2.cell? ⟨w.heap.size, 0, none⟩ = some (.int .i64 0) := by go_simp
  have b1 : u2.cell? ⟨w.heap.size, 1, none⟩ = some (.int .i64 0) := by go_simp
  have b2 : u2.cell? ⟨w.heap.size, 2, none⟩ = some (.int .i64 0) := by go_simp
  have b3 : u2.cell? ⟨w.heap.size, 3, none⟩ = some (.int .i64 0) := by go_simp
  have f0 : u2.frozen? ⟨w.heap.size, 0, none⟩ = false := by go_simp
  have f1 : u2.frozen? ⟨w.heap.size, 1, none⟩ = false := by go_simp
  have f2 : u2.frozen? ⟨w.heap.size, 2, none⟩ = false := by go_simp
  have f3 : u2.frozen? ⟨w.heap.size, 3, none⟩ = false := by go_simp
  clear hc1 hf1 hc2 hf2
  go_wp2
  refine ret_cell Try.results43 rfl (load_Box _ _ _ _ _ _ (set4 b0 b1 b2 b3 _ _ _ _).1 (set4 b0 b1 b2 b3 _ _ _ _).2.1 (set4 b0 b1 b2 b3 _ _ _ _).2.2.1 (set4 b0 b1 b2 b3 _ _ _ _).2.2.2) ?_
  exact ⟨_, _, _, _, rfl, hb, by go_grown⟩
end Go.Proofs.Ytdgfipdlfgcfeaa
