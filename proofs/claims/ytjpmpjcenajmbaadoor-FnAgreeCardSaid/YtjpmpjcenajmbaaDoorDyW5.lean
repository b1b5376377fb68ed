/- What the reference's DyadAdd gives. -/
import Derived.Test.YtjpmpjcenajmbaaDoorMDy
namespace Go.Proofs.YtjpmpjcenajmbaaDoor
set_option linter.unusedSimpArgs false
set_option linter.unusedVariables false
open Go.RowKit

/-- What DyadAdd gives. -/
def ADV (r i s x y t : Int) : Value := if ADD r i s x y t = true then (.tuple #[.agg #[.int .i64 (lR (AP r s x t) (AP i s y t) (max s t)), .int .i64 (lI (AP r s x t) (AP i s y t) (max s t)), .int .i64 (lS (AP r s x t) (AP i s y t) (max s t))], .bool true]) else (.tuple #[.agg #[.int .i64 0, .int .i64 0, .int .i64 0], .bool false])
theorem ADV_yes {r i s x y t : Int} (h : ADD r i s x y t = true) : ADV r i s x y t = (.tuple #[.agg #[.int .i64 (lR (AP r s x t) (AP i s y t) (max s t)), .int .i64 (lI (AP r s x t) (AP i s y t) (max s t)), .int .i64 (lS (AP r s x t) (AP i s y t) (max s t))], .bool true]) := if_pos h
theorem ADV_no {r i s x y t : Int} (h : ADD r i s x y t = false) : ADV r i s x y t = (.tuple #[.agg #[.int .i64 0, .int .i64 0, .int .i64 0], .bool false]) := if_neg (by rw [h]; decide)

theorem ADD_low {r i s x y t : Int} (h1 : DV r i s = true) (h2 : DV x y t = true) : ADD r i s x y t = DV (lR (AP r s x t) (AP i s y t) (max s t)) (lI (AP r s x t) (AP i s y t) (max s t)) (lS (AP r s x t) (AP i s y t) (max s t)) := by
  unfold ADD; rw [h1, h2]; rfl
theorem spec_DyadAdd_ge_tt_v (r i s x y t : Int) (w : World) (h1 : DV r i s = true) (h2 : DV x y t = true) (ho : t ≤ s) (hx : RA x (s - t) = true) (hy : RA y (s - t) = true) (hl : DV (lR (AP r s x t) (AP i s y t) (max s t)) (lI (AP r s x t) (AP i s y t) (max s t)) (lS (AP r s x t) (AP i s y t) (max s t)) = true) :
    Calls Tryd.prog 45 #[.agg #[.int .i64 r, .int .i64 i, .int .i64 s], .agg #[.int .i64 x, .int .i64 y, .int .i64 t]] w (Gives (.tuple #[.agg #[.int .i64 (lR (AP r s x t) (AP i s y t) (max s t)), .int .i64 (lI (AP r s x t) (AP i s y t) (max s t)), .int .i64 (lS (AP r s x t) (AP i s y t) (max s t))], .bool true]) w) := by
  obtain ⟨a1, a2, a3, a4, a5, a6, _⟩ := (DV_iff r i s).1 h1
  obtain ⟨b1, b2, b3, b4, b5, b6, _⟩ := (DV_iff x y t).1 h2
  have hm : max s t = s := Int.max_eq_left ho
  rw [hm] at hl ⊢
  have d1 := RA_bd _ _ hx (by omega) (by omega)
  have d2 := RA_bd _ _ hy (by omega) (by omega)
  obtain ⟨p, hp⟩ : ∃ p, p = x * 2 ^ (s - t).toNat := ⟨_, rfl⟩
  obtain ⟨q, hq⟩ : ∃ q, q = y * 2 ^ (s - t).toNat := ⟨_, rfl⟩
  rw [← hp] at d1
  rw [← hq] at d2
  have ep : AP r s x t = r + p := by rw [hp]; exact AP_ge _ _ _ _ ho
  have eq' : AP i s y t = i + q := by rw [hq]; exact AP_ge _ _ _ _ ho
  rw [ep, eq'] at hl ⊢
  clear ep eq' hm
  have p1 : -2305843009213693952 ≤ p := by omega
  have p2 : p ≤ 2305843009213693952 := by omega
  have q1 : -2305843009213693952 ≤ q := by omega
  have q2 : q ≤ 2305843009213693952 := by omega
  obtain ⟨g1, g2, _⟩ := l_le (r + p) (i + q) s (by omega)
  have HR := Lib.hid (I64_of_le g1 ⟨by omega, by omega⟩); have HI := Lib.hid (I64_of_le g2 ⟨by omega, by omega⟩)
  have BP : Hid (I64 (r + p)) := ⟨by omega, by omega⟩
  have BQ : Hid (I64 (i + q)) := ⟨by omega, by omega⟩
  have HP := Lib.hid hp; have HQ := Lib.hid hq; have HL := Lib.hid hl
  clear g1 g2 d1 d2 hp hq hl
  have H1 := Lib.hid h1; have H2 := Lib.hid h2; have HX := Lib.hid hx; have HY := Lib.hid hy
  clear h1 h2 hx hy
  go_enter Tryd.func45, Tryd.ntmps45
  go_wp2_with fail
  refine (spec_DyadValid_any r i s _ ⟨by omega, by omega⟩ ⟨by omega, by omega⟩).mono ?_
  rw [H1.out]
  rintro e u1 ⟨rfl, hb⟩
  have hB1 : Below w.heap.size w u1 := Below.trans (by go_grown) (hb.mono (by go_size))
  have hz1 := hb.size
  try simp at hz1
  have hw1 := hB1.size
  obtain ⟨hc1, hf1⟩ := bcell hb
  clear hb
  try have s0_0_1 : w.heap.size < u1.heap.size := by omega
  try have l0_0_1 : w.heap.size ≤ u1.heap.size := by omega
  try have s0_1_1 : w.heap.size + 1 < u1.heap.size := by omega
  try have l0_1_1 : w.heap.size + 1 ≤ u1.heap.size := by omega
  try have s0_2_1 : w.heap.size + 2 < u1.heap.size := by omega
  try have l0_2_1 : w.heap.size + 2 ≤ u1.heap.size := by omega
  go_wp2_with fail
  refine (spec_DyadValid_any x y t _ ⟨by omega, by omega⟩ ⟨by omega, by omega⟩).mono ?_
  rw [H2.out]
  rintro e u2 ⟨rfl, hb⟩
  have hB2 : Below w.heap.size w u2 := Below.trans (by go_grown) (hb.mono (by go_size))
  have hz2 := hb.size
  try simp at hz2
  have hw2 := hB2.size
  obtain ⟨hc2, hf2⟩ := bcell hb
  clear hb
  try have s0_0_2 : w.heap.size < u2.heap.size := by omega
  try have l0_0_2 : w.heap.size ≤ u2.heap.size := by omega
  try have s0_1_2 : w.heap.size + 1 < u2.heap.size := by omega
  try have l0_1_2 : w.heap.size + 1 ≤ u2.heap.size := by omega
  try have s0_2_2 : w.heap.size + 2 < u2.heap.size := by omega
  try have l0_2_2 : w.heap.size + 2 ≤ u2.heap.size := by omega
  try have s1_0_2 : u1.heap.size < u2.heap.size := by omega
  try have l1_0_2 : u1.heap.size ≤ u2.heap.size := by omega
  go_wp2_with fail
  refine (l2Raise_0 r _ (by omega)).mono ?_
  rintro e u3 ⟨rfl, hb⟩
  have hB3 : Below w.heap.size w u3 := Below.trans (by go_grown) (hb.mono (by go_size))
  have hz3 := hb.size
  try simp at hz3
  have hw3 := hB3.size
  obtain ⟨hc3, hf3⟩ := bcell hb
  clear hb
  try have s0_0_3 : w.heap.size < u3.heap.size := by omega
  try have l0_0_3 : w.heap.size ≤ u3.heap.size := by omega
  try have s0_1_3 : w.heap.size + 1 < u3.heap.size := by omega
  try have l0_1_3 : w.heap.size + 1 ≤ u3.heap.size := by omega
  try have s0_2_3 : w.heap.size + 2 < u3.heap.size := by omega
  try have l0_2_3 : w.heap.size + 2 ≤ u3.heap.size := by omega
  try have s1_0_3 : u1.heap.size < u3.heap.size := by omega
  try have l1_0_3 : u1.heap.size ≤ u3.heap.size := by omega
  try have s2_0_3 : u2.heap.size < u3.heap.size := by omega
  try have l2_0_3 : u2.heap.size ≤ u3.heap.size := by omega
  go_wp2_with fail
  refine (l2Raise_0 i _ (by omega)).mono ?_
  rintro e u4 ⟨rfl, hb⟩
  have hB4 : Below w.heap.size w u4 := Below.trans (by go_grown) (hb.mono (by go_size))
  have hz4 := hb.size
  try simp at hz4
  have hw4 := hB4.size
  obtain ⟨hc4, hf4⟩ := bcell hb
  clear hb
  try have s0_0_4 : w.heap.size < u4.heap.size := by omega
  try have l0_0_4 : w.heap.size ≤ u4.heap.size := by omega
  try have s0_1_4 : w.heap.size + 1 < u4.heap.size := by omega
  try have l0_1_4 : w.heap.size + 1 ≤ u4.heap.size := by omega
  try have s0_2_4 : w.heap.size + 2 < u4.heap.size := by omega
  try have l0_2_4 : w.heap.size + 2 ≤ u4.heap.size := by omega
  try have s1_0_4 : u1.heap.size < u4.heap.size := by omega
  try have l1_0_4 : u1.heap.size ≤ u4.heap.size := by omega
  try have s2_0_4 : u2.heap.size < u4.heap.size := by omega
  try have l2_0_4 : u2.heap.size ≤ u4.heap.size := by omega
  try have s3_0_4 : u3.heap.size < u4.heap.size := by omega
  try have l3_0_4 : u3.heap.size ≤ u4.heap.size := by omega
  go_wp2_with fail
  refine (l2Raise_yes x (s - t) _ (by omega) (by omega) (by omega) HX.out).mono ?_
  rw [← HP.out]
  rintro e u5 ⟨rfl, hb⟩
  have hB5 : Below w.heap.size w u5 := Below.trans (by go_grown) (hb.mono (by go_size))
  have hz5 := hb.size
  try simp at hz5
  have hw5 := hB5.size
  obtain ⟨hc5, hf5⟩ := bcell hb
  clear hb
  try have s0_0_5 : w.heap.size < u5.heap.size := by omega
  try have l0_0_5 : w.heap.size ≤ u5.heap.size := by omega
  try have s0_1_5 : w.heap.size + 1 < u5.heap.size := by omega
  try have l0_1_5 : w.heap.size + 1 ≤ u5.heap.size := by omega
  try have s0_2_5 : w.heap.size + 2 < u5.heap.size := by omega
  try have l0_2_5 : w.heap.size + 2 ≤ u5.heap.size := by omega
  try have s1_0_5 : u1.heap.size < u5.heap.size := by omega
  try have l1_0_5 : u1.heap.size ≤ u5.heap.size := by omega
  try have s2_0_5 : u2.heap.size < u5.heap.size := by omega
  try have l2_0_5 : u2.heap.size ≤ u5.heap.size := by omega
  try have s3_0_5 : u3.heap.size < u5.heap.size := by omega
  try have l3_0_5 : u3.heap.size ≤ u5.heap.size := by omega
  try have s4_0_5 : u4.heap.size < u5.heap.size := by omega
  try have l4_0_5 : u4.heap.size ≤ u5.heap.size := by omega
  go_wp2_with fail
  refine (l2Raise_yes y (s - t) _ (by omega) (by omega) (by omega) HY.out).mono ?_
  rw [← HQ.out]
  rintro e u6 ⟨rfl, hb⟩
  have hB6 : Below w.heap.size w u6 := Below.trans (by go_grown) (hb.mono (by go_size))
  have hz6 := hb.size
  try simp at hz6
  have hw6 := hB6.size
  obtain ⟨hc6, hf6⟩ := bcell hb
  clear hb
  try have s0_0_6 : w.heap.size < u6.heap.size := by omega
  try have l0_0_6 : w.heap.size ≤ u6.heap.size := by omega
  try have s0_1_6 : w.heap.size + 1 < u6.heap.size := by omega
  try have l0_1_6 : w.heap.size + 1 ≤ u6.heap.size := by omega
  try have s0_2_6 : w.heap.size + 2 < u6.heap.size := by omega
  try have l0_2_6 : w.heap.size + 2 ≤ u6.heap.size := by omega
  try have s1_0_6 : u1.heap.size < u6.heap.size := by omega
  try have l1_0_6 : u1.heap.size ≤ u6.heap.size := by omega
  try have s2_0_6 : u2.heap.size < u6.heap.size := by omega
  try have l2_0_6 : u2.heap.size ≤ u6.heap.size := by omega
  try have s3_0_6 : u3.heap.size < u6.heap.size := by omega
  try have l3_0_6 : u3.heap.size ≤ u6.heap.size := by omega
  try have s4_0_6 : u4.heap.size < u6.heap.size := by omega
  try have l4_0_6 : u4.heap.size ≤ u6.heap.size := by omega
  try have s5_0_6 : u5.heap.size < u6.heap.size := by omega
  try have l5_0_6 : u5.heap.size ≤ u6.heap.size := by omega
  go_wp2_with fail
  refine (l2Low_any _ _ _ _ BP.out BQ.out (by omega) (by omega)).mono ?_
  rintro e u7 ⟨rfl, hb⟩
  have hB7 : Below w.heap.size w u7 := Below.trans (by go_grown) (hb.mono (by go_size))
  have hz7 := hb.size
  try simp at hz7
  have hw7 := hB7.size
  obtain ⟨hc7, hf7⟩ := bcell hb
  clear hb
  try have s0_0_7 : w.heap.size < u7.heap.size := by omega
  try have l0_0_7 : w.heap.size ≤ u7.heap.size := by omega
  try have s0_1_7 : w.heap.size + 1 < u7.heap.size := by omega
  try have l0_1_7 : w.heap.size + 1 ≤ u7.heap.size := by omega
  try have s0_2_7 : w.heap.size + 2 < u7.heap.size := by omega
  try have l0_2_7 : w.heap.size + 2 ≤ u7.heap.size := by omega
  try have s1_0_7 : u1.heap.size < u7.heap.size := by omega
  try have l1_0_7 : u1.heap.size ≤ u7.heap.size := by omega
  try have s2_0_7 : u2.heap.size < u7.heap.size := by omega
  try have l2_0_7 : u2.heap.size ≤ u7.heap.size := by omega
  try have s3_0_7 : u3.heap.size < u7.heap.size := by omega
  try have l3_0_7 : u3.heap.size ≤ u7.heap.size := by omega
  try have s4_0_7 : u4.heap.size < u7.heap.size := by omega
  try have l4_0_7 : u4.heap.size ≤ u7.heap.size := by omega
  try have s5_0_7 : u5.heap.size < u7.heap.size := by omega
  try have l5_0_7 : u5.heap.size ≤ u7.heap.size := by omega
  try have s6_0_7 : u6.heap.size < u7.heap.size := by omega
  try have l6_0_7 : u6.heap.size ≤ u7.heap.size := by omega
  go_wp2_with fail
  refine (l2Done_yes _ _ _ _ HR.out HI.out HL.out).mono ?_
  rintro e u8 ⟨rfl, hb⟩
  have hB8 : Below w.heap.size w u8 := Below.trans (by go_grown) (hb.mono (by go_size))
  have hz8 := hb.size
  try simp at hz8
  have hw8 := hB8.size
  obtain ⟨hc8, hf8⟩ := bcell hb
  clear hb
  try have s0_0_8 : w.heap.size < u8.heap.size := by omega
  try have l0_0_8 : w.heap.size ≤ u8.heap.size := by omega
  try have s0_1_8 : w.heap.size + 1 < u8.heap.size := by omega
  try have l0_1_8 : w.heap.size + 1 ≤ u8.heap.size := by omega
  try have s0_2_8 : w.heap.size + 2 < u8.heap.size := by omega
  try have l0_2_8 : w.heap.size + 2 ≤ u8.heap.size := by omega
  try have s1_0_8 : u1.heap.size < u8.heap.size := by omega
  try have l1_0_8 : u1.heap.size ≤ u8.heap.size := by omega
  try have s2_0_8 : u2.heap.size < u8.heap.size := by omega
  try have l2_0_8 : u2.heap.size ≤ u8.heap.size := by omega
  try have s3_0_8 : u3.heap.size < u8.heap.size := by omega
  try have l3_0_8 : u3.heap.size ≤ u8.heap.size := by omega
  try have s4_0_8 : u4.heap.size < u8.heap.size := by omega
  try have l4_0_8 : u4.heap.size ≤ u8.heap.size := by omega
  try have s5_0_8 : u5.heap.size < u8.heap.size := by omega
  try have l5_0_8 : u5.heap.size ≤ u8.heap.size := by omega
  try have s6_0_8 : u6.heap.size < u8.heap.size := by omega
  try have l6_0_8 : u6.heap.size ≤ u8.heap.size := by omega
  try have s7_0_8 : u7.heap.size < u8.heap.size := by omega
  try have l7_0_8 : u7.heap.size ≤ u8.heap.size := by omega
  go_wp2
  have b0 : u8.cell? ⟨w.heap.size + 1 + 1, 0, none⟩ = some (.int .i64 0) := by go_simp
  have b1 : u8.cell? ⟨w.heap.size + 1 + 1, 1, none⟩ = some (.int .i64 0) := by go_simp
  have b2 : u8.cell? ⟨w.heap.size + 1 + 1, 2, none⟩ = some (.int .i64 0) := by go_simp
  refine ret_cell_tmp Tryd.results45 rfl rfl (load_Dyad _ _ _ _ _ (set3 b0 b1 b2 _ _ _).1 (set3 b0 b1 b2 _ _ _).2.1 (set3 b0 b1 b2 _ _ _).2.2) ⟨rfl, by go_grown⟩
theorem spec_DyadAdd_ge_tt_n (r i s x y t : Int) (w : World) (h1 : DV r i s = true) (h2 : DV x y t = true) (ho : t ≤ s) (hx : RA x (s - t) = true) (hy : RA y (s - t) = true) (hl : DV (lR (AP r s x t) (AP i s y t) (max s t)) (lI (AP r s x t) (AP i s y t) (max s t)) (lS (AP r s x t) (AP i s y t) (max s t)) = false) :
    Calls Tryd.prog 45 #[.agg #[.int .i64 r, .int .i64 i, .int .i64 s], .agg #[.int .i64 x, .int .i64 y, .int .i64 t]] w (Gives (.tuple #[.agg #[.int .i64 0, .int .i64 0, .int .i64 0], .bool false]) w) := by
  obtain ⟨a1, a2, a3, a4, a5, a6, _⟩ := (DV_iff r i s).1 h1
  obtain ⟨b1, b2, b3, b4, b5, b6, _⟩ := (DV_iff x y t).1 h2
  have hm : max s t = s := Int.max_eq_left ho
  rw [hm] at hl
  have d1 := RA_bd _ _ hx (by omega) (by omega)
  have d2 := RA_bd _ _ hy (by omega) (by omega)
  obtain ⟨p, hp⟩ : ∃ p, p = x * 2 ^ (s - t).toNat := ⟨_, rfl⟩
  obtain ⟨q, hq⟩ : ∃ q, q = y * 2 ^ (s - t).toNat := ⟨_, rfl⟩
  rw [← hp] at d1
  rw [← hq] at d2
  have ep : AP r s x t = r + p := by rw [hp]; exact AP_ge _ _ _ _ ho
  have eq' : AP i s y t = i + q := by rw [hq]; exact AP_ge _ _ _ _ ho
  rw [ep, eq'] at hl
  clear ep eq' hm
  have p1 : -2305843009213693952 ≤ p := by omega
  have p2 : p ≤ 2305843009213693952 := by omega
  have q1 : -2305843009213693952 ≤ q := by omega
  have q2 : q ≤ 2305843009213693952 := by omega
  obtain ⟨g1, g2, _⟩ := l_le (r + p) (i + q) s (by omega)
  have HR := Lib.hid (I64_of_le g1 ⟨by omega, by omega⟩); have HI := Lib.hid (I64_of_le g2 ⟨by omega, by omega⟩)
  have BP : Hid (I64 (r + p)) := ⟨by omega, by omega⟩
  have BQ : Hid (I64 (i + q)) := ⟨by omega, by omega⟩
  have HP := Lib.hid hp; have HQ := Lib.hid hq; have HL := Lib.hid hl
  clear g1 g2 d1 d2 hp hq hl
  have H1 := Lib.hid h1; have H2 := Lib.hid h2; have HX := Lib.hid hx; have HY := Lib.hid hy
  clear h1 h2 hx hy
  go_enter Tryd.func45, Tryd.ntmps45
  go_wp2_with fail
  refine (spec_DyadValid_any r i s _ ⟨by omega, by omega⟩ ⟨by omega, by omega⟩).mono ?_
  rw [H1.out]
  rintro e u1 ⟨rfl, hb⟩
  have hB1 : Below w.heap.size w u1 := Below.trans (by go_grown) (hb.mono (by go_size))
  have hz1 := hb.size
  try simp at hz1
  have hw1 := hB1.size
  obtain ⟨hc1, hf1⟩ := bcell hb
  clear hb
  try have s0_0_1 : w.heap.size < u1.heap.size := by omega
  try have l0_0_1 : w.heap.size ≤ u1.heap.size := by omega
  try have s0_1_1 : w.heap.size + 1 < u1.heap.size := by omega
  try have l0_1_1 : w.heap.size + 1 ≤ u1.heap.size := by omega
  try have s0_2_1 : w.heap.size + 2 < u1.heap.size := by omega
  try have l0_2_1 : w.heap.size + 2 ≤ u1.heap.size := by omega
  go_wp2_with fail
  refine (spec_DyadValid_any x y t _ ⟨by omega, by omega⟩ ⟨by omega, by omega⟩).mono ?_
  rw [H2.out]
  rintro e u2 ⟨rfl, hb⟩
  have hB2 : Below w.heap.size w u2 := Below.trans (by go_grown) (hb.mono (by go_size))
  have hz2 := hb.size
  try simp at hz2
  have hw2 := hB2.size
  obtain ⟨hc2, hf2⟩ := bcell hb
  clear hb
  try have s0_0_2 : w.heap.size < u2.heap.size := by omega
  try have l0_0_2 : w.heap.size ≤ u2.heap.size := by omega
  try have s0_1_2 : w.heap.size + 1 < u2.heap.size := by omega
  try have l0_1_2 : w.heap.size + 1 ≤ u2.heap.size := by omega
  try have s0_2_2 : w.heap.size + 2 < u2.heap.size := by omega
  try have l0_2_2 : w.heap.size + 2 ≤ u2.heap.size := by omega
  try have s1_0_2 : u1.heap.size < u2.heap.size := by omega
  try have l1_0_2 : u1.heap.size ≤ u2.heap.size := by omega
  go_wp2_with fail
  refine (l2Raise_0 r _ (by omega)).mono ?_
  rintro e u3 ⟨rfl, hb⟩
  have hB3 : Below w.heap.size w u3 := Below.trans (by go_grown) (hb.mono (by go_size))
  have hz3 := hb.size
  try simp at hz3
  have hw3 := hB3.size
  obtain ⟨hc3, hf3⟩ := bcell hb
  clear hb
  try have s0_0_3 : w.heap.size < u3.heap.size := by omega
  try have l0_0_3 : w.heap.size ≤ u3.heap.size := by omega
  try have s0_1_3 : w.heap.size + 1 < u3.heap.size := by omega
  try have l0_1_3 : w.heap.size + 1 ≤ u3.heap.size := by omega
  try have s0_2_3 : w.heap.size + 2 < u3.heap.size := by omega
  try have l0_2_3 : w.heap.size + 2 ≤ u3.heap.size := by omega
  try have s1_0_3 : u1.heap.size < u3.heap.size := by omega
  try have l1_0_3 : u1.heap.size ≤ u3.heap.size := by omega
  try have s2_0_3 : u2.heap.size < u3.heap.size := by omega
  try have l2_0_3 : u2.heap.size ≤ u3.heap.size := by omega
  go_wp2_with fail
  refine (l2Raise_0 i _ (by omega)).mono ?_
  rintro e u4 ⟨rfl, hb⟩
  have hB4 : Below w.heap.size w u4 := Below.trans (by go_grown) (hb.mono (by go_size))
  have hz4 := hb.size
  try simp at hz4
  have hw4 := hB4.size
  obtain ⟨hc4, hf4⟩ := bcell hb
  clear hb
  try have s0_0_4 : w.heap.size < u4.heap.size := by omega
  try have l0_0_4 : w.heap.size ≤ u4.heap.size := by omega
  try have s0_1_4 : w.heap.size + 1 < u4.heap.size := by omega
  try have l0_1_4 : w.heap.size + 1 ≤ u4.heap.size := by omega
  try have s0_2_4 : w.heap.size + 2 < u4.heap.size := by omega
  try have l0_2_4 : w.heap.size + 2 ≤ u4.heap.size := by omega
  try have s1_0_4 : u1.heap.size < u4.heap.size := by omega
  try have l1_0_4 : u1.heap.size ≤ u4.heap.size := by omega
  try have s2_0_4 : u2.heap.size < u4.heap.size := by omega
  try have l2_0_4 : u2.heap.size ≤ u4.heap.size := by omega
  try have s3_0_4 : u3.heap.size < u4.heap.size := by omega
  try have l3_0_4 : u3.heap.size ≤ u4.heap.size := by omega
  go_wp2_with fail
  refine (l2Raise_yes x (s - t) _ (by omega) (by omega) (by omega) HX.out).mono ?_
  rw [← HP.out]
  rintro e u5 ⟨rfl, hb⟩
  have hB5 : Below w.heap.size w u5 := Below.trans (by go_grown) (hb.mono (by go_size))
  have hz5 := hb.size
  try simp at hz5
  have hw5 := hB5.size
  obtain ⟨hc5, hf5⟩ := bcell hb
  clear hb
  try have s0_0_5 : w.heap.size < u5.heap.size := by omega
  try have l0_0_5 : w.heap.size ≤ u5.heap.size := by omega
  try have s0_1_5 : w.heap.size + 1 < u5.heap.size := by omega
  try have l0_1_5 : w.heap.size + 1 ≤ u5.heap.size := by omega
  try have s0_2_5 : w.heap.size + 2 < u5.heap.size := by omega
  try have l0_2_5 : w.heap.size + 2 ≤ u5.heap.size := by omega
  try have s1_0_5 : u1.heap.size < u5.heap.size := by omega
  try have l1_0_5 : u1.heap.size ≤ u5.heap.size := by omega
  try have s2_0_5 : u2.heap.size < u5.heap.size := by omega
  try have l2_0_5 : u2.heap.size ≤ u5.heap.size := by omega
  try have s3_0_5 : u3.heap.size < u5.heap.size := by omega
  try have l3_0_5 : u3.heap.size ≤ u5.heap.size := by omega
  try have s4_0_5 : u4.heap.size < u5.heap.size := by omega
  try have l4_0_5 : u4.heap.size ≤ u5.heap.size := by omega
  go_wp2_with fail
  refine (l2Raise_yes y (s - t) _ (by omega) (by omega) (by omega) HY.out).mono ?_
  rw [← HQ.out]
  rintro e u6 ⟨rfl, hb⟩
  have hB6 : Below w.heap.size w u6 := Below.trans (by go_grown) (hb.mono (by go_size))
  have hz6 := hb.size
  try simp at hz6
  have hw6 := hB6.size
  obtain ⟨hc6, hf6⟩ := bcell hb
  clear hb
  try have s0_0_6 : w.heap.size < u6.heap.size := by omega
  try have l0_0_6 : w.heap.size ≤ u6.heap.size := by omega
  try have s0_1_6 : w.heap.size + 1 < u6.heap.size := by omega
  try have l0_1_6 : w.heap.size + 1 ≤ u6.heap.size := by omega
  try have s0_2_6 : w.heap.size + 2 < u6.heap.size := by omega
  try have l0_2_6 : w.heap.size + 2 ≤ u6.heap.size := by omega
  try have s1_0_6 : u1.heap.size < u6.heap.size := by omega
  try have l1_0_6 : u1.heap.size ≤ u6.heap.size := by omega
  try have s2_0_6 : u2.heap.size < u6.heap.size := by omega
  try have l2_0_6 : u2.heap.size ≤ u6.heap.size := by omega
  try have s3_0_6 : u3.heap.size < u6.heap.size := by omega
  try have l3_0_6 : u3.heap.size ≤ u6.heap.size := by omega
  try have s4_0_6 : u4.heap.size < u6.heap.size := by omega
  try have l4_0_6 : u4.heap.size ≤ u6.heap.size := by omega
  try have s5_0_6 : u5.heap.size < u6.heap.size := by omega
  try have l5_0_6 : u5.heap.size ≤ u6.heap.size := by omega
  go_wp2_with fail
  refine (l2Low_any _ _ _ _ BP.out BQ.out (by omega) (by omega)).mono ?_
  rintro e u7 ⟨rfl, hb⟩
  have hB7 : Below w.heap.size w u7 := Below.trans (by go_grown) (hb.mono (by go_size))
  have hz7 := hb.size
  try simp at hz7
  have hw7 := hB7.size
  obtain ⟨hc7, hf7⟩ := bcell hb
  clear hb
  try have s0_0_7 : w.heap.size < u7.heap.size := by omega
  try have l0_0_7 : w.heap.size ≤ u7.heap.size := by omega
  try have s0_1_7 : w.heap.size + 1 < u7.heap.size := by omega
  try have l0_1_7 : w.heap.size + 1 ≤ u7.heap.size := by omega
  try have s0_2_7 : w.heap.size + 2 < u7.heap.size := by omega
  try have l0_2_7 : w.heap.size + 2 ≤ u7.heap.size := by omega
  try have s1_0_7 : u1.heap.size < u7.heap.size := by omega
  try have l1_0_7 : u1.heap.size ≤ u7.heap.size := by omega
  try have s2_0_7 : u2.heap.size < u7.heap.size := by omega
  try have l2_0_7 : u2.heap.size ≤ u7.heap.size := by omega
  try have s3_0_7 : u3.heap.size < u7.heap.size := by omega
  try have l3_0_7 : u3.heap.size ≤ u7.heap.size := by omega
  try have s4_0_7 : u4.heap.size < u7.heap.size := by omega
  try have l4_0_7 : u4.heap.size ≤ u7.heap.size := by omega
  try have s5_0_7 : u5.heap.size < u7.heap.size := by omega
  try have l5_0_7 : u5.heap.size ≤ u7.heap.size := by omega
  try have s6_0_7 : u6.heap.size < u7.heap.size := by omega
  try have l6_0_7 : u6.heap.size ≤ u7.heap.size := by omega
  go_wp2_with fail
  refine (l2Done_no _ _ _ _ HR.out HI.out HL.out).mono ?_
  rintro e u8 ⟨rfl, hb⟩
  have hB8 : Below w.heap.size w u8 := Below.trans (by go_grown) (hb.mono (by go_size))
  have hz8 := hb.size
  try simp at hz8
  have hw8 := hB8.size
  obtain ⟨hc8, hf8⟩ := bcell hb
  clear hb
  try have s0_0_8 : w.heap.size < u8.heap.size := by omega
  try have l0_0_8 : w.heap.size ≤ u8.heap.size := by omega
  try have s0_1_8 : w.heap.size + 1 < u8.heap.size := by omega
  try have l0_1_8 : w.heap.size + 1 ≤ u8.heap.size := by omega
  try have s0_2_8 : w.heap.size + 2 < u8.heap.size := by omega
  try have l0_2_8 : w.heap.size + 2 ≤ u8.heap.size := by omega
  try have s1_0_8 : u1.heap.size < u8.heap.size := by omega
  try have l1_0_8 : u1.heap.size ≤ u8.heap.size := by omega
  try have s2_0_8 : u2.heap.size < u8.heap.size := by omega
  try have l2_0_8 : u2.heap.size ≤ u8.heap.size := by omega
  try have s3_0_8 : u3.heap.size < u8.heap.size := by omega
  try have l3_0_8 : u3.heap.size ≤ u8.heap.size := by omega
  try have s4_0_8 : u4.heap.size < u8.heap.size := by omega
  try have l4_0_8 : u4.heap.size ≤ u8.heap.size := by omega
  try have s5_0_8 : u5.heap.size < u8.heap.size := by omega
  try have l5_0_8 : u5.heap.size ≤ u8.heap.size := by omega
  try have s6_0_8 : u6.heap.size < u8.heap.size := by omega
  try have l6_0_8 : u6.heap.size ≤ u8.heap.size := by omega
  try have s7_0_8 : u7.heap.size < u8.heap.size := by omega
  try have l7_0_8 : u7.heap.size ≤ u8.heap.size := by omega
  go_wp2
  have b0 : u8.cell? ⟨w.heap.size + 1 + 1, 0, none⟩ = some (.int .i64 0) := by go_simp
  have b1 : u8.cell? ⟨w.heap.size + 1 + 1, 1, none⟩ = some (.int .i64 0) := by go_simp
  have b2 : u8.cell? ⟨w.heap.size + 1 + 1, 2, none⟩ = some (.int .i64 0) := by go_simp
  refine ret_cell_tmp Tryd.results45 rfl rfl (load_Dyad _ _ _ _ _ (set3 b0 b1 b2 _ _ _).1 (set3 b0 b1 b2 _ _ _).2.1 (set3 b0 b1 b2 _ _ _).2.2) ⟨rfl, by go_grown⟩
theorem spec_DyadAdd_ge_tf (r i s x y t : Int) (w : World) (h1 : DV r i s = true) (h2 : DV x y t = true) (ho : t ≤ s) (hx : RA x (s - t) = true) (hy : RA y (s - t) = false) :
    Calls Tryd.prog 45 #[.agg #[.int .i64 r, .int .i64 i, .int .i64 s], .agg #[.int .i64 x, .int .i64 y, .int .i64 t]] w (Gives (.tuple #[.agg #[.int .i64 0, .int .i64 0, .int .i64 0], .bool false]) w) := by
  obtain ⟨a1, a2, a3, a4, a5, a6, _⟩ := (DV_iff r i s).1 h1
  obtain ⟨b1, b2, b3, b4, b5, b6, _⟩ := (DV_iff x y t).1 h2
  have H1 := Lib.hid h1; have H2 := Lib.hid h2; have HX := Lib.hid hx; have HY := Lib.hid hy
  clear h1 h2 hx hy
  go_enter Tryd.func45, Tryd.ntmps45
  go_wp2_with fail
  refine (spec_DyadValid_any r i s _ ⟨by omega, by omega⟩ ⟨by omega, by omega⟩).mono ?_
  rw [H1.out]
  rintro e u1 ⟨rfl, hb⟩
  have hB1 : Below w.heap.size w u1 := Below.trans (by go_grown) (hb.mono (by go_size))
  have hz1 := hb.size
  try simp at hz1
  have hw1 := hB1.size
  obtain ⟨hc1, hf1⟩ := bcell hb
  clear hb
  try have s0_0_1 : w.heap.size < u1.heap.size := by omega
  try have l0_0_1 : w.heap.size ≤ u1.heap.size := by omega
  try have s0_1_1 : w.heap.size + 1 < u1.heap.size := by omega
  try have l0_1_1 : w.heap.size + 1 ≤ u1.heap.size := by omega
  try have s0_2_1 : w.heap.size + 2 < u1.heap.size := by omega
  try have l0_2_1 : w.heap.size + 2 ≤ u1.heap.size := by omega
  go_wp2_with fail
  refine (spec_DyadValid_any x y t _ ⟨by omega, by omega⟩ ⟨by omega, by omega⟩).mono ?_
  rw [H2.out]
  rintro e u2 ⟨rfl, hb⟩
  have hB2 : Below w.heap.size w u2 := Below.trans (by go_grown) (hb.mono (by go_size))
  have hz2 := hb.size
  try simp at hz2
  have hw2 := hB2.size
  obtain ⟨hc2, hf2⟩ := bcell hb
  clear hb
  try have s0_0_2 : w.heap.size < u2.heap.size := by omega
  try have l0_0_2 : w.heap.size ≤ u2.heap.size := by omega
  try have s0_1_2 : w.heap.size + 1 < u2.heap.size := by omega
  try have l0_1_2 : w.heap.size + 1 ≤ u2.heap.size := by omega
  try have s0_2_2 : w.heap.size + 2 < u2.heap.size := by omega
  try have l0_2_2 : w.heap.size + 2 ≤ u2.heap.size := by omega
  try have s1_0_2 : u1.heap.size < u2.heap.size := by omega
  try have l1_0_2 : u1.heap.size ≤ u2.heap.size := by omega
  go_wp2_with fail
  refine (l2Raise_0 r _ (by omega)).mono ?_
  rintro e u3 ⟨rfl, hb⟩
  have hB3 : Below w.heap.size w u3 := Below.trans (by go_grown) (hb.mono (by go_size))
  have hz3 := hb.size
  try simp at hz3
  have hw3 := hB3.size
  obtain ⟨hc3, hf3⟩ := bcell hb
  clear hb
  try have s0_0_3 : w.heap.size < u3.heap.size := by omega
  try have l0_0_3 : w.heap.size ≤ u3.heap.size := by omega
  try have s0_1_3 : w.heap.size + 1 < u3.heap.size := by omega
  try have l0_1_3 : w.heap.size + 1 ≤ u3.heap.size := by omega
  try have s0_2_3 : w.heap.size + 2 < u3.heap.size := by omega
  try have l0_2_3 : w.heap.size + 2 ≤ u3.heap.size := by omega
  try have s1_0_3 : u1.heap.size < u3.heap.size := by omega
  try have l1_0_3 : u1.heap.size ≤ u3.heap.size := by omega
  try have s2_0_3 : u2.heap.size < u3.heap.size := by omega
  try have l2_0_3 : u2.heap.size ≤ u3.heap.size := by omega
  go_wp2_with fail
  refine (l2Raise_0 i _ (by omega)).mono ?_
  rintro e u4 ⟨rfl, hb⟩
  have hB4 : Below w.heap.size w u4 := Below.trans (by go_grown) (hb.mono (by go_size))
  have hz4 := hb.size
  try simp at hz4
  have hw4 := hB4.size
  obtain ⟨hc4, hf4⟩ := bcell hb
  clear hb
  try have s0_0_4 : w.heap.size < u4.heap.size := by omega
  try have l0_0_4 : w.heap.size ≤ u4.heap.size := by omega
  try have s0_1_4 : w.heap.size + 1 < u4.heap.size := by omega
  try have l0_1_4 : w.heap.size + 1 ≤ u4.heap.size := by omega
  try have s0_2_4 : w.heap.size + 2 < u4.heap.size := by omega
  try have l0_2_4 : w.heap.size + 2 ≤ u4.heap.size := by omega
  try have s1_0_4 : u1.heap.size < u4.heap.size := by omega
  try have l1_0_4 : u1.heap.size ≤ u4.heap.size := by omega
  try have s2_0_4 : u2.heap.size < u4.heap.size := by omega
  try have l2_0_4 : u2.heap.size ≤ u4.heap.size := by omega
  try have s3_0_4 : u3.heap.size < u4.heap.size := by omega
  try have l3_0_4 : u3.heap.size ≤ u4.heap.size := by omega
  go_wp2_with fail
  refine (l2Raise_yes x (s - t) _ (by omega) (by omega) (by omega) HX.out).mono ?_
  rintro e u5 ⟨rfl, hb⟩
  have hB5 : Below w.heap.size w u5 := Below.trans (by go_grown) (hb.mono (by go_size))
  have hz5 := hb.size
  try simp at hz5
  have hw5 := hB5.size
  obtain ⟨hc5, hf5⟩ := bcell hb
  clear hb
  try have s0_0_5 : w.heap.size < u5.heap.size := by omega
  try have l0_0_5 : w.heap.size ≤ u5.heap.size := by omega
  try have s0_1_5 : w.heap.size + 1 < u5.heap.size := by omega
  try have l0_1_5 : w.heap.size + 1 ≤ u5.heap.size := by omega
  try have s0_2_5 : w.heap.size + 2 < u5.heap.size := by omega
  try have l0_2_5 : w.heap.size + 2 ≤ u5.heap.size := by omega
  try have s1_0_5 : u1.heap.size < u5.heap.size := by omega
  try have l1_0_5 : u1.heap.size ≤ u5.heap.size := by omega
  try have s2_0_5 : u2.heap.size < u5.heap.size := by omega
  try have l2_0_5 : u2.heap.size ≤ u5.heap.size := by omega
  try have s3_0_5 : u3.heap.size < u5.heap.size := by omega
  try have l3_0_5 : u3.heap.size ≤ u5.heap.size := by omega
  try have s4_0_5 : u4.heap.size < u5.heap.size := by omega
  try have l4_0_5 : u4.heap.size ≤ u5.heap.size := by omega
  go_wp2_with fail
  refine (l2Raise_no y (s - t) _ (by omega) (by omega) (by omega) HY.out).mono ?_
  rintro e u6 ⟨rfl, hb⟩
  have hB6 : Below w.heap.size w u6 := Below.trans (by go_grown) (hb.mono (by go_size))
  have hz6 := hb.size
  try simp at hz6
  have hw6 := hB6.size
  obtain ⟨hc6, hf6⟩ := bcell hb
  clear hb
  try have s0_0_6 : w.heap.size < u6.heap.size := by omega
  try have l0_0_6 : w.heap.size ≤ u6.heap.size := by omega
  try have s0_1_6 : w.heap.size + 1 < u6.heap.size := by omega
  try have l0_1_6 : w.heap.size + 1 ≤ u6.heap.size := by omega
  try have s0_2_6 : w.heap.size + 2 < u6.heap.size := by omega
  try have l0_2_6 : w.heap.size + 2 ≤ u6.heap.size := by omega
  try have s1_0_6 : u1.heap.size < u6.heap.size := by omega
  try have l1_0_6 : u1.heap.size ≤ u6.heap.size := by omega
  try have s2_0_6 : u2.heap.size < u6.heap.size := by omega
  try have l2_0_6 : u2.heap.size ≤ u6.heap.size := by omega
  try have s3_0_6 : u3.heap.size < u6.heap.size := by omega
  try have l3_0_6 : u3.heap.size ≤ u6.heap.size := by omega
  try have s4_0_6 : u4.heap.size < u6.heap.size := by omega
  try have l4_0_6 : u4.heap.size ≤ u6.heap.size := by omega
  try have s5_0_6 : u5.heap.size < u6.heap.size := by omega
  try have l5_0_6 : u5.heap.size ≤ u6.heap.size := by omega
  go_wp2
  have b0 : u6.cell? ⟨w.heap.size + 1 + 1, 0, none⟩ = some (.int .i64 0) := by go_simp
  have b1 : u6.cell? ⟨w.heap.size + 1 + 1, 1, none⟩ = some (.int .i64 0) := by go_simp
  have b2 : u6.cell? ⟨w.heap.size + 1 + 1, 2, none⟩ = some (.int .i64 0) := by go_simp
  refine ret_cell_tmp Tryd.results45 rfl rfl (load_Dyad _ _ _ _ _ (set3 b0 b1 b2 _ _ _).1 (set3 b0 b1 b2 _ _ _).2.1 (set3 b0 b1 b2 _ _ _).2.2) ⟨rfl, by go_grown⟩
theorem spec_DyadAdd_ge_ft (r i s x y t : Int) (w : World) (h1 : DV r i s = true) (h2 : DV x y t = true) (ho : t ≤ s) (hx : RA x (s - t) = false) (hy : RA y (s - t) = true) :
    Calls Tryd.prog 45 #[.agg #[.int .i64 r, .int .i64 i, .int .i64 s], .agg #[.int .i64 x, .int .i64 y, .int .i64 t]] w (Gives (.tuple #[.agg #[.int .i64 0, .int .i64 0, .int .i64 0], .bool false]) w) := by
  obtain ⟨a1, a2, a3, a4, a5, a6, _⟩ := (DV_iff r i s).1 h1
  obtain ⟨b1, b2, b3, b4, b5, b6, _⟩ := (DV_iff x y t).1 h2
  have H1 := Lib.hid h1; have H2 := Lib.hid h2; have HX := Lib.hid hx; have HY := Lib.hid hy
  clear h1 h2 hx hy
  go_enter Tryd.func45, Tryd.ntmps45
  go_wp2_with fail
  refine (spec_DyadValid_any r i s _ ⟨by omega, by omega⟩ ⟨by omega, by omega⟩).mono ?_
  rw [H1.out]
  rintro e u1 ⟨rfl, hb⟩
  have hB1 : Below w.heap.size w u1 := Below.trans (by go_grown) (hb.mono (by go_size))
  have hz1 := hb.size
  try simp at hz1
  have hw1 := hB1.size
  obtain ⟨hc1, hf1⟩ := bcell hb
  clear hb
  try have s0_0_1 : w.heap.size < u1.heap.size := by omega
  try have l0_0_1 : w.heap.size ≤ u1.heap.size := by omega
  try have s0_1_1 : w.heap.size + 1 < u1.heap.size := by omega
  try have l0_1_1 : w.heap.size + 1 ≤ u1.heap.size := by omega
  try have s0_2_1 : w.heap.size + 2 < u1.heap.size := by omega
  try have l0_2_1 : w.heap.size + 2 ≤ u1.heap.size := by omega
  go_wp2_with fail
  refine (spec_DyadValid_any x y t _ ⟨by omega, by omega⟩ ⟨by omega, by omega⟩).mono ?_
  rw [H2.out]
  rintro e u2 ⟨rfl, hb⟩
  have hB2 : Below w.heap.size w u2 := Below.trans (by go_grown) (hb.mono (by go_size))
  have hz2 := hb.size
  try simp at hz2
  have hw2 := hB2.size
  obtain ⟨hc2, hf2⟩ := bcell hb
  clear hb
  try have s0_0_2 : w.heap.size < u2.heap.size := by omega
  try have l0_0_2 : w.heap.size ≤ u2.heap.size := by omega
  try have s0_1_2 : w.heap.size + 1 < u2.heap.size := by omega
  try have l0_1_2 : w.heap.size + 1 ≤ u2.heap.size := by omega
  try have s0_2_2 : w.heap.size + 2 < u2.heap.size := by omega
  try have l0_2_2 : w.heap.size + 2 ≤ u2.heap.size := by omega
  try have s1_0_2 : u1.heap.size < u2.heap.size := by omega
  try have l1_0_2 : u1.heap.size ≤ u2.heap.size := by omega
  go_wp2_with fail
  refine (l2Raise_0 r _ (by omega)).mono ?_
  rintro e u3 ⟨rfl, hb⟩
  have hB3 : Below w.heap.size w u3 := Below.trans (by go_grown) (hb.mono (by go_size))
  have hz3 := hb.size
  try simp at hz3
  have hw3 := hB3.size
  obtain ⟨hc3, hf3⟩ := bcell hb
  clear hb
  try have s0_0_3 : w.heap.size < u3.heap.size := by omega
  try have l0_0_3 : w.heap.size ≤ u3.heap.size := by omega
  try have s0_1_3 : w.heap.size + 1 < u3.heap.size := by omega
  try have l0_1_3 : w.heap.size + 1 ≤ u3.heap.size := by omega
  try have s0_2_3 : w.heap.size + 2 < u3.heap.size := by omega
  try have l0_2_3 : w.heap.size + 2 ≤ u3.heap.size := by omega
  try have s1_0_3 : u1.heap.size < u3.heap.size := by omega
  try have l1_0_3 : u1.heap.size ≤ u3.heap.size := by omega
  try have s2_0_3 : u2.heap.size < u3.heap.size := by omega
  try have l2_0_3 : u2.heap.size ≤ u3.heap.size := by omega
  go_wp2_with fail
  refine (l2Raise_0 i _ (by omega)).mono ?_
  rintro e u4 ⟨rfl, hb⟩
  have hB4 : Below w.heap.size w u4 := Below.trans (by go_grown) (hb.mono (by go_size))
  have hz4 := hb.size
  try simp at hz4
  have hw4 := hB4.size
  obtain ⟨hc4, hf4⟩ := bcell hb
  clear hb
  try have s0_0_4 : w.heap.size < u4.heap.size := by omega
  try have l0_0_4 : w.heap.size ≤ u4.heap.size := by omega
  try have s0_1_4 : w.heap.size + 1 < u4.heap.size := by omega
  try have l0_1_4 : w.heap.size + 1 ≤ u4.heap.size := by omega
  try have s0_2_4 : w.heap.size + 2 < u4.heap.size := by omega
  try have l0_2_4 : w.heap.size + 2 ≤ u4.heap.size := by omega
  try have s1_0_4 : u1.heap.size < u4.heap.size := by omega
  try have l1_0_4 : u1.heap.size ≤ u4.heap.size := by omega
  try have s2_0_4 : u2.heap.size < u4.heap.size := by omega
  try have l2_0_4 : u2.heap.size ≤ u4.heap.size := by omega
  try have s3_0_4 : u3.heap.size < u4.heap.size := by omega
  try have l3_0_4 : u3.heap.size ≤ u4.heap.size := by omega
  go_wp2_with fail
  refine (l2Raise_no x (s - t) _ (by omega) (by omega) (by omega) HX.out).mono ?_
  rintro e u5 ⟨rfl, hb⟩
  have hB5 : Below w.heap.size w u5 := Below.trans (by go_grown) (hb.mono (by go_size))
  have hz5 := hb.size
  try simp at hz5
  have hw5 := hB5.size
  obtain ⟨hc5, hf5⟩ := bcell hb
  clear hb
  try have s0_0_5 : w.heap.size < u5.heap.size := by omega
  try have l0_0_5 : w.heap.size ≤ u5.heap.size := by omega
  try have s0_1_5 : w.heap.size + 1 < u5.heap.size := by omega
  try have l0_1_5 : w.heap.size + 1 ≤ u5.heap.size := by omega
  try have s0_2_5 : w.heap.size + 2 < u5.heap.size := by omega
  try have l0_2_5 : w.heap.size + 2 ≤ u5.heap.size := by omega
  try have s1_0_5 : u1.heap.size < u5.heap.size := by omega
  try have l1_0_5 : u1.heap.size ≤ u5.heap.size := by omega
  try have s2_0_5 : u2.heap.size < u5.heap.size := by omega
  try have l2_0_5 : u2.heap.size ≤ u5.heap.size := by omega
  try have s3_0_5 : u3.heap.size < u5.heap.size := by omega
  try have l3_0_5 : u3.heap.size ≤ u5.heap.size := by omega
  try have s4_0_5 : u4.heap.size < u5.heap.size := by omega
  try have l4_0_5 : u4.heap.size ≤ u5.heap.size := by omega
  go_wp2_with fail
  refine (l2Raise_yes y (s - t) _ (by omega) (by omega) (by omega) HY.out).mono ?_
  rintro e u6 ⟨rfl, hb⟩
  have hB6 : Below w.heap.size w u6 := Below.trans (by go_grown) (hb.mono (by go_size))
  have hz6 := hb.size
  try simp at hz6
  have hw6 := hB6.size
  obtain ⟨hc6, hf6⟩ := bcell hb
  clear hb
  try have s0_0_6 : w.heap.size < u6.heap.size := by omega
  try have l0_0_6 : w.heap.size ≤ u6.heap.size := by omega
  try have s0_1_6 : w.heap.size + 1 < u6.heap.size := by omega
  try have l0_1_6 : w.heap.size + 1 ≤ u6.heap.size := by omega
  try have s0_2_6 : w.heap.size + 2 < u6.heap.size := by omega
  try have l0_2_6 : w.heap.size + 2 ≤ u6.heap.size := by omega
  try have s1_0_6 : u1.heap.size < u6.heap.size := by omega
  try have l1_0_6 : u1.heap.size ≤ u6.heap.size := by omega
  try have s2_0_6 : u2.heap.size < u6.heap.size := by omega
  try have l2_0_6 : u2.heap.size ≤ u6.heap.size := by omega
  try have s3_0_6 : u3.heap.size < u6.heap.size := by omega
  try have l3_0_6 : u3.heap.size ≤ u6.heap.size := by omega
  try have s4_0_6 : u4.heap.size < u6.heap.size := by omega
  try have l4_0_6 : u4.heap.size ≤ u6.heap.size := by omega
  try have s5_0_6 : u5.heap.size < u6.heap.size := by omega
  try have l5_0_6 : u5.heap.size ≤ u6.heap.size := by omega
  go_wp2
  have b0 : u6.cell? ⟨w.heap.size + 1 + 1, 0, none⟩ = some (.int .i64 0) := by go_simp
  have b1 : u6.cell? ⟨w.heap.size + 1 + 1, 1, none⟩ = some (.int .i64 0) := by go_simp
  have b2 : u6.cell? ⟨w.heap.size + 1 + 1, 2, none⟩ = some (.int .i64 0) := by go_simp
  refine ret_cell_tmp Tryd.results45 rfl rfl (load_Dyad _ _ _ _ _ (set3 b0 b1 b2 _ _ _).1 (set3 b0 b1 b2 _ _ _).2.1 (set3 b0 b1 b2 _ _ _).2.2) ⟨rfl, by go_grown⟩
theorem spec_DyadAdd_ge_ff (r i s x y t : Int) (w : World) (h1 : DV r i s = true) (h2 : DV x y t = true) (ho : t ≤ s) (hx : RA x (s - t) = false) (hy : RA y (s - t) = false) :
    Calls Tryd.prog 45 #[.agg #[.int .i64 r, .int .i64 i, .int .i64 s], .agg #[.int .i64 x, .int .i64 y, .int .i64 t]] w (Gives (.tuple #[.agg #[.int .i64 0, .int .i64 0, .int .i64 0], .bool false]) w) := by
  obtain ⟨a1, a2, a3, a4, a5, a6, _⟩ := (DV_iff r i s).1 h1
  obtain ⟨b1, b2, b3, b4, b5, b6, _⟩ := (DV_iff x y t).1 h2
  have H1 := Lib.hid h1; have H2 := Lib.hid h2; have HX := Lib.hid hx; have HY := Lib.hid hy
  clear h1 h2 hx hy
  go_enter Tryd.func45, Tryd.ntmps45
  go_wp2_with fail
  refine (spec_DyadValid_any r i s _ ⟨by omega, by omega⟩ ⟨by omega, by omega⟩).mono ?_
  rw [H1.out]
  rintro e u1 ⟨rfl, hb⟩
  have hB1 : Below w.heap.size w u1 := Below.trans (by go_grown) (hb.mono (by go_size))
  have hz1 := hb.size
  try simp at hz1
  have hw1 := hB1.size
  obtain ⟨hc1, hf1⟩ := bcell hb
  clear hb
  try have s0_0_1 : w.heap.size < u1.heap.size := by omega
  try have l0_0_1 : w.heap.size ≤ u1.heap.size := by omega
  try have s0_1_1 : w.heap.size + 1 < u1.heap.size := by omega
  try have l0_1_1 : w.heap.size + 1 ≤ u1.heap.size := by omega
  try have s0_2_1 : w.heap.size + 2 < u1.heap.size := by omega
  try have l0_2_1 : w.heap.size + 2 ≤ u1.heap.size := by omega
  go_wp2_with fail
  refine (spec_DyadValid_any x y t _ ⟨by omega, by omega⟩ ⟨by omega, by omega⟩).mono ?_
  rw [H2.out]
  rintro e u2 ⟨rfl, hb⟩
  have hB2 : Below w.heap.size w u2 := Below.trans (by go_grown) (hb.mono (by go_size))
  have hz2 := hb.size
  try simp at hz2
  have hw2 := hB2.size
  obtain ⟨hc2, hf2⟩ := bcell hb
  clear hb
  try have s0_0_2 : w.heap.size < u2.heap.size := by omega
  try have l0_0_2 : w.heap.size ≤ u2.heap.size := by omega
  try have s0_1_2 : w.heap.size + 1 < u2.heap.size := by omega
  try have l0_1_2 : w.heap.size + 1 ≤ u2.heap.size := by omega
  try have s0_2_2 : w.heap.size + 2 < u2.heap.size := by omega
  try have l0_2_2 : w.heap.size + 2 ≤ u2.heap.size := by omega
  try have s1_0_2 : u1.heap.size < u2.heap.size := by omega
  try have l1_0_2 : u1.heap.size ≤ u2.heap.size := by omega
  go_wp2_with fail
  refine (l2Raise_0 r _ (by omega)).mono ?_
  rintro e u3 ⟨rfl, hb⟩
  have hB3 : Below w.heap.size w u3 := Below.trans (by go_grown) (hb.mono (by go_size))
  have hz3 := hb.size
  try simp at hz3
  have hw3 := hB3.size
  obtain ⟨hc3, hf3⟩ := bcell hb
  clear hb
  try have s0_0_3 : w.heap.size < u3.heap.size := by omega
  try have l0_0_3 : w.heap.size ≤ u3.heap.size := by omega
  try have s0_1_3 : w.heap.size + 1 < u3.heap.size := by omega
  try have l0_1_3 : w.heap.size + 1 ≤ u3.heap.size := by omega
  try have s0_2_3 : w.heap.size + 2 < u3.heap.size := by omega
  try have l0_2_3 : w.heap.size + 2 ≤ u3.heap.size := by omega
  try have s1_0_3 : u1.heap.size < u3.heap.size := by omega
  try have l1_0_3 : u1.heap.size ≤ u3.heap.size := by omega
  try have s2_0_3 : u2.heap.size < u3.heap.size := by omega
  try have l2_0_3 : u2.heap.size ≤ u3.heap.size := by omega
  go_wp2_with fail
  refine (l2Raise_0 i _ (by omega)).mono ?_
  rintro e u4 ⟨rfl, hb⟩
  have hB4 : Below w.heap.size w u4 := Below.trans (by go_grown) (hb.mono (by go_size))
  have hz4 := hb.size
  try simp at hz4
  have hw4 := hB4.size
  obtain ⟨hc4, hf4⟩ := bcell hb
  clear hb
  try have s0_0_4 : w.heap.size < u4.heap.size := by omega
  try have l0_0_4 : w.heap.size ≤ u4.heap.size := by omega
  try have s0_1_4 : w.heap.size + 1 < u4.heap.size := by omega
  try have l0_1_4 : w.heap.size + 1 ≤ u4.heap.size := by omega
  try have s0_2_4 : w.heap.size + 2 < u4.heap.size := by omega
  try have l0_2_4 : w.heap.size + 2 ≤ u4.heap.size := by omega
  try have s1_0_4 : u1.heap.size < u4.heap.size := by omega
  try have l1_0_4 : u1.heap.size ≤ u4.heap.size := by omega
  try have s2_0_4 : u2.heap.size < u4.heap.size := by omega
  try have l2_0_4 : u2.heap.size ≤ u4.heap.size := by omega
  try have s3_0_4 : u3.heap.size < u4.heap.size := by omega
  try have l3_0_4 : u3.heap.size ≤ u4.heap.size := by omega
  go_wp2_with fail
  refine (l2Raise_no x (s - t) _ (by omega) (by omega) (by omega) HX.out).mono ?_
  rintro e u5 ⟨rfl, hb⟩
  have hB5 : Below w.heap.size w u5 := Below.trans (by go_grown) (hb.mono (by go_size))
  have hz5 := hb.size
  try simp at hz5
  have hw5 := hB5.size
  obtain ⟨hc5, hf5⟩ := bcell hb
  clear hb
  try have s0_0_5 : w.heap.size < u5.heap.size := by omega
  try have l0_0_5 : w.heap.size ≤ u5.heap.size := by omega
  try have s0_1_5 : w.heap.size + 1 < u5.heap.size := by omega
  try have l0_1_5 : w.heap.size + 1 ≤ u5.heap.size := by omega
  try have s0_2_5 : w.heap.size + 2 < u5.heap.size := by omega
  try have l0_2_5 : w.heap.size + 2 ≤ u5.heap.size := by omega
  try have s1_0_5 : u1.heap.size < u5.heap.size := by omega
  try have l1_0_5 : u1.heap.size ≤ u5.heap.size := by omega
  try have s2_0_5 : u2.heap.size < u5.heap.size := by omega
  try have l2_0_5 : u2.heap.size ≤ u5.heap.size := by omega
  try have s3_0_5 : u3.heap.size < u5.heap.size := by omega
  try have l3_0_5 : u3.heap.size ≤ u5.heap.size := by omega
  try have s4_0_5 : u4.heap.size < u5.heap.size := by omega
  try have l4_0_5 : u4.heap.size ≤ u5.heap.size := by omega
  go_wp2_with fail
  refine (l2Raise_no y (s - t) _ (by omega) (by omega) (by omega) HY.out).mono ?_
  rintro e u6 ⟨rfl, hb⟩
  have hB6 : Below w.heap.size w u6 := Below.trans (by go_grown) (hb.mono (by go_size))
  have hz6 := hb.size
  try simp at hz6
  have hw6 := hB6.size
  obtain ⟨hc6, hf6⟩ := bcell hb
  clear hb
  try have s0_0_6 : w.heap.size < u6.heap.size := by omega
  try have l0_0_6 : w.heap.size ≤ u6.heap.size := by omega
  try have s0_1_6 : w.heap.size + 1 < u6.heap.size := by omega
  try have l0_1_6 : w.heap.size + 1 ≤ u6.heap.size := by omega
  try have s0_2_6 : w.heap.size + 2 < u6.heap.size := by omega
  try have l0_2_6 : w.heap.size + 2 ≤ u6.heap.size := by omega
  try have s1_0_6 : u1.heap.size < u6.heap.size := by omega
  try have l1_0_6 : u1.heap.size ≤ u6.heap.size := by omega
  try have s2_0_6 : u2.heap.size < u6.heap.size := by omega
  try have l2_0_6 : u2.heap.size ≤ u6.heap.size := by omega
  try have s3_0_6 : u3.heap.size < u6.heap.size := by omega
  try have l3_0_6 : u3.heap.size ≤ u6.heap.size := by omega
  try have s4_0_6 : u4.heap.size < u6.heap.size := by omega
  try have l4_0_6 : u4.heap.size ≤ u6.heap.size := by omega
  try have s5_0_6 : u5.heap.size < u6.heap.size := by omega
  try have l5_0_6 : u5.heap.size ≤ u6.heap.size := by omega
  go_wp2
  have b0 : u6.cell? ⟨w.heap.size + 1 + 1, 0, none⟩ = some (.int .i64 0) := by go_simp
  have b1 : u6.cell? ⟨w.heap.size + 1 + 1, 1, none⟩ = some (.int .i64 0) := by go_simp
  have b2 : u6.cell? ⟨w.heap.size + 1 + 1, 2, none⟩ = some (.int .i64 0) := by go_simp
  refine ret_cell_tmp Tryd.results45 rfl rfl (load_Dyad _ _ _ _ _ (set3 b0 b1 b2 _ _ _).1 (set3 b0 b1 b2 _ _ _).2.1 (set3 b0 b1 b2 _ _ _).2.2) ⟨rfl, by go_grown⟩
theorem spec_DyadAdd_lt_tt_v (r i s x y t : Int) (w : World) (h1 : DV r i s = true) (h2 : DV x y t = true) (ho : s < t) (hx : RA r (t - s) = true) (hy : RA i (t - s) = true) (hl : DV (lR (AP r s x t) (AP i s y t) (max s t)) (lI (AP r s x t) (AP i s y t) (max s t)) (lS (AP r s x t) (AP i s y t) (max s t)) = true) :
    Calls Tryd.prog 45 #[.agg #[.int .i64 r, .int .i64 i, .int .i64 s], .agg #[.int .i64 x, .int .i64 y, .int .i64 t]] w (Gives (.tuple #[.agg #[.int .i64 (lR (AP r s x t) (AP i s y t) (max s t)), .int .i64 (lI (AP r s x t) (AP i s y t) (max s t)), .int .i64 (lS (AP r s x t) (AP i s y t) (max s t))], .bool true]) w) := by
  obtain ⟨a1, a2, a3, a4, a5, a6, _⟩ := (DV_iff r i s).1 h1
  obtain ⟨b1, b2, b3, b4, b5, b6, _⟩ := (DV_iff x y t).1 h2
  have hm : max s t = t := Int.max_eq_right (Int.le_of_lt ho)
  rw [hm] at hl ⊢
  have d1 := RA_bd _ _ hx (by omega) (by omega)
  have d2 := RA_bd _ _ hy (by omega) (by omega)
  obtain ⟨p, hp⟩ : ∃ p, p = r * 2 ^ (t - s).toNat := ⟨_, rfl⟩
  obtain ⟨q, hq⟩ : ∃ q, q = i * 2 ^ (t - s).toNat := ⟨_, rfl⟩
  rw [← hp] at d1
  rw [← hq] at d2
  have ep : AP r s x t = p + x := by rw [hp, AP_comm, AP_ge _ _ _ _ (Int.le_of_lt ho), Int.add_comm]
  have eq' : AP i s y t = q + y := by rw [hq, AP_comm, AP_ge _ _ _ _ (Int.le_of_lt ho), Int.add_comm]
  rw [ep, eq'] at hl ⊢
  clear ep eq' hm
  have p1 : -2305843009213693952 ≤ p := by omega
  have p2 : p ≤ 2305843009213693952 := by omega
  have q1 : -2305843009213693952 ≤ q := by omega
  have q2 : q ≤ 2305843009213693952 := by omega
  obtain ⟨g1, g2, _⟩ := l_le (p + x) (q + y) t (by omega)
  have HR := Lib.hid (I64_of_le g1 ⟨by omega, by omega⟩); have HI := Lib.hid (I64_of_le g2 ⟨by omega, by omega⟩)
  have BP : Hid (I64 (p + x)) := ⟨by omega, by omega⟩
  have BQ : Hid (I64 (q + y)) := ⟨by omega, by omega⟩
  have HP := Lib.hid hp; have HQ := Lib.hid hq; have HL := Lib.hid hl
  clear g1 g2 d1 d2 hp hq hl
  have H1 := Lib.hid h1; have H2 := Lib.hid h2; have HX := Lib.hid hx; have HY := Lib.hid hy
  clear h1 h2 hx hy
  go_enter Tryd.func45, Tryd.ntmps45
  go_wp2_with fail
  refine (spec_DyadValid_any r i s _ ⟨by omega, by omega⟩ ⟨by omega, by omega⟩).mono ?_
  rw [H1.out]
  rintro e u1 ⟨rfl, hb⟩
  have hB1 : Below w.heap.size w u1 := Below.trans (by go_grown) (hb.mono (by go_size))
  have hz1 := hb.size
  try simp at hz1
  have hw1 := hB1.size
  obtain ⟨hc1, hf1⟩ := bcell hb
  clear hb
  try have s0_0_1 : w.heap.size < u1.heap.size := by omega
  try have l0_0_1 : w.heap.size ≤ u1.heap.size := by omega
  try have s0_1_1 : w.heap.size + 1 < u1.heap.size := by omega
  try have l0_1_1 : w.heap.size + 1 ≤ u1.heap.size := by omega
  try have s0_2_1 : w.heap.size + 2 < u1.heap.size := by omega
  try have l0_2_1 : w.heap.size + 2 ≤ u1.heap.size := by omega
  go_wp2_with fail
  refine (spec_DyadValid_any x y t _ ⟨by omega, by omega⟩ ⟨by omega, by omega⟩).mono ?_
  rw [H2.out]
  rintro e u2 ⟨rfl, hb⟩
  have hB2 : Below w.heap.size w u2 := Below.trans (by go_grown) (hb.mono (by go_size))
  have hz2 := hb.size
  try simp at hz2
  have hw2 := hB2.size
  obtain ⟨hc2, hf2⟩ := bcell hb
  clear hb
  try have s0_0_2 : w.heap.size < u2.heap.size := by omega
  try have l0_0_2 : w.heap.size ≤ u2.heap.size := by omega
  try have s0_1_2 : w.heap.size + 1 < u2.heap.size := by omega
  try have l0_1_2 : w.heap.size + 1 ≤ u2.heap.size := by omega
  try have s0_2_2 : w.heap.size + 2 < u2.heap.size := by omega
  try have l0_2_2 : w.heap.size + 2 ≤ u2.heap.size := by omega
  try have s1_0_2 : u1.heap.size < u2.heap.size := by omega
  try have l1_0_2 : u1.heap.size ≤ u2.heap.size := by omega
  go_wp2_with fail
  refine (l2Raise_yes r (t - s) _ (by omega) (by omega) (by omega) HX.out).mono ?_
  rw [← HP.out]
  rintro e u3 ⟨rfl, hb⟩
  have hB3 : Below w.heap.size w u3 := Below.trans (by go_grown) (hb.mono (by go_size))
  have hz3 := hb.size
  try simp at hz3
  have hw3 := hB3.size
  obtain ⟨hc3, hf3⟩ := bcell hb
  clear hb
  try have s0_0_3 : w.heap.size < u3.heap.size := by omega
  try have l0_0_3 : w.heap.size ≤ u3.heap.size := by omega
  try have s0_1_3 : w.heap.size + 1 < u3.heap.size := by omega
  try have l0_1_3 : w.heap.size + 1 ≤ u3.heap.size := by omega
  try have s0_2_3 : w.heap.size + 2 < u3.heap.size := by omega
  try have l0_2_3 : w.heap.size + 2 ≤ u3.heap.size := by omega
  try have s1_0_3 : u1.heap.size < u3.heap.size := by omega
  try have l1_0_3 : u1.heap.size ≤ u3.heap.size := by omega
  try have s2_0_3 : u2.heap.size < u3.heap.size := by omega
  try have l2_0_3 : u2.heap.size ≤ u3.heap.size := by omega
  go_wp2_with fail
  refine (l2Raise_yes i (t - s) _ (by omega) (by omega) (by omega) HY.out).mono ?_
  rw [← HQ.out]
  rintro e u4 ⟨rfl, hb⟩
  have hB4 : Below w.heap.size w u4 := Below.trans (by go_grown) (hb.mono (by go_size))
  have hz4 := hb.size
  try simp at hz4
  have hw4 := hB4.size
  obtain ⟨hc4, hf4⟩ := bcell hb
  clear hb
  try have s0_0_4 : w.heap.size < u4.heap.size := by omega
  try have l0_0_4 : w.heap.size ≤ u4.heap.size := by omega
  try have s0_1_4 : w.heap.size + 1 < u4.heap.size := by omega
  try have l0_1_4 : w.heap.size + 1 ≤ u4.heap.size := by omega
  try have s0_2_4 : w.heap.size + 2 < u4.heap.size := by omega
  try have l0_2_4 : w.heap.size + 2 ≤ u4.heap.size := by omega
  try have s1_0_4 : u1.heap.size < u4.heap.size := by omega
  try have l1_0_4 : u1.heap.size ≤ u4.heap.size := by omega
  try have s2_0_4 : u2.heap.size < u4.heap.size := by omega
  try have l2_0_4 : u2.heap.size ≤ u4.heap.size := by omega
  try have s3_0_4 : u3.heap.size < u4.heap.size := by omega
  try have l3_0_4 : u3.heap.size ≤ u4.heap.size := by omega
  go_wp2_with fail
  refine (l2Raise_0 x _ (by omega)).mono ?_
  rintro e u5 ⟨rfl, hb⟩
  have hB5 : Below w.heap.size w u5 := Below.trans (by go_grown) (hb.mono (by go_size))
  have hz5 := hb.size
  try simp at hz5
  have hw5 := hB5.size
  obtain ⟨hc5, hf5⟩ := bcell hb
  clear hb
  try have s0_0_5 : w.heap.size < u5.heap.size := by omega
  try have l0_0_5 : w.heap.size ≤ u5.heap.size := by omega
  try have s0_1_5 : w.heap.size + 1 < u5.heap.size := by omega
  try have l0_1_5 : w.heap.size + 1 ≤ u5.heap.size := by omega
  try have s0_2_5 : w.heap.size + 2 < u5.heap.size := by omega
  try have l0_2_5 : w.heap.size + 2 ≤ u5.heap.size := by omega
  try have s1_0_5 : u1.heap.size < u5.heap.size := by omega
  try have l1_0_5 : u1.heap.size ≤ u5.heap.size := by omega
  try have s2_0_5 : u2.heap.size < u5.heap.size := by omega
  try have l2_0_5 : u2.heap.size ≤ u5.heap.size := by omega
  try have s3_0_5 : u3.heap.size < u5.heap.size := by omega
  try have l3_0_5 : u3.heap.size ≤ u5.heap.size := by omega
  try have s4_0_5 : u4.heap.size < u5.heap.size := by omega
  try have l4_0_5 : u4.heap.size ≤ u5.heap.size := by omega
  go_wp2_with fail
  refine (l2Raise_0 y _ (by omega)).mono ?_
  rintro e u6 ⟨rfl, hb⟩
  have hB6 : Below w.heap.size w u6 := Below.trans (by go_grown) (hb.mono (by go_size))
  have hz6 := hb.size
  try simp at hz6
  have hw6 := hB6.size
  obtain ⟨hc6, hf6⟩ := bcell hb
  clear hb
  try have s0_0_6 : w.heap.size < u6.heap.size := by omega
  try have l0_0_6 : w.heap.size ≤ u6.heap.size := by omega
  try have s0_1_6 : w.heap.size + 1 < u6.heap.size := by omega
  try have l0_1_6 : w.heap.size + 1 ≤ u6.heap.size := by omega
  try have s0_2_6 : w.heap.size + 2 < u6.heap.size := by omega
  try have l0_2_6 : w.heap.size + 2 ≤ u6.heap.size := by omega
  try have s1_0_6 : u1.heap.size < u6.heap.size := by omega
  try have l1_0_6 : u1.heap.size ≤ u6.heap.size := by omega
  try have s2_0_6 : u2.heap.size < u6.heap.size := by omega
  try have l2_0_6 : u2.heap.size ≤ u6.heap.size := by omega
  try have s3_0_6 : u3.heap.size < u6.heap.size := by omega
  try have l3_0_6 : u3.heap.size ≤ u6.heap.size := by omega
  try have s4_0_6 : u4.heap.size < u6.heap.size := by omega
  try have l4_0_6 : u4.heap.size ≤ u6.heap.size := by omega
  try have s5_0_6 : u5.heap.size < u6.heap.size := by omega
  try have l5_0_6 : u5.heap.size ≤ u6.heap.size := by omega
  go_wp2_with fail
  refine (l2Low_any _ _ _ _ BP.out BQ.out (by omega) (by omega)).mono ?_
  rintro e u7 ⟨rfl, hb⟩
  have hB7 : Below w.heap.size w u7 := Below.trans (by go_grown) (hb.mono (by go_size))
  have hz7 := hb.size
  try simp at hz7
  have hw7 := hB7.size
  obtain ⟨hc7, hf7⟩ := bcell hb
  clear hb
  try have s0_0_7 : w.heap.size < u7.heap.size := by omega
  try have l0_0_7 : w.heap.size ≤ u7.heap.size := by omega
  try have s0_1_7 : w.heap.size + 1 < u7.heap.size := by omega
  try have l0_1_7 : w.heap.size + 1 ≤ u7.heap.size := by omega
  try have s0_2_7 : w.heap.size + 2 < u7.heap.size := by omega
  try have l0_2_7 : w.heap.size + 2 ≤ u7.heap.size := by omega
  try have s1_0_7 : u1.heap.size < u7.heap.size := by omega
  try have l1_0_7 : u1.heap.size ≤ u7.heap.size := by omega
  try have s2_0_7 : u2.heap.size < u7.heap.size := by omega
  try have l2_0_7 : u2.heap.size ≤ u7.heap.size := by omega
  try have s3_0_7 : u3.heap.size < u7.heap.size := by omega
  try have l3_0_7 : u3.heap.size ≤ u7.heap.size := by omega
  try have s4_0_7 : u4.heap.size < u7.heap.size := by omega
  try have l4_0_7 : u4.heap.size ≤ u7.heap.size := by omega
  try have s5_0_7 : u5.heap.size < u7.heap.size := by omega
  try have l5_0_7 : u5.heap.size ≤ u7.heap.size := by omega
  try have s6_0_7 : u6.heap.size < u7.heap.size := by omega
  try have l6_0_7 : u6.heap.size ≤ u7.heap.size := by omega
  go_wp2_with fail
  refine (l2Done_yes _ _ _ _ HR.out HI.out HL.out).mono ?_
  rintro e u8 ⟨rfl, hb⟩
  have hB8 : Below w.heap.size w u8 := Below.trans (by go_grown) (hb.mono (by go_size))
  have hz8 := hb.size
  try simp at hz8
  have hw8 := hB8.size
  obtain ⟨hc8, hf8⟩ := bcell hb
  clear hb
  try have s0_0_8 : w.heap.size < u8.heap.size := by omega
  try have l0_0_8 : w.heap.size ≤ u8.heap.size := by omega
  try have s0_1_8 : w.heap.size + 1 < u8.heap.size := by omega
  try have l0_1_8 : w.heap.size + 1 ≤ u8.heap.size := by omega
  try have s0_2_8 : w.heap.size + 2 < u8.heap.size := by omega
  try have l0_2_8 : w.heap.size + 2 ≤ u8.heap.size := by omega
  try have s1_0_8 : u1.heap.size < u8.heap.size := by omega
  try have l1_0_8 : u1.heap.size ≤ u8.heap.size := by omega
  try have s2_0_8 : u2.heap.size < u8.heap.size := by omega
  try have l2_0_8 : u2.heap.size ≤ u8.heap.size := by omega
  try have s3_0_8 : u3.heap.size < u8.heap.size := by omega
  try have l3_0_8 : u3.heap.size ≤ u8.heap.size := by omega
  try have s4_0_8 : u4.heap.size < u8.heap.size := by omega
  try have l4_0_8 : u4.heap.size ≤ u8.heap.size := by omega
  try have s5_0_8 : u5.heap.size < u8.heap.size := by omega
  try have l5_0_8 : u5.heap.size ≤ u8.heap.size := by omega
  try have s6_0_8 : u6.heap.size < u8.heap.size := by omega
  try have l6_0_8 : u6.heap.size ≤ u8.heap.size := by omega
  try have s7_0_8 : u7.heap.size < u8.heap.size := by omega
  try have l7_0_8 : u7.heap.size ≤ u8.heap.size := by omega
  go_wp2
  have b0 : u8.cell? ⟨w.heap.size + 1 + 1, 0, none⟩ = some (.int .i64 0) := by go_simp
  have b1 : u8.cell? ⟨w.heap.size + 1 + 1, 1, none⟩ = some (.int .i64 0) := by go_simp
  have b2 : u8.cell? ⟨w.heap.size + 1 + 1, 2, none⟩ = some (.int .i64 0) := by go_simp
  refine ret_cell_tmp Tryd.results45 rfl rfl (load_Dyad _ _ _ _ _ (set3 b0 b1 b2 _ _ _).1 (set3 b0 b1 b2 _ _ _).2.1 (set3 b0 b1 b2 _ _ _).2.2) ⟨rfl, by go_grown⟩
theorem spec_DyadAdd_lt_tt_n (r i s x y t : Int) (w : World) (h1 : DV r i s = true) (h2 : DV x y t = true) (ho : s < t) (hx : RA r (t - s) = true) (hy : RA i (t - s) = true) (hl : DV (lR (AP r s x t) (AP i s y t) (max s t)) (lI (AP r s x t) (AP i s y t) (max s t)) (lS (AP r s x t) (AP i s y t) (max s t)) = false) :
    Calls Tryd.prog 45 #[.agg #[.int .i64 r, .int .i64 i, .int .i64 s], .agg #[.int .i64 x, .int .i64 y, .int .i64 t]] w (Gives (.tuple #[.agg #[.int .i64 0, .int .i64 0, .int .i64 0], .bool false]) w) := by
  obtain ⟨a1, a2, a3, a4, a5, a6, _⟩ := (DV_iff r i s).1 h1
  obtain ⟨b1, b2, b3, b4, b5, b6, _⟩ := (DV_iff x y t).1 h2
  have hm : max s t = t := Int.max_eq_right (Int.le_of_lt ho)
  rw [hm] at hl
  have d1 := RA_bd _ _ hx (by omega) (by omega)
  have d2 := RA_bd _ _ hy (by omega) (by omega)
  obtain ⟨p, hp⟩ : ∃ p, p = r * 2 ^ (t - s).toNat := ⟨_, rfl⟩
  obtain ⟨q, hq⟩ : ∃ q, q = i * 2 ^ (t - s).toNat := ⟨_, rfl⟩
  rw [← hp] at d1
  rw [← hq] at d2
  have ep : AP r s x t = p + x := by rw [hp, AP_comm, AP_ge _ _ _ _ (Int.le_of_lt ho), Int.add_comm]
  have eq' : AP i s y t = q + y := by rw [hq, AP_comm, AP_ge _ _ _ _ (Int.le_of_lt ho), Int.add_comm]
  rw [ep, eq'] at hl
  clear ep eq' hm
  have p1 : -2305843009213693952 ≤ p := by omega
  have p2 : p ≤ 2305843009213693952 := by omega
  have q1 : -2305843009213693952 ≤ q := by omega
  have q2 : q ≤ 2305843009213693952 := by omega
  obtain ⟨g1, g2, _⟩ := l_le (p + x) (q + y) t (by omega)
  have HR := Lib.hid (I64_of_le g1 ⟨by omega, by omega⟩); have HI := Lib.hid (I64_of_le g2 ⟨by omega, by omega⟩)
  have BP : Hid (I64 (p + x)) := ⟨by omega, by omega⟩
  have BQ : Hid (I64 (q + y)) := ⟨by omega, by omega⟩
  have HP := Lib.hid hp; have HQ := Lib.hid hq; have HL := Lib.hid hl
  clear g1 g2 d1 d2 hp hq hl
  have H1 := Lib.hid h1; have H2 := Lib.hid h2; have HX := Lib.hid hx; have HY := Lib.hid hy
  clear h1 h2 hx hy
  go_enter Tryd.func45, Tryd.ntmps45
  go_wp2_with fail
  refine (spec_DyadValid_any r i s _ ⟨by omega, by omega⟩ ⟨by omega, by omega⟩).mono ?_
  rw [H1.out]
  rintro e u1 ⟨rfl, hb⟩
  have hB1 : Below w.heap.size w u1 := Below.trans (by go_grown) (hb.mono (by go_size))
  have hz1 := hb.size
  try simp at hz1
  have hw1 := hB1.size
  obtain ⟨hc1, hf1⟩ := bcell hb
  clear hb
  try have s0_0_1 : w.heap.size < u1.heap.size := by omega
  try have l0_0_1 : w.heap.size ≤ u1.heap.size := by omega
  try have s0_1_1 : w.heap.size + 1 < u1.heap.size := by omega
  try have l0_1_1 : w.heap.size + 1 ≤ u1.heap.size := by omega
  try have s0_2_1 : w.heap.size + 2 < u1.heap.size := by omega
  try have l0_2_1 : w.heap.size + 2 ≤ u1.heap.size := by omega
  go_wp2_with fail
  refine (spec_DyadValid_any x y t _ ⟨by omega, by omega⟩ ⟨by omega, by omega⟩).mono ?_
  rw [H2.out]
  rintro e u2 ⟨rfl, hb⟩
  have hB2 : Below w.heap.size w u2 := Below.trans (by go_grown) (hb.mono (by go_size))
  have hz2 := hb.size
  try simp at hz2
  have hw2 := hB2.size
  obtain ⟨hc2, hf2⟩ := bcell hb
  clear hb
  try have s0_0_2 : w.heap.size < u2.heap.size := by omega
  try have l0_0_2 : w.heap.size ≤ u2.heap.size := by omega
  try have s0_1_2 : w.heap.size + 1 < u2.heap.size := by omega
  try have l0_1_2 : w.heap.size + 1 ≤ u2.heap.size := by omega
  try have s0_2_2 : w.heap.size + 2 < u2.heap.size := by omega
  try have l0_2_2 : w.heap.size + 2 ≤ u2.heap.size := by omega
  try have s1_0_2 : u1.heap.size < u2.heap.size := by omega
  try have l1_0_2 : u1.heap.size ≤ u2.heap.size := by omega
  go_wp2_with fail
  refine (l2Raise_yes r (t - s) _ (by omega) (by omega) (by omega) HX.out).mono ?_
  rw [← HP.out]
  rintro e u3 ⟨rfl, hb⟩
  have hB3 : Below w.heap.size w u3 := Below.trans (by go_grown) (hb.mono (by go_size))
  have hz3 := hb.size
  try simp at hz3
  have hw3 := hB3.size
  obtain ⟨hc3, hf3⟩ := bcell hb
  clear hb
  try have s0_0_3 : w.heap.size < u3.heap.size := by omega
  try have l0_0_3 : w.heap.size ≤ u3.heap.size := by omega
  try have s0_1_3 : w.heap.size + 1 < u3.heap.size := by omega
  try have l0_1_3 : w.heap.size + 1 ≤ u3.heap.size := by omega
  try have s0_2_3 : w.heap.size + 2 < u3.heap.size := by omega
  try have l0_2_3 : w.heap.size + 2 ≤ u3.heap.size := by omega
  try have s1_0_3 : u1.heap.size < u3.heap.size := by omega
  try have l1_0_3 : u1.heap.size ≤ u3.heap.size := by omega
  try have s2_0_3 : u2.heap.size < u3.heap.size := by omega
  try have l2_0_3 : u2.heap.size ≤ u3.heap.size := by omega
  go_wp2_with fail
  refine (l2Raise_yes i (t - s) _ (by omega) (by omega) (by omega) HY.out).mono ?_
  rw [← HQ.out]
  rintro e u4 ⟨rfl, hb⟩
  have hB4 : Below w.heap.size w u4 := Below.trans (by go_grown) (hb.mono (by go_size))
  have hz4 := hb.size
  try simp at hz4
  have hw4 := hB4.size
  obtain ⟨hc4, hf4⟩ := bcell hb
  clear hb
  try have s0_0_4 : w.heap.size < u4.heap.size := by omega
  try have l0_0_4 : w.heap.size ≤ u4.heap.size := by omega
  try have s0_1_4 : w.heap.size + 1 < u4.heap.size := by omega
  try have l0_1_4 : w.heap.size + 1 ≤ u4.heap.size := by omega
  try have s0_2_4 : w.heap.size + 2 < u4.heap.size := by omega
  try have l0_2_4 : w.heap.size + 2 ≤ u4.heap.size := by omega
  try have s1_0_4 : u1.heap.size < u4.heap.size := by omega
  try have l1_0_4 : u1.heap.size ≤ u4.heap.size := by omega
  try have s2_0_4 : u2.heap.size < u4.heap.size := by omega
  try have l2_0_4 : u2.heap.size ≤ u4.heap.size := by omega
  try have s3_0_4 : u3.heap.size < u4.heap.size := by omega
  try have l3_0_4 : u3.heap.size ≤ u4.heap.size := by omega
  go_wp2_with fail
  refine (l2Raise_0 x _ (by omega)).mono ?_
  rintro e u5 ⟨rfl, hb⟩
  have hB5 : Below w.heap.size w u5 := Below.trans (by go_grown) (hb.mono (by go_size))
  have hz5 := hb.size
  try simp at hz5
  have hw5 := hB5.size
  obtain ⟨hc5, hf5⟩ := bcell hb
  clear hb
  try have s0_0_5 : w.heap.size < u5.heap.size := by omega
  try have l0_0_5 : w.heap.size ≤ u5.heap.size := by omega
  try have s0_1_5 : w.heap.size + 1 < u5.heap.size := by omega
  try have l0_1_5 : w.heap.size + 1 ≤ u5.heap.size := by omega
  try have s0_2_5 : w.heap.size + 2 < u5.heap.size := by omega
  try have l0_2_5 : w.heap.size + 2 ≤ u5.heap.size := by omega
  try have s1_0_5 : u1.heap.size < u5.heap.size := by omega
  try have l1_0_5 : u1.heap.size ≤ u5.heap.size := by omega
  try have s2_0_5 : u2.heap.size < u5.heap.size := by omega
  try have l2_0_5 : u2.heap.size ≤ u5.heap.size := by omega
  try have s3_0_5 : u3.heap.size < u5.heap.size := by omega
  try have l3_0_5 : u3.heap.size ≤ u5.heap.size := by omega
  try have s4_0_5 : u4.heap.size < u5.heap.size := by omega
  try have l4_0_5 : u4.heap.size ≤ u5.heap.size := by omega
  go_wp2_with fail
  refine (l2Raise_0 y _ (by omega)).mono ?_
  rintro e u6 ⟨rfl, hb⟩
  have hB6 : Below w.heap.size w u6 := Below.trans (by go_grown) (hb.mono (by go_size))
  have hz6 := hb.size
  try simp at hz6
  have hw6 := hB6.size
  obtain ⟨hc6, hf6⟩ := bcell hb
  clear hb
  try have s0_0_6 : w.heap.size < u6.heap.size := by omega
  try have l0_0_6 : w.heap.size ≤ u6.heap.size := by omega
  try have s0_1_6 : w.heap.size + 1 < u6.heap.size := by omega
  try have l0_1_6 : w.heap.size + 1 ≤ u6.heap.size := by omega
  try have s0_2_6 : w.heap.size + 2 < u6.heap.size := by omega
  try have l0_2_6 : w.heap.size + 2 ≤ u6.heap.size := by omega
  try have s1_0_6 : u1.heap.size < u6.heap.size := by omega
  try have l1_0_6 : u1.heap.size ≤ u6.heap.size := by omega
  try have s2_0_6 : u2.heap.size < u6.heap.size := by omega
  try have l2_0_6 : u2.heap.size ≤ u6.heap.size := by omega
  try have s3_0_6 : u3.heap.size < u6.heap.size := by omega
  try have l3_0_6 : u3.heap.size ≤ u6.heap.size := by omega
  try have s4_0_6 : u4.heap.size < u6.heap.size := by omega
  try have l4_0_6 : u4.heap.size ≤ u6.heap.size := by omega
  try have s5_0_6 : u5.heap.size < u6.heap.size := by omega
  try have l5_0_6 : u5.heap.size ≤ u6.heap.size := by omega
  go_wp2_with fail
  refine (l2Low_any _ _ _ _ BP.out BQ.out (by omega) (by omega)).mono ?_
  rintro e u7 ⟨rfl, hb⟩
  have hB7 : Below w.heap.size w u7 := Below.trans (by go_grown) (hb.mono (by go_size))
  have hz7 := hb.size
  try simp at hz7
  have hw7 := hB7.size
  obtain ⟨hc7, hf7⟩ := bcell hb
  clear hb
  try have s0_0_7 : w.heap.size < u7.heap.size := by omega
  try have l0_0_7 : w.heap.size ≤ u7.heap.size := by omega
  try have s0_1_7 : w.heap.size + 1 < u7.heap.size := by omega
  try have l0_1_7 : w.heap.size + 1 ≤ u7.heap.size := by omega
  try have s0_2_7 : w.heap.size + 2 < u7.heap.size := by omega
  try have l0_2_7 : w.heap.size + 2 ≤ u7.heap.size := by omega
  try have s1_0_7 : u1.heap.size < u7.heap.size := by omega
  try have l1_0_7 : u1.heap.size ≤ u7.heap.size := by omega
  try have s2_0_7 : u2.heap.size < u7.heap.size := by omega
  try have l2_0_7 : u2.heap.size ≤ u7.heap.size := by omega
  try have s3_0_7 : u3.heap.size < u7.heap.size := by omega
  try have l3_0_7 : u3.heap.size ≤ u7.heap.size := by omega
  try have s4_0_7 : u4.heap.size < u7.heap.size := by omega
  try have l4_0_7 : u4.heap.size ≤ u7.heap.size := by omega
  try have s5_0_7 : u5.heap.size < u7.heap.size := by omega
  try have l5_0_7 : u5.heap.size ≤ u7.heap.size := by omega
  try have s6_0_7 : u6.heap.size < u7.heap.size := by omega
  try have l6_0_7 : u6.heap.size ≤ u7.heap.size := by omega
  go_wp2_with fail
  refine (l2Done_no _ _ _ _ HR.out HI.out HL.out).mono ?_
  rintro e u8 ⟨rfl, hb⟩
  have hB8 : Below w.heap.size w u8 := Below.trans (by go_grown) (hb.mono (by go_size))
  have hz8 := hb.size
  try simp at hz8
  have hw8 := hB8.size
  obtain ⟨hc8, hf8⟩ := bcell hb
  clear hb
  try have s0_0_8 : w.heap.size < u8.heap.size := by omega
  try have l0_0_8 : w.heap.size ≤ u8.heap.size := by omega
  try have s0_1_8 : w.heap.size + 1 < u8.heap.size := by omega
  try have l0_1_8 : w.heap.size + 1 ≤ u8.heap.size := by omega
  try have s0_2_8 : w.heap.size + 2 < u8.heap.size := by omega
  try have l0_2_8 : w.heap.size + 2 ≤ u8.heap.size := by omega
  try have s1_0_8 : u1.heap.size < u8.heap.size := by omega
  try have l1_0_8 : u1.heap.size ≤ u8.heap.size := by omega
  try have s2_0_8 : u2.heap.size < u8.heap.size := by omega
  try have l2_0_8 : u2.heap.size ≤ u8.heap.size := by omega
  try have s3_0_8 : u3.heap.size < u8.heap.size := by omega
  try have l3_0_8 : u3.heap.size ≤ u8.heap.size := by omega
  try have s4_0_8 : u4.heap.size < u8.heap.size := by omega
  try have l4_0_8 : u4.heap.size ≤ u8.heap.size := by omega
  try have s5_0_8 : u5.heap.size < u8.heap.size := by omega
  try have l5_0_8 : u5.heap.size ≤ u8.heap.size := by omega
  try have s6_0_8 : u6.heap.size < u8.heap.size := by omega
  try have l6_0_8 : u6.heap.size ≤ u8.heap.size := by omega
  try have s7_0_8 : u7.heap.size < u8.heap.size := by omega
  try have l7_0_8 : u7.heap.size ≤ u8.heap.size := by omega
  go_wp2
  have b0 : u8.cell? ⟨w.heap.size + 1 + 1, 0, none⟩ = some (.int .i64 0) := by go_simp
  have b1 : u8.cell? ⟨w.heap.size + 1 + 1, 1, none⟩ = some (.int .i64 0) := by go_simp
  have b2 : u8.cell? ⟨w.heap.size + 1 + 1, 2, none⟩ = some (.int .i64 0) := by go_simp
  refine ret_cell_tmp Tryd.results45 rfl rfl (load_Dyad _ _ _ _ _ (set3 b0 b1 b2 _ _ _).1 (set3 b0 b1 b2 _ _ _).2.1 (set3 b0 b1 b2 _ _ _).2.2) ⟨rfl, by go_grown⟩
theorem spec_DyadAdd_lt_tf (r i s x y t : Int) (w : World) (h1 : DV r i s = true) (h2 : DV x y t = true) (ho : s < t) (hx : RA r (t - s) = true) (hy : RA i (t - s) = false) :
    Calls Tryd.prog 45 #[.agg #[.int .i64 r, .int .i64 i, .int .i64 s], .agg #[.int .i64 x, .int .i64 y, .int .i64 t]] w (Gives (.tuple #[.agg #[.int .i64 0, .int .i64 0, .int .i64 0], .bool false]) w) := by
  obtain ⟨a1, a2, a3, a4, a5, a6, _⟩ := (DV_iff r i s).1 h1
  obtain ⟨b1, b2, b3, b4, b5, b6, _⟩ := (DV_iff x y t).1 h2
  have H1 := Lib.hid h1; have H2 := Lib.hid h2; have HX := Lib.hid hx; have HY := Lib.hid hy
  clear h1 h2 hx hy
  go_enter Tryd.func45, Tryd.ntmps45
  go_wp2_with fail
  refine (spec_DyadValid_any r i s _ ⟨by omega, by omega⟩ ⟨by omega, by omega⟩).mono ?_
  rw [H1.out]
  rintro e u1 ⟨rfl, hb⟩
  have hB1 : Below w.heap.size w u1 := Below.trans (by go_grown) (hb.mono (by go_size))
  have hz1 := hb.size
  try simp at hz1
  have hw1 := hB1.size
  obtain ⟨hc1, hf1⟩ := bcell hb
  clear hb
  try have s0_0_1 : w.heap.size < u1.heap.size := by omega
  try have l0_0_1 : w.heap.size ≤ u1.heap.size := by omega
  try have s0_1_1 : w.heap.size + 1 < u1.heap.size := by omega
  try have l0_1_1 : w.heap.size + 1 ≤ u1.heap.size := by omega
  try have s0_2_1 : w.heap.size + 2 < u1.heap.size := by omega
  try have l0_2_1 : w.heap.size + 2 ≤ u1.heap.size := by omega
  go_wp2_with fail
  refine (spec_DyadValid_any x y t _ ⟨by omega, by omega⟩ ⟨by omega, by omega⟩).mono ?_
  rw [H2.out]
  rintro e u2 ⟨rfl, hb⟩
  have hB2 : Below w.heap.size w u2 := Below.trans (by go_grown) (hb.mono (by go_size))
  have hz2 := hb.size
  try simp at hz2
  have hw2 := hB2.size
  obtain ⟨hc2, hf2⟩ := bcell hb
  clear hb
  try have s0_0_2 : w.heap.size < u2.heap.size := by omega
  try have l0_0_2 : w.heap.size ≤ u2.heap.size := by omega
  try have s0_1_2 : w.heap.size + 1 < u2.heap.size := by omega
  try have l0_1_2 : w.heap.size + 1 ≤ u2.heap.size := by omega
  try have s0_2_2 : w.heap.size + 2 < u2.heap.size := by omega
  try have l0_2_2 : w.heap.size + 2 ≤ u2.heap.size := by omega
  try have s1_0_2 : u1.heap.size < u2.heap.size := by omega
  try have l1_0_2 : u1.heap.size ≤ u2.heap.size := by omega
  go_wp2_with fail
  refine (l2Raise_yes r (t - s) _ (by omega) (by omega) (by omega) HX.out).mono ?_
  rintro e u3 ⟨rfl, hb⟩
  have hB3 : Below w.heap.size w u3 := Below.trans (by go_grown) (hb.mono (by go_size))
  have hz3 := hb.size
  try simp at hz3
  have hw3 := hB3.size
  obtain ⟨hc3, hf3⟩ := bcell hb
  clear hb
  try have s0_0_3 : w.heap.size < u3.heap.size := by omega
  try have l0_0_3 : w.heap.size ≤ u3.heap.size := by omega
  try have s0_1_3 : w.heap.size + 1 < u3.heap.size := by omega
  try have l0_1_3 : w.heap.size + 1 ≤ u3.heap.size := by omega
  try have s0_2_3 : w.heap.size + 2 < u3.heap.size := by omega
  try have l0_2_3 : w.heap.size + 2 ≤ u3.heap.size := by omega
  try have s1_0_3 : u1.heap.size < u3.heap.size := by omega
  try have l1_0_3 : u1.heap.size ≤ u3.heap.size := by omega
  try have s2_0_3 : u2.heap.size < u3.heap.size := by omega
  try have l2_0_3 : u2.heap.size ≤ u3.heap.size := by omega
  go_wp2_with fail
  refine (l2Raise_no i (t - s) _ (by omega) (by omega) (by omega) HY.out).mono ?_
  rintro e u4 ⟨rfl, hb⟩
  have hB4 : Below w.heap.size w u4 := Below.trans (by go_grown) (hb.mono (by go_size))
  have hz4 := hb.size
  try simp at hz4
  have hw4 := hB4.size
  obtain ⟨hc4, hf4⟩ := bcell hb
  clear hb
  try have s0_0_4 : w.heap.size < u4.heap.size := by omega
  try have l0_0_4 : w.heap.size ≤ u4.heap.size := by omega
  try have s0_1_4 : w.heap.size + 1 < u4.heap.size := by omega
  try have l0_1_4 : w.heap.size + 1 ≤ u4.heap.size := by omega
  try have s0_2_4 : w.heap.size + 2 < u4.heap.size := by omega
  try have l0_2_4 : w.heap.size + 2 ≤ u4.heap.size := by omega
  try have s1_0_4 : u1.heap.size < u4.heap.size := by omega
  try have l1_0_4 : u1.heap.size ≤ u4.heap.size := by omega
  try have s2_0_4 : u2.heap.size < u4.heap.size := by omega
  try have l2_0_4 : u2.heap.size ≤ u4.heap.size := by omega
  try have s3_0_4 : u3.heap.size < u4.heap.size := by omega
  try have l3_0_4 : u3.heap.size ≤ u4.heap.size := by omega
  go_wp2_with fail
  refine (l2Raise_0 x _ (by omega)).mono ?_
  rintro e u5 ⟨rfl, hb⟩
  have hB5 : Below w.heap.size w u5 := Below.trans (by go_grown) (hb.mono (by go_size))
  have hz5 := hb.size
  try simp at hz5
  have hw5 := hB5.size
  obtain ⟨hc5, hf5⟩ := bcell hb
  clear hb
  try have s0_0_5 : w.heap.size < u5.heap.size := by omega
  try have l0_0_5 : w.heap.size ≤ u5.heap.size := by omega
  try have s0_1_5 : w.heap.size + 1 < u5.heap.size := by omega
  try have l0_1_5 : w.heap.size + 1 ≤ u5.heap.size := by omega
  try have s0_2_5 : w.heap.size + 2 < u5.heap.size := by omega
  try have l0_2_5 : w.heap.size + 2 ≤ u5.heap.size := by omega
  try have s1_0_5 : u1.heap.size < u5.heap.size := by omega
  try have l1_0_5 : u1.heap.size ≤ u5.heap.size := by omega
  try have s2_0_5 : u2.heap.size < u5.heap.size := by omega
  try have l2_0_5 : u2.heap.size ≤ u5.heap.size := by omega
  try have s3_0_5 : u3.heap.size < u5.heap.size := by omega
  try have l3_0_5 : u3.heap.size ≤ u5.heap.size := by omega
  try have s4_0_5 : u4.heap.size < u5.heap.size := by omega
  try have l4_0_5 : u4.heap.size ≤ u5.heap.size := by omega
  go_wp2_with fail
  refine (l2Raise_0 y _ (by omega)).mono ?_
  rintro e u6 ⟨rfl, hb⟩
  have hB6 : Below w.heap.size w u6 := Below.trans (by go_grown) (hb.mono (by go_size))
  have hz6 := hb.size
  try simp at hz6
  have hw6 := hB6.size
  obtain ⟨hc6, hf6⟩ := bcell hb
  clear hb
  try have s0_0_6 : w.heap.size < u6.heap.size := by omega
  try have l0_0_6 : w.heap.size ≤ u6.heap.size := by omega
  try have s0_1_6 : w.heap.size + 1 < u6.heap.size := by omega
  try have l0_1_6 : w.heap.size + 1 ≤ u6.heap.size := by omega
  try have s0_2_6 : w.heap.size + 2 < u6.heap.size := by omega
  try have l0_2_6 : w.heap.size + 2 ≤ u6.heap.size := by omega
  try have s1_0_6 : u1.heap.size < u6.heap.size := by omega
  try have l1_0_6 : u1.heap.size ≤ u6.heap.size := by omega
  try have s2_0_6 : u2.heap.size < u6.heap.size := by omega
  try have l2_0_6 : u2.heap.size ≤ u6.heap.size := by omega
  try have s3_0_6 : u3.heap.size < u6.heap.size := by omega
  try have l3_0_6 : u3.heap.size ≤ u6.heap.size := by omega
  try have s4_0_6 : u4.heap.size < u6.heap.size := by omega
  try have l4_0_6 : u4.heap.size ≤ u6.heap.size := by omega
  try have s5_0_6 : u5.heap.size < u6.heap.size := by omega
  try have l5_0_6 : u5.heap.size ≤ u6.heap.size := by omega
  go_wp2
  have b0 : u6.cell? ⟨w.heap.size + 1 + 1, 0, none⟩ = some (.int .i64 0) := by go_simp
  have b1 : u6.cell? ⟨w.heap.size + 1 + 1, 1, none⟩ = some (.int .i64 0) := by go_simp
  have b2 : u6.cell? ⟨w.heap.size + 1 + 1, 2, none⟩ = some (.int .i64 0) := by go_simp
  refine ret_cell_tmp Tryd.results45 rfl rfl (load_Dyad _ _ _ _ _ (set3 b0 b1 b2 _ _ _).1 (set3 b0 b1 b2 _ _ _).2.1 (set3 b0 b1 b2 _ _ _).2.2) ⟨rfl, by go_grown⟩
theorem spec_DyadAdd_lt_ft (r i s x y t : Int) (w : World) (h1 : DV r i s = true) (h2 : DV x y t = true) (ho : s < t) (hx : RA r (t - s) = false) (hy : RA i (t - s) = true) :
    Calls Tryd.prog 45 #[.agg #[.int .i64 r, .int .i64 i, .int .i64 s], .agg #[.int .i64 x, .int .i64 y, .int .i64 t]] w (Gives (.tuple #[.agg #[.int .i64 0, .int .i64 0, .int .i64 0], .bool false]) w) := by
  obtain ⟨a1, a2, a3, a4, a5, a6, _⟩ := (DV_iff r i s).1 h1
  obtain ⟨b1, b2, b3, b4, b5, b6, _⟩ := (DV_iff x y t).1 h2
  have H1 := Lib.hid h1; have H2 := Lib.hid h2; have HX := Lib.hid hx; have HY := Lib.hid hy
  clear h1 h2 hx hy
  go_enter Tryd.func45, Tryd.ntmps45
  go_wp2_with fail
  refine (spec_DyadValid_any r i s _ ⟨by omega, by omega⟩ ⟨by omega, by omega⟩).mono ?_
  rw [H1.out]
  rintro e u1 ⟨rfl, hb⟩
  have hB1 : Below w.heap.size w u1 := Below.trans (by go_grown) (hb.mono (by go_size))
  have hz1 := hb.size
  try simp at hz1
  have hw1 := hB1.size
  obtain ⟨hc1, hf1⟩ := bcell hb
  clear hb
  try have s0_0_1 : w.heap.size < u1.heap.size := by omega
  try have l0_0_1 : w.heap.size ≤ u1.heap.size := by omega
  try have s0_1_1 : w.heap.size + 1 < u1.heap.size := by omega
  try have l0_1_1 : w.heap.size + 1 ≤ u1.heap.size := by omega
  try have s0_2_1 : w.heap.size + 2 < u1.heap.size := by omega
  try have l0_2_1 : w.heap.size + 2 ≤ u1.heap.size := by omega
  go_wp2_with fail
  refine (spec_DyadValid_any x y t _ ⟨by omega, by omega⟩ ⟨by omega, by omega⟩).mono ?_
  rw [H2.out]
  rintro e u2 ⟨rfl, hb⟩
  have hB2 : Below w.heap.size w u2 := Below.trans (by go_grown) (hb.mono (by go_size))
  have hz2 := hb.size
  try simp at hz2
  have hw2 := hB2.size
  obtain ⟨hc2, hf2⟩ := bcell hb
  clear hb
  try have s0_0_2 : w.heap.size < u2.heap.size := by omega
  try have l0_0_2 : w.heap.size ≤ u2.heap.size := by omega
  try have s0_1_2 : w.heap.size + 1 < u2.heap.size := by omega
  try have l0_1_2 : w.heap.size + 1 ≤ u2.heap.size := by omega
  try have s0_2_2 : w.heap.size + 2 < u2.heap.size := by omega
  try have l0_2_2 : w.heap.size + 2 ≤ u2.heap.size := by omega
  try have s1_0_2 : u1.heap.size < u2.heap.size := by omega
  try have l1_0_2 : u1.heap.size ≤ u2.heap.size := by omega
  go_wp2_with fail
  refine (l2Raise_no r (t - s) _ (by omega) (by omega) (by omega) HX.out).mono ?_
  rintro e u3 ⟨rfl, hb⟩
  have hB3 : Below w.heap.size w u3 := Below.trans (by go_grown) (hb.mono (by go_size))
  have hz3 := hb.size
  try simp at hz3
  have hw3 := hB3.size
  obtain ⟨hc3, hf3⟩ := bcell hb
  clear hb
  try have s0_0_3 : w.heap.size < u3.heap.size := by omega
  try have l0_0_3 : w.heap.size ≤ u3.heap.size := by omega
  try have s0_1_3 : w.heap.size + 1 < u3.heap.size := by omega
  try have l0_1_3 : w.heap.size + 1 ≤ u3.heap.size := by omega
  try have s0_2_3 : w.heap.size + 2 < u3.heap.size := by omega
  try have l0_2_3 : w.heap.size + 2 ≤ u3.heap.size := by omega
  try have s1_0_3 : u1.heap.size < u3.heap.size := by omega
  try have l1_0_3 : u1.heap.size ≤ u3.heap.size := by omega
  try have s2_0_3 : u2.heap.size < u3.heap.size := by omega
  try have l2_0_3 : u2.heap.size ≤ u3.heap.size := by omega
  go_wp2_with fail
  refine (l2Raise_yes i (t - s) _ (by omega) (by omega) (by omega) HY.out).mono ?_
  rintro e u4 ⟨rfl, hb⟩
  have hB4 : Below w.heap.size w u4 := Below.trans (by go_grown) (hb.mono (by go_size))
  have hz4 := hb.size
  try simp at hz4
  have hw4 := hB4.size
  obtain ⟨hc4, hf4⟩ := bcell hb
  clear hb
  try have s0_0_4 : w.heap.size < u4.heap.size := by omega
  try have l0_0_4 : w.heap.size ≤ u4.heap.size := by omega
  try have s0_1_4 : w.heap.size + 1 < u4.heap.size := by omega
  try have l0_1_4 : w.heap.size + 1 ≤ u4.heap.size := by omega
  try have s0_2_4 : w.heap.size + 2 < u4.heap.size := by omega
  try have l0_2_4 : w.heap.size + 2 ≤ u4.heap.size := by omega
  try have s1_0_4 : u1.heap.size < u4.heap.size := by omega
  try have l1_0_4 : u1.heap.size ≤ u4.heap.size := by omega
  try have s2_0_4 : u2.heap.size < u4.heap.size := by omega
  try have l2_0_4 : u2.heap.size ≤ u4.heap.size := by omega
  try have s3_0_4 : u3.heap.size < u4.heap.size := by omega
  try have l3_0_4 : u3.heap.size ≤ u4.heap.size := by omega
  go_wp2_with fail
  refine (l2Raise_0 x _ (by omega)).mono ?_
  rintro e u5 ⟨rfl, hb⟩
  have hB5 : Below w.heap.size w u5 := Below.trans (by go_grown) (hb.mono (by go_size))
  have hz5 := hb.size
  try simp at hz5
  have hw5 := hB5.size
  obtain ⟨hc5, hf5⟩ := bcell hb
  clear hb
  try have s0_0_5 : w.heap.size < u5.heap.size := by omega
  try have l0_0_5 : w.heap.size ≤ u5.heap.size := by omega
  try have s0_1_5 : w.heap.size + 1 < u5.heap.size := by omega
  try have l0_1_5 : w.heap.size + 1 ≤ u5.heap.size := by omega
  try have s0_2_5 : w.heap.size + 2 < u5.heap.size := by omega
  try have l0_2_5 : w.heap.size + 2 ≤ u5.heap.size := by omega
  try have s1_0_5 : u1.heap.size < u5.heap.size := by omega
  try have l1_0_5 : u1.heap.size ≤ u5.heap.size := by omega
  try have s2_0_5 : u2.heap.size < u5.heap.size := by omega
  try have l2_0_5 : u2.heap.size ≤ u5.heap.size := by omega
  try have s3_0_5 : u3.heap.size < u5.heap.size := by omega
  try have l3_0_5 : u3.heap.size ≤ u5.heap.size := by omega
  try have s4_0_5 : u4.heap.size < u5.heap.size := by omega
  try have l4_0_5 : u4.heap.size ≤ u5.heap.size := by omega
  go_wp2_with fail
  refine (l2Raise_0 y _ (by omega)).mono ?_
  rintro e u6 ⟨rfl, hb⟩
  have hB6 : Below w.heap.size w u6 := Below.trans (by go_grown) (hb.mono (by go_size))
  have hz6 := hb.size
  try simp at hz6
  have hw6 := hB6.size
  obtain ⟨hc6, hf6⟩ := bcell hb
  clear hb
  try have s0_0_6 : w.heap.size < u6.heap.size := by omega
  try have l0_0_6 : w.heap.size ≤ u6.heap.size := by omega
  try have s0_1_6 : w.heap.size + 1 < u6.heap.size := by omega
  try have l0_1_6 : w.heap.size + 1 ≤ u6.heap.size := by omega
  try have s0_2_6 : w.heap.size + 2 < u6.heap.size := by omega
  try have l0_2_6 : w.heap.size + 2 ≤ u6.heap.size := by omega
  try have s1_0_6 : u1.heap.size < u6.heap.size := by omega
  try have l1_0_6 : u1.heap.size ≤ u6.heap.size := by omega
  try have s2_0_6 : u2.heap.size < u6.heap.size := by omega
  try have l2_0_6 : u2.heap.size ≤ u6.heap.size := by omega
  try have s3_0_6 : u3.heap.size < u6.heap.size := by omega
  try have l3_0_6 : u3.heap.size ≤ u6.heap.size := by omega
  try have s4_0_6 : u4.heap.size < u6.heap.size := by omega
  try have l4_0_6 : u4.heap.size ≤ u6.heap.size := by omega
  try have s5_0_6 : u5.heap.size < u6.heap.size := by omega
  try have l5_0_6 : u5.heap.size ≤ u6.heap.size := by omega
  go_wp2
  have b0 : u6.cell? ⟨w.heap.size + 1 + 1, 0, none⟩ = some (.int .i64 0) := by go_simp
  have b1 : u6.cell? ⟨w.heap.size + 1 + 1, 1, none⟩ = some (.int .i64 0) := by go_simp
  have b2 : u6.cell? ⟨w.heap.size + 1 + 1, 2, none⟩ = some (.int .i64 0) := by go_simp
  refine ret_cell_tmp Tryd.results45 rfl rfl (load_Dyad _ _ _ _ _ (set3 b0 b1 b2 _ _ _).1 (set3 b0 b1 b2 _ _ _).2.1 (set3 b0 b1 b2 _ _ _).2.2) ⟨rfl, by go_grown⟩
theorem spec_DyadAdd_lt_ff (r i s x y t : Int) (w : World) (h1 : DV r i s = true) (h2 : DV x y t = true) (ho : s < t) (hx : RA r (t - s) = false) (hy : RA i (t - s) = false) :
    Calls Tryd.prog 45 #[.agg #[.int .i64 r, .int .i64 i, .int .i64 s], .agg #[.int .i64 x, .int .i64 y, .int .i64 t]] w (Gives (.tuple #[.agg #[.int .i64 0, .int .i64 0, .int .i64 0], .bool false]) w) := by
  obtain ⟨a1, a2, a3, a4, a5, a6, _⟩ := (DV_iff r i s).1 h1
  obtain ⟨b1, b2, b3, b4, b5, b6, _⟩ := (DV_iff x y t).1 h2
  have H1 := Lib.hid h1; have H2 := Lib.hid h2; have HX := Lib.hid hx; have HY := Lib.hid hy
  clear h1 h2 hx hy
  go_enter Tryd.func45, Tryd.ntmps45
  go_wp2_with fail
  refine (spec_DyadValid_any r i s _ ⟨by omega, by omega⟩ ⟨by omega, by omega⟩).mono ?_
  rw [H1.out]
  rintro e u1 ⟨rfl, hb⟩
  have hB1 : Below w.heap.size w u1 := Below.trans (by go_grown) (hb.mono (by go_size))
  have hz1 := hb.size
  try simp at hz1
  have hw1 := hB1.size
  obtain ⟨hc1, hf1⟩ := bcell hb
  clear hb
  try have s0_0_1 : w.heap.size < u1.heap.size := by omega
  try have l0_0_1 : w.heap.size ≤ u1.heap.size := by omega
  try have s0_1_1 : w.heap.size + 1 < u1.heap.size := by omega
  try have l0_1_1 : w.heap.size + 1 ≤ u1.heap.size := by omega
  try have s0_2_1 : w.heap.size + 2 < u1.heap.size := by omega
  try have l0_2_1 : w.heap.size + 2 ≤ u1.heap.size := by omega
  go_wp2_with fail
  refine (spec_DyadValid_any x y t _ ⟨by omega, by omega⟩ ⟨by omega, by omega⟩).mono ?_
  rw [H2.out]
  rintro e u2 ⟨rfl, hb⟩
  have hB2 : Below w.heap.size w u2 := Below.trans (by go_grown) (hb.mono (by go_size))
  have hz2 := hb.size
  try simp at hz2
  have hw2 := hB2.size
  obtain ⟨hc2, hf2⟩ := bcell hb
  clear hb
  try have s0_0_2 : w.heap.size < u2.heap.size := by omega
  try have l0_0_2 : w.heap.size ≤ u2.heap.size := by omega
  try have s0_1_2 : w.heap.size + 1 < u2.heap.size := by omega
  try have l0_1_2 : w.heap.size + 1 ≤ u2.heap.size := by omega
  try have s0_2_2 : w.heap.size + 2 < u2.heap.size := by omega
  try have l0_2_2 : w.heap.size + 2 ≤ u2.heap.size := by omega
  try have s1_0_2 : u1.heap.size < u2.heap.size := by omega
  try have l1_0_2 : u1.heap.size ≤ u2.heap.size := by omega
  go_wp2_with fail
  refine (l2Raise_no r (t - s) _ (by omega) (by omega) (by omega) HX.out).mono ?_
  rintro e u3 ⟨rfl, hb⟩
  have hB3 : Below w.heap.size w u3 := Below.trans (by go_grown) (hb.mono (by go_size))
  have hz3 := hb.size
  try simp at hz3
  have hw3 := hB3.size
  obtain ⟨hc3, hf3⟩ := bcell hb
  clear hb
  try have s0_0_3 : w.heap.size < u3.heap.size := by omega
  try have l0_0_3 : w.heap.size ≤ u3.heap.size := by omega
  try have s0_1_3 : w.heap.size + 1 < u3.heap.size := by omega
  try have l0_1_3 : w.heap.size + 1 ≤ u3.heap.size := by omega
  try have s0_2_3 : w.heap.size + 2 < u3.heap.size := by omega
  try have l0_2_3 : w.heap.size + 2 ≤ u3.heap.size := by omega
  try have s1_0_3 : u1.heap.size < u3.heap.size := by omega
  try have l1_0_3 : u1.heap.size ≤ u3.heap.size := by omega
  try have s2_0_3 : u2.heap.size < u3.heap.size := by omega
  try have l2_0_3 : u2.heap.size ≤ u3.heap.size := by omega
  go_wp2_with fail
  refine (l2Raise_no i (t - s) _ (by omega) (by omega) (by omega) HY.out).mono ?_
  rintro e u4 ⟨rfl, hb⟩
  have hB4 : Below w.heap.size w u4 := Below.trans (by go_grown) (hb.mono (by go_size))
  have hz4 := hb.size
  try simp at hz4
  have hw4 := hB4.size
  obtain ⟨hc4, hf4⟩ := bcell hb
  clear hb
  try have s0_0_4 : w.heap.size < u4.heap.size := by omega
  try have l0_0_4 : w.heap.size ≤ u4.heap.size := by omega
  try have s0_1_4 : w.heap.size + 1 < u4.heap.size := by omega
  try have l0_1_4 : w.heap.size + 1 ≤ u4.heap.size := by omega
  try have s0_2_4 : w.heap.size + 2 < u4.heap.size := by omega
  try have l0_2_4 : w.heap.size + 2 ≤ u4.heap.size := by omega
  try have s1_0_4 : u1.heap.size < u4.heap.size := by omega
  try have l1_0_4 : u1.heap.size ≤ u4.heap.size := by omega
  try have s2_0_4 : u2.heap.size < u4.heap.size := by omega
  try have l2_0_4 : u2.heap.size ≤ u4.heap.size := by omega
  try have s3_0_4 : u3.heap.size < u4.heap.size := by omega
  try have l3_0_4 : u3.heap.size ≤ u4.heap.size := by omega
  go_wp2_with fail
  refine (l2Raise_0 x _ (by omega)).mono ?_
  rintro e u5 ⟨rfl, hb⟩
  have hB5 : Below w.heap.size w u5 := Below.trans (by go_grown) (hb.mono (by go_size))
  have hz5 := hb.size
  try simp at hz5
  have hw5 := hB5.size
  obtain ⟨hc5, hf5⟩ := bcell hb
  clear hb
  try have s0_0_5 : w.heap.size < u5.heap.size := by omega
  try have l0_0_5 : w.heap.size ≤ u5.heap.size := by omega
  try have s0_1_5 : w.heap.size + 1 < u5.heap.size := by omega
  try have l0_1_5 : w.heap.size + 1 ≤ u5.heap.size := by omega
  try have s0_2_5 : w.heap.size + 2 < u5.heap.size := by omega
  try have l0_2_5 : w.heap.size + 2 ≤ u5.heap.size := by omega
  try have s1_0_5 : u1.heap.size < u5.heap.size := by omega
  try have l1_0_5 : u1.heap.size ≤ u5.heap.size := by omega
  try have s2_0_5 : u2.heap.size < u5.heap.size := by omega
  try have l2_0_5 : u2.heap.size ≤ u5.heap.size := by omega
  try have s3_0_5 : u3.heap.size < u5.heap.size := by omega
  try have l3_0_5 : u3.heap.size ≤ u5.heap.size := by omega
  try have s4_0_5 : u4.heap.size < u5.heap.size := by omega
  try have l4_0_5 : u4.heap.size ≤ u5.heap.size := by omega
  go_wp2_with fail
  refine (l2Raise_0 y _ (by omega)).mono ?_
  rintro e u6 ⟨rfl, hb⟩
  have hB6 : Below w.heap.size w u6 := Below.trans (by go_grown) (hb.mono (by go_size))
  have hz6 := hb.size
  try simp at hz6
  have hw6 := hB6.size
  obtain ⟨hc6, hf6⟩ := bcell hb
  clear hb
  try have s0_0_6 : w.heap.size < u6.heap.size := by omega
  try have l0_0_6 : w.heap.size ≤ u6.heap.size := by omega
  try have s0_1_6 : w.heap.size + 1 < u6.heap.size := by omega
  try have l0_1_6 : w.heap.size + 1 ≤ u6.heap.size := by omega
  try have s0_2_6 : w.heap.size + 2 < u6.heap.size := by omega
  try have l0_2_6 : w.heap.size + 2 ≤ u6.heap.size := by omega
  try have s1_0_6 : u1.heap.size < u6.heap.size := by omega
  try have l1_0_6 : u1.heap.size ≤ u6.heap.size := by omega
  try have s2_0_6 : u2.heap.size < u6.heap.size := by omega
  try have l2_0_6 : u2.heap.size ≤ u6.heap.size := by omega
  try have s3_0_6 : u3.heap.size < u6.heap.size := by omega
  try have l3_0_6 : u3.heap.size ≤ u6.heap.size := by omega
  try have s4_0_6 : u4.heap.size < u6.heap.size := by omega
  try have l4_0_6 : u4.heap.size ≤ u6.heap.size := by omega
  try have s5_0_6 : u5.heap.size < u6.heap.size := by omega
  try have l5_0_6 : u5.heap.size ≤ u6.heap.size := by omega
  go_wp2
  have b0 : u6.cell? ⟨w.heap.size + 1 + 1, 0, none⟩ = some (.int .i64 0) := by go_simp
  have b1 : u6.cell? ⟨w.heap.size + 1 + 1, 1, none⟩ = some (.int .i64 0) := by go_simp
  have b2 : u6.cell? ⟨w.heap.size + 1 + 1, 2, none⟩ = some (.int .i64 0) := by go_simp
  refine ret_cell_tmp Tryd.results45 rfl rfl (load_Dyad _ _ _ _ _ (set3 b0 b1 b2 _ _ _).1 (set3 b0 b1 b2 _ _ _).2.1 (set3 b0 b1 b2 _ _ _).2.2) ⟨rfl, by go_grown⟩
theorem spec_DyadAdd_a (r i s x y t : Int) (w : World) (hr : I64 r) (hi : I64 i) (h1 : DV r i s = false) :
    Calls Tryd.prog 45 #[.agg #[.int .i64 r, .int .i64 i, .int .i64 s], .agg #[.int .i64 x, .int .i64 y, .int .i64 t]] w (Gives (.tuple #[.agg #[.int .i64 0, .int .i64 0, .int .i64 0], .bool false]) w) := by
  have H1 := Lib.hid h1; have HR := Lib.hid hr; have HI := Lib.hid hi; clear h1 hr hi
  go_enter Tryd.func45, Tryd.ntmps45
  go_wp2_with fail
  refine (spec_DyadValid_any r i s _ HR.out HI.out).mono ?_
  rw [H1.out]
  rintro e u1 ⟨rfl, hb⟩
  have hB1 : Below w.heap.size w u1 := Below.trans (by go_grown) (hb.mono (by go_size))
  have hz1 := hb.size
  try simp at hz1
  have hw1 := hB1.size
  obtain ⟨hc1, hf1⟩ := bcell hb
  clear hb
  try have s0_0_1 : w.heap.size < u1.heap.size := by omega
  try have l0_0_1 : w.heap.size ≤ u1.heap.size := by omega
  try have s0_1_1 : w.heap.size + 1 < u1.heap.size := by omega
  try have l0_1_1 : w.heap.size + 1 ≤ u1.heap.size := by omega
  try have s0_2_1 : w.heap.size + 2 < u1.heap.size := by omega
  try have l0_2_1 : w.heap.size + 2 ≤ u1.heap.size := by omega
  go_wp2
  have b0 : u1.cell? ⟨w.heap.size + 1 + 1, 0, none⟩ = some (.int .i64 0) := by go_simp
  have b1 : u1.cell? ⟨w.heap.size + 1 + 1, 1, none⟩ = some (.int .i64 0) := by go_simp
  have b2 : u1.cell? ⟨w.heap.size + 1 + 1, 2, none⟩ = some (.int .i64 0) := by go_simp
  refine ret_cell_tmp Tryd.results45 rfl rfl (load_Dyad _ _ _ _ _ (set3 b0 b1 b2 _ _ _).1 (set3 b0 b1 b2 _ _ _).2.1 (set3 b0 b1 b2 _ _ _).2.2) ⟨rfl, by go_grown⟩
theorem spec_DyadAdd_b (r i s x y t : Int) (w : World) (hr : I64 r) (hi : I64 i) (hx : I64 x) (hy : I64 y) (h1 : DV r i s = true) (h2 : DV x y t = false) :
    Calls Tryd.prog 45 #[.agg #[.int .i64 r, .int .i64 i, .int .i64 s], .agg #[.int .i64 x, .int .i64 y, .int .i64 t]] w (Gives (.tuple #[.agg #[.int .i64 0, .int .i64 0, .int .i64 0], .bool false]) w) := by
  have H1 := Lib.hid h1; have H2 := Lib.hid h2; have HR := Lib.hid hr; have HI := Lib.hid hi; have HX := Lib.hid hx; have HY := Lib.hid hy; clear h1 h2 hr hi hx hy
  go_enter Tryd.func45, Tryd.ntmps45
  go_wp2_with fail
  refine (spec_DyadValid_any r i s _ HR.out HI.out).mono ?_
  rw [H1.out]
  rintro e u1 ⟨rfl, hb⟩
  have hB1 : Below w.heap.size w u1 := Below.trans (by go_grown) (hb.mono (by go_size))
  have hz1 := hb.size
  try simp at hz1
  have hw1 := hB1.size
  obtain ⟨hc1, hf1⟩ := bcell hb
  clear hb
  try have s0_0_1 : w.heap.size < u1.heap.size := by omega
  try have l0_0_1 : w.heap.size ≤ u1.heap.size := by omega
  try have s0_1_1 : w.heap.size + 1 < u1.heap.size := by omega
  try have l0_1_1 : w.heap.size + 1 ≤ u1.heap.size := by omega
  try have s0_2_1 : w.heap.size + 2 < u1.heap.size := by omega
  try have l0_2_1 : w.heap.size + 2 ≤ u1.heap.size := by omega
  go_wp2_with fail
  refine (spec_DyadValid_any x y t _ HX.out HY.out).mono ?_
  rw [H2.out]
  rintro e u2 ⟨rfl, hb⟩
  have hB2 : Below w.heap.size w u2 := Below.trans (by go_grown) (hb.mono (by go_size))
  have hz2 := hb.size
  try simp at hz2
  have hw2 := hB2.size
  obtain ⟨hc2, hf2⟩ := bcell hb
  clear hb
  try have s0_0_2 : w.heap.size < u2.heap.size := by omega
  try have l0_0_2 : w.heap.size ≤ u2.heap.size := by omega
  try have s0_1_2 : w.heap.size + 1 < u2.heap.size := by omega
  try have l0_1_2 : w.heap.size + 1 ≤ u2.heap.size := by omega
  try have s0_2_2 : w.heap.size + 2 < u2.heap.size := by omega
  try have l0_2_2 : w.heap.size + 2 ≤ u2.heap.size := by omega
  try have s1_0_2 : u1.heap.size < u2.heap.size := by omega
  try have l1_0_2 : u1.heap.size ≤ u2.heap.size := by omega
  go_wp2
  have b0 : u2.cell? ⟨w.heap.size + 1 + 1, 0, none⟩ = some (.int .i64 0) := by go_simp
  have b1 : u2.cell? ⟨w.heap.size + 1 + 1, 1, none⟩ = some (.int .i64 0) := by go_simp
  have b2 : u2.cell? ⟨w.heap.size + 1 + 1, 2, none⟩ = some (.int .i64 0) := by go_simp
  refine ret_cell_tmp Tryd.results45 rfl rfl (load_Dyad _ _ _ _ _ (set3 b0 b1 b2 _ _ _).1 (set3 b0 b1 b2 _ _ _).2.1 (set3 b0 b1 b2 _ _ _).2.2) ⟨rfl, by go_grown⟩
theorem spec_DyadAdd_any (r i s x y t : Int) (w : World) (hr : I64 r) (hi : I64 i) (hx : I64 x) (hy : I64 y) :
    Calls Tryd.prog 45 #[.agg #[.int .i64 r, .int .i64 i, .int .i64 s], .agg #[.int .i64 x, .int .i64 y, .int .i64 t]] w (Gives (ADV r i s x y t) w) := by
  cases h1 : DV r i s
  · rw [ADV_no (by unfold ADD; rw [h1]; rfl)]; exact spec_DyadAdd_a r i s x y t w hr hi h1
  cases h2 : DV x y t
  · rw [ADV_no (by unfold ADD; rw [h1, h2]; rfl)]; exact spec_DyadAdd_b r i s x y t w hr hi hx hy h1 h2
  rcases Int.lt_or_le s t with ho | ho
  · have hm : max s t = t := Int.max_eq_right (Int.le_of_lt ho)
    cases c1 : RA r (t - s)
    · rw [ADV_no (raise_fail r i s x y t h1 h2 (Or.inl (by rw [hm]; exact c1)))]
      cases c2 : RA i (t - s)
      · exact spec_DyadAdd_lt_ff r i s x y t w h1 h2 ho c1 c2
      · exact spec_DyadAdd_lt_ft r i s x y t w h1 h2 ho c1 c2
    · cases c2 : RA i (t - s)
      · rw [ADV_no (raise_fail r i s x y t h1 h2 (Or.inr (Or.inl (by rw [hm]; exact c2))))]
        exact spec_DyadAdd_lt_tf r i s x y t w h1 h2 ho c1 c2
      · cases c3 : DV (lR (AP r s x t) (AP i s y t) (max s t)) (lI (AP r s x t) (AP i s y t) (max s t)) (lS (AP r s x t) (AP i s y t) (max s t))
        · rw [ADV_no (by rw [ADD_low h1 h2, c3])]; exact spec_DyadAdd_lt_tt_n r i s x y t w h1 h2 ho c1 c2 c3
        · rw [ADV_yes (by rw [ADD_low h1 h2, c3])]; exact spec_DyadAdd_lt_tt_v r i s x y t w h1 h2 ho c1 c2 c3
  · have hm : max s t = s := Int.max_eq_left ho
    cases c1 : RA x (s - t)
    · rw [ADV_no (raise_fail r i s x y t h1 h2 (Or.inr (Or.inr (Or.inl (by rw [hm]; exact c1)))))]
      cases c2 : RA y (s - t)
      · exact spec_DyadAdd_ge_ff r i s x y t w h1 h2 ho c1 c2
      · exact spec_DyadAdd_ge_ft r i s x y t w h1 h2 ho c1 c2
    · cases c2 : RA y (s - t)
      · rw [ADV_no (raise_fail r i s x y t h1 h2 (Or.inr (Or.inr (Or.inr (by rw [hm]; exact c2)))))]
        exact spec_DyadAdd_ge_tf r i s x y t w h1 h2 ho c1 c2
      · cases c3 : DV (lR (AP r s x t) (AP i s y t) (max s t)) (lI (AP r s x t) (AP i s y t) (max s t)) (lS (AP r s x t) (AP i s y t) (max s t))
        · rw [ADV_no (by rw [ADD_low h1 h2, c3])]; exact spec_DyadAdd_ge_tt_n r i s x y t w h1 h2 ho c1 c2 c3
        · rw [ADV_yes (by rw [ADD_low h1 h2, c3])]; exact spec_DyadAdd_ge_tt_v r i s x y t w h1 h2 ho c1 c2 c3

end Go.Proofs.YtjpmpjcenajmbaaDoor
