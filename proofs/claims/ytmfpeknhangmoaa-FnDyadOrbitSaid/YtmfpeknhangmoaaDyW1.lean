/- What lowest terms and DyadMake give. -/
import Derived.Test.YtmfpeknhangmoaaDyW
import Derived.Deep.LoopGhost
namespace Go.Proofs.Ytmfpeknhangmoaa
set_option linter.unusedSimpArgs false
set_option linter.unusedVariables false
open Go.RowKit

theorem l2Low_any (r i s : Int) (w : World) (hr : I64 r) (hi : I64 i) (hs : 0 ≤ s) (hs' : s ≤ 1000) :
    Calls Try.prog 31 #[.int .i64 r, .int .i64 i, .int .i64 s] w (Gives (.agg #[.int .i64 (lR r i s), .int .i64 (lI r i s), .int .i64 (lS r i s)]) w) := by
  go_enter Try.func31, Try.ntmps31
  go_wp2
  go_loop [0, 1, 2] (fun x y z => ∃ a b c : Int, x = .int .i64 a ∧ y = .int .i64 b ∧ z = .int .i64 c ∧ I64 a ∧ I64 b ∧ 0 ≤ c ∧ c ≤ 1000 ∧ lR a b c = lR r i s ∧ lI a b c = lI r i s ∧ lS a b c = lS r i s) (fun _ _ z => (intOf z).toNat)
  case atStart => exact ⟨r, i, s, rfl, rfl, rfl, hr, hi, hs, hs', rfl, rfl, rfl⟩
  case round =>
    obtain ⟨a, b, c, rfl, rfl, rfl, ⟨ha, ha'⟩, ⟨hb, hb'⟩, hc, hc', h1, h2, h3⟩ := hrel
    have H1 := Lib.hid h1; have H2 := Lib.hid h2; have H3 := Lib.hid h3; clear h1 h2 h3
    by_cases hc0 : c = 0
    · subst hc0
      have HS := Lib.hid (l_stop a b 0 (by omega) (Or.inl rfl))
      go_wp2
      refine ret_cell Try.results31 rfl (load_Dyad _ _ (.int .i64 a) (.int .i64 b) (.int .i64 0) (by go_simp) (by go_simp) (by go_simp)) ⟨?_, by go_grown⟩
      rw [← H1.out, ← H2.out, ← H3.out, HS.out.1, HS.out.2.1, HS.out.2.2]
    have hc1 : 1 ≤ c := by omega
    by_cases pa : a % 2 = 0
    · have e1 := tmod_two_t pa
      have e1' := tdiv_two a pa
      by_cases pb : b % 2 = 0
      · have e2 := tmod_two_t pb
        have e2' := tdiv_two b pb
        obtain ⟨s1, s2, s3⟩ := l_step a b c hc1 pa pb
        have S1 := Lib.hid s1; have S2 := Lib.hid s2; have S3 := Lib.hid s3; clear s1 s2 s3 pa pb
        go_wp2
        go_round
        case rel => exact ⟨a / 2, b / 2, c - 1, rfl, rfl, rfl, ⟨by omega, by omega⟩, ⟨by omega, by omega⟩, by omega, by omega, by rw [← H1.out, S1.out], by rw [← H2.out, S2.out], by rw [← H3.out, S3.out]⟩
        case measure => simp [intOf]; omega
      · have e2 := tmod_two_f pb
        have HS := Lib.hid (l_stop a b c hc (Or.inr (Or.inr pb)))
        clear pa pb
        go_wp2
        refine ret_cell Try.results31 rfl (load_Dyad _ _ (.int .i64 a) (.int .i64 b) (.int .i64 c) (by go_simp) (by go_simp) (by go_simp)) ⟨?_, by go_grown⟩
        rw [← H1.out, ← H2.out, ← H3.out, HS.out.1, HS.out.2.1, HS.out.2.2]
    · have e1 := tmod_two_f pa
      have HS := Lib.hid (l_stop a b c hc (Or.inr (Or.inl pa)))
      clear pa
      go_wp2
      refine ret_cell Try.results31 rfl (load_Dyad _ _ (.int .i64 a) (.int .i64 b) (.int .i64 c) (by go_simp) (by go_simp) (by go_simp)) ⟨?_, by go_grown⟩
      rw [← H1.out, ← H2.out, ← H3.out, HS.out.1, HS.out.2.1, HS.out.2.2]

theorem l2Done_yes (r i s : Int) (w : World) (hr : I64 r) (hi : I64 i) (h : DV r i s = true) :
    Calls Try.prog 30 #[.agg #[.int .i64 r, .int .i64 i, .int .i64 s]] w (Gives (.tuple #[.agg #[.int .i64 r, .int .i64 i, .int .i64 s], .bool true]) w) := by
  have H := Lib.hid h; clear h
  have HR := Lib.hid hr; have HI := Lib.hid hi; clear hr hi
  go_enter Try.func30, Try.ntmps30
  go_wp2_with fail
  refine (spec_DyadValid_any r i s _ HR.out HI.out).mono ?_
  rw [H.out]
  rintro e u1 ⟨rfl, hb⟩
  have hB1 : Below w.heap.size w u1 := Below.trans (by go_grown) (hb.mono (by go_size))
  have hz1 := hb.size
  try simp at hz1
  have hw1 := hB1.size
  obtain ⟨hc1, hf1⟩ := bcell hb
  clear hb
  try have s0_0_1 : w.heap.size < u1.heap.size := by omega
  try have l0_0_1 : w.heap.size ≤ u1.heap.size := by omega
  try have s0_1_1 : w.heap.size + 1 < u1.heap.size := by omega
  try have l0_1_1 : w.heap.size + 1 ≤ u1.heap.size := by omega
  go_wp2
  have b0 : u1.cell? ⟨w.heap.size + 1, 0, none⟩ = some (.int .i64 0) := by go_simp
  have b1 : u1.cell? ⟨w.heap.size + 1, 1, none⟩ = some (.int .i64 0) := by go_simp
  have b2 : u1.cell? ⟨w.heap.size + 1, 2, none⟩ = some (.int .i64 0) := by go_simp
  refine ret_cell_tmp Try.results30 rfl rfl (load_Dyad _ _ _ _ _ (set3 b0 b1 b2 _ _ _).1 (set3 b0 b1 b2 _ _ _).2.1 (set3 b0 b1 b2 _ _ _).2.2) ⟨rfl, by go_grown⟩
theorem l2Done_no (r i s : Int) (w : World) (hr : I64 r) (hi : I64 i) (h : DV r i s = false) :
    Calls Try.prog 30 #[.agg #[.int .i64 r, .int .i64 i, .int .i64 s]] w (Gives (.tuple #[.agg #[.int .i64 0, .int .i64 0, .int .i64 0], .bool false]) w) := by
  have H := Lib.hid h; clear h
  have HR := Lib.hid hr; have HI := Lib.hid hi; clear hr hi
  go_enter Try.func30, Try.ntmps30
  go_wp2_with fail
  refine (spec_DyadValid_any r i s _ HR.out HI.out).mono ?_
  rw [H.out]
  rintro e u1 ⟨rfl, hb⟩
  have hB1 : Below w.heap.size w u1 := Below.trans (by go_grown) (hb.mono (by go_size))
  have hz1 := hb.size
  try simp at hz1
  have hw1 := hB1.size
  obtain ⟨hc1, hf1⟩ := bcell hb
  clear hb
  try have s0_0_1 : w.heap.size < u1.heap.size := by omega
  try have l0_0_1 : w.heap.size ≤ u1.heap.size := by omega
  try have s0_1_1 : w.heap.size + 1 < u1.heap.size := by omega
  try have l0_1_1 : w.heap.size + 1 ≤ u1.heap.size := by omega
  go_wp2
  have b0 : u1.cell? ⟨w.heap.size + 1, 0, none⟩ = some (.int .i64 0) := by go_simp
  have b1 : u1.cell? ⟨w.heap.size + 1, 1, none⟩ = some (.int .i64 0) := by go_simp
  have b2 : u1.cell? ⟨w.heap.size + 1, 2, none⟩ = some (.int .i64 0) := by go_simp
  refine ret_cell_tmp Try.results30 rfl rfl (load_Dyad _ _ _ _ _ (set3 b0 b1 b2 _ _ _).1 (set3 b0 b1 b2 _ _ _).2.1 (set3 b0 b1 b2 _ _ _).2.2) ⟨rfl, by go_grown⟩

theorem I64_of_le {x y : Int} (h : x.natAbs ≤ y.natAbs) (hy : -4611686018427387904 ≤ y ∧ y ≤ 4611686018427387904) : I64 x := ⟨by omega, by omega⟩

theorem spec_DyadMake_yes (r i s : Int) (w : World) (h : MK r i s = true) :
    Calls Try.prog 10 #[.int .i64 r, .int .i64 i, .int .i64 s] w (Gives (.tuple #[.agg #[.int .i64 (lR r i s), .int .i64 (lI r i s), .int .i64 (lS r i s)], .bool true]) w) := by
  obtain ⟨h1, h2⟩ := Bool.and_eq_true_iff.1 h
  obtain ⟨a1, a2, a3, a4, a5, a6⟩ := (MKr_iff r i s).1 h1
  obtain ⟨g1, g2, _⟩ := l_le r i s a1
  have HR := Lib.hid (I64_of_le g1 ⟨a3, a4⟩); have HI := Lib.hid (I64_of_le g2 ⟨a5, a6⟩)
  have H2 := Lib.hid h2
  have e1 : (decide (0 ≤ s) && decide (s ≤ 120)) = true := by simp; omega
  have e2 : (decide (-4611686018427387904 ≤ r) && decide (r ≤ 4611686018427387904)) = true := by simp; omega
  have e3 : (decide (-4611686018427387904 ≤ i) && decide (i ≤ 4611686018427387904)) = true := by simp; omega
  clear h h1 h2 g1 g2
  go_enter Try.func10, Try.ntmps10
  go_wp2_with (go_at_call 29; refine (l6In_any _ _ _ _).mono ?_; rintro e w1 ⟨rfl, rfl⟩)
  refine (l2Low_any r i s _ ⟨by omega, by omega⟩ ⟨by omega, by omega⟩ a1 (by omega)).mono ?_
  rintro e u1 ⟨rfl, hb⟩
  have hB1 : Below w.heap.size w u1 := Below.trans (by go_grown) (hb.mono (by go_size))
  have hz1 := hb.size
  try simp at hz1
  have hw1 := hB1.size
  obtain ⟨hc1, hf1⟩ := bcell hb
  clear hb
  try have s0_0_1 : w.heap.size < u1.heap.size := by omega
  try have l0_0_1 : w.heap.size ≤ u1.heap.size := by omega
  go_wp2_with (go_at_call 29; refine (l6In_any _ _ _ _).mono ?_; rintro e w1 ⟨rfl, rfl⟩)
  refine (l2Done_yes _ _ _ _ HR.out HI.out H2.out).mono ?_
  rintro e u2 ⟨rfl, hb⟩
  have hB2 : Below w.heap.size w u2 := Below.trans (by go_grown) (hb.mono (by go_size))
  have hz2 := hb.size
  try simp at hz2
  have hw2 := hB2.size
  obtain ⟨hc2, hf2⟩ := bcell hb
  clear hb
  try have s0_0_2 : w.heap.size < u2.heap.size := by omega
  try have l0_0_2 : w.heap.size ≤ u2.heap.size := by omega
  try have s1_0_2 : u1.heap.size < u2.heap.size := by omega
  try have l1_0_2 : u1.heap.size ≤ u2.heap.size := by omega
  go_wp2
  have b0 : u2.cell? ⟨w.heap.size, 0, none⟩ = some (.int .i64 0) := by go_simp
  have b1 : u2.cell? ⟨w.heap.size, 1, none⟩ = some (.int .i64 0) := by go_simp
  have b2 : u2.cell? ⟨w.heap.size, 2, none⟩ = some (.int .i64 0) := by go_simp
  refine ret_cell_tmp Try.results10 rfl rfl (load_Dyad _ _ _ _ _ (set3 b0 b1 b2 _ _ _).1 (set3 b0 b1 b2 _ _ _).2.1 (set3 b0 b1 b2 _ _ _).2.2) ⟨rfl, by go_grown⟩
theorem spec_DyadMake_no (r i s : Int) (w : World) (h : MK r i s = false) :
    Calls Try.prog 10 #[.int .i64 r, .int .i64 i, .int .i64 s] w (Gives (.tuple #[.agg #[.int .i64 0, .int .i64 0, .int .i64 0], .bool false]) w) := by
  by_cases b1 : 0 ≤ s ∧ s ≤ 120
  · have e1 : (decide (0 ≤ s) && decide (s ≤ 120)) = true := by simp; omega
    by_cases b2 : -4611686018427387904 ≤ r ∧ r ≤ 4611686018427387904
    · have e2 : (decide (-4611686018427387904 ≤ r) && decide (r ≤ 4611686018427387904)) = true := by simp; omega
      by_cases b3 : -4611686018427387904 ≤ i ∧ i ≤ 4611686018427387904
      · have e3 : (decide (-4611686018427387904 ≤ i) && decide (i ≤ 4611686018427387904)) = true := by simp; omega
        obtain ⟨g1, g2, _⟩ := l_le r i s b1.1
        have HR := Lib.hid (I64_of_le g1 b2); have HI := Lib.hid (I64_of_le g2 b3)
        have h2 : DV (lR r i s) (lI r i s) (lS r i s) = false := by
          have hk : MKr r i s = true := (MKr_iff r i s).2 (by omega)
          unfold MK at h; rw [hk, Bool.true_and] at h; exact h
        have H2 := Lib.hid h2
        obtain ⟨a1, a2⟩ := b1; obtain ⟨a3, a4⟩ := b2; obtain ⟨a5, a6⟩ := b3
        clear h h2 g1 g2
        go_enter Try.func10, Try.ntmps10
        go_wp2_with (go_at_call 29; refine (l6In_any _ _ _ _).mono ?_; rintro e w1 ⟨rfl, rfl⟩)
        refine (l2Low_any r i s _ ⟨by omega, by omega⟩ ⟨by omega, by omega⟩ a1 (by omega)).mono ?_
        rintro e u1 ⟨rfl, hb⟩
        have hB1 : Below w.heap.size w u1 := Below.trans (by go_grown) (hb.mono (by go_size))
        have hz1 := hb.size
        try simp at hz1
        have hw1 := hB1.size
        obtain ⟨hc1, hf1⟩ := bcell hb
        clear hb
        try have s0_0_1 : w.heap.size < u1.heap.size := by omega
        try have l0_0_1 : w.heap.size ≤ u1.heap.size := by omega
        go_wp2_with (go_at_call 29; refine (l6In_any _ _ _ _).mono ?_; rintro e w1 ⟨rfl, rfl⟩)
        refine (l2Done_no _ _ _ _ HR.out HI.out H2.out).mono ?_
        rintro e u2 ⟨rfl, hb⟩
        have hB2 : Below w.heap.size w u2 := Below.trans (by go_grown) (hb.mono (by go_size))
        have hz2 := hb.size
        try simp at hz2
        have hw2 := hB2.size
        obtain ⟨hc2, hf2⟩ := bcell hb
        clear hb
        try have s0_0_2 : w.heap.size < u2.heap.size := by omega
        try have l0_0_2 : w.heap.size ≤ u2.heap.size := by omega
        try have s1_0_2 : u1.heap.size < u2.heap.size := by omega
        try have l1_0_2 : u1.heap.size ≤ u2.heap.size := by omega
        go_wp2
        have b0 : u2.cell? ⟨w.heap.size, 0, none⟩ = some (.int .i64 0) := by go_simp
        have b1 : u2.cell? ⟨w.heap.size, 1, none⟩ = some (.int .i64 0) := by go_simp
        have b2 : u2.cell? ⟨w.heap.size, 2, none⟩ = some (.int .i64 0) := by go_simp
        refine ret_cell_tmp Try.results10 rfl rfl (load_Dyad _ _ _ _ _ (set3 b0 b1 b2 _ _ _).1 (set3 b0 b1 b2 _ _ _).2.1 (set3 b0 b1 b2 _ _ _).2.2) ⟨rfl, by go_grown⟩
      · have e3 : (decide (-4611686018427387904 ≤ i) && decide (i ≤ 4611686018427387904)) = false := by simp; omega
        clear h b1 b2 b3
        go_enter Try.func10, Try.ntmps10
        go_wp2_with (go_at_call 29; refine (l6In_any _ _ _ _).mono ?_; rintro e w1 ⟨rfl, rfl⟩)
        refine ret_cell_tmp Try.results10 rfl rfl (load_Dyad _ _ (.int .i64 0) (.int .i64 0) (.int .i64 0) (by go_simp) (by go_simp) (by go_simp)) ⟨rfl, by go_grown⟩
    · have e2 : (decide (-4611686018427387904 ≤ r) && decide (r ≤ 4611686018427387904)) = false := by simp; omega
      clear h b1 b2
      go_enter Try.func10, Try.ntmps10
      go_wp2_with (go_at_call 29; refine (l6In_any _ _ _ _).mono ?_; rintro e w1 ⟨rfl, rfl⟩)
      refine ret_cell_tmp Try.results10 rfl rfl (load_Dyad _ _ (.int .i64 0) (.int .i64 0) (.int .i64 0) (by go_simp) (by go_simp) (by go_simp)) ⟨rfl, by go_grown⟩
  · have e1 : (decide (0 ≤ s) && decide (s ≤ 120)) = false := by simp; omega
    clear h b1
    go_enter Try.func10, Try.ntmps10
    go_wp2_with (go_at_call 29; refine (l6In_any _ _ _ _).mono ?_; rintro e w1 ⟨rfl, rfl⟩)
    refine ret_cell_tmp Try.results10 rfl rfl (load_Dyad _ _ (.int .i64 0) (.int .i64 0) (.int .i64 0) (by go_simp) (by go_simp) (by go_simp)) ⟨rfl, by go_grown⟩

end Go.Proofs.Ytmfpeknhangmoaa
