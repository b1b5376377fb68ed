import Derived.Test.YtjpmpjcenajmbaaDoorBase
import Derived.Test.YtjpmpjcenajmbaaDoorDyM
import Derived.Laws.BitsAllLaws
import Derived.Deep.LoopGhost
import Derived.Deep.DeepCutAuto
import Derived.Test.YtjpmpjcenajmbaaDoorDyM2
/- What the small functions on exact numbers give: validity, lowest terms, DyadMake. -/
namespace Go.Proofs.YtjpmpjcenajmbaaDoor
set_option linter.unusedSimpArgs false
set_option linter.unusedVariables false
open Go.RowKit

theorem and_one (x : Int) : bits .and .i64 x 1 = x % 2 := by
  show IntKind.i64.wrap ((BitVec.ofInt 64 x &&& BitVec.ofInt 64 1).toNat : Int) = _
  have h1 : (BitVec.ofInt 64 1 : BitVec 64).toNat = 1 := by decide
  rw [BitVec.toNat_and, h1, Nat.and_one_is_mod, BitVec.toNat_ofInt]
  simp [IntKind.wrap, IntKind.bits, IntKind.signed]
  omega
theorem tmod_two (x : Int) : (x.tmod 2 == 0) = decide (x % 2 = 0) := by
  rw [Bool.eq_iff_iff, beq_iff_eq, decide_eq_true_iff]
  by_cases h : 0 ≤ x
  · rw [Int.tmod_eq_emod_of_nonneg h]
  · obtain ⟨m, rfl⟩ : ∃ m, x = -m := ⟨-x, by omega⟩
    rw [Int.neg_tmod, Int.tmod_eq_emod_of_nonneg (by omega)]; omega
theorem tdiv_two (x : Int) (h : x % 2 = 0) : x.tdiv 2 = x / 2 := by
  by_cases h0 : 0 ≤ x
  · rw [Int.tdiv_eq_ediv_of_nonneg h0]
  · obtain ⟨m, rfl⟩ : ∃ m, x = -m := ⟨-x, by omega⟩
    rw [Int.neg_tdiv, Int.tdiv_eq_ediv_of_nonneg (by omega)]; omega
theorem tmod_two_t {x : Int} (h : x % 2 = 0) : (x.tmod 2 == 0) = true := by rw [tmod_two]; simpa using h
theorem tmod_two_f {x : Int} (h : ¬ x % 2 = 0) : (x.tmod 2 == 0) = false := by rw [tmod_two]; simpa using h



theorem even_any (r i s : Int) (w : World) :
    Calls Tryd.prog 59 #[.agg #[.int .i64 r, .int .i64 i, .int .i64 s]] w (Gives (.bool (decide (r % 2 = 0) && decide (i % 2 = 0))) w) := by
  have e1 := and_one r
  have e2 := and_one i
  have hr := Int.emod_nonneg r (show (2 : Int) ≠ 0 by decide)
  have hi := Int.emod_nonneg i (show (2 : Int) ≠ 0 by decide)
  by_cases h1 : r % 2 = 0
  · have h1' : ((r % 2 : Int) == 0) = true := by rw [h1]; rfl
    have H1 := Lib.hid h1; clear h1
    by_cases h2 : i % 2 = 0
    · have h2' : ((i % 2 : Int) == 0) = true := by rw [h2]; rfl
      have H2 := Lib.hid h2; clear h2
      go_enter Tryd.func59, Tryd.ntmps59
      go_wp2
      go_returns
      exact ⟨by simp [H1.out, H2.out], by go_grown⟩
    · have h2' : ((i % 2 : Int) == 0) = false := by rw [beq_eq_false_iff_ne]; exact h2
      have H2 := Lib.hid h2; clear h2
      go_enter Tryd.func59, Tryd.ntmps59
      go_wp2
      go_returns
      exact ⟨by simp [H2.out], by go_grown⟩
  · have h1' : ((r % 2 : Int) == 0) = false := by rw [beq_eq_false_iff_ne]; exact h1
    have H1 := Lib.hid h1; clear h1
    go_enter Tryd.func59, Tryd.ntmps59
    go_wp2
    go_returns
    exact ⟨by simp [H1.out], by go_grown⟩

theorem valid_any (r i s : Int) (w : World) :
    Calls Tryd.prog 36 #[.agg #[.int .i64 r, .int .i64 i, .int .i64 s]] w (Gives (.bool (DV r i s)) w) := by
  by_cases h1 : r < -1073741824
  · have HV : Hid (DV r i s = false) := (DV_false _ _ _).2 (by omega)
    go_enter Tryd.func36, Tryd.ntmps36
    go_wp2
    go_returns
    exact ⟨by rw [HV.out]; first | done | rfl, by go_grown⟩
  by_cases h2 : 1073741824 < r
  · have HV : Hid (DV r i s = false) := (DV_false _ _ _).2 (by omega)
    go_enter Tryd.func36, Tryd.ntmps36
    go_wp2
    go_returns
    exact ⟨by rw [HV.out]; first | done | rfl, by go_grown⟩
  by_cases h3 : i < -1073741824
  · have HV : Hid (DV r i s = false) := (DV_false _ _ _).2 (by omega)
    go_enter Tryd.func36, Tryd.ntmps36
    go_wp2
    go_returns
    exact ⟨by rw [HV.out]; first | done | rfl, by go_grown⟩
  by_cases h4 : 1073741824 < i
  · have HV : Hid (DV r i s = false) := (DV_false _ _ _).2 (by omega)
    go_enter Tryd.func36, Tryd.ntmps36
    go_wp2
    go_returns
    exact ⟨by rw [HV.out]; first | done | rfl, by go_grown⟩
  by_cases h5 : s < 0
  · have HV : Hid (DV r i s = false) := (DV_false _ _ _).2 (by omega)
    go_enter Tryd.func36, Tryd.ntmps36
    go_wp2
    go_returns
    exact ⟨by rw [HV.out]; first | done | rfl, by go_grown⟩
  by_cases h6 : 60 < s
  · have HV : Hid (DV r i s = false) := (DV_false _ _ _).2 (by omega)
    go_enter Tryd.func36, Tryd.ntmps36
    go_wp2
    go_returns
    exact ⟨by rw [HV.out]; first | done | rfl, by go_grown⟩
  by_cases h7 : s = 0
  · subst h7
    have HV : Hid (DV r i 0 = true) := (DV_iff _ _ _).2 (by omega)
    go_enter Tryd.func36, Tryd.ntmps36
    go_wp2
    go_returns
    exact ⟨by rw [HV.out]; first | done | rfl, by go_grown⟩
  · have h7' : (s == 0) = false := by rw [beq_eq_false_iff_ne]; exact h7
    have HV : Hid ((!decide (r % 2 = 0) || !decide (i % 2 = 0)) = DV r i s) := by
      rw [Hid, Bool.eq_iff_iff, DV_iff]; simp; omega
    clear h7
    go_enter Tryd.func36, Tryd.ntmps36
    go_wp2_with (go_at_call 59; refine (even_any r i s _).mono ?_; rintro e w1 ⟨rfl, hb⟩; have hB : Below w.heap.size w w1 := Below.trans (by go_grown) (hb.mono (by go_size)); have hz := hB.size; have hz2 := hb.size; (try simp at hz2); have hs0 : w.heap.size < w1.heap.size := (by omega); obtain ⟨hc, hf⟩ := bcell hb; clear hb)
    go_returns
    exact ⟨by rw [← HV.out]; first | done | rfl, hB⟩


theorem spec_DyadValid_any (r i s : Int) (w : World) (_hr : I64 r) (_hi : I64 i) :
    Calls Tryd.prog 42 #[.agg #[.int .i64 r, .int .i64 i, .int .i64 s]] w (Gives (.bool (DV r i s)) w) := by
  obtain ⟨_hr1, _hr2⟩ := _hr
  obtain ⟨_hi1, _hi2⟩ := _hi
  by_cases h1 : -1073741824 ≤ r ∧ r ≤ 1073741824
  · have e1 : (decide (-1073741824 ≤ r) && decide (r ≤ 1073741824)) = true := by simp; omega
    have H1 := Lib.hid h1; clear h1
    by_cases h2 : -1073741824 ≤ i ∧ i ≤ 1073741824
    · have e2 : (decide (-1073741824 ≤ i) && decide (i ≤ 1073741824)) = true := by simp; omega
      have H2 := Lib.hid h2; clear h2
      by_cases h3 : 0 ≤ s ∧ s ≤ 60
      · have e3 : (decide (0 ≤ s) && decide (s ≤ 60)) = true := by simp; omega
        have H3 := Lib.hid h3; clear h3
        by_cases h4 : s = 0
        · subst h4
          have HV : Hid (DV r i 0 = true) := (DV_iff _ _ _).2 (by have := H1.out; have := H2.out; omega)
          go_enter Tryd.func42, Tryd.ntmps42
          go_wp2_with (go_at_call 43; refine (l6In_any _ _ _ _).mono ?_; rintro e w1 ⟨rfl, rfl⟩)
          go_returns
          exact ⟨by rw [HV.out]; first | done | rfl, by go_grown⟩
        · have h4' : (s == 0) = false := by rw [beq_eq_false_iff_ne]; exact h4
          by_cases h5 : r % 2 = 0
          · have e5 : (r.tmod 2 != 0) = false := by rw [bne, tmod_two_t h5]; rfl
            have e5' := tmod_two_t h5
            by_cases h6 : i % 2 = 0
            · have e6 : (i.tmod 2 != 0) = false := by rw [bne, tmod_two_t h6]; rfl
              have e6' := tmod_two_t h6
              have HV : Hid (DV r i s = false) := (DV_false _ _ _).2 (by omega)
              clear h4 h5 h6
              go_enter Tryd.func42, Tryd.ntmps42
              go_wp2_with (go_at_call 43; refine (l6In_any _ _ _ _).mono ?_; rintro e w1 ⟨rfl, rfl⟩)
              go_returns
              exact ⟨by rw [HV.out]; first | done | rfl, by go_grown⟩
            · have e6 : (i.tmod 2 != 0) = true := by rw [bne, tmod_two_f h6]; rfl
              have e6' := tmod_two_f h6
              have HV : Hid (DV r i s = true) := (DV_iff _ _ _).2 (by have := H1.out; have := H2.out; have := H3.out; omega)
              clear h4 h5 h6
              go_enter Tryd.func42, Tryd.ntmps42
              go_wp2_with (go_at_call 43; refine (l6In_any _ _ _ _).mono ?_; rintro e w1 ⟨rfl, rfl⟩)
              go_returns
              exact ⟨by rw [HV.out]; first | done | rfl, by go_grown⟩
          · have e5 : (r.tmod 2 != 0) = true := by rw [bne, tmod_two_f h5]; rfl
            have e5' := tmod_two_f h5
            have HV : Hid (DV r i s = true) := (DV_iff _ _ _).2 (by have := H1.out; have := H2.out; have := H3.out; omega)
            clear h4 h5
            go_enter Tryd.func42, Tryd.ntmps42
            go_wp2_with (go_at_call 43; refine (l6In_any _ _ _ _).mono ?_; rintro e w1 ⟨rfl, rfl⟩)
            go_returns
            exact ⟨by rw [HV.out]; first | done | rfl, by go_grown⟩
      · have e3 : (decide (0 ≤ s) && decide (s ≤ 60)) = false := by simp; omega
        have HV : Hid (DV r i s = false) := (DV_false _ _ _).2 (by omega)
        clear h3
        go_enter Tryd.func42, Tryd.ntmps42
        go_wp2_with (go_at_call 43; refine (l6In_any _ _ _ _).mono ?_; rintro e w1 ⟨rfl, rfl⟩)
        go_returns
        exact ⟨by rw [HV.out]; first | done | rfl, by go_grown⟩
    · have e2 : (decide (-1073741824 ≤ i) && decide (i ≤ 1073741824)) = false := by simp; omega
      have HV : Hid (DV r i s = false) := (DV_false _ _ _).2 (by omega)
      clear h2
      go_enter Tryd.func42, Tryd.ntmps42
      go_wp2_with (go_at_call 43; refine (l6In_any _ _ _ _).mono ?_; rintro e w1 ⟨rfl, rfl⟩)
      go_returns
      exact ⟨by rw [HV.out]; first | done | rfl, by go_grown⟩
  · have e1 : (decide (-1073741824 ≤ r) && decide (r ≤ 1073741824)) = false := by simp; omega
    have HV : Hid (DV r i s = false) := (DV_false _ _ _).2 (by omega)
    clear h1
    go_enter Tryd.func42, Tryd.ntmps42
    go_wp2_with (go_at_call 43; refine (l6In_any _ _ _ _).mono ?_; rintro e w1 ⟨rfl, rfl⟩)
    go_returns
    exact ⟨by rw [HV.out]; first | done | rfl, by go_grown⟩

end Go.Proofs.YtjpmpjcenajmbaaDoor
/- What lowest terms and DyadMake give. -/
namespace Go.Proofs.YtjpmpjcenajmbaaDoor
set_option linter.unusedSimpArgs false
set_option linter.unusedVariables false
open Go.RowKit

theorem l2Low_any (r i s : Int) (w : World) (hr : I64 r) (hi : I64 i) (hs : 0 ≤ s) (hs' : s ≤ 1000) :
    Calls Tryd.prog 61 #[.int .i64 r, .int .i64 i, .int .i64 s] w (Gives (.agg #[.int .i64 (lR r i s), .int .i64 (lI r i s), .int .i64 (lS r i s)]) w) := by
  go_enter Tryd.func61, Tryd.ntmps61
  go_wp2
  go_loop [0, 1, 2] (fun x y z => ∃ a b c : Int, x = .int .i64 a ∧ y = .int .i64 b ∧ z = .int .i64 c ∧ I64 a ∧ I64 b ∧ 0 ≤ c ∧ c ≤ 1000 ∧ lR a b c = lR r i s ∧ lI a b c = lI r i s ∧ lS a b c = lS r i s) (fun _ _ z => (intOf z).toNat)
  case atStart => exact ⟨r, i, s, rfl, rfl, rfl, hr, hi, hs, hs', rfl, rfl, rfl⟩
  case round =>
    obtain ⟨a, b, c, rfl, rfl, rfl, ⟨ha, ha'⟩, ⟨hb, hb'⟩, hc, hc', h1, h2, h3⟩ := hrel
    have H1 := Lib.hid h1; have H2 := Lib.hid h2; have H3 := Lib.hid h3; clear h1 h2 h3
    by_cases hc0 : c = 0
    · subst hc0
      have HS := Lib.hid (l_stop a b 0 (by omega) (Or.inl rfl))
      go_wp2
      refine ret_cell Tryd.results61 rfl (load_Dyad _ _ (.int .i64 a) (.int .i64 b) (.int .i64 0) (by go_simp) (by go_simp) (by go_simp)) ⟨?_, by go_grown⟩
      rw [← H1.out, ← H2.out, ← H3.out, HS.out.1, HS.out.2.1, HS.out.2.2]
    have hc1 : 1 ≤ c := by omega
    by_cases pa : a % 2 = 0
    · have e1 := tmod_two_t pa
      have e1' := tdiv_two a pa
      by_cases pb : b % 2 = 0
      · have e2 := tmod_two_t pb
        have e2' := tdiv_two b pb
        obtain ⟨s1, s2, s3⟩ := l_step a b c hc1 pa pb
        have S1 := Lib.hid s1; have S2 := Lib.hid s2; have S3 := Lib.hid s3; clear s1 s2 s3 pa pb
        go_wp2
        go_round
        case rel => exact ⟨a / 2, b / 2, c - 1, rfl, rfl, rfl, ⟨by omega, by omega⟩, ⟨by omega, by omega⟩, by omega, by omega, by rw [← H1.out, S1.out], by rw [← H2.out, S2.out], by rw [← H3.out, S3.out]⟩
        case measure => simp [intOf]; omega
      · have e2 := tmod_two_f pb
        have HS := Lib.hid (l_stop a b c hc (Or.inr (Or.inr pb)))
        clear pa pb
        go_wp2
        refine ret_cell Tryd.results61 rfl (load_Dyad _ _ (.int .i64 a) (.int .i64 b) (.int .i64 c) (by go_simp) (by go_simp) (by go_simp)) ⟨?_, by go_grown⟩
        rw [← H1.out, ← H2.out, ← H3.out, HS.out.1, HS.out.2.1, HS.out.2.2]
    · have e1 := tmod_two_f pa
      have HS := Lib.hid (l_stop a b c hc (Or.inr (Or.inl pa)))
      clear pa
      go_wp2
      refine ret_cell Tryd.results61 rfl (load_Dyad _ _ (.int .i64 a) (.int .i64 b) (.int .i64 c) (by go_simp) (by go_simp) (by go_simp)) ⟨?_, by go_grown⟩
      rw [← H1.out, ← H2.out, ← H3.out, HS.out.1, HS.out.2.1, HS.out.2.2]

theorem l2Done_yes (r i s : Int) (w : World) (hr : I64 r) (hi : I64 i) (h : DV r i s = true) :
    Calls Tryd.prog 62 #[.agg #[.int .i64 r, .int .i64 i, .int .i64 s]] w (Gives (.tuple #[.agg #[.int .i64 r, .int .i64 i, .int .i64 s], .bool true]) w) := by
  have H := Lib.hid h; clear h
  have HR := Lib.hid hr; have HI := Lib.hid hi; clear hr hi
  go_enter Tryd.func62, Tryd.ntmps62
  go_wp2_with fail
  refine (spec_DyadValid_any r i s _ HR.out HI.out).mono ?_
  rw [H.out]
  rintro e u1 ⟨rfl, hb⟩
  have hB1 : Below w.heap.size w u1 := Below.trans (by go_grown) (hb.mono (by go_size))
  have hz1 := hb.size
  try simp at hz1
  have hw1 := hB1.size
  obtain ⟨hc1, hf1⟩ := bcell hb
  clear hb
  try have s0_0_1 : w.heap.size < u1.heap.size := by omega
  try have l0_0_1 : w.heap.size ≤ u1.heap.size := by omega
  try have s0_1_1 : w.heap.size + 1 < u1.heap.size := by omega
  try have l0_1_1 : w.heap.size + 1 ≤ u1.heap.size := by omega
  go_wp2
  have b0 : u1.cell? ⟨w.heap.size + 1, 0, none⟩ = some (.int .i64 0) := by go_simp
  have b1 : u1.cell? ⟨w.heap.size + 1, 1, none⟩ = some (.int .i64 0) := by go_simp
  have b2 : u1.cell? ⟨w.heap.size + 1, 2, none⟩ = some (.int .i64 0) := by go_simp
  refine ret_cell_tmp Tryd.results62 rfl rfl (load_Dyad _ _ _ _ _ (set3 b0 b1 b2 _ _ _).1 (set3 b0 b1 b2 _ _ _).2.1 (set3 b0 b1 b2 _ _ _).2.2) ⟨rfl, by go_grown⟩
theorem l2Done_no (r i s : Int) (w : World) (hr : I64 r) (hi : I64 i) (h : DV r i s = false) :
    Calls Tryd.prog 62 #[.agg #[.int .i64 r, .int .i64 i, .int .i64 s]] w (Gives (.tuple #[.agg #[.int .i64 0, .int .i64 0, .int .i64 0], .bool false]) w) := by
  have H := Lib.hid h; clear h
  have HR := Lib.hid hr; have HI := Lib.hid hi; clear hr hi
  go_enter Tryd.func62, Tryd.ntmps62
  go_wp2_with fail
  refine (spec_DyadValid_any r i s _ HR.out HI.out).mono ?_
  rw [H.out]
  rintro e u1 ⟨rfl, hb⟩
  have hB1 : Below w.heap.size w u1 := Below.trans (by go_grown) (hb.mono (by go_size))
  have hz1 := hb.size
  try simp at hz1
  have hw1 := hB1.size
  obtain ⟨hc1, hf1⟩ := bcell hb
  clear hb
  try have s0_0_1 : w.heap.size < u1.heap.size := by omega
  try have l0_0_1 : w.heap.size ≤ u1.heap.size := by omega
  try have s0_1_1 : w.heap.size + 1 < u1.heap.size := by omega
  try have l0_1_1 : w.heap.size + 1 ≤ u1.heap.size := by omega
  go_wp2
  have b0 : u1.cell? ⟨w.heap.size + 1, 0, none⟩ = some (.int .i64 0) := by go_simp
  have b1 : u1.cell? ⟨w.heap.size + 1, 1, none⟩ = some (.int .i64 0) := by go_simp
  have b2 : u1.cell? ⟨w.heap.size + 1, 2, none⟩ = some (.int .i64 0) := by go_simp
  refine ret_cell_tmp Tryd.results62 rfl rfl (load_Dyad _ _ _ _ _ (set3 b0 b1 b2 _ _ _).1 (set3 b0 b1 b2 _ _ _).2.1 (set3 b0 b1 b2 _ _ _).2.2) ⟨rfl, by go_grown⟩

theorem I64_of_le {x y : Int} (h : x.natAbs ≤ y.natAbs) (hy : -4611686018427387904 ≤ y ∧ y ≤ 4611686018427387904) : I64 x := ⟨by omega, by omega⟩


end Go.Proofs.YtjpmpjcenajmbaaDoor
/- What the program's DyadMake gives: its loop turns a number that lies in memory. -/
namespace Go.Proofs.YtjpmpjcenajmbaaDoor
set_option linter.unusedSimpArgs false
set_option linter.unusedVariables false
open Go.RowKit

/-- The number that DyadMake halves lies in block D; the result's block is still zero. -/
structure MkInv (w : World) (r i s : Int) (a b c : Int) (wr : World) : Prop where
  c0 : wr.cell? ⟨w.heap.size + 1, 0, none⟩ = some (.int .i64 a)
  c1 : wr.cell? ⟨w.heap.size + 1, 1, none⟩ = some (.int .i64 b)
  c2 : wr.cell? ⟨w.heap.size + 1, 2, none⟩ = some (.int .i64 c)
  f : ∀ o, wr.frozen? ⟨w.heap.size + 1, o, none⟩ = false
  r0 : wr.cell? ⟨w.heap.size, 0, none⟩ = some (.int .i64 0)
  r1 : wr.cell? ⟨w.heap.size, 1, none⟩ = some (.int .i64 0)
  r2 : wr.cell? ⟨w.heap.size, 2, none⟩ = some (.int .i64 0)
  rf : ∀ o, wr.frozen? ⟨w.heap.size, o, none⟩ = false
  below : Below w.heap.size w wr
  size : w.heap.size + 1 < wr.heap.size
  ba : -4611686018427387904 ≤ a ∧ a ≤ 4611686018427387904
  bb : -4611686018427387904 ≤ b ∧ b ≤ 4611686018427387904
  bc : 0 ≤ c ∧ c ≤ 120
  eR : lR a b c = lR r i s
  eI : lI a b c = lI r i s
  eS : lS a b c = lS r i s

/-- What DyadMake gives for numbers in their ranges. -/
def MkV (r i s : Int) : Value := if DV (lR r i s) (lI r i s) (lS r i s) = true then .tuple #[.agg #[.int .i64 (lR r i s), .int .i64 (lI r i s), .int .i64 (lS r i s)], .bool true] else .tuple #[.agg #[.int .i64 0, .int .i64 0, .int .i64 0], .bool false]
theorem MkV_yes {r i s : Int} (h : DV (lR r i s) (lI r i s) (lS r i s) = true) : MkV r i s = .tuple #[.agg #[.int .i64 (lR r i s), .int .i64 (lI r i s), .int .i64 (lS r i s)], .bool true] := if_pos h
theorem MkV_no {r i s : Int} (h : DV (lR r i s) (lI r i s) (lS r i s) = false) : MkV r i s = .tuple #[.agg #[.int .i64 0, .int .i64 0, .int .i64 0], .bool false] := if_neg (by rw [h]; decide)

theorem impl_DyadMake_any (r i s : Int) (w : World) (h : MKr r i s = true) :
    Calls Tryd.prog 35 #[.int .i64 r, .int .i64 i, .int .i64 s] w (Gives (MkV r i s) w) := by
  obtain ⟨a1, a2, a3, a4, a5, a6⟩ := (MKr_iff r i s).1 h
  clear h
  have t1 : decide (s < 0) = false := by simp; omega
  have t2 : decide (120 < s) = false := by simp; omega
  have t3 : decide (r < -4611686018427387904) = false := by simp; omega
  have t4 : decide (4611686018427387904 < r) = false := by simp; omega
  have t5 : decide (i < -4611686018427387904) = false := by simp; omega
  have t6 : decide (4611686018427387904 < i) = false := by simp; omega
  go_enter Tryd.func35, Tryd.ntmps35
  go_wp2
  go_loopw [41] (fun _ wr => ∃ a b c : Int, MkInv w r i s a b c wr) (fun _ wr => (intOf ((wr.cell? ⟨w.heap.size + 1, 2, none⟩).getD undef)).toNat)
  case atStart =>
    refine ⟨r, i, s, ?_⟩
    exact ⟨by go_simp, by go_simp, by go_simp, fun o => by go_simp, by go_simp, by go_simp, by go_simp, fun o => by go_simp, by go_grown, by simp, ⟨a3, a4⟩, ⟨a5, a6⟩, ⟨a1, a2⟩, rfl, rfl, rfl⟩
  case round =>
    obtain ⟨a, b, c, hI⟩ := hrel
    have HI := Lib.hid hI
    obtain ⟨c0, c1, c2, hf, r0, r1, r2, rf, hB, hz, ⟨ba, ba'⟩, ⟨bb, bb'⟩, ⟨bc, bc'⟩, _, _, _⟩ := hI
    have hz0 : w.heap.size < wr.heap.size := by omega
    have hf0 := hf 0
    have hf1' := hf 1
    have hf2 := hf 2
    have rf0 := rf 0
    have rf1 := rf 1
    have rf2 := rf 2
    clear hf rf
    by_cases hc0 : c = 0
    · subst hc0
      have HS := Lib.hid (l_stop a b 0 (by omega) (Or.inl rfl))
      go_wp2_with fail
      cases hv : DV (lR r i s) (lI r i s) (lS r i s)
      · have HV := Lib.hid hv; have HM := Lib.hid (MkV_no hv); clear hv
        refine (valid_any _ _ _ _).mono ?_
        rw [show DV a b 0 = false by rw [← HV.out, ← HI.out.eR, ← HI.out.eI, ← HI.out.eS, HS.out.1, HS.out.2.1, HS.out.2.2]]
        rintro e u1 ⟨rfl, hb⟩
        have hB1 : Below w.heap.size w u1 := hB.trans (hb.mono (by omega))
        obtain ⟨hc1, hf1⟩ := bcell hb
        clear hb
        go_wp2
        refine ret_cell_tmp Tryd.results35 rfl rfl (load_Dyad _ _ (.int .i64 0) (.int .i64 0) (.int .i64 0) (by go_simp) (by go_simp) (by go_simp)) ⟨by rw [HM.out]; first | done | rfl, by go_grown⟩
      · have HV := Lib.hid hv; have HM := Lib.hid (MkV_yes hv); clear hv
        refine (valid_any _ _ _ _).mono ?_
        rw [show DV a b 0 = true by rw [← HV.out, ← HI.out.eR, ← HI.out.eI, ← HI.out.eS, HS.out.1, HS.out.2.1, HS.out.2.2]]
        rintro e u1 ⟨rfl, hb⟩
        have hB1 : Below w.heap.size w u1 := hB.trans (hb.mono (by omega))
        obtain ⟨hc1, hf1⟩ := bcell hb
        clear hb
        go_wp2
        have b0 : u1.cell? ⟨w.heap.size, 0, none⟩ = some (.int .i64 0) := by go_simp
        have b1 : u1.cell? ⟨w.heap.size, 1, none⟩ = some (.int .i64 0) := by go_simp
        have b2 : u1.cell? ⟨w.heap.size, 2, none⟩ = some (.int .i64 0) := by go_simp
        refine ret_cell_tmp Tryd.results35 rfl rfl (load_Dyad _ _ _ _ _ (set3 b0 b1 b2 _ _ _).1 (set3 b0 b1 b2 _ _ _).2.1 (set3 b0 b1 b2 _ _ _).2.2) ⟨by rw [HM.out, ← HI.out.eR, ← HI.out.eI, ← HI.out.eS, HS.out.1, HS.out.2.1, HS.out.2.2]; first | done | rfl, by go_grown⟩
    have hc1 : 1 ≤ c := by omega
    by_cases pa : a % 2 = 0 ∧ b % 2 = 0
    · obtain ⟨pa, pb⟩ := pa
      have e1 := tdiv_two a pa
      have e2 := tdiv_two b pb
      have ST := Lib.hid (l_step a b c hc1 pa pb)
      go_wp2_with fail
      refine (even_any _ _ _ _).mono ?_
      rw [show (decide (a % 2 = 0) && decide (b % 2 = 0)) = true by simp; omega]
      rintro e u0 ⟨rfl, hb⟩
      have hB0 : Below w.heap.size w u0 := hB.trans (hb.mono (by omega))
      have hzu := hb.size
      have hz2 : w.heap.size + 1 < u0.heap.size := by omega
      have hz3 : w.heap.size < u0.heap.size := by omega
      obtain ⟨hc1, hf1⟩ := bcell hb
      clear hb
      clear pa pb
      go_wp2
      go_roundw
      case rel =>
        refine ⟨a / 2, b / 2, c - 1, ?_⟩
        have st := set3 (show u0.cell? ⟨w.heap.size + 1, 0, none⟩ = some (.int .i64 a) by go_simp) (show u0.cell? ⟨w.heap.size + 1, 1, none⟩ = some (.int .i64 b) by go_simp) (show u0.cell? ⟨w.heap.size + 1, 2, none⟩ = some (.int .i64 c) by go_simp) (.int .i64 (a / 2)) (.int .i64 (b / 2)) (.int .i64 (c - 1))
        exact ⟨st.1, st.2.1, st.2.2, fun o => by simp [hf1 _ o hz, HI.out.f o], by go_simp, by go_simp, by go_simp, fun o => by simp [hf1 _ o hz0, HI.out.rf o], by go_grown, by simpa using hz2, ⟨by omega, by omega⟩, ⟨by omega, by omega⟩, ⟨by omega, by omega⟩, by rw [← ST.out.1, HI.out.eR], by rw [← ST.out.2.1, HI.out.eI], by rw [← ST.out.2.2, HI.out.eS]⟩
      case measure =>
        have st := set3 (show u0.cell? ⟨w.heap.size + 1, 0, none⟩ = some (.int .i64 a) by go_simp) (show u0.cell? ⟨w.heap.size + 1, 1, none⟩ = some (.int .i64 b) by go_simp) (show u0.cell? ⟨w.heap.size + 1, 2, none⟩ = some (.int .i64 c) by go_simp) (.int .i64 (a / 2)) (.int .i64 (b / 2)) (.int .i64 (c - 1))
        rw [st.2.2, HI.out.c2]
        simp [intOf]; omega
    · have HS := Lib.hid (l_stop a b c bc (Or.inr (by omega)))
      go_wp2_with fail
      refine (even_any _ _ _ _).mono ?_
      rw [show (decide (a % 2 = 0) && decide (b % 2 = 0)) = false by simp; omega]
      rintro e u0 ⟨rfl, hb⟩
      have hB0 : Below w.heap.size w u0 := hB.trans (hb.mono (by omega))
      have hzu := hb.size
      have hz2 : w.heap.size + 1 < u0.heap.size := by omega
      have hz3 : w.heap.size < u0.heap.size := by omega
      obtain ⟨hc1, hf1⟩ := bcell hb
      clear hb
      clear pa
      go_wp2_with fail
      cases hv : DV (lR r i s) (lI r i s) (lS r i s)
      · have HV := Lib.hid hv; have HM := Lib.hid (MkV_no hv); clear hv
        refine (valid_any _ _ _ _).mono ?_
        rw [show DV a b c = false by rw [← HV.out, ← HI.out.eR, ← HI.out.eI, ← HI.out.eS, HS.out.1, HS.out.2.1, HS.out.2.2]]
        rintro e u1 ⟨rfl, hb⟩
        have hB1 : Below w.heap.size w u1 := hB0.trans (hb.mono (by omega))
        obtain ⟨hc1, hf1⟩ := bcell hb
        clear hb
        go_wp2
        refine ret_cell_tmp Tryd.results35 rfl rfl (load_Dyad _ _ (.int .i64 0) (.int .i64 0) (.int .i64 0) (by go_simp) (by go_simp) (by go_simp)) ⟨by rw [HM.out]; first | done | rfl, by go_grown⟩
      · have HV := Lib.hid hv; have HM := Lib.hid (MkV_yes hv); clear hv
        refine (valid_any _ _ _ _).mono ?_
        rw [show DV a b c = true by rw [← HV.out, ← HI.out.eR, ← HI.out.eI, ← HI.out.eS, HS.out.1, HS.out.2.1, HS.out.2.2]]
        rintro e u1 ⟨rfl, hb⟩
        have hB1 : Below w.heap.size w u1 := hB0.trans (hb.mono (by omega))
        obtain ⟨hc1, hf1⟩ := bcell hb
        clear hb
        go_wp2
        have b0 : u1.cell? ⟨w.heap.size, 0, none⟩ = some (.int .i64 0) := by go_simp
        have b1 : u1.cell? ⟨w.heap.size, 1, none⟩ = some (.int .i64 0) := by go_simp
        have b2 : u1.cell? ⟨w.heap.size, 2, none⟩ = some (.int .i64 0) := by go_simp
        refine ret_cell_tmp Tryd.results35 rfl rfl (load_Dyad _ _ _ _ _ (set3 b0 b1 b2 _ _ _).1 (set3 b0 b1 b2 _ _ _).2.1 (set3 b0 b1 b2 _ _ _).2.2) ⟨by rw [HM.out, ← HI.out.eR, ← HI.out.eI, ← HI.out.eS, HS.out.1, HS.out.2.1, HS.out.2.2]; first | done | rfl, by go_grown⟩

theorem impl_DyadMake_yes (r i s : Int) (w : World) (h : MK r i s = true) :
    Calls Tryd.prog 35 #[.int .i64 r, .int .i64 i, .int .i64 s] w (Gives (.tuple #[.agg #[.int .i64 (lR r i s), .int .i64 (lI r i s), .int .i64 (lS r i s)], .bool true]) w) := by
  obtain ⟨h1, h2⟩ := Bool.and_eq_true_iff.1 h
  exact (impl_DyadMake_any r i s w h1).mono fun e w' hg => by rw [MkV_yes h2] at hg; exact hg
theorem impl_DyadMake_no (r i s : Int) (w : World) (h : MK r i s = false) :
    Calls Tryd.prog 35 #[.int .i64 r, .int .i64 i, .int .i64 s] w (Gives (.tuple #[.agg #[.int .i64 0, .int .i64 0, .int .i64 0], .bool false]) w) := by
  cases hk : MKr r i s
  · have hn : ¬ (0 ≤ s ∧ s ≤ 120 ∧ -4611686018427387904 ≤ r ∧ r ≤ 4611686018427387904 ∧ -4611686018427387904 ≤ i ∧ i ≤ 4611686018427387904) := fun g => by rw [(MKr_iff r i s).2 g] at hk; cases hk
    clear h hk
    by_cases d : s < 0
    · clear hn
      go_enter Tryd.func35, Tryd.ntmps35
      go_wp2
      refine ret_cell_tmp Tryd.results35 rfl rfl (load_Dyad _ _ (.int .i64 0) (.int .i64 0) (.int .i64 0) (by go_simp) (by go_simp) (by go_simp)) ⟨rfl, by go_grown⟩
    have t0 : decide (s < 0) = false := by simpa using d
    have g0 : ¬ (s < 0) := d
    clear d
    by_cases d : 120 < s
    · clear hn
      go_enter Tryd.func35, Tryd.ntmps35
      go_wp2
      refine ret_cell_tmp Tryd.results35 rfl rfl (load_Dyad _ _ (.int .i64 0) (.int .i64 0) (.int .i64 0) (by go_simp) (by go_simp) (by go_simp)) ⟨rfl, by go_grown⟩
    have t1 : decide (120 < s) = false := by simpa using d
    have g1 : ¬ (120 < s) := d
    clear d
    by_cases d : r < -4611686018427387904
    · clear hn
      go_enter Tryd.func35, Tryd.ntmps35
      go_wp2
      refine ret_cell_tmp Tryd.results35 rfl rfl (load_Dyad _ _ (.int .i64 0) (.int .i64 0) (.int .i64 0) (by go_simp) (by go_simp) (by go_simp)) ⟨rfl, by go_grown⟩
    have t2 : decide (r < -4611686018427387904) = false := by simpa using d
    have g2 : ¬ (r < -4611686018427387904) := d
    clear d
    by_cases d : 4611686018427387904 < r
    · clear hn
      go_enter Tryd.func35, Tryd.ntmps35
      go_wp2
      refine ret_cell_tmp Tryd.results35 rfl rfl (load_Dyad _ _ (.int .i64 0) (.int .i64 0) (.int .i64 0) (by go_simp) (by go_simp) (by go_simp)) ⟨rfl, by go_grown⟩
    have t3 : decide (4611686018427387904 < r) = false := by simpa using d
    have g3 : ¬ (4611686018427387904 < r) := d
    clear d
    by_cases d : i < -4611686018427387904
    · clear hn
      go_enter Tryd.func35, Tryd.ntmps35
      go_wp2
      refine ret_cell_tmp Tryd.results35 rfl rfl (load_Dyad _ _ (.int .i64 0) (.int .i64 0) (.int .i64 0) (by go_simp) (by go_simp) (by go_simp)) ⟨rfl, by go_grown⟩
    have t4 : decide (i < -4611686018427387904) = false := by simpa using d
    have g4 : ¬ (i < -4611686018427387904) := d
    clear d
    have d : 4611686018427387904 < i := by omega
    clear hn
    go_enter Tryd.func35, Tryd.ntmps35
    go_wp2
    refine ret_cell_tmp Tryd.results35 rfl rfl (load_Dyad _ _ (.int .i64 0) (.int .i64 0) (.int .i64 0) (by go_simp) (by go_simp) (by go_simp)) ⟨rfl, by go_grown⟩
  · have h2 : DV (lR r i s) (lI r i s) (lS r i s) = false := by unfold MK at h; rw [hk, Bool.true_and] at h; exact h
    exact (impl_DyadMake_any r i s w hk).mono fun e w' hg => by rw [MkV_no h2] at hg; exact hg

end Go.Proofs.YtjpmpjcenajmbaaDoor
/- What DyadNorm, DyadSquare and DyadAdd give. -/
namespace Go.Proofs.YtjpmpjcenajmbaaDoor
set_option linter.unusedSimpArgs false
set_option linter.unusedVariables false
open Go.RowKit

theorem F4_bd (s : Int) (h : 0 ≤ s) (h' : s ≤ 30) : 4 ≤ F4 s ∧ F4 s ≤ 4611686018427387904 := by
  unfold F4
  obtain ⟨n, rfl⟩ := Int.eq_ofNat_of_zero_le h
  have e : (2 * (n : Int)).toNat = 2 * n := by omega
  rw [e]
  have h1 : 2 ^ (2 * n) ≤ 2 ^ 60 := Nat.pow_le_pow_right (by omega) (by omega)
  have h2 : 0 < 2 ^ (2 * n) := Nat.two_pow_pos _
  have e2 : ((2 : Int) ^ (2 * n)) = ((2 ^ (2 * n) : Nat) : Int) := by simp
  rw [e2]
  omega
theorem F4_wrap (s : Int) (h : 0 ≤ s) (h' : s ≤ 30) : wrap64 (4 * 2 ^ (2 * s).toNat) = F4 s :=
  IntWalk.wrap64_in _ ⟨by have := F4_bd s h h'; unfold F4 at this; omega, by have := F4_bd s h h'; unfold F4 at this; omega⟩
theorem F4_30 : F4 30 = 4611686018427387904 := by decide

theorem sq_bd30 (r : Int) (h : -1073741824 ≤ r ∧ r ≤ 1073741824) : 0 ≤ r * r ∧ r * r ≤ 1152921504606846976 := by
  have h1 : r * r = (r.natAbs * r.natAbs : Nat) := by rw [Int.natAbs_mul_self]
  have h2 : r.natAbs * r.natAbs ≤ 1073741824 * 1073741824 := Nat.mul_le_mul (by omega) (by omega)
  omega



/-! ### DyadSquare -/
theorem mul_bd30 (r i : Int) (h : -1073741824 ≤ r ∧ r ≤ 1073741824) (h' : -1073741824 ≤ i ∧ i ≤ 1073741824) : -1152921504606846976 ≤ r * i ∧ r * i ≤ 1152921504606846976 := by
  have h1 : (r * i).natAbs ≤ 1073741824 * 1073741824 := by rw [Int.natAbs_mul]; exact Nat.mul_le_mul (by omega) (by omega)
  omega
theorem sq_ok (r i s : Int) (h : DV r i s = true) : MKr (SR r i) (SI r i) (2 * s) = true := by
  obtain ⟨a1, a2, a3, a4, a5, a6, _⟩ := (DV_iff r i s).1 h
  have := sq_bd30 r ⟨a1, a2⟩; have := sq_bd30 i ⟨a3, a4⟩; have := mul_bd30 r i ⟨a1, a2⟩ ⟨a3, a4⟩
  have e : SI r i = 2 * (r * i) := by unfold SI; rw [Int.mul_assoc]
  exact (MKr_iff _ _ _).2 ⟨by omega, by omega, by unfold SR; omega, by unfold SR; omega, by omega, by omega⟩

theorem impl_DyadSquare_yes (r i s : Int) (w : World) (h : SQ r i s = true) :
    Calls Tryd.prog 14 #[.agg #[.int .i64 r, .int .i64 i, .int .i64 s]] w (Gives (.tuple #[.agg #[.int .i64 (lR (SR r i) (SI r i) (2 * s)), .int .i64 (lI (SR r i) (SI r i) (2 * s)), .int .i64 (lS (SR r i) (SI r i) (2 * s))], .bool true]) w) := by
  obtain ⟨h1, h2⟩ := Bool.and_eq_true_iff.1 h
  obtain ⟨a1, a2, a3, a4, a5, a6, _⟩ := (DV_iff r i s).1 h1
  obtain ⟨q1, q2⟩ := sq_bd30 r ⟨a1, a2⟩
  obtain ⟨q3, q4⟩ := sq_bd30 i ⟨a3, a4⟩
  obtain ⟨q5, q6⟩ := mul_bd30 r i ⟨a1, a2⟩ ⟨a3, a4⟩
  have e1 : (2 * r) * i = 2 * (r * i) := Int.mul_assoc _ _ _
  have k1 : -2305843009213693952 ≤ 2 * r * i := by omega
  have k2 : 2 * r * i ≤ 2305843009213693952 := by omega
  have H1 := Lib.hid h1; have H2 := Lib.hid h2; clear h h1 h2 e1
  go_enter Tryd.func14, Tryd.ntmps14
  go_wp2_with fail
  refine (valid_any r i s _).mono ?_
  rw [H1.out]
  rintro e u1 ⟨rfl, hb⟩
  have hB1 : Below w.heap.size w u1 := Below.trans (by go_grown) (hb.mono (by go_size))
  have hz1 := hb.size
  try simp at hz1
  have hw1 := hB1.size
  obtain ⟨hc1, hf1⟩ := bcell hb
  clear hb
  try have s0_0_1 : w.heap.size < u1.heap.size := by omega
  try have l0_0_1 : w.heap.size ≤ u1.heap.size := by omega
  try have s0_1_1 : w.heap.size + 1 < u1.heap.size := by omega
  try have l0_1_1 : w.heap.size + 1 ≤ u1.heap.size := by omega
  go_wp2_with fail
  refine (impl_DyadMake_yes (SR r i) (SI r i) (2 * s) _ H2.out).mono ?_
  rintro e u2 ⟨rfl, hb⟩
  have hB2 : Below w.heap.size w u2 := Below.trans (by go_grown) (hb.mono (by go_size))
  have hz2 := hb.size
  try simp at hz2
  have hw2 := hB2.size
  obtain ⟨hc2, hf2⟩ := bcell hb
  clear hb
  try have s0_0_2 : w.heap.size < u2.heap.size := by omega
  try have l0_0_2 : w.heap.size ≤ u2.heap.size := by omega
  try have s0_1_2 : w.heap.size + 1 < u2.heap.size := by omega
  try have l0_1_2 : w.heap.size + 1 ≤ u2.heap.size := by omega
  try have s1_0_2 : u1.heap.size < u2.heap.size := by omega
  try have l1_0_2 : u1.heap.size ≤ u2.heap.size := by omega
  go_wp2
  have b0 : u2.cell? ⟨w.heap.size + 1, 0, none⟩ = some (.int .i64 0) := by go_simp
  have b1 : u2.cell? ⟨w.heap.size + 1, 1, none⟩ = some (.int .i64 0) := by go_simp
  have b2 : u2.cell? ⟨w.heap.size + 1, 2, none⟩ = some (.int .i64 0) := by go_simp
  refine ret_cell_tmp Tryd.results14 rfl rfl (load_Dyad _ _ _ _ _ (set3 b0 b1 b2 _ _ _).1 (set3 b0 b1 b2 _ _ _).2.1 (set3 b0 b1 b2 _ _ _).2.2) ⟨rfl, by go_grown⟩
theorem impl_DyadSquare_no (r i s : Int) (w : World) (h : SQ r i s = false) :
    Calls Tryd.prog 14 #[.agg #[.int .i64 r, .int .i64 i, .int .i64 s]] w (Gives (.tuple #[.agg #[.int .i64 0, .int .i64 0, .int .i64 0], .bool false]) w) := by
  cases h1 : DV r i s
  · have H1 := Lib.hid h1; clear h h1
    go_enter Tryd.func14, Tryd.ntmps14
    go_wp2_with fail
    refine (valid_any r i s _).mono ?_
    rw [H1.out]
    rintro e u1 ⟨rfl, hb⟩
    have hB1 : Below w.heap.size w u1 := Below.trans (by go_grown) (hb.mono (by go_size))
    have hz1 := hb.size
    try simp at hz1
    have hw1 := hB1.size
    obtain ⟨hc1, hf1⟩ := bcell hb
    clear hb
    try have s0_0_1 : w.heap.size < u1.heap.size := by omega
    try have l0_0_1 : w.heap.size ≤ u1.heap.size := by omega
    try have s0_1_1 : w.heap.size + 1 < u1.heap.size := by omega
    try have l0_1_1 : w.heap.size + 1 ≤ u1.heap.size := by omega
    go_wp2
    have b0 : u1.cell? ⟨w.heap.size + 1, 0, none⟩ = some (.int .i64 0) := by go_simp
    have b1 : u1.cell? ⟨w.heap.size + 1, 1, none⟩ = some (.int .i64 0) := by go_simp
    have b2 : u1.cell? ⟨w.heap.size + 1, 2, none⟩ = some (.int .i64 0) := by go_simp
    refine ret_cell_tmp Tryd.results14 rfl rfl (load_Dyad _ _ _ _ _ (set3 b0 b1 b2 _ _ _).1 (set3 b0 b1 b2 _ _ _).2.1 (set3 b0 b1 b2 _ _ _).2.2) ⟨rfl, by go_grown⟩
  · have h2 : MK (SR r i) (SI r i) (2 * s) = false := by unfold SQ at h; rw [h1, Bool.true_and] at h; exact h
    obtain ⟨a1, a2, a3, a4, a5, a6, _⟩ := (DV_iff r i s).1 h1
    obtain ⟨q1, q2⟩ := sq_bd30 r ⟨a1, a2⟩
    obtain ⟨q3, q4⟩ := sq_bd30 i ⟨a3, a4⟩
    obtain ⟨q5, q6⟩ := mul_bd30 r i ⟨a1, a2⟩ ⟨a3, a4⟩
    have e1 : (2 * r) * i = 2 * (r * i) := Int.mul_assoc _ _ _
    have k1 : -2305843009213693952 ≤ 2 * r * i := by omega
    have k2 : 2 * r * i ≤ 2305843009213693952 := by omega
    have H1 := Lib.hid h1; have H2 := Lib.hid h2; clear h h1 h2 e1
    go_enter Tryd.func14, Tryd.ntmps14
    go_wp2_with fail
    refine (valid_any r i s _).mono ?_
    rw [H1.out]
    rintro e u1 ⟨rfl, hb⟩
    have hB1 : Below w.heap.size w u1 := Below.trans (by go_grown) (hb.mono (by go_size))
    have hz1 := hb.size
    try simp at hz1
    have hw1 := hB1.size
    obtain ⟨hc1, hf1⟩ := bcell hb
    clear hb
    try have s0_0_1 : w.heap.size < u1.heap.size := by omega
    try have l0_0_1 : w.heap.size ≤ u1.heap.size := by omega
    try have s0_1_1 : w.heap.size + 1 < u1.heap.size := by omega
    try have l0_1_1 : w.heap.size + 1 ≤ u1.heap.size := by omega
    go_wp2_with fail
    refine (impl_DyadMake_no (SR r i) (SI r i) (2 * s) _ H2.out).mono ?_
    rintro e u2 ⟨rfl, hb⟩
    have hB2 : Below w.heap.size w u2 := Below.trans (by go_grown) (hb.mono (by go_size))
    have hz2 := hb.size
    try simp at hz2
    have hw2 := hB2.size
    obtain ⟨hc2, hf2⟩ := bcell hb
    clear hb
    try have s0_0_2 : w.heap.size < u2.heap.size := by omega
    try have l0_0_2 : w.heap.size ≤ u2.heap.size := by omega
    try have s0_1_2 : w.heap.size + 1 < u2.heap.size := by omega
    try have l0_1_2 : w.heap.size + 1 ≤ u2.heap.size := by omega
    try have s1_0_2 : u1.heap.size < u2.heap.size := by omega
    try have l1_0_2 : u1.heap.size ≤ u2.heap.size := by omega
    go_wp2
    have b0 : u2.cell? ⟨w.heap.size + 1, 0, none⟩ = some (.int .i64 0) := by go_simp
    have b1 : u2.cell? ⟨w.heap.size + 1, 1, none⟩ = some (.int .i64 0) := by go_simp
    have b2 : u2.cell? ⟨w.heap.size + 1, 2, none⟩ = some (.int .i64 0) := by go_simp
    refine ret_cell_tmp Tryd.results14 rfl rfl (load_Dyad _ _ _ _ _ (set3 b0 b1 b2 _ _ _).1 (set3 b0 b1 b2 _ _ _).2.1 (set3 b0 b1 b2 _ _ _).2.2) ⟨rfl, by go_grown⟩

theorem spec_DyadSquare_yes (r i s : Int) (w : World) (h : SQ r i s = true) :
    Calls Tryd.prog 44 #[.agg #[.int .i64 r, .int .i64 i, .int .i64 s]] w (Gives (.tuple #[.agg #[.int .i64 (lR (SR r i) (SI r i) (2 * s)), .int .i64 (lI (SR r i) (SI r i) (2 * s)), .int .i64 (lS (SR r i) (SI r i) (2 * s))], .bool true]) w) := by
  obtain ⟨h1, h2⟩ := Bool.and_eq_true_iff.1 h
  obtain ⟨a1, a2, a3, a4, a5, a6, _⟩ := (DV_iff r i s).1 h1
  obtain ⟨q1, q2⟩ := sq_bd30 r ⟨a1, a2⟩
  obtain ⟨q3, q4⟩ := sq_bd30 i ⟨a3, a4⟩
  obtain ⟨q5, q6⟩ := mul_bd30 r i ⟨a1, a2⟩ ⟨a3, a4⟩
  have e1 : (2 * r) * i = 2 * (r * i) := Int.mul_assoc _ _ _
  have k1 : -2305843009213693952 ≤ 2 * r * i := by omega
  have k2 : 2 * r * i ≤ 2305843009213693952 := by omega
  obtain ⟨k3, k4, k5, k6, k7, k8⟩ := (MKr_iff _ _ _).1 (sq_ok r i s h1)
  obtain ⟨g1, g2, _⟩ := l_le (SR r i) (SI r i) (2 * s) k3
  have HR := Lib.hid (I64_of_le g1 ⟨k5, k6⟩); have HI := Lib.hid (I64_of_le g2 ⟨k7, k8⟩)
  have HSR : Hid (I64 (SR r i)) := ⟨by omega, by omega⟩
  have HSI : Hid (I64 (SI r i)) := ⟨by omega, by omega⟩
  clear g1 g2 k3 k4 k5 k6 k7 k8
  have H1 := Lib.hid h1; have H2 := Lib.hid (Bool.and_eq_true_iff.1 h2).2; clear h h1 h2 e1
  go_enter Tryd.func44, Tryd.ntmps44
  go_wp2_with fail
  refine (spec_DyadValid_any r i s _ ⟨by omega, by omega⟩ ⟨by omega, by omega⟩).mono ?_
  rw [H1.out]
  rintro e u1 ⟨rfl, hb⟩
  have hB1 : Below w.heap.size w u1 := Below.trans (by go_grown) (hb.mono (by go_size))
  have hz1 := hb.size
  try simp at hz1
  have hw1 := hB1.size
  obtain ⟨hc1, hf1⟩ := bcell hb
  clear hb
  try have s0_0_1 : w.heap.size < u1.heap.size := by omega
  try have l0_0_1 : w.heap.size ≤ u1.heap.size := by omega
  try have s0_1_1 : w.heap.size + 1 < u1.heap.size := by omega
  try have l0_1_1 : w.heap.size + 1 ≤ u1.heap.size := by omega
  go_wp2_with fail
  refine (l2Low_any (SR r i) (SI r i) (2 * s) _ HSR.out HSI.out (by omega) (by omega)).mono ?_
  rintro e u2 ⟨rfl, hb⟩
  have hB2 : Below w.heap.size w u2 := Below.trans (by go_grown) (hb.mono (by go_size))
  have hz2 := hb.size
  try simp at hz2
  have hw2 := hB2.size
  obtain ⟨hc2, hf2⟩ := bcell hb
  clear hb
  try have s0_0_2 : w.heap.size < u2.heap.size := by omega
  try have l0_0_2 : w.heap.size ≤ u2.heap.size := by omega
  try have s0_1_2 : w.heap.size + 1 < u2.heap.size := by omega
  try have l0_1_2 : w.heap.size + 1 ≤ u2.heap.size := by omega
  try have s1_0_2 : u1.heap.size < u2.heap.size := by omega
  try have l1_0_2 : u1.heap.size ≤ u2.heap.size := by omega
  go_wp2_with fail
  refine (l2Done_yes _ _ _ _ HR.out HI.out H2.out).mono ?_
  rintro e u3 ⟨rfl, hb⟩
  have hB3 : Below w.heap.size w u3 := Below.trans (by go_grown) (hb.mono (by go_size))
  have hz3 := hb.size
  try simp at hz3
  have hw3 := hB3.size
  obtain ⟨hc3, hf3⟩ := bcell hb
  clear hb
  try have s0_0_3 : w.heap.size < u3.heap.size := by omega
  try have l0_0_3 : w.heap.size ≤ u3.heap.size := by omega
  try have s0_1_3 : w.heap.size + 1 < u3.heap.size := by omega
  try have l0_1_3 : w.heap.size + 1 ≤ u3.heap.size := by omega
  try have s1_0_3 : u1.heap.size < u3.heap.size := by omega
  try have l1_0_3 : u1.heap.size ≤ u3.heap.size := by omega
  try have s2_0_3 : u2.heap.size < u3.heap.size := by omega
  try have l2_0_3 : u2.heap.size ≤ u3.heap.size := by omega
  go_wp2
  have b0 : u3.cell? ⟨w.heap.size + 1, 0, none⟩ = some (.int .i64 0) := by go_simp
  have b1 : u3.cell? ⟨w.heap.size + 1, 1, none⟩ = some (.int .i64 0) := by go_simp
  have b2 : u3.cell? ⟨w.heap.size + 1, 2, none⟩ = some (.int .i64 0) := by go_simp
  refine ret_cell_tmp Tryd.results44 rfl rfl (load_Dyad _ _ _ _ _ (set3 b0 b1 b2 _ _ _).1 (set3 b0 b1 b2 _ _ _).2.1 (set3 b0 b1 b2 _ _ _).2.2) ⟨rfl, by go_grown⟩
theorem spec_DyadSquare_no (r i s : Int) (w : World) (hr : I64 r) (hi : I64 i) (h : SQ r i s = false) :
    Calls Tryd.prog 44 #[.agg #[.int .i64 r, .int .i64 i, .int .i64 s]] w (Gives (.tuple #[.agg #[.int .i64 0, .int .i64 0, .int .i64 0], .bool false]) w) := by
  cases h1 : DV r i s
  · have H1 := Lib.hid h1; clear h h1
    have HR := Lib.hid hr; have HI := Lib.hid hi; clear hr hi
    go_enter Tryd.func44, Tryd.ntmps44
    go_wp2_with fail
    refine (spec_DyadValid_any r i s _ HR.out HI.out).mono ?_
    rw [H1.out]
    rintro e u1 ⟨rfl, hb⟩
    have hB1 : Below w.heap.size w u1 := Below.trans (by go_grown) (hb.mono (by go_size))
    have hz1 := hb.size
    try simp at hz1
    have hw1 := hB1.size
    obtain ⟨hc1, hf1⟩ := bcell hb
    clear hb
    try have s0_0_1 : w.heap.size < u1.heap.size := by omega
    try have l0_0_1 : w.heap.size ≤ u1.heap.size := by omega
    try have s0_1_1 : w.heap.size + 1 < u1.heap.size := by omega
    try have l0_1_1 : w.heap.size + 1 ≤ u1.heap.size := by omega
    go_wp2
    have b0 : u1.cell? ⟨w.heap.size + 1, 0, none⟩ = some (.int .i64 0) := by go_simp
    have b1 : u1.cell? ⟨w.heap.size + 1, 1, none⟩ = some (.int .i64 0) := by go_simp
    have b2 : u1.cell? ⟨w.heap.size + 1, 2, none⟩ = some (.int .i64 0) := by go_simp
    refine ret_cell_tmp Tryd.results44 rfl rfl (load_Dyad _ _ _ _ _ (set3 b0 b1 b2 _ _ _).1 (set3 b0 b1 b2 _ _ _).2.1 (set3 b0 b1 b2 _ _ _).2.2) ⟨rfl, by go_grown⟩
  · have h2 : MK (SR r i) (SI r i) (2 * s) = false := by unfold SQ at h; rw [h1, Bool.true_and] at h; exact h
    have h3 : DV (lR (SR r i) (SI r i) (2 * s)) (lI (SR r i) (SI r i) (2 * s)) (lS (SR r i) (SI r i) (2 * s)) = false := by unfold MK at h2; rw [sq_ok r i s h1, Bool.true_and] at h2; exact h2
    clear hr hi
    obtain ⟨a1, a2, a3, a4, a5, a6, _⟩ := (DV_iff r i s).1 h1
    obtain ⟨q1, q2⟩ := sq_bd30 r ⟨a1, a2⟩
    obtain ⟨q3, q4⟩ := sq_bd30 i ⟨a3, a4⟩
    obtain ⟨q5, q6⟩ := mul_bd30 r i ⟨a1, a2⟩ ⟨a3, a4⟩
    have e1 : (2 * r) * i = 2 * (r * i) := Int.mul_assoc _ _ _
    have k1 : -2305843009213693952 ≤ 2 * r * i := by omega
    have k2 : 2 * r * i ≤ 2305843009213693952 := by omega
    obtain ⟨k3, k4, k5, k6, k7, k8⟩ := (MKr_iff _ _ _).1 (sq_ok r i s h1)
    obtain ⟨g1, g2, _⟩ := l_le (SR r i) (SI r i) (2 * s) k3
    have HR := Lib.hid (I64_of_le g1 ⟨k5, k6⟩); have HI := Lib.hid (I64_of_le g2 ⟨k7, k8⟩)
    have HSR : Hid (I64 (SR r i)) := ⟨by omega, by omega⟩
    have HSI : Hid (I64 (SI r i)) := ⟨by omega, by omega⟩
    clear g1 g2 k3 k4 k5 k6 k7 k8
    have H1 := Lib.hid h1; have H2 := Lib.hid h3; clear h h1 h2 h3 e1
    go_enter Tryd.func44, Tryd.ntmps44
    go_wp2_with fail
    refine (spec_DyadValid_any r i s _ ⟨by omega, by omega⟩ ⟨by omega, by omega⟩).mono ?_
    rw [H1.out]
    rintro e u1 ⟨rfl, hb⟩
    have hB1 : Below w.heap.size w u1 := Below.trans (by go_grown) (hb.mono (by go_size))
    have hz1 := hb.size
    try simp at hz1
    have hw1 := hB1.size
    obtain ⟨hc1, hf1⟩ := bcell hb
    clear hb
    try have s0_0_1 : w.heap.size < u1.heap.size := by omega
    try have l0_0_1 : w.heap.size ≤ u1.heap.size := by omega
    try have s0_1_1 : w.heap.size + 1 < u1.heap.size := by omega
    try have l0_1_1 : w.heap.size + 1 ≤ u1.heap.size := by omega
    go_wp2_with fail
    refine (l2Low_any (SR r i) (SI r i) (2 * s) _ HSR.out HSI.out (by omega) (by omega)).mono ?_
    rintro e u2 ⟨rfl, hb⟩
    have hB2 : Below w.heap.size w u2 := Below.trans (by go_grown) (hb.mono (by go_size))
    have hz2 := hb.size
    try simp at hz2
    have hw2 := hB2.size
    obtain ⟨hc2, hf2⟩ := bcell hb
    clear hb
    try have s0_0_2 : w.heap.size < u2.heap.size := by omega
    try have l0_0_2 : w.heap.size ≤ u2.heap.size := by omega
    try have s0_1_2 : w.heap.size + 1 < u2.heap.size := by omega
    try have l0_1_2 : w.heap.size + 1 ≤ u2.heap.size := by omega
    try have s1_0_2 : u1.heap.size < u2.heap.size := by omega
    try have l1_0_2 : u1.heap.size ≤ u2.heap.size := by omega
    go_wp2_with fail
    refine (l2Done_no _ _ _ _ HR.out HI.out H2.out).mono ?_
    rintro e u3 ⟨rfl, hb⟩
    have hB3 : Below w.heap.size w u3 := Below.trans (by go_grown) (hb.mono (by go_size))
    have hz3 := hb.size
    try simp at hz3
    have hw3 := hB3.size
    obtain ⟨hc3, hf3⟩ := bcell hb
    clear hb
    try have s0_0_3 : w.heap.size < u3.heap.size := by omega
    try have l0_0_3 : w.heap.size ≤ u3.heap.size := by omega
    try have s0_1_3 : w.heap.size + 1 < u3.heap.size := by omega
    try have l0_1_3 : w.heap.size + 1 ≤ u3.heap.size := by omega
    try have s1_0_3 : u1.heap.size < u3.heap.size := by omega
    try have l1_0_3 : u1.heap.size ≤ u3.heap.size := by omega
    try have s2_0_3 : u2.heap.size < u3.heap.size := by omega
    try have l2_0_3 : u2.heap.size ≤ u3.heap.size := by omega
    go_wp2
    have b0 : u3.cell? ⟨w.heap.size + 1, 0, none⟩ = some (.int .i64 0) := by go_simp
    have b1 : u3.cell? ⟨w.heap.size + 1, 1, none⟩ = some (.int .i64 0) := by go_simp
    have b2 : u3.cell? ⟨w.heap.size + 1, 2, none⟩ = some (.int .i64 0) := by go_simp
    refine ret_cell_tmp Tryd.results44 rfl rfl (load_Dyad _ _ _ _ _ (set3 b0 b1 b2 _ _ _).1 (set3 b0 b1 b2 _ _ _).2.1 (set3 b0 b1 b2 _ _ _).2.2) ⟨rfl, by go_grown⟩

end Go.Proofs.YtjpmpjcenajmbaaDoor
/- What DyadAdd gives. -/
namespace Go.Proofs.YtjpmpjcenajmbaaDoor
set_option linter.unusedSimpArgs false
set_option linter.unusedVariables false
open Go.RowKit

theorem l2Size_any (n : Int) (w : World) (_h : -9223372036854775807 ≤ n) (_h' : n ≤ 9223372036854775807) :
    Calls Tryd.prog 69 #[.int .i64 n] w fun e w' => e = .returned (.int .i64 n.natAbs) ∧ w = w' := by
  by_cases h0 : n < 0
  · have HE : Hid (((n.natAbs : Nat) : Int) = -n) := by unfold Hid; omega
    go_enter Tryd.func69, Tryd.ntmps69
    go_wp2
    go_returns
    exact ⟨by rw [HE.out]; first | done | simp, rfl⟩
  · have HE : Hid (((n.natAbs : Nat) : Int) = n) := by unfold Hid; omega
    go_enter Tryd.func69, Tryd.ntmps69
    go_wp2
    go_returns
    exact ⟨by rw [HE.out]; first | done | rfl, rfl⟩

theorem RA_step (n : Int) (k : Nat) (j : Nat) (hj : j < k) (h : 1152921504606846976 < (n * 2 ^ j).natAbs) : RA n k = false := by
  unfold RA
  rw [decide_eq_false_iff_not]
  rintro (h0 | h0)
  · omega
  · rw [abs_mul_pow] at h
    have h1 : 2 ^ j ≤ 2 ^ ((k : Int) - 1).toNat := Nat.pow_le_pow_right (by omega) (by omega)
    have h2 := Nat.mul_le_mul_left n.natAbs h1
    omega
theorem RA_end (n : Int) (k : Nat) (h : k = 0 ∨ n.natAbs * 2 ^ (k - 1) ≤ 1152921504606846976) : RA n k = true := by
  unfold RA
  rw [decide_eq_true_iff]
  rcases h with h | h
  · left; omega
  · right; rw [show ((k : Int) - 1).toNat = k - 1 by omega]; exact h

/-- What raising gives. -/
def RV (n k : Int) : Value := if RA n k = true then .tuple #[.int .i64 (n * 2 ^ k.toNat), .bool true] else .tuple #[.int .i64 0, .bool false]
theorem RV_yes {n k : Int} (h : RA n k = true) : RV n k = .tuple #[.int .i64 (n * 2 ^ k.toNat), .bool true] := if_pos h
theorem RV_no {n k : Int} (h : RA n k = false) : RV n k = .tuple #[.int .i64 0, .bool false] := if_neg (by rw [h]; decide)

/-- The loop: j doublings are done. -/
def RaInv (n : Int) (k : Nat) (u i : Value) : Prop := ∃ j : Nat, ∃ x : Int, j ≤ k ∧ i = .int .i64 j ∧ u = .int .i64 x ∧ x = n * 2 ^ j ∧ x.natAbs ≤ 2305843009213693952 ∧ (j = 0 ∨ n.natAbs * 2 ^ (j - 1) ≤ 1152921504606846976)
theorem l2Raise_v (n : Int) (k : Nat) (w : World) (hn : n.natAbs ≤ 1073741824) (hk' : k ≤ 60) :
    Calls Tryd.prog 63 #[.int .i64 n, .int .i64 k] w fun e w' => e = .returned (RV n k) ∧ w = w' := by
  go_enter Tryd.func63, Tryd.ntmps63
  go_wp2
  go_loop [0, 6] (fun u i => RaInv n k u i) (fun _ i => k - (intOf i).toNat)
  case atStart => exact ⟨0, n, by omega, rfl, rfl, by simp, by omega, Or.inl rfl⟩
  case round =>
    obtain ⟨j, x, hj, rfl, rfl, hx, hb, hc⟩ := hrel
    have HX := Lib.hid hx; have HC := Lib.hid hc; clear hx hc
    have x1 : -2305843009213693952 ≤ x := by omega
    have x2 : x ≤ 2305843009213693952 := by omega
    by_cases hlt : j < k
    · by_cases hbig : 1152921504606846976 < x.natAbs
      · have hbig' : (1152921504606846976 : Int) < ((x.natAbs : Nat) : Int) := by omega
        have HR := Lib.hid (RV_no (RA_step n k j hlt (by rw [← HX.out]; exact hbig)))
        clear hbig hb
        go_wp2_with (go_at_call 69; refine (l2Size_any _ _ (by omega) (by omega)).mono ?_; rintro e w1 ⟨rfl, rfl⟩)
        go_returns
        exact ⟨by rw [HR.out]; first | done | rfl, rfl⟩
      · have hbig' : ¬ (1152921504606846976 : Int) < ((x.natAbs : Nat) : Int) := by omega
        have HB := Lib.hid hbig
        clear hbig hb
        go_wp2_with (go_at_call 69; refine (l2Size_any _ _ (by omega) (by omega)).mono ?_; rintro e w1 ⟨rfl, rfl⟩)
        have y1 : -1152921504606846976 ≤ x := by have := HB.out; omega
        have y2 : x ≤ 1152921504606846976 := by have := HB.out; omega
        go_wp2
        go_round
        case rel => exact ⟨j + 1, 2 * x, by omega, by go_num, rfl, by rw [HX.out, Int.pow_succ, Int.mul_comm 2, Int.mul_assoc], by omega, Or.inr (by rw [Nat.add_sub_cancel, ← abs_mul_pow, ← HX.out]; omega)⟩
        case measure => simp [intOf]; omega
    · obtain rfl : j = k := by omega
      have HR := Lib.hid (RV_yes (RA_end n j HC.out))
      go_wp2
      go_returns
      exact ⟨by rw [HR.out, HX.out]; first | done | simp, rfl⟩

/-! ### DyadAdd -/
theorem l2Raise_yes (n k : Int) (w : World) (hn : n.natAbs ≤ 1073741824) (h0 : 0 ≤ k) (hk : k ≤ 60) (h : RA n k = true) :
    Calls Tryd.prog 63 #[.int .i64 n, .int .i64 k] w (Gives (.tuple #[.int .i64 (n * 2 ^ k.toNat), .bool true]) w) := by
  obtain ⟨m, rfl⟩ := Int.eq_ofNat_of_zero_le h0
  refine (l2Raise_v n m w hn (by omega)).mono ?_
  rintro e w' ⟨rfl, rfl⟩
  exact ⟨by rw [RV_yes h], Below.refl _ _⟩
theorem l2Raise_no (n k : Int) (w : World) (hn : n.natAbs ≤ 1073741824) (h0 : 0 ≤ k) (hk : k ≤ 60) (h : RA n k = false) :
    Calls Tryd.prog 63 #[.int .i64 n, .int .i64 k] w (Gives (.tuple #[.int .i64 0, .bool false]) w) := by
  obtain ⟨m, rfl⟩ := Int.eq_ofNat_of_zero_le h0
  refine (l2Raise_v n m w hn (by omega)).mono ?_
  rintro e w' ⟨rfl, rfl⟩
  exact ⟨by rw [RV_no h], Below.refl _ _⟩

theorem l2Raise_0 (n : Int) (w : World) (hn : n.natAbs ≤ 1073741824) :
    Calls Tryd.prog 63 #[.int .i64 n, .int .i64 0] w (Gives (.tuple #[.int .i64 n, .bool true]) w) := by
  refine (l2Raise_yes n 0 w hn (by omega) (by omega) (RA_zero n)).mono ?_
  intro e w' h
  simpa using h

end Go.Proofs.YtjpmpjcenajmbaaDoor
