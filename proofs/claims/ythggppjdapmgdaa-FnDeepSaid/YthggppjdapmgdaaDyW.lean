/- What the small functions on exact numbers give: validity, lowest terms, DyadMake. -/
import Derived.Test.YthggppjdapmgdaaBase
import Derived.Test.YthggppjdapmgdaaDyM
import Derived.Laws.BitsAllLaws
namespace Go.Proofs.Ythggppjdapmgdaa
set_option linter.unusedSimpArgs false
set_option linter.unusedVariables false
open Go.RowKit

theorem and_one (x : Int) : bits .and .i64 x 1 = x % 2 := by
  show IntKind.i64.wrap ((BitVec.ofInt 64 x &&& BitVec.ofInt 64 1).toNat : Int) = _
  have h1 : (BitVec.ofInt 64 1 : BitVec 64).toNat = 1 := by decide
  rw [BitVec.toNat_and, h1, Nat.and_one_is_mod, BitVec.toNat_ofInt]
  simp [IntKind.wrap, IntKind.bits, IntKind.signed]
  omega
theorem tmod_two (x : Int) : (x.tmod 2 == 0) = decide (x % 2 = 0) := by
  rw [Bool.eq_iff_iff, beq_iff_eq, decide_eq_true_iff]
  by_cases h : 0 ≤ x
  · rw [Int.tmod_eq_emod_of_nonneg h]
  · obtain ⟨m, rfl⟩ : ∃ m, x = -m := ⟨-x, by omega⟩
    rw [Int.neg_tmod, Int.tmod_eq_emod_of_nonneg (by omega)]; omega
theorem tdiv_two (x : Int) (h : x % 2 = 0) : x.tdiv 2 = x / 2 := by
  by_cases h0 : 0 ≤ x
  · rw [Int.tdiv_eq_ediv_of_nonneg h0]
  · obtain ⟨m, rfl⟩ : ∃ m, x = -m := ⟨-x, by omega⟩
    rw [Int.neg_tdiv, Int.tdiv_eq_ediv_of_nonneg (by omega)]; omega
theorem tmod_two_t {x : Int} (h : x % 2 = 0) : (x.tmod 2 == 0) = true := by rw [tmod_two]; simpa using h
theorem tmod_two_f {x : Int} (h : ¬ x % 2 = 0) : (x.tmod 2 == 0) = false := by rw [tmod_two]; simpa using h

theorem toDyad_any (r i s : Int) (w : World) :
    Calls Try.prog 43 #[.agg #[.int .i64 r, .int .i64 i, .int .i64 s]] w (Gives (.agg #[.int .i64 r, .int .i64 i, .int .i64 s]) w) := by
  go_enter Try.func43, Try.ntmps43
  go_wp2
  go_returns
  refine ⟨rfl, ?_⟩
  go_grown


theorem even_any (r i s : Int) (w : World) :
    Calls Try.prog 96 #[.agg #[.int .i64 r, .int .i64 i, .int .i64 s]] w (Gives (.bool (decide (r % 2 = 0) && decide (i % 2 = 0))) w) := by
  have e1 := and_one r
  have e2 := and_one i
  have hr := Int.emod_nonneg r (show (2 : Int) ≠ 0 by decide)
  have hi := Int.emod_nonneg i (show (2 : Int) ≠ 0 by decide)
  by_cases h1 : r % 2 = 0
  · have h1' : ((r % 2 : Int) == 0) = true := by rw [h1]; rfl
    have H1 := Lib.hid h1; clear h1
    by_cases h2 : i % 2 = 0
    · have h2' : ((i % 2 : Int) == 0) = true := by rw [h2]; rfl
      have H2 := Lib.hid h2; clear h2
      go_enter Try.func96, Try.ntmps96
      go_wp2
      go_returns
      exact ⟨by simp [H1.out, H2.out], by go_grown⟩
    · have h2' : ((i % 2 : Int) == 0) = false := by rw [beq_eq_false_iff_ne]; exact h2
      have H2 := Lib.hid h2; clear h2
      go_enter Try.func96, Try.ntmps96
      go_wp2
      go_returns
      exact ⟨by simp [H2.out], by go_grown⟩
  · have h1' : ((r % 2 : Int) == 0) = false := by rw [beq_eq_false_iff_ne]; exact h1
    have H1 := Lib.hid h1; clear h1
    go_enter Try.func96, Try.ntmps96
    go_wp2
    go_returns
    exact ⟨by simp [H1.out], by go_grown⟩

theorem valid_any (r i s : Int) (w : World) :
    Calls Try.prog 61 #[.agg #[.int .i64 r, .int .i64 i, .int .i64 s]] w (Gives (.bool (DV r i s)) w) := by
  by_cases h1 : r < -1073741824
  · have HV : Hid (DV r i s = false) := (DV_false _ _ _).2 (by omega)
    go_enter Try.func61, Try.ntmps61
    go_wp2
    go_returns
    exact ⟨by rw [HV.out]; first | done | rfl, by go_grown⟩
  by_cases h2 : 1073741824 < r
  · have HV : Hid (DV r i s = false) := (DV_false _ _ _).2 (by omega)
    go_enter Try.func61, Try.ntmps61
    go_wp2
    go_returns
    exact ⟨by rw [HV.out]; first | done | rfl, by go_grown⟩
  by_cases h3 : i < -1073741824
  · have HV : Hid (DV r i s = false) := (DV_false _ _ _).2 (by omega)
    go_enter Try.func61, Try.ntmps61
    go_wp2
    go_returns
    exact ⟨by rw [HV.out]; first | done | rfl, by go_grown⟩
  by_cases h4 : 1073741824 < i
  · have HV : Hid (DV r i s = false) := (DV_false _ _ _).2 (by omega)
    go_enter Try.func61, Try.ntmps61
    go_wp2
    go_returns
    exact ⟨by rw [HV.out]; first | done | rfl, by go_grown⟩
  by_cases h5 : s < 0
  · have HV : Hid (DV r i s = false) := (DV_false _ _ _).2 (by omega)
    go_enter Try.func61, Try.ntmps61
    go_wp2
    go_returns
    exact ⟨by rw [HV.out]; first | done | rfl, by go_grown⟩
  by_cases h6 : 60 < s
  · have HV : Hid (DV r i s = false) := (DV_false _ _ _).2 (by omega)
    go_enter Try.func61, Try.ntmps61
    go_wp2
    go_returns
    exact ⟨by rw [HV.out]; first | done | rfl, by go_grown⟩
  by_cases h7 : s = 0
  · subst h7
    have HV : Hid (DV r i 0 = true) := (DV_iff _ _ _).2 (by omega)
    go_enter Try.func61, Try.ntmps61
    go_wp2
    go_returns
    exact ⟨by rw [HV.out]; first | done | rfl, by go_grown⟩
  · have h7' : (s == 0) = false := by rw [beq_eq_false_iff_ne]; exact h7
    have HV : Hid ((!decide (r % 2 = 0) || !decide (i % 2 = 0)) = DV r i s) := by
      rw [Hid, Bool.eq_iff_iff, DV_iff]; simp; omega
    clear h7
    go_enter Try.func61, Try.ntmps61
    go_wp2_with (go_at_call 96; refine (even_any r i s _).mono ?_; rintro e w1 ⟨rfl, hb⟩; have hB : Below w.heap.size w w1 := Below.trans (by go_grown) (hb.mono (by go_size)); have hz := hB.size; have hz2 := hb.size; (try simp at hz2); have hs0 : w.heap.size < w1.heap.size := (by omega); obtain ⟨hc, hf⟩ := bcell hb; clear hb)
    go_returns
    exact ⟨by rw [← HV.out]; first | done | rfl, hB⟩

theorem impl_DyadValid_any (r i s : Int) (w : World) :
    Calls Try.prog 56 #[.agg #[.int .i64 r, .int .i64 i, .int .i64 s]] w (Gives (.bool (DV r i s)) w) := by
  go_enter Try.func56, Try.ntmps56
  go_wp2_with (go_at_call 61; refine (valid_any r i s _).mono ?_; rintro e w1 ⟨rfl, hb⟩; have hB : Below w.heap.size w w1 := Below.trans (by go_grown) (hb.mono (by go_size)); have hz := hB.size; have hz2 := hb.size; (try simp at hz2); have hs0 : w.heap.size < w1.heap.size := (by omega); obtain ⟨hc, hf⟩ := bcell hb; clear hb)
  go_returns
  exact ⟨rfl, hB⟩

theorem spec_DyadValid_any (r i s : Int) (w : World) (_hr : I64 r) (_hi : I64 i) :
    Calls Try.prog 59 #[.agg #[.int .i64 r, .int .i64 i, .int .i64 s]] w (Gives (.bool (DV r i s)) w) := by
  obtain ⟨_hr1, _hr2⟩ := _hr
  obtain ⟨_hi1, _hi2⟩ := _hi
  by_cases h1 : -1073741824 ≤ r ∧ r ≤ 1073741824
  · have e1 : (decide (-1073741824 ≤ r) && decide (r ≤ 1073741824)) = true := by simp; omega
    have H1 := Lib.hid h1; clear h1
    by_cases h2 : -1073741824 ≤ i ∧ i ≤ 1073741824
    · have e2 : (decide (-1073741824 ≤ i) && decide (i ≤ 1073741824)) = true := by simp; omega
      have H2 := Lib.hid h2; clear h2
      by_cases h3 : 0 ≤ s ∧ s ≤ 60
      · have e3 : (decide (0 ≤ s) && decide (s ≤ 60)) = true := by simp; omega
        have H3 := Lib.hid h3; clear h3
        by_cases h4 : s = 0
        · subst h4
          have HV : Hid (DV r i 0 = true) := (DV_iff _ _ _).2 (by have := H1.out; have := H2.out; omega)
          go_enter Try.func59, Try.ntmps59
          go_wp2_with (go_at_call 78; refine (l6In_any _ _ _ _).mono ?_; rintro e w1 ⟨rfl, rfl⟩)
          go_returns
          exact ⟨by rw [HV.out]; first | done | rfl, by go_grown⟩
        · have h4' : (s == 0) = false := by rw [beq_eq_false_iff_ne]; exact h4
          by_cases h5 : r % 2 = 0
          · have e5 : (r.tmod 2 != 0) = false := by rw [bne, tmod_two_t h5]; rfl
            have e5' := tmod_two_t h5
            by_cases h6 : i % 2 = 0
            · have e6 : (i.tmod 2 != 0) = false := by rw [bne, tmod_two_t h6]; rfl
              have e6' := tmod_two_t h6
              have HV : Hid (DV r i s = false) := (DV_false _ _ _).2 (by omega)
              clear h4 h5 h6
              go_enter Try.func59, Try.ntmps59
              go_wp2_with (go_at_call 78; refine (l6In_any _ _ _ _).mono ?_; rintro e w1 ⟨rfl, rfl⟩)
              go_returns
              exact ⟨by rw [HV.out]; first | done | rfl, by go_grown⟩
            · have e6 : (i.tmod 2 != 0) = true := by rw [bne, tmod_two_f h6]; rfl
              have e6' := tmod_two_f h6
              have HV : Hid (DV r i s = true) := (DV_iff _ _ _).2 (by have := H1.out; have := H2.out; have := H3.out; omega)
              clear h4 h5 h6
              go_enter Try.func59, Try.ntmps59
              go_wp2_with (go_at_call 78; refine (l6In_any _ _ _ _).mono ?_; rintro e w1 ⟨rfl, rfl⟩)
              go_returns
              exact ⟨by rw [HV.out]; first | done | rfl, by go_grown⟩
          · have e5 : (r.tmod 2 != 0) = true := by rw [bne, tmod_two_f h5]; rfl
            have e5' := tmod_two_f h5
            have HV : Hid (DV r i s = true) := (DV_iff _ _ _).2 (by have := H1.out; have := H2.out; have := H3.out; omega)
            clear h4 h5
            go_enter Try.func59, Try.ntmps59
            go_wp2_with (go_at_call 78; refine (l6In_any _ _ _ _).mono ?_; rintro e w1 ⟨rfl, rfl⟩)
            go_returns
            exact ⟨by rw [HV.out]; first | done | rfl, by go_grown⟩
      · have e3 : (decide (0 ≤ s) && decide (s ≤ 60)) = false := by simp; omega
        have HV : Hid (DV r i s = false) := (DV_false _ _ _).2 (by omega)
        clear h3
        go_enter Try.func59, Try.ntmps59
        go_wp2_with (go_at_call 78; refine (l6In_any _ _ _ _).mono ?_; rintro e w1 ⟨rfl, rfl⟩)
        go_returns
        exact ⟨by rw [HV.out]; first | done | rfl, by go_grown⟩
    · have e2 : (decide (-1073741824 ≤ i) && decide (i ≤ 1073741824)) = false := by simp; omega
      have HV : Hid (DV r i s = false) := (DV_false _ _ _).2 (by omega)
      clear h2
      go_enter Try.func59, Try.ntmps59
      go_wp2_with (go_at_call 78; refine (l6In_any _ _ _ _).mono ?_; rintro e w1 ⟨rfl, rfl⟩)
      go_returns
      exact ⟨by rw [HV.out]; first | done | rfl, by go_grown⟩
  · have e1 : (decide (-1073741824 ≤ r) && decide (r ≤ 1073741824)) = false := by simp; omega
    have HV : Hid (DV r i s = false) := (DV_false _ _ _).2 (by omega)
    clear h1
    go_enter Try.func59, Try.ntmps59
    go_wp2_with (go_at_call 78; refine (l6In_any _ _ _ _).mono ?_; rintro e w1 ⟨rfl, rfl⟩)
    go_returns
    exact ⟨by rw [HV.out]; first | done | rfl, by go_grown⟩

end Go.Proofs.Ythggppjdapmgdaa
