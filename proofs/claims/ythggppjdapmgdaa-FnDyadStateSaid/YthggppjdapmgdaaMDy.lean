import Derived.Test.YthggppjdapmgdaaBase
import Derived.Test.YthggppjdapmgdaaDyM
import Derived.Laws.BitsAllLaws
import Derived.Deep.LoopGhost
import Derived.Deep.DeepCutAuto
import Derived.Test.YthggppjdapmgdaaDyM2
import Derived.Deep.RegionHeld3
/- What the small functions on exact numbers give: validity, lowest terms, DyadMake. -/
namespace Go.Proofs.Ythggppjdapmgdaa
set_option linter.unusedSimpArgs false
set_option linter.unusedVariables false
open Go.RowKit

theorem and_one (x : Int) : bits .and .i64 x 1 = x % 2 := by
  show IntKind.i64.wrap ((BitVec.ofInt 64 x &&& BitVec.ofInt 64 1).toNat : Int) = _
  have h1 : (BitVec.ofInt 64 1 : BitVec 64).toNat = 1 := by decide
  rw [BitVec.toNat_and, h1, Nat.and_one_is_mod, BitVec.toNat_ofInt]
  simp [IntKind.wrap, IntKind.bits, IntKind.signed]
  omega
theorem tmod_two (x : Int) : (x.tmod 2 == 0) = decide (x % 2 = 0) := by
  rw [Bool.eq_iff_iff, beq_iff_eq, decide_eq_true_iff]
  by_cases h : 0 ≤ x
  · rw [Int.tmod_eq_emod_of_nonneg h]
  · obtain ⟨m, rfl⟩ : ∃ m, x = -m := ⟨-x, by omega⟩
    rw [Int.neg_tmod, Int.tmod_eq_emod_of_nonneg (by omega)]; omega
theorem tdiv_two (x : Int) (h : x % 2 = 0) : x.tdiv 2 = x / 2 := by
  by_cases h0 : 0 ≤ x
  · rw [Int.tdiv_eq_ediv_of_nonneg h0]
  · obtain ⟨m, rfl⟩ : ∃ m, x = -m := ⟨-x, by omega⟩
    rw [Int.neg_tdiv, Int.tdiv_eq_ediv_of_nonneg (by omega)]; omega
theorem tmod_two_t {x : Int} (h : x % 2 = 0) : (x.tmod 2 == 0) = true := by rw [tmod_two]; simpa using h
theorem tmod_two_f {x : Int} (h : ¬ x % 2 = 0) : (x.tmod 2 == 0) = false := by rw [tmod_two]; simpa using h

theorem toDyad_any (r i s : Int) (w : World) :
    Calls Try.prog 43 #[.agg #[.int .i64 r, .int .i64 i, .int .i64 s]] w (Gives (.agg #[.int .i64 r, .int .i64 i, .int .i64 s]) w) := by
  go_enter Try.func43, Try.ntmps43
  go_wp2
  go_returns
  refine ⟨rfl, ?_⟩
  go_grown


theorem even_any (r i s : Int) (w : World) :
    Calls Try.prog 96 #[.agg #[.int .i64 r, .int .i64 i, .int .i64 s]] w (Gives (.bool (decide (r % 2 = 0) && decide (i % 2 = 0))) w) := by
  have e1 := and_one r
  have e2 := and_one i
  have hr := Int.emod_nonneg r (show (2 : Int) ≠ 0 by decide)
  have hi := Int.emod_nonneg i (show (2 : Int) ≠ 0 by decide)
  by_cases h1 : r % 2 = 0
  · have h1' : ((r % 2 : Int) == 0) = true := by rw [h1]; rfl
    have H1 := Lib.hid h1; clear h1
    by_cases h2 : i % 2 = 0
    · have h2' : ((i % 2 : Int) == 0) = true := by rw [h2]; rfl
      have H2 := Lib.hid h2; clear h2
      go_enter Try.func96, Try.ntmps96
      go_wp2
      go_returns
      exact ⟨by simp [H1.out, H2.out], by go_grown⟩
    · have h2' : ((i % 2 : Int) == 0) = false := by rw [beq_eq_false_iff_ne]; exact h2
      have H2 := Lib.hid h2; clear h2
      go_enter Try.func96, Try.ntmps96
      go_wp2
      go_returns
      exact ⟨by simp [H2.out], by go_grown⟩
  · have h1' : ((r % 2 : Int) == 0) = false := by rw [beq_eq_false_iff_ne]; exact h1
    have H1 := Lib.hid h1; clear h1
    go_enter Try.func96, Try.ntmps96
    go_wp2
    go_returns
    exact ⟨by simp [H1.out], by go_grown⟩

theorem valid_any (r i s : Int) (w : World) :
    Calls Try.prog 61 #[.agg #[.int .i64 r, .int .i64 i, .int .i64 s]] w (Gives (.bool (DV r i s)) w) := by
  by_cases h1 : r < -1073741824
  · have HV : Hid (DV r i s = false) := (DV_false _ _ _).2 (by omega)
    go_enter Try.func61, Try.ntmps61
    go_wp2
    go_returns
    exact ⟨by rw [HV.out]; first | done | rfl, by go_grown⟩
  by_cases h2 : 1073741824 < r
  · have HV : Hid (DV r i s = false) := (DV_false _ _ _).2 (by omega)
    go_enter Try.func61, Try.ntmps61
    go_wp2
    go_returns
    exact ⟨by rw [HV.out]; first | done | rfl, by go_grown⟩
  by_cases h3 : i < -1073741824
  · have HV : Hid (DV r i s = false) := (DV_false _ _ _).2 (by omega)
    go_enter Try.func61, Try.ntmps61
    go_wp2
    go_returns
    exact ⟨by rw [HV.out]; first | done | rfl, by go_grown⟩
  by_cases h4 : 1073741824 < i
  · have HV : Hid (DV r i s = false) := (DV_false _ _ _).2 (by omega)
    go_enter Try.func61, Try.ntmps61
    go_wp2
    go_returns
    exact ⟨by rw [HV.out]; first | done | rfl, by go_grown⟩
  by_cases h5 : s < 0
  · have HV : Hid (DV r i s = false) := (DV_false _ _ _).2 (by omega)
    go_enter Try.func61, Try.ntmps61
    go_wp2
    go_returns
    exact ⟨by rw [HV.out]; first | done | rfl, by go_grown⟩
  by_cases h6 : 60 < s
  · have HV : Hid (DV r i s = false) := (DV_false _ _ _).2 (by omega)
    go_enter Try.func61, Try.ntmps61
    go_wp2
    go_returns
    exact ⟨by rw [HV.out]; first | done | rfl, by go_grown⟩
  by_cases h7 : s = 0
  · subst h7
    have HV : Hid (DV r i 0 = true) := (DV_iff _ _ _).2 (by omega)
    go_enter Try.func61, Try.ntmps61
    go_wp2
    go_returns
    exact ⟨by rw [HV.out]; first | done | rfl, by go_grown⟩
  · have h7' : (s == 0) = false := by rw [beq_eq_false_iff_ne]; exact h7
    have HV : Hid ((!decide (r % 2 = 0) || !decide (i % 2 = 0)) = DV r i s) := by
      rw [Hid, Bool.eq_iff_iff, DV_iff]; simp; omega
    clear h7
    go_enter Try.func61, Try.ntmps61
    go_wp2_with (go_at_call 96; refine (even_any r i s _).mono ?_; rintro e w1 ⟨rfl, hb⟩; have hB : Below w.heap.size w w1 := Below.trans (by go_grown) (hb.mono (by go_size)); have hz := hB.size; have hz2 := hb.size; (try simp at hz2); have hs0 : w.heap.size < w1.heap.size := (by omega); obtain ⟨hc, hf⟩ := bcell hb; clear hb)
    go_returns
    exact ⟨by rw [← HV.out]; first | done | rfl, hB⟩

theorem impl_DyadValid_any (r i s : Int) (w : World) :
    Calls Try.prog 56 #[.agg #[.int .i64 r, .int .i64 i, .int .i64 s]] w (Gives (.bool (DV r i s)) w) := by
  go_enter Try.func56, Try.ntmps56
  go_wp2_with (go_at_call 61; refine (valid_any r i s _).mono ?_; rintro e w1 ⟨rfl, hb⟩; have hB : Below w.heap.size w w1 := Below.trans (by go_grown) (hb.mono (by go_size)); have hz := hB.size; have hz2 := hb.size; (try simp at hz2); have hs0 : w.heap.size < w1.heap.size := (by omega); obtain ⟨hc, hf⟩ := bcell hb; clear hb)
  go_returns
  exact ⟨rfl, hB⟩

theorem spec_DyadValid_any (r i s : Int) (w : World) (_hr : I64 r) (_hi : I64 i) :
    Calls Try.prog 59 #[.agg #[.int .i64 r, .int .i64 i, .int .i64 s]] w (Gives (.bool (DV r i s)) w) := by
  obtain ⟨_hr1, _hr2⟩ := _hr
  obtain ⟨_hi1, _hi2⟩ := _hi
  by_cases h1 : -1073741824 ≤ r ∧ r ≤ 1073741824
  · have e1 : (decide (-1073741824 ≤ r) && decide (r ≤ 1073741824)) = true := by simp; omega
    have H1 := Lib.hid h1; clear h1
    by_cases h2 : -1073741824 ≤ i ∧ i ≤ 1073741824
    · have e2 : (decide (-1073741824 ≤ i) && decide (i ≤ 1073741824)) = true := by simp; omega
      have H2 := Lib.hid h2; clear h2
      by_cases h3 : 0 ≤ s ∧ s ≤ 60
      · have e3 : (decide (0 ≤ s) && decide (s ≤ 60)) = true := by simp; omega
        have H3 := Lib.hid h3; clear h3
        by_cases h4 : s = 0
        · subst h4
          have HV : Hid (DV r i 0 = true) := (DV_iff _ _ _).2 (by have := H1.out; have := H2.out; omega)
          go_enter Try.func59, Try.ntmps59
          go_wp2_with (go_at_call 78; refine (l6In_any _ _ _ _).mono ?_; rintro e w1 ⟨rfl, rfl⟩)
          go_returns
          exact ⟨by rw [HV.out]; first | done | rfl, by go_grown⟩
        · have h4' : (s == 0) = false := by rw [beq_eq_false_iff_ne]; exact h4
          by_cases h5 : r % 2 = 0
          · have e5 : (r.tmod 2 != 0) = false := by rw [bne, tmod_two_t h5]; rfl
            have e5' := tmod_two_t h5
            by_cases h6 : i % 2 = 0
            · have e6 : (i.tmod 2 != 0) = false := by rw [bne, tmod_two_t h6]; rfl
              have e6' := tmod_two_t h6
              have HV : Hid (DV r i s = false) := (DV_false _ _ _).2 (by omega)
              clear h4 h5 h6
              go_enter Try.func59, Try.ntmps59
              go_wp2_with (go_at_call 78; refine (l6In_any _ _ _ _).mono ?_; rintro e w1 ⟨rfl, rfl⟩)
              go_returns
              exact ⟨by rw [HV.out]; first | done | rfl, by go_grown⟩
            · have e6 : (i.tmod 2 != 0) = true := by rw [bne, tmod_two_f h6]; rfl
              have e6' := tmod_two_f h6
              have HV : Hid (DV r i s = true) := (DV_iff _ _ _).2 (by have := H1.out; have := H2.out; have := H3.out; omega)
              clear h4 h5 h6
              go_enter Try.func59, Try.ntmps59
              go_wp2_with (go_at_call 78; refine (l6In_any _ _ _ _).mono ?_; rintro e w1 ⟨rfl, rfl⟩)
              go_returns
              exact ⟨by rw [HV.out]; first | done | rfl, by go_grown⟩
          · have e5 : (r.tmod 2 != 0) = true := by rw [bne, tmod_two_f h5]; rfl
            have e5' := tmod_two_f h5
            have HV : Hid (DV r i s = true) := (DV_iff _ _ _).2 (by have := H1.out; have := H2.out; have := H3.out; omega)
            clear h4 h5
            go_enter Try.func59, Try.ntmps59
            go_wp2_with (go_at_call 78; refine (l6In_any _ _ _ _).mono ?_; rintro e w1 ⟨rfl, rfl⟩)
            go_returns
            exact ⟨by rw [HV.out]; first | done | rfl, by go_grown⟩
      · have e3 : (decide (0 ≤ s) && decide (s ≤ 60)) = false := by simp; omega
        have HV : Hid (DV r i s = false) := (DV_false _ _ _).2 (by omega)
        clear h3
        go_enter Try.func59, Try.ntmps59
        go_wp2_with (go_at_call 78; refine (l6In_any _ _ _ _).mono ?_; rintro e w1 ⟨rfl, rfl⟩)
        go_returns
        exact ⟨by rw [HV.out]; first | done | rfl, by go_grown⟩
    · have e2 : (decide (-1073741824 ≤ i) && decide (i ≤ 1073741824)) = false := by simp; omega
      have HV : Hid (DV r i s = false) := (DV_false _ _ _).2 (by omega)
      clear h2
      go_enter Try.func59, Try.ntmps59
      go_wp2_with (go_at_call 78; refine (l6In_any _ _ _ _).mono ?_; rintro e w1 ⟨rfl, rfl⟩)
      go_returns
      exact ⟨by rw [HV.out]; first | done | rfl, by go_grown⟩
  · have e1 : (decide (-1073741824 ≤ r) && decide (r ≤ 1073741824)) = false := by simp; omega
    have HV : Hid (DV r i s = false) := (DV_false _ _ _).2 (by omega)
    clear h1
    go_enter Try.func59, Try.ntmps59
    go_wp2_with (go_at_call 78; refine (l6In_any _ _ _ _).mono ?_; rintro e w1 ⟨rfl, rfl⟩)
    go_returns
    exact ⟨by rw [HV.out]; first | done | rfl, by go_grown⟩

end Go.Proofs.Ythggppjdapmgdaa
/- What lowest terms and DyadMake give. -/
namespace Go.Proofs.Ythggppjdapmgdaa
set_option linter.unusedSimpArgs false
set_option linter.unusedVariables false
open Go.RowKit

theorem l2Low_any (r i s : Int) (w : World) (hr : I64 r) (hi : I64 i) (hs : 0 ≤ s) (hs' : s ≤ 1000) :
    Calls Try.prog 93 #[.int .i64 r, .int .i64 i, .int .i64 s] w (Gives (.agg #[.int .i64 (lR r i s), .int .i64 (lI r i s), .int .i64 (lS r i s)]) w) := by
  go_enter Try.func93, Try.ntmps93
  go_wp2
  go_loop [0, 1, 2] (fun x y z => ∃ a b c : Int, x = .int .i64 a ∧ y = .int .i64 b ∧ z = .int .i64 c ∧ I64 a ∧ I64 b ∧ 0 ≤ c ∧ c ≤ 1000 ∧ lR a b c = lR r i s ∧ lI a b c = lI r i s ∧ lS a b c = lS r i s) (fun _ _ z => (intOf z).toNat)
  case atStart => exact ⟨r, i, s, rfl, rfl, rfl, hr, hi, hs, hs', rfl, rfl, rfl⟩
  case round =>
    obtain ⟨a, b, c, rfl, rfl, rfl, ⟨ha, ha'⟩, ⟨hb, hb'⟩, hc, hc', h1, h2, h3⟩ := hrel
    have H1 := Lib.hid h1; have H2 := Lib.hid h2; have H3 := Lib.hid h3; clear h1 h2 h3
    by_cases hc0 : c = 0
    · subst hc0
      have HS := Lib.hid (l_stop a b 0 (by omega) (Or.inl rfl))
      go_wp2
      refine ret_cell Try.results93 rfl (load_Dyad _ _ (.int .i64 a) (.int .i64 b) (.int .i64 0) (by go_simp) (by go_simp) (by go_simp)) ⟨?_, by go_grown⟩
      rw [← H1.out, ← H2.out, ← H3.out, HS.out.1, HS.out.2.1, HS.out.2.2]
    have hc1 : 1 ≤ c := by omega
    by_cases pa : a % 2 = 0
    · have e1 := tmod_two_t pa
      have e1' := tdiv_two a pa
      by_cases pb : b % 2 = 0
      · have e2 := tmod_two_t pb
        have e2' := tdiv_two b pb
        obtain ⟨s1, s2, s3⟩ := l_step a b c hc1 pa pb
        have S1 := Lib.hid s1; have S2 := Lib.hid s2; have S3 := Lib.hid s3; clear s1 s2 s3 pa pb
        go_wp2
        go_round
        case rel => exact ⟨a / 2, b / 2, c - 1, rfl, rfl, rfl, ⟨by omega, by omega⟩, ⟨by omega, by omega⟩, by omega, by omega, by rw [← H1.out, S1.out], by rw [← H2.out, S2.out], by rw [← H3.out, S3.out]⟩
        case measure => simp [intOf]; omega
      · have e2 := tmod_two_f pb
        have HS := Lib.hid (l_stop a b c hc (Or.inr (Or.inr pb)))
        clear pa pb
        go_wp2
        refine ret_cell Try.results93 rfl (load_Dyad _ _ (.int .i64 a) (.int .i64 b) (.int .i64 c) (by go_simp) (by go_simp) (by go_simp)) ⟨?_, by go_grown⟩
        rw [← H1.out, ← H2.out, ← H3.out, HS.out.1, HS.out.2.1, HS.out.2.2]
    · have e1 := tmod_two_f pa
      have HS := Lib.hid (l_stop a b c hc (Or.inr (Or.inl pa)))
      clear pa
      go_wp2
      refine ret_cell Try.results93 rfl (load_Dyad _ _ (.int .i64 a) (.int .i64 b) (.int .i64 c) (by go_simp) (by go_simp) (by go_simp)) ⟨?_, by go_grown⟩
      rw [← H1.out, ← H2.out, ← H3.out, HS.out.1, HS.out.2.1, HS.out.2.2]


theorem I64_of_le {x y : Int} (h : x.natAbs ≤ y.natAbs) (hy : -4611686018427387904 ≤ y ∧ y ≤ 4611686018427387904) : I64 x := ⟨by omega, by omega⟩


end Go.Proofs.Ythggppjdapmgdaa
/- What the program's DyadMake gives: its loop turns a number that lies in memory. -/
namespace Go.Proofs.Ythggppjdapmgdaa
set_option linter.unusedSimpArgs false
set_option linter.unusedVariables false
open Go.RowKit

/-- The number that DyadMake halves lies in block D; the result's block is still zero. -/
structure MkInv (w : World) (r i s : Int) (a b c : Int) (wr : World) : Prop where
  c0 : wr.cell? ⟨w.heap.size + 1, 0, none⟩ = some (.int .i64 a)
  c1 : wr.cell? ⟨w.heap.size + 1, 1, none⟩ = some (.int .i64 b)
  c2 : wr.cell? ⟨w.heap.size + 1, 2, none⟩ = some (.int .i64 c)
  f : ∀ o, wr.frozen? ⟨w.heap.size + 1, o, none⟩ = false
  r0 : wr.cell? ⟨w.heap.size, 0, none⟩ = some (.int .i64 0)
  r1 : wr.cell? ⟨w.heap.size, 1, none⟩ = some (.int .i64 0)
  r2 : wr.cell? ⟨w.heap.size, 2, none⟩ = some (.int .i64 0)
  rf : ∀ o, wr.frozen? ⟨w.heap.size, o, none⟩ = false
  below : Below w.heap.size w wr
  size : w.heap.size + 1 < wr.heap.size
  ba : -4611686018427387904 ≤ a ∧ a ≤ 4611686018427387904
  bb : -4611686018427387904 ≤ b ∧ b ≤ 4611686018427387904
  bc : 0 ≤ c ∧ c ≤ 120
  eR : lR a b c = lR r i s
  eI : lI a b c = lI r i s
  eS : lS a b c = lS r i s

/-- What DyadMake gives for numbers in their ranges. -/
def MkV (r i s : Int) : Value := if DV (lR r i s) (lI r i s) (lS r i s) = true then .tuple #[.agg #[.int .i64 (lR r i s), .int .i64 (lI r i s), .int .i64 (lS r i s)], .bool true] else .tuple #[.agg #[.int .i64 0, .int .i64 0, .int .i64 0], .bool false]
theorem MkV_yes {r i s : Int} (h : DV (lR r i s) (lI r i s) (lS r i s) = true) : MkV r i s = .tuple #[.agg #[.int .i64 (lR r i s), .int .i64 (lI r i s), .int .i64 (lS r i s)], .bool true] := if_pos h
theorem MkV_no {r i s : Int} (h : DV (lR r i s) (lI r i s) (lS r i s) = false) : MkV r i s = .tuple #[.agg #[.int .i64 0, .int .i64 0, .int .i64 0], .bool false] := if_neg (by rw [h]; decide)

theorem impl_DyadMake_any (r i s : Int) (w : World) (h : MKr r i s = true) :
    Calls Try.prog 68 #[.int .i64 r, .int .i64 i, .int .i64 s] w (Gives (MkV r i s) w) := by
  obtain ⟨a1, a2, a3, a4, a5, a6⟩ := (MKr_iff r i s).1 h
  clear h
  have t1 : decide (s < 0) = false := by simp; omega
  have t2 : decide (120 < s) = false := by simp; omega
  have t3 : decide (r < -4611686018427387904) = false := by simp; omega
  have t4 : decide (4611686018427387904 < r) = false := by simp; omega
  have t5 : decide (i < -4611686018427387904) = false := by simp; omega
  have t6 : decide (4611686018427387904 < i) = false := by simp; omega
  go_enter Try.func68, Try.ntmps68
  go_wp2
  go_loopw [41] (fun _ wr => ∃ a b c : Int, MkInv w r i s a b c wr) (fun _ wr => (intOf ((wr.cell? ⟨w.heap.size + 1, 2, none⟩).getD undef)).toNat)
  case atStart =>
    refine ⟨r, i, s, ?_⟩
    exact ⟨by go_simp, by go_simp, by go_simp, fun o => by go_simp, by go_simp, by go_simp, by go_simp, fun o => by go_simp, by go_grown, by simp, ⟨a3, a4⟩, ⟨a5, a6⟩, ⟨a1, a2⟩, rfl, rfl, rfl⟩
  case round =>
    obtain ⟨a, b, c, hI⟩ := hrel
    have HI := Lib.hid hI
    obtain ⟨c0, c1, c2, hf, r0, r1, r2, rf, hB, hz, ⟨ba, ba'⟩, ⟨bb, bb'⟩, ⟨bc, bc'⟩, _, _, _⟩ := hI
    have hz0 : w.heap.size < wr.heap.size := by omega
    have hf0 := hf 0
    have hf1' := hf 1
    have hf2 := hf 2
    have rf0 := rf 0
    have rf1 := rf 1
    have rf2 := rf 2
    clear hf rf
    by_cases hc0 : c = 0
    · subst hc0
      have HS := Lib.hid (l_stop a b 0 (by omega) (Or.inl rfl))
      go_wp2_with fail
      cases hv : DV (lR r i s) (lI r i s) (lS r i s)
      · have HV := Lib.hid hv; have HM := Lib.hid (MkV_no hv); clear hv
        refine (valid_any _ _ _ _).mono ?_
        rw [show DV a b 0 = false by rw [← HV.out, ← HI.out.eR, ← HI.out.eI, ← HI.out.eS, HS.out.1, HS.out.2.1, HS.out.2.2]]
        rintro e u1 ⟨rfl, hb⟩
        have hB1 : Below w.heap.size w u1 := hB.trans (hb.mono (by omega))
        obtain ⟨hc1, hf1⟩ := bcell hb
        clear hb
        go_wp2
        refine ret_cell_tmp Try.results68 rfl rfl (load_Dyad _ _ (.int .i64 0) (.int .i64 0) (.int .i64 0) (by go_simp) (by go_simp) (by go_simp)) ⟨by rw [HM.out]; first | done | rfl, by go_grown⟩
      · have HV := Lib.hid hv; have HM := Lib.hid (MkV_yes hv); clear hv
        refine (valid_any _ _ _ _).mono ?_
        rw [show DV a b 0 = true by rw [← HV.out, ← HI.out.eR, ← HI.out.eI, ← HI.out.eS, HS.out.1, HS.out.2.1, HS.out.2.2]]
        rintro e u1 ⟨rfl, hb⟩
        have hB1 : Below w.heap.size w u1 := hB.trans (hb.mono (by omega))
        obtain ⟨hc1, hf1⟩ := bcell hb
        clear hb
        go_wp2
        have b0 : u1.cell? ⟨w.heap.size, 0, none⟩ = some (.int .i64 0) := by go_simp
        have b1 : u1.cell? ⟨w.heap.size, 1, none⟩ = some (.int .i64 0) := by go_simp
        have b2 : u1.cell? ⟨w.heap.size, 2, none⟩ = some (.int .i64 0) := by go_simp
        refine ret_cell_tmp Try.results68 rfl rfl (load_Dyad _ _ _ _ _ (set3 b0 b1 b2 _ _ _).1 (set3 b0 b1 b2 _ _ _).2.1 (set3 b0 b1 b2 _ _ _).2.2) ⟨by rw [HM.out, ← HI.out.eR, ← HI.out.eI, ← HI.out.eS, HS.out.1, HS.out.2.1, HS.out.2.2]; first | done | rfl, by go_grown⟩
    have hc1 : 1 ≤ c := by omega
    by_cases pa : a % 2 = 0 ∧ b % 2 = 0
    · obtain ⟨pa, pb⟩ := pa
      have e1 := tdiv_two a pa
      have e2 := tdiv_two b pb
      have ST := Lib.hid (l_step a b c hc1 pa pb)
      go_wp2_with fail
      refine (even_any _ _ _ _).mono ?_
      rw [show (decide (a % 2 = 0) && decide (b % 2 = 0)) = true by simp; omega]
      rintro e u0 ⟨rfl, hb⟩
      have hB0 : Below w.heap.size w u0 := hB.trans (hb.mono (by omega))
      have hzu := hb.size
      have hz2 : w.heap.size + 1 < u0.heap.size := by omega
      have hz3 : w.heap.size < u0.heap.size := by omega
      obtain ⟨hc1, hf1⟩ := bcell hb
      clear hb
      clear pa pb
      go_wp2
      go_roundw
      case rel =>
        refine ⟨a / 2, b / 2, c - 1, ?_⟩
        have st := set3 (show u0.cell? ⟨w.heap.size + 1, 0, none⟩ = some (.int .i64 a) by go_simp) (show u0.cell? ⟨w.heap.size + 1, 1, none⟩ = some (.int .i64 b) by go_simp) (show u0.cell? ⟨w.heap.size + 1, 2, none⟩ = some (.int .i64 c) by go_simp) (.int .i64 (a / 2)) (.int .i64 (b / 2)) (.int .i64 (c - 1))
        exact ⟨st.1, st.2.1, st.2.2, fun o => by simp [hf1 _ o hz, HI.out.f o], by go_simp, by go_simp, by go_simp, fun o => by simp [hf1 _ o hz0, HI.out.rf o], by go_grown, by simpa using hz2, ⟨by omega, by omega⟩, ⟨by omega, by omega⟩, ⟨by omega, by omega⟩, by rw [← ST.out.1, HI.out.eR], by rw [← ST.out.2.1, HI.out.eI], by rw [← ST.out.2.2, HI.out.eS]⟩
      case measure =>
        have st := set3 (show u0.cell? ⟨w.heap.size + 1, 0, none⟩ = some (.int .i64 a) by go_simp) (show u0.cell? ⟨w.heap.size + 1, 1, none⟩ = some (.int .i64 b) by go_simp) (show u0.cell? ⟨w.heap.size + 1, 2, none⟩ = some (.int .i64 c) by go_simp) (.int .i64 (a / 2)) (.int .i64 (b / 2)) (.int .i64 (c - 1))
        rw [st.2.2, HI.out.c2]
        simp [intOf]; omega
    · have HS := Lib.hid (l_stop a b c bc (Or.inr (by omega)))
      go_wp2_with fail
      refine (even_any _ _ _ _).mono ?_
      rw [show (decide (a % 2 = 0) && decide (b % 2 = 0)) = false by simp; omega]
      rintro e u0 ⟨rfl, hb⟩
      have hB0 : Below w.heap.size w u0 := hB.trans (hb.mono (by omega))
      have hzu := hb.size
      have hz2 : w.heap.size + 1 < u0.heap.size := by omega
      have hz3 : w.heap.size < u0.heap.size := by omega
      obtain ⟨hc1, hf1⟩ := bcell hb
      clear hb
      clear pa
      go_wp2_with fail
      cases hv : DV (lR r i s) (lI r i s) (lS r i s)
      · have HV := Lib.hid hv; have HM := Lib.hid (MkV_no hv); clear hv
        refine (valid_any _ _ _ _).mono ?_
        rw [show DV a b c = false by rw [← HV.out, ← HI.out.eR, ← HI.out.eI, ← HI.out.eS, HS.out.1, HS.out.2.1, HS.out.2.2]]
        rintro e u1 ⟨rfl, hb⟩
        have hB1 : Below w.heap.size w u1 := hB0.trans (hb.mono (by omega))
        obtain ⟨hc1, hf1⟩ := bcell hb
        clear hb
        go_wp2
        refine ret_cell_tmp Try.results68 rfl rfl (load_Dyad _ _ (.int .i64 0) (.int .i64 0) (.int .i64 0) (by go_simp) (by go_simp) (by go_simp)) ⟨by rw [HM.out]; first | done | rfl, by go_grown⟩
      · have HV := Lib.hid hv; have HM := Lib.hid (MkV_yes hv); clear hv
        refine (valid_any _ _ _ _).mono ?_
        rw [show DV a b c = true by rw [← HV.out, ← HI.out.eR, ← HI.out.eI, ← HI.out.eS, HS.out.1, HS.out.2.1, HS.out.2.2]]
        rintro e u1 ⟨rfl, hb⟩
        have hB1 : Below w.heap.size w u1 := hB0.trans (hb.mono (by omega))
        obtain ⟨hc1, hf1⟩ := bcell hb
        clear hb
        go_wp2
        have b0 : u1.cell? ⟨w.heap.size, 0, none⟩ = some (.int .i64 0) := by go_simp
        have b1 : u1.cell? ⟨w.heap.size, 1, none⟩ = some (.int .i64 0) := by go_simp
        have b2 : u1.cell? ⟨w.heap.size, 2, none⟩ = some (.int .i64 0) := by go_simp
        refine ret_cell_tmp Try.results68 rfl rfl (load_Dyad _ _ _ _ _ (set3 b0 b1 b2 _ _ _).1 (set3 b0 b1 b2 _ _ _).2.1 (set3 b0 b1 b2 _ _ _).2.2) ⟨by rw [HM.out, ← HI.out.eR, ← HI.out.eI, ← HI.out.eS, HS.out.1, HS.out.2.1, HS.out.2.2]; first | done | rfl, by go_grown⟩

theorem impl_DyadMake_yes (r i s : Int) (w : World) (h : MK r i s = true) :
    Calls Try.prog 68 #[.int .i64 r, .int .i64 i, .int .i64 s] w (Gives (.tuple #[.agg #[.int .i64 (lR r i s), .int .i64 (lI r i s), .int .i64 (lS r i s)], .bool true]) w) := by
  obtain ⟨h1, h2⟩ := Bool.and_eq_true_iff.1 h
  exact (impl_DyadMake_any r i s w h1).mono fun e w' hg => by rw [MkV_yes h2] at hg; exact hg
theorem impl_DyadMake_no (r i s : Int) (w : World) (h : MK r i s = false) :
    Calls Try.prog 68 #[.int .i64 r, .int .i64 i, .int .i64 s] w (Gives (.tuple #[.agg #[.int .i64 0, .int .i64 0, .int .i64 0], .bool false]) w) := by
  cases hk : MKr r i s
  · have hn : ¬ (0 ≤ s ∧ s ≤ 120 ∧ -4611686018427387904 ≤ r ∧ r ≤ 4611686018427387904 ∧ -4611686018427387904 ≤ i ∧ i ≤ 4611686018427387904) := fun g => by rw [(MKr_iff r i s).2 g] at hk; cases hk
    clear h hk
    by_cases d : s < 0
    · clear hn
      go_enter Try.func68, Try.ntmps68
      go_wp2
      refine ret_cell_tmp Try.results68 rfl rfl (load_Dyad _ _ (.int .i64 0) (.int .i64 0) (.int .i64 0) (by go_simp) (by go_simp) (by go_simp)) ⟨rfl, by go_grown⟩
    have t0 : decide (s < 0) = false := by simpa using d
    have g0 : ¬ (s < 0) := d
    clear d
    by_cases d : 120 < s
    · clear hn
      go_enter Try.func68, Try.ntmps68
      go_wp2
      refine ret_cell_tmp Try.results68 rfl rfl (load_Dyad _ _ (.int .i64 0) (.int .i64 0) (.int .i64 0) (by go_simp) (by go_simp) (by go_simp)) ⟨rfl, by go_grown⟩
    have t1 : decide (120 < s) = false := by simpa using d
    have g1 : ¬ (120 < s) := d
    clear d
    by_cases d : r < -4611686018427387904
    · clear hn
      go_enter Try.func68, Try.ntmps68
      go_wp2
      refine ret_cell_tmp Try.results68 rfl rfl (load_Dyad _ _ (.int .i64 0) (.int .i64 0) (.int .i64 0) (by go_simp) (by go_simp) (by go_simp)) ⟨rfl, by go_grown⟩
    have t2 : decide (r < -4611686018427387904) = false := by simpa using d
    have g2 : ¬ (r < -4611686018427387904) := d
    clear d
    by_cases d : 4611686018427387904 < r
    · clear hn
      go_enter Try.func68, Try.ntmps68
      go_wp2
      refine ret_cell_tmp Try.results68 rfl rfl (load_Dyad _ _ (.int .i64 0) (.int .i64 0) (.int .i64 0) (by go_simp) (by go_simp) (by go_simp)) ⟨rfl, by go_grown⟩
    have t3 : decide (4611686018427387904 < r) = false := by simpa using d
    have g3 : ¬ (4611686018427387904 < r) := d
    clear d
    by_cases d : i < -4611686018427387904
    · clear hn
      go_enter Try.func68, Try.ntmps68
      go_wp2
      refine ret_cell_tmp Try.results68 rfl rfl (load_Dyad _ _ (.int .i64 0) (.int .i64 0) (.int .i64 0) (by go_simp) (by go_simp) (by go_simp)) ⟨rfl, by go_grown⟩
    have t4 : decide (i < -4611686018427387904) = false := by simpa using d
    have g4 : ¬ (i < -4611686018427387904) := d
    clear d
    have d : 4611686018427387904 < i := by omega
    clear hn
    go_enter Try.func68, Try.ntmps68
    go_wp2
    refine ret_cell_tmp Try.results68 rfl rfl (load_Dyad _ _ (.int .i64 0) (.int .i64 0) (.int .i64 0) (by go_simp) (by go_simp) (by go_simp)) ⟨rfl, by go_grown⟩
  · have h2 : DV (lR r i s) (lI r i s) (lS r i s) = false := by unfold MK at h; rw [hk, Bool.true_and] at h; exact h
    exact (impl_DyadMake_any r i s w hk).mono fun e w' hg => by rw [MkV_no h2] at hg; exact hg

end Go.Proofs.Ythggppjdapmgdaa
/- What DyadNorm, DyadSquare and DyadAdd give. -/
namespace Go.Proofs.Ythggppjdapmgdaa
set_option linter.unusedSimpArgs false
set_option linter.unusedVariables false
open Go.RowKit

theorem F4_bd (s : Int) (h : 0 ≤ s) (h' : s ≤ 30) : 4 ≤ F4 s ∧ F4 s ≤ 4611686018427387904 := by
  unfold F4
  obtain ⟨n, rfl⟩ := Int.eq_ofNat_of_zero_le h
  have e : (2 * (n : Int)).toNat = 2 * n := by omega
  rw [e]
  have h1 : 2 ^ (2 * n) ≤ 2 ^ 60 := Nat.pow_le_pow_right (by omega) (by omega)
  have h2 : 0 < 2 ^ (2 * n) := Nat.two_pow_pos _
  have e2 : ((2 : Int) ^ (2 * n)) = ((2 ^ (2 * n) : Nat) : Int) := by simp
  rw [e2]
  omega
theorem F4_wrap (s : Int) (h : 0 ≤ s) (h' : s ≤ 30) : wrap64 (4 * 2 ^ (2 * s).toNat) = F4 s :=
  IntWalk.wrap64_in _ ⟨by have := F4_bd s h h'; unfold F4 at this; omega, by have := F4_bd s h h'; unfold F4 at this; omega⟩
theorem F4_30 : F4 30 = 4611686018427387904 := by decide

theorem sq_bd30 (r : Int) (h : -1073741824 ≤ r ∧ r ≤ 1073741824) : 0 ≤ r * r ∧ r * r ≤ 1152921504606846976 := by
  have h1 : r * r = (r.natAbs * r.natAbs : Nat) := by rw [Int.natAbs_mul_self]
  have h2 : r.natAbs * r.natAbs ≤ 1073741824 * 1073741824 := Nat.mul_le_mul (by omega) (by omega)
  omega


theorem isNaN_int (x : Int) (w : World) : Calls Try.prog 97 #[.int .i64 x] w fun e w' => e = .returned (.bool false) ∧ w = w' := by
  go_enter Try.func97, Try.ntmps97
  go_wp2
  go_returns
  exact ⟨by simp, rfl⟩
/-- cmp.Compare on integers. -/
def CMP (x y : Int) : Int := if x < y then -1 else if x = y then 0 else 1
theorem Compare_int (x y : Int) (w : World) : Calls Try.prog 63 #[.int .i64 x, .int .i64 y] w fun e w' => e = .returned (.int .i64 (CMP x y)) ∧ w = w' := by
  by_cases h1 : x < y
  · have HN : Hid (CMP x y = -1) := if_pos h1
    go_enter Try.func63, Try.ntmps63
    go_wp2_with (go_at_call 97; refine (isNaN_int _ _).mono ?_; rintro e w1 ⟨rfl, rfl⟩)
    go_returns
    exact ⟨by rw [HN.out]; first | done | rfl, rfl⟩
  · by_cases h2 : y < x
    · have HN : Hid (CMP x y = 1) := by unfold CMP Hid; rw [if_neg h1, if_neg (by omega)]
      go_enter Try.func63, Try.ntmps63
      go_wp2_with (go_at_call 97; refine (isNaN_int _ _).mono ?_; rintro e w1 ⟨rfl, rfl⟩)
      go_returns
      exact ⟨by rw [HN.out]; first | done | rfl, rfl⟩
    · obtain rfl : x = y := by omega
      have HN : Hid (CMP x x = 0) := by unfold CMP Hid; rw [if_neg h1, if_pos rfl]
      go_enter Try.func63, Try.ntmps63
      go_wp2_with (go_at_call 97; refine (isNaN_int _ _).mono ?_; rintro e w1 ⟨rfl, rfl⟩)
      go_returns
      exact ⟨by rw [HN.out]; first | done | rfl, rfl⟩

theorem impl_DyadNorm_no (r i s : Int) (w : World) (h : DV r i s = false) :
    Calls Try.prog 19 #[.agg #[.int .i64 r, .int .i64 i, .int .i64 s]] w (Gives (.tuple #[.int .i64 0, .bool false]) w) := by
  have H := Lib.hid h; clear h
  go_enter Try.func19, Try.ntmps19
  go_wp2_with fail
  refine (valid_any r i s _).mono ?_
  rw [H.out]
  rintro e u1 ⟨rfl, hb⟩
  have hB1 : Below w.heap.size w u1 := Below.trans (by go_grown) (hb.mono (by go_size))
  have hz1 := hb.size
  try simp at hz1
  have hw1 := hB1.size
  obtain ⟨hc1, hf1⟩ := bcell hb
  clear hb
  try have s0_0_1 : w.heap.size < u1.heap.size := by omega
  try have l0_0_1 : w.heap.size ≤ u1.heap.size := by omega
  go_wp2
  go_returns
  exact ⟨rfl, hB1⟩
theorem impl_DyadNorm_yes (r i s : Int) (w : World) (h : DV r i s = true) :
    Calls Try.prog 19 #[.agg #[.int .i64 r, .int .i64 i, .int .i64 s]] w (Gives (.tuple #[.int .i64 (NM r i s), .bool true]) w) := by
  obtain ⟨a1, a2, a3, a4, a5, a6, _⟩ := (DV_iff r i s).1 h
  have H := Lib.hid h; clear h
  obtain ⟨q1, q2⟩ := sq_bd30 r ⟨a1, a2⟩
  obtain ⟨q3, q4⟩ := sq_bd30 i ⟨a3, a4⟩
  by_cases hs : 30 < s
  · have HN : Hid (NM r i s = -1) := if_pos (Or.inl (by omega))
    go_enter Try.func19, Try.ntmps19
    go_wp2_with fail
    refine (valid_any r i s _).mono ?_
    rw [H.out]
    rintro e u1 ⟨rfl, hb⟩
    have hB1 : Below w.heap.size w u1 := Below.trans (by go_grown) (hb.mono (by go_size))
    have hz1 := hb.size
    try simp at hz1
    have hw1 := hB1.size
    obtain ⟨hc1, hf1⟩ := bcell hb
    clear hb
    try have s0_0_1 : w.heap.size < u1.heap.size := by omega
    try have l0_0_1 : w.heap.size ≤ u1.heap.size := by omega
    go_wp2
    go_returns
    exact ⟨by rw [HN.out]; first | done | rfl, hB1⟩
  · have hq := F4_wrap s a5 (by omega)
    obtain ⟨q5, q6⟩ := F4_bd s a5 (by omega)
    have HN : Hid (CMP (r * r + i * i) (F4 s) = NM r i s) := by
      unfold CMP NM Hid
      by_cases h30 : s = 30
      · subst h30
        have e : r * r + i * i < F4 30 := by rw [F4_30]; omega
        rw [if_pos e, if_pos (Or.inr e)]
      · by_cases c1 : r * r + i * i < F4 s
        · rw [if_pos c1, if_pos (Or.inr c1)]
        · rw [if_neg c1, if_neg (c := 30 ≤ s ∨ r * r + i * i < F4 s) (by omega)]
    generalize F4 s = q at hq q5 q6 HN
    go_enter Try.func19, Try.ntmps19
    go_wp2_with fail
    refine (valid_any r i s _).mono ?_
    rw [H.out]
    rintro e u1 ⟨rfl, hb⟩
    have hB1 : Below w.heap.size w u1 := Below.trans (by go_grown) (hb.mono (by go_size))
    have hz1 := hb.size
    try simp at hz1
    have hw1 := hB1.size
    obtain ⟨hc1, hf1⟩ := bcell hb
    clear hb
    try have s0_0_1 : w.heap.size < u1.heap.size := by omega
    try have l0_0_1 : w.heap.size ≤ u1.heap.size := by omega
    go_wp2_with (go_at_call 63; refine (Compare_int _ _ _).mono ?_; rintro e w1 ⟨rfl, rfl⟩)
    go_returns
    exact ⟨by rw [← HN.out]; first | done | rfl, hB1⟩

/-! ### DyadSquare -/
theorem mul_bd30 (r i : Int) (h : -1073741824 ≤ r ∧ r ≤ 1073741824) (h' : -1073741824 ≤ i ∧ i ≤ 1073741824) : -1152921504606846976 ≤ r * i ∧ r * i ≤ 1152921504606846976 := by
  have h1 : (r * i).natAbs ≤ 1073741824 * 1073741824 := by rw [Int.natAbs_mul]; exact Nat.mul_le_mul (by omega) (by omega)
  omega
theorem sq_ok (r i s : Int) (h : DV r i s = true) : MKr (SR r i) (SI r i) (2 * s) = true := by
  obtain ⟨a1, a2, a3, a4, a5, a6, _⟩ := (DV_iff r i s).1 h
  have := sq_bd30 r ⟨a1, a2⟩; have := sq_bd30 i ⟨a3, a4⟩; have := mul_bd30 r i ⟨a1, a2⟩ ⟨a3, a4⟩
  have e : SI r i = 2 * (r * i) := by unfold SI; rw [Int.mul_assoc]
  exact (MKr_iff _ _ _).2 ⟨by omega, by omega, by unfold SR; omega, by unfold SR; omega, by omega, by omega⟩

theorem impl_DyadSquare_yes (r i s : Int) (w : World) (h : SQ r i s = true) :
    Calls Try.prog 37 #[.agg #[.int .i64 r, .int .i64 i, .int .i64 s]] w (Gives (.tuple #[.agg #[.int .i64 (lR (SR r i) (SI r i) (2 * s)), .int .i64 (lI (SR r i) (SI r i) (2 * s)), .int .i64 (lS (SR r i) (SI r i) (2 * s))], .bool true]) w) := by
  obtain ⟨h1, h2⟩ := Bool.and_eq_true_iff.1 h
  obtain ⟨a1, a2, a3, a4, a5, a6, _⟩ := (DV_iff r i s).1 h1
  obtain ⟨q1, q2⟩ := sq_bd30 r ⟨a1, a2⟩
  obtain ⟨q3, q4⟩ := sq_bd30 i ⟨a3, a4⟩
  obtain ⟨q5, q6⟩ := mul_bd30 r i ⟨a1, a2⟩ ⟨a3, a4⟩
  have e1 : (2 * r) * i = 2 * (r * i) := Int.mul_assoc _ _ _
  have k1 : -2305843009213693952 ≤ 2 * r * i := by omega
  have k2 : 2 * r * i ≤ 2305843009213693952 := by omega
  have H1 := Lib.hid h1; have H2 := Lib.hid h2; clear h h1 h2 e1
  go_enter Try.func37, Try.ntmps37
  go_wp2_with fail
  refine (valid_any r i s _).mono ?_
  rw [H1.out]
  rintro e u1 ⟨rfl, hb⟩
  have hB1 : Below w.heap.size w u1 := Below.trans (by go_grown) (hb.mono (by go_size))
  have hz1 := hb.size
  try simp at hz1
  have hw1 := hB1.size
  obtain ⟨hc1, hf1⟩ := bcell hb
  clear hb
  try have s0_0_1 : w.heap.size < u1.heap.size := by omega
  try have l0_0_1 : w.heap.size ≤ u1.heap.size := by omega
  try have s0_1_1 : w.heap.size + 1 < u1.heap.size := by omega
  try have l0_1_1 : w.heap.size + 1 ≤ u1.heap.size := by omega
  go_wp2_with fail
  refine (impl_DyadMake_yes (SR r i) (SI r i) (2 * s) _ H2.out).mono ?_
  rintro e u2 ⟨rfl, hb⟩
  have hB2 : Below w.heap.size w u2 := Below.trans (by go_grown) (hb.mono (by go_size))
  have hz2 := hb.size
  try simp at hz2
  have hw2 := hB2.size
  obtain ⟨hc2, hf2⟩ := bcell hb
  clear hb
  try have s0_0_2 : w.heap.size < u2.heap.size := by omega
  try have l0_0_2 : w.heap.size ≤ u2.heap.size := by omega
  try have s0_1_2 : w.heap.size + 1 < u2.heap.size := by omega
  try have l0_1_2 : w.heap.size + 1 ≤ u2.heap.size := by omega
  try have s1_0_2 : u1.heap.size < u2.heap.size := by omega
  try have l1_0_2 : u1.heap.size ≤ u2.heap.size := by omega
  go_wp2
  have b0 : u2.cell? ⟨w.heap.size + 1, 0, none⟩ = some (.int .i64 0) := by go_simp
  have b1 : u2.cell? ⟨w.heap.size + 1, 1, none⟩ = some (.int .i64 0) := by go_simp
  have b2 : u2.cell? ⟨w.heap.size + 1, 2, none⟩ = some (.int .i64 0) := by go_simp
  refine ret_cell_tmp Try.results37 rfl rfl (load_Dyad _ _ _ _ _ (set3 b0 b1 b2 _ _ _).1 (set3 b0 b1 b2 _ _ _).2.1 (set3 b0 b1 b2 _ _ _).2.2) ⟨rfl, by go_grown⟩
theorem impl_DyadSquare_no (r i s : Int) (w : World) (h : SQ r i s = false) :
    Calls Try.prog 37 #[.agg #[.int .i64 r, .int .i64 i, .int .i64 s]] w (Gives (.tuple #[.agg #[.int .i64 0, .int .i64 0, .int .i64 0], .bool false]) w) := by
  cases h1 : DV r i s
  · have H1 := Lib.hid h1; clear h h1
    go_enter Try.func37, Try.ntmps37
    go_wp2_with fail
    refine (valid_any r i s _).mono ?_
    rw [H1.out]
    rintro e u1 ⟨rfl, hb⟩
    have hB1 : Below w.heap.size w u1 := Below.trans (by go_grown) (hb.mono (by go_size))
    have hz1 := hb.size
    try simp at hz1
    have hw1 := hB1.size
    obtain ⟨hc1, hf1⟩ := bcell hb
    clear hb
    try have s0_0_1 : w.heap.size < u1.heap.size := by omega
    try have l0_0_1 : w.heap.size ≤ u1.heap.size := by omega
    try have s0_1_1 : w.heap.size + 1 < u1.heap.size := by omega
    try have l0_1_1 : w.heap.size + 1 ≤ u1.heap.size := by omega
    go_wp2
    have b0 : u1.cell? ⟨w.heap.size + 1, 0, none⟩ = some (.int .i64 0) := by go_simp
    have b1 : u1.cell? ⟨w.heap.size + 1, 1, none⟩ = some (.int .i64 0) := by go_simp
    have b2 : u1.cell? ⟨w.heap.size + 1, 2, none⟩ = some (.int .i64 0) := by go_simp
    refine ret_cell_tmp Try.results37 rfl rfl (load_Dyad _ _ _ _ _ (set3 b0 b1 b2 _ _ _).1 (set3 b0 b1 b2 _ _ _).2.1 (set3 b0 b1 b2 _ _ _).2.2) ⟨rfl, by go_grown⟩
  · have h2 : MK (SR r i) (SI r i) (2 * s) = false := by unfold SQ at h; rw [h1, Bool.true_and] at h; exact h
    obtain ⟨a1, a2, a3, a4, a5, a6, _⟩ := (DV_iff r i s).1 h1
    obtain ⟨q1, q2⟩ := sq_bd30 r ⟨a1, a2⟩
    obtain ⟨q3, q4⟩ := sq_bd30 i ⟨a3, a4⟩
    obtain ⟨q5, q6⟩ := mul_bd30 r i ⟨a1, a2⟩ ⟨a3, a4⟩
    have e1 : (2 * r) * i = 2 * (r * i) := Int.mul_assoc _ _ _
    have k1 : -2305843009213693952 ≤ 2 * r * i := by omega
    have k2 : 2 * r * i ≤ 2305843009213693952 := by omega
    have H1 := Lib.hid h1; have H2 := Lib.hid h2; clear h h1 h2 e1
    go_enter Try.func37, Try.ntmps37
    go_wp2_with fail
    refine (valid_any r i s _).mono ?_
    rw [H1.out]
    rintro e u1 ⟨rfl, hb⟩
    have hB1 : Below w.heap.size w u1 := Below.trans (by go_grown) (hb.mono (by go_size))
    have hz1 := hb.size
    try simp at hz1
    have hw1 := hB1.size
    obtain ⟨hc1, hf1⟩ := bcell hb
    clear hb
    try have s0_0_1 : w.heap.size < u1.heap.size := by omega
    try have l0_0_1 : w.heap.size ≤ u1.heap.size := by omega
    try have s0_1_1 : w.heap.size + 1 < u1.heap.size := by omega
    try have l0_1_1 : w.heap.size + 1 ≤ u1.heap.size := by omega
    go_wp2_with fail
    refine (impl_DyadMake_no (SR r i) (SI r i) (2 * s) _ H2.out).mono ?_
    rintro e u2 ⟨rfl, hb⟩
    have hB2 : Below w.heap.size w u2 := Below.trans (by go_grown) (hb.mono (by go_size))
    have hz2 := hb.size
    try simp at hz2
    have hw2 := hB2.size
    obtain ⟨hc2, hf2⟩ := bcell hb
    clear hb
    try have s0_0_2 : w.heap.size < u2.heap.size := by omega
    try have l0_0_2 : w.heap.size ≤ u2.heap.size := by omega
    try have s0_1_2 : w.heap.size + 1 < u2.heap.size := by omega
    try have l0_1_2 : w.heap.size + 1 ≤ u2.heap.size := by omega
    try have s1_0_2 : u1.heap.size < u2.heap.size := by omega
    try have l1_0_2 : u1.heap.size ≤ u2.heap.size := by omega
    go_wp2
    have b0 : u2.cell? ⟨w.heap.size + 1, 0, none⟩ = some (.int .i64 0) := by go_simp
    have b1 : u2.cell? ⟨w.heap.size + 1, 1, none⟩ = some (.int .i64 0) := by go_simp
    have b2 : u2.cell? ⟨w.heap.size + 1, 2, none⟩ = some (.int .i64 0) := by go_simp
    refine ret_cell_tmp Try.results37 rfl rfl (load_Dyad _ _ _ _ _ (set3 b0 b1 b2 _ _ _).1 (set3 b0 b1 b2 _ _ _).2.1 (set3 b0 b1 b2 _ _ _).2.2) ⟨rfl, by go_grown⟩


end Go.Proofs.Ythggppjdapmgdaa
/- What DyadAdd gives. -/
namespace Go.Proofs.Ythggppjdapmgdaa
set_option linter.unusedSimpArgs false
set_option linter.unusedVariables false
open Go.RowKit


/-! ### DyadAdd -/

end Go.Proofs.Ythggppjdapmgdaa
/- What the reference's DyadAdd gives. -/
namespace Go.Proofs.Ythggppjdapmgdaa
set_option linter.unusedSimpArgs false
set_option linter.unusedVariables false
open Go.RowKit

/-- What DyadAdd gives. -/
def ADV (r i s x y t : Int) : Value := if ADD r i s x y t = true then (.tuple #[.agg #[.int .i64 (lR (AP r s x t) (AP i s y t) (max s t)), .int .i64 (lI (AP r s x t) (AP i s y t) (max s t)), .int .i64 (lS (AP r s x t) (AP i s y t) (max s t))], .bool true]) else (.tuple #[.agg #[.int .i64 0, .int .i64 0, .int .i64 0], .bool false])
theorem ADV_yes {r i s x y t : Int} (h : ADD r i s x y t = true) : ADV r i s x y t = (.tuple #[.agg #[.int .i64 (lR (AP r s x t) (AP i s y t) (max s t)), .int .i64 (lI (AP r s x t) (AP i s y t) (max s t)), .int .i64 (lS (AP r s x t) (AP i s y t) (max s t))], .bool true]) := if_pos h
theorem ADV_no {r i s x y t : Int} (h : ADD r i s x y t = false) : ADV r i s x y t = (.tuple #[.agg #[.int .i64 0, .int .i64 0, .int .i64 0], .bool false]) := if_neg (by rw [h]; decide)

theorem ADD_low {r i s x y t : Int} (h1 : DV r i s = true) (h2 : DV x y t = true) : ADD r i s x y t = DV (lR (AP r s x t) (AP i s y t) (max s t)) (lI (AP r s x t) (AP i s y t) (max s t)) (lS (AP r s x t) (AP i s y t) (max s t)) := by
  unfold ADD; rw [h1, h2]; rfl

end Go.Proofs.Ythggppjdapmgdaa
/- What the program's DyadAdd gives. -/
namespace Go.Proofs.Ythggppjdapmgdaa
set_option linter.unusedSimpArgs false
set_option linter.unusedVariables false
open Go.RowKit

theorem shl_up (x : Int) (k : Int) (h : -2305843009213693952 ≤ x * 2 ^ k.toNat) (h' : x * 2 ^ k.toNat ≤ 2305843009213693952) : wrap64 (x * 2 ^ k.toNat) = x * 2 ^ k.toNat :=
  IntWalk.wrap64_in _ ⟨by omega, by omega⟩
theorem shl_i64 {x : Int} {k : Int} {p : Int} (hw : wrap64 (x * 2 ^ k.toNat) = p) : IntKind.i64.wrap (x * 2 ^ k.toNat) = p := by
  rw [IntKind.wrap_i64]; unfold wrap64 at hw; exact hw
theorem set3_out {w : World} {b c o : Nat} {u x y z : Value} (h : w.cell? ⟨c, o, none⟩ = some u) (hn : b ≠ c) : (((w.setCell ⟨b, 0, none⟩ x).setCell ⟨b, 1, none⟩ y).setCell ⟨b, 2, none⟩ z).cell? ⟨c, o, none⟩ = some u := by
  have e : ∀ k, (⟨b, k, none⟩ : Addr) ≠ ⟨c, o, none⟩ := fun k e => hn (by injection e)
  rw [World.cell?_setCell_other _ _ _ _ (e 2), World.cell?_setCell_other _ _ _ _ (e 1), World.cell?_setCell_other _ _ _ _ (e 0)]; exact h

theorem impl_DyadAdd_a (r i s x y t : Int) (w : World) (h1 : DV r i s = false) :
    Calls Try.prog 62 #[.agg #[.int .i64 r, .int .i64 i, .int .i64 s], .agg #[.int .i64 x, .int .i64 y, .int .i64 t]] w (Gives (.tuple #[.agg #[.int .i64 0, .int .i64 0, .int .i64 0], .bool false]) w) := by
  have H1 := Lib.hid h1; clear h1
  go_enter Try.func62, Try.ntmps62
  go_wp2_with fail
  refine (valid_any r i s _).mono ?_
  rw [H1.out]
  rintro e u1 ⟨rfl, hb⟩
  have hB1 : Below w.heap.size w u1 := Below.trans (by go_grown) (hb.mono (by go_size))
  have hz1 := hb.size
  try simp at hz1
  have hw1 := hB1.size
  obtain ⟨hc1, hf1⟩ := bcell hb
  clear hb
  try have s0_0_1 : w.heap.size < u1.heap.size := by omega
  try have l0_0_1 : w.heap.size ≤ u1.heap.size := by omega
  try have s0_1_1 : w.heap.size + 1 < u1.heap.size := by omega
  try have l0_1_1 : w.heap.size + 1 ≤ u1.heap.size := by omega
  try have s0_2_1 : w.heap.size + 2 < u1.heap.size := by omega
  try have l0_2_1 : w.heap.size + 2 ≤ u1.heap.size := by omega
  go_wp2
  have b0 : u1.cell? ⟨w.heap.size + 1 + 1, 0, none⟩ = some (.int .i64 0) := by go_simp
  have b1 : u1.cell? ⟨w.heap.size + 1 + 1, 1, none⟩ = some (.int .i64 0) := by go_simp
  have b2 : u1.cell? ⟨w.heap.size + 1 + 1, 2, none⟩ = some (.int .i64 0) := by go_simp
  refine ret_cell_tmp Try.results62 rfl rfl (load_Dyad _ _ _ _ _ (set3 b0 b1 b2 _ _ _).1 (set3 b0 b1 b2 _ _ _).2.1 (set3 b0 b1 b2 _ _ _).2.2) ⟨rfl, by go_grown⟩
theorem impl_DyadAdd_b (r i s x y t : Int) (w : World) (h1 : DV r i s = true) (h2 : DV x y t = false) :
    Calls Try.prog 62 #[.agg #[.int .i64 r, .int .i64 i, .int .i64 s], .agg #[.int .i64 x, .int .i64 y, .int .i64 t]] w (Gives (.tuple #[.agg #[.int .i64 0, .int .i64 0, .int .i64 0], .bool false]) w) := by
  have H1 := Lib.hid h1; have H2 := Lib.hid h2; clear h1 h2
  go_enter Try.func62, Try.ntmps62
  go_wp2_with fail
  refine (valid_any r i s _).mono ?_
  rw [H1.out]
  rintro e u1 ⟨rfl, hb⟩
  have hB1 : Below w.heap.size w u1 := Below.trans (by go_grown) (hb.mono (by go_size))
  have hz1 := hb.size
  try simp at hz1
  have hw1 := hB1.size
  obtain ⟨hc1, hf1⟩ := bcell hb
  clear hb
  try have s0_0_1 : w.heap.size < u1.heap.size := by omega
  try have l0_0_1 : w.heap.size ≤ u1.heap.size := by omega
  try have s0_1_1 : w.heap.size + 1 < u1.heap.size := by omega
  try have l0_1_1 : w.heap.size + 1 ≤ u1.heap.size := by omega
  try have s0_2_1 : w.heap.size + 2 < u1.heap.size := by omega
  try have l0_2_1 : w.heap.size + 2 ≤ u1.heap.size := by omega
  go_wp2_with fail
  refine (valid_any x y t _).mono ?_
  rw [H2.out]
  rintro e u2 ⟨rfl, hb⟩
  have hB2 : Below w.heap.size w u2 := Below.trans (by go_grown) (hb.mono (by go_size))
  have hz2 := hb.size
  try simp at hz2
  have hw2 := hB2.size
  obtain ⟨hc2, hf2⟩ := bcell hb
  clear hb
  try have s0_0_2 : w.heap.size < u2.heap.size := by omega
  try have l0_0_2 : w.heap.size ≤ u2.heap.size := by omega
  try have s0_1_2 : w.heap.size + 1 < u2.heap.size := by omega
  try have l0_1_2 : w.heap.size + 1 ≤ u2.heap.size := by omega
  try have s0_2_2 : w.heap.size + 2 < u2.heap.size := by omega
  try have l0_2_2 : w.heap.size + 2 ≤ u2.heap.size := by omega
  try have s1_0_2 : u1.heap.size < u2.heap.size := by omega
  try have l1_0_2 : u1.heap.size ≤ u2.heap.size := by omega
  go_wp2
  have b0 : u2.cell? ⟨w.heap.size + 1 + 1, 0, none⟩ = some (.int .i64 0) := by go_simp
  have b1 : u2.cell? ⟨w.heap.size + 1 + 1, 1, none⟩ = some (.int .i64 0) := by go_simp
  have b2 : u2.cell? ⟨w.heap.size + 1 + 1, 2, none⟩ = some (.int .i64 0) := by go_simp
  refine ret_cell_tmp Try.results62 rfl rfl (load_Dyad _ _ _ _ _ (set3 b0 b1 b2 _ _ _).1 (set3 b0 b1 b2 _ _ _).2.1 (set3 b0 b1 b2 _ _ _).2.2) ⟨rfl, by go_grown⟩
theorem impl_DyadAdd_ge_zero (r i s x y t : Int) (w : World) (h1 : DV r i s = true) (h2 : DV x y t = true) (ho : t ≤ s) (hz : x = 0 ∧ y = 0 ∧ t = 0) :
    Calls Try.prog 62 #[.agg #[.int .i64 r, .int .i64 i, .int .i64 s], .agg #[.int .i64 x, .int .i64 y, .int .i64 t]] w (Gives (.tuple #[.agg #[.int .i64 r, .int .i64 i, .int .i64 s], .bool true]) w) := by
  obtain ⟨a1, a2, a3, a4, a5, a6, -⟩ := (DV_iff r i s).1 h1
  obtain ⟨b1, b2, b3, b4, b5, b6, -⟩ := (DV_iff x y t).1 h2
  have H1 := Lib.hid h1; have H2 := Lib.hid h2; clear h1 h2
  obtain ⟨rfl, rfl, rfl⟩ := hz
  go_enter Try.func62, Try.ntmps62
  go_wp2_with fail
  refine (valid_any r i s _).mono ?_
  rw [H1.out]
  rintro e u1 ⟨rfl, hb⟩
  have hB1 : Below w.heap.size w u1 := Below.trans (by go_grown) (hb.mono (by go_size))
  have hz1 := hb.size
  try simp at hz1
  have hw1 := hB1.size
  obtain ⟨hc1, hf1⟩ := bcell hb
  clear hb
  try have s0_0_1 : w.heap.size < u1.heap.size := by omega
  try have l0_0_1 : w.heap.size ≤ u1.heap.size := by omega
  try have s0_1_1 : w.heap.size + 1 < u1.heap.size := by omega
  try have l0_1_1 : w.heap.size + 1 ≤ u1.heap.size := by omega
  try have s0_2_1 : w.heap.size + 2 < u1.heap.size := by omega
  try have l0_2_1 : w.heap.size + 2 ≤ u1.heap.size := by omega
  go_wp2_with fail
  refine (valid_any 0 0 0 _).mono ?_
  rw [H2.out]
  rintro e u2 ⟨rfl, hb⟩
  have hB2 : Below w.heap.size w u2 := Below.trans (by go_grown) (hb.mono (by go_size))
  have hz2 := hb.size
  try simp at hz2
  have hw2 := hB2.size
  obtain ⟨hc2, hf2⟩ := bcell hb
  clear hb
  try have s0_0_2 : w.heap.size < u2.heap.size := by omega
  try have l0_0_2 : w.heap.size ≤ u2.heap.size := by omega
  try have s0_1_2 : w.heap.size + 1 < u2.heap.size := by omega
  try have l0_1_2 : w.heap.size + 1 ≤ u2.heap.size := by omega
  try have s0_2_2 : w.heap.size + 2 < u2.heap.size := by omega
  try have l0_2_2 : w.heap.size + 2 ≤ u2.heap.size := by omega
  try have s1_0_2 : u1.heap.size < u2.heap.size := by omega
  try have l1_0_2 : u1.heap.size ≤ u2.heap.size := by omega
  have ku2_0_0 : u2.cell? ⟨w.heap.size, 0, none⟩ = some (.int .i64 r) := by go_simp
  have fu2_0_0 : u2.frozen? ⟨w.heap.size, 0, none⟩ = false := by go_simp
  have ku2_0_1 : u2.cell? ⟨w.heap.size, 1, none⟩ = some (.int .i64 i) := by go_simp
  have fu2_0_1 : u2.frozen? ⟨w.heap.size, 1, none⟩ = false := by go_simp
  have ku2_0_2 : u2.cell? ⟨w.heap.size, 2, none⟩ = some (.int .i64 s) := by go_simp
  have fu2_0_2 : u2.frozen? ⟨w.heap.size, 2, none⟩ = false := by go_simp
  have ku2_1_0 : u2.cell? ⟨w.heap.size + 1, 0, none⟩ = some (.int .i64 0) := by go_simp
  have fu2_1_0 : u2.frozen? ⟨w.heap.size + 1, 0, none⟩ = false := by go_simp
  have ku2_1_1 : u2.cell? ⟨w.heap.size + 1, 1, none⟩ = some (.int .i64 0) := by go_simp
  have fu2_1_1 : u2.frozen? ⟨w.heap.size + 1, 1, none⟩ = false := by go_simp
  have ku2_1_2 : u2.cell? ⟨w.heap.size + 1, 2, none⟩ = some (.int .i64 0) := by go_simp
  have fu2_1_2 : u2.frozen? ⟨w.heap.size + 1, 2, none⟩ = false := by go_simp
  have ku2_2_0 : u2.cell? ⟨w.heap.size + 1 + 1, 0, none⟩ = some (.int .i64 0) := by go_simp
  have fu2_2_0 : u2.frozen? ⟨w.heap.size + 1 + 1, 0, none⟩ = false := by go_simp
  have ku2_2_1 : u2.cell? ⟨w.heap.size + 1 + 1, 1, none⟩ = some (.int .i64 0) := by go_simp
  have fu2_2_1 : u2.frozen? ⟨w.heap.size + 1 + 1, 1, none⟩ = false := by go_simp
  have ku2_2_2 : u2.cell? ⟨w.heap.size + 1 + 1, 2, none⟩ = some (.int .i64 0) := by go_simp
  have fu2_2_2 : u2.frozen? ⟨w.heap.size + 1 + 1, 2, none⟩ = false := by go_simp
  clear hc1 hf1
  clear hc2 hf2
  go_wp2
  have b0 : u2.cell? ⟨w.heap.size + 1 + 1, 0, none⟩ = some (.int .i64 0) := by go_simp
  have b1 : u2.cell? ⟨w.heap.size + 1 + 1, 1, none⟩ = some (.int .i64 0) := by go_simp
  have b2 : u2.cell? ⟨w.heap.size + 1 + 1, 2, none⟩ = some (.int .i64 0) := by go_simp
  refine ret_cell_tmp Try.results62 rfl rfl (load_Dyad _ _ _ _ _ (set3 b0 b1 b2 _ _ _).1 (set3 b0 b1 b2 _ _ _).2.1 (set3 b0 b1 b2 _ _ _).2.2) ⟨rfl, by go_grown⟩
theorem impl_DyadAdd_ge_far1 (r i s x y t : Int) (w : World) (h1 : DV r i s = true) (h2 : DV x y t = true) (_ho : t ≤ s) (hz : ¬ x = 0) (hf : 31 < s - t) :
    Calls Try.prog 62 #[.agg #[.int .i64 r, .int .i64 i, .int .i64 s], .agg #[.int .i64 x, .int .i64 y, .int .i64 t]] w (Gives (.tuple #[.agg #[.int .i64 0, .int .i64 0, .int .i64 0], .bool false]) w) := by
  obtain ⟨a1, a2, a3, a4, a5, a6, -⟩ := (DV_iff r i s).1 h1
  obtain ⟨b1, b2, b3, b4, b5, b6, -⟩ := (DV_iff x y t).1 h2
  have H1 := Lib.hid h1; have H2 := Lib.hid h2; clear h1 h2
  go_enter Try.func62, Try.ntmps62
  go_wp2_with fail
  refine (valid_any r i s _).mono ?_
  rw [H1.out]
  rintro e u1 ⟨rfl, hb⟩
  have hB1 : Below w.heap.size w u1 := Below.trans (by go_grown) (hb.mono (by go_size))
  have hz1 := hb.size
  try simp at hz1
  have hw1 := hB1.size
  obtain ⟨hc1, hf1⟩ := bcell hb
  clear hb
  try have s0_0_1 : w.heap.size < u1.heap.size := by omega
  try have l0_0_1 : w.heap.size ≤ u1.heap.size := by omega
  try have s0_1_1 : w.heap.size + 1 < u1.heap.size := by omega
  try have l0_1_1 : w.heap.size + 1 ≤ u1.heap.size := by omega
  try have s0_2_1 : w.heap.size + 2 < u1.heap.size := by omega
  try have l0_2_1 : w.heap.size + 2 ≤ u1.heap.size := by omega
  go_wp2_with fail
  refine (valid_any x y t _).mono ?_
  rw [H2.out]
  rintro e u2 ⟨rfl, hb⟩
  have hB2 : Below w.heap.size w u2 := Below.trans (by go_grown) (hb.mono (by go_size))
  have hz2 := hb.size
  try simp at hz2
  have hw2 := hB2.size
  obtain ⟨hc2, hf2⟩ := bcell hb
  clear hb
  try have s0_0_2 : w.heap.size < u2.heap.size := by omega
  try have l0_0_2 : w.heap.size ≤ u2.heap.size := by omega
  try have s0_1_2 : w.heap.size + 1 < u2.heap.size := by omega
  try have l0_1_2 : w.heap.size + 1 ≤ u2.heap.size := by omega
  try have s0_2_2 : w.heap.size + 2 < u2.heap.size := by omega
  try have l0_2_2 : w.heap.size + 2 ≤ u2.heap.size := by omega
  try have s1_0_2 : u1.heap.size < u2.heap.size := by omega
  try have l1_0_2 : u1.heap.size ≤ u2.heap.size := by omega
  have ku2_0_0 : u2.cell? ⟨w.heap.size, 0, none⟩ = some (.int .i64 r) := by go_simp
  have fu2_0_0 : u2.frozen? ⟨w.heap.size, 0, none⟩ = false := by go_simp
  have ku2_0_1 : u2.cell? ⟨w.heap.size, 1, none⟩ = some (.int .i64 i) := by go_simp
  have fu2_0_1 : u2.frozen? ⟨w.heap.size, 1, none⟩ = false := by go_simp
  have ku2_0_2 : u2.cell? ⟨w.heap.size, 2, none⟩ = some (.int .i64 s) := by go_simp
  have fu2_0_2 : u2.frozen? ⟨w.heap.size, 2, none⟩ = false := by go_simp
  have ku2_1_0 : u2.cell? ⟨w.heap.size + 1, 0, none⟩ = some (.int .i64 x) := by go_simp
  have fu2_1_0 : u2.frozen? ⟨w.heap.size + 1, 0, none⟩ = false := by go_simp
  have ku2_1_1 : u2.cell? ⟨w.heap.size + 1, 1, none⟩ = some (.int .i64 y) := by go_simp
  have fu2_1_1 : u2.frozen? ⟨w.heap.size + 1, 1, none⟩ = false := by go_simp
  have ku2_1_2 : u2.cell? ⟨w.heap.size + 1, 2, none⟩ = some (.int .i64 t) := by go_simp
  have fu2_1_2 : u2.frozen? ⟨w.heap.size + 1, 2, none⟩ = false := by go_simp
  have ku2_2_0 : u2.cell? ⟨w.heap.size + 1 + 1, 0, none⟩ = some (.int .i64 0) := by go_simp
  have fu2_2_0 : u2.frozen? ⟨w.heap.size + 1 + 1, 0, none⟩ = false := by go_simp
  have ku2_2_1 : u2.cell? ⟨w.heap.size + 1 + 1, 1, none⟩ = some (.int .i64 0) := by go_simp
  have fu2_2_1 : u2.frozen? ⟨w.heap.size + 1 + 1, 1, none⟩ = false := by go_simp
  have ku2_2_2 : u2.cell? ⟨w.heap.size + 1 + 1, 2, none⟩ = some (.int .i64 0) := by go_simp
  have fu2_2_2 : u2.frozen? ⟨w.heap.size + 1 + 1, 2, none⟩ = false := by go_simp
  clear hc1 hf1
  clear hc2 hf2
  go_wp2
  have b0 : u2.cell? ⟨w.heap.size + 1 + 1, 0, none⟩ = some (.int .i64 0) := by go_simp
  have b1 : u2.cell? ⟨w.heap.size + 1 + 1, 1, none⟩ = some (.int .i64 0) := by go_simp
  have b2 : u2.cell? ⟨w.heap.size + 1 + 1, 2, none⟩ = some (.int .i64 0) := by go_simp
  refine ret_cell_tmp Try.results62 rfl rfl (load_Dyad _ _ _ _ _ (set3 b0 b1 b2 _ _ _).1 (set3 b0 b1 b2 _ _ _).2.1 (set3 b0 b1 b2 _ _ _).2.2) ⟨rfl, by go_grown⟩
theorem impl_DyadAdd_ge_far2 (r i s x y t : Int) (w : World) (h1 : DV r i s = true) (h2 : DV x y t = true) (_ho : t ≤ s) (hz0 : x = 0) (hz : ¬ y = 0) (hf : 31 < s - t) :
    Calls Try.prog 62 #[.agg #[.int .i64 r, .int .i64 i, .int .i64 s], .agg #[.int .i64 x, .int .i64 y, .int .i64 t]] w (Gives (.tuple #[.agg #[.int .i64 0, .int .i64 0, .int .i64 0], .bool false]) w) := by
  obtain ⟨a1, a2, a3, a4, a5, a6, -⟩ := (DV_iff r i s).1 h1
  obtain ⟨b1, b2, b3, b4, b5, b6, -⟩ := (DV_iff x y t).1 h2
  subst hz0
  have H1 := Lib.hid h1; have H2 := Lib.hid h2; clear h1 h2
  go_enter Try.func62, Try.ntmps62
  go_wp2_with fail
  refine (valid_any r i s _).mono ?_
  rw [H1.out]
  rintro e u1 ⟨rfl, hb⟩
  have hB1 : Below w.heap.size w u1 := Below.trans (by go_grown) (hb.mono (by go_size))
  have hz1 := hb.size
  try simp at hz1
  have hw1 := hB1.size
  obtain ⟨hc1, hf1⟩ := bcell hb
  clear hb
  try have s0_0_1 : w.heap.size < u1.heap.size := by omega
  try have l0_0_1 : w.heap.size ≤ u1.heap.size := by omega
  try have s0_1_1 : w.heap.size + 1 < u1.heap.size := by omega
  try have l0_1_1 : w.heap.size + 1 ≤ u1.heap.size := by omega
  try have s0_2_1 : w.heap.size + 2 < u1.heap.size := by omega
  try have l0_2_1 : w.heap.size + 2 ≤ u1.heap.size := by omega
  go_wp2_with fail
  refine (valid_any 0 y t _).mono ?_
  rw [H2.out]
  rintro e u2 ⟨rfl, hb⟩
  have hB2 : Below w.heap.size w u2 := Below.trans (by go_grown) (hb.mono (by go_size))
  have hz2 := hb.size
  try simp at hz2
  have hw2 := hB2.size
  obtain ⟨hc2, hf2⟩ := bcell hb
  clear hb
  try have s0_0_2 : w.heap.size < u2.heap.size := by omega
  try have l0_0_2 : w.heap.size ≤ u2.heap.size := by omega
  try have s0_1_2 : w.heap.size + 1 < u2.heap.size := by omega
  try have l0_1_2 : w.heap.size + 1 ≤ u2.heap.size := by omega
  try have s0_2_2 : w.heap.size + 2 < u2.heap.size := by omega
  try have l0_2_2 : w.heap.size + 2 ≤ u2.heap.size := by omega
  try have s1_0_2 : u1.heap.size < u2.heap.size := by omega
  try have l1_0_2 : u1.heap.size ≤ u2.heap.size := by omega
  have ku2_0_0 : u2.cell? ⟨w.heap.size, 0, none⟩ = some (.int .i64 r) := by go_simp
  have fu2_0_0 : u2.frozen? ⟨w.heap.size, 0, none⟩ = false := by go_simp
  have ku2_0_1 : u2.cell? ⟨w.heap.size, 1, none⟩ = some (.int .i64 i) := by go_simp
  have fu2_0_1 : u2.frozen? ⟨w.heap.size, 1, none⟩ = false := by go_simp
  have ku2_0_2 : u2.cell? ⟨w.heap.size, 2, none⟩ = some (.int .i64 s) := by go_simp
  have fu2_0_2 : u2.frozen? ⟨w.heap.size, 2, none⟩ = false := by go_simp
  have ku2_1_0 : u2.cell? ⟨w.heap.size + 1, 0, none⟩ = some (.int .i64 0) := by go_simp
  have fu2_1_0 : u2.frozen? ⟨w.heap.size + 1, 0, none⟩ = false := by go_simp
  have ku2_1_1 : u2.cell? ⟨w.heap.size + 1, 1, none⟩ = some (.int .i64 y) := by go_simp
  have fu2_1_1 : u2.frozen? ⟨w.heap.size + 1, 1, none⟩ = false := by go_simp
  have ku2_1_2 : u2.cell? ⟨w.heap.size + 1, 2, none⟩ = some (.int .i64 t) := by go_simp
  have fu2_1_2 : u2.frozen? ⟨w.heap.size + 1, 2, none⟩ = false := by go_simp
  have ku2_2_0 : u2.cell? ⟨w.heap.size + 1 + 1, 0, none⟩ = some (.int .i64 0) := by go_simp
  have fu2_2_0 : u2.frozen? ⟨w.heap.size + 1 + 1, 0, none⟩ = false := by go_simp
  have ku2_2_1 : u2.cell? ⟨w.heap.size + 1 + 1, 1, none⟩ = some (.int .i64 0) := by go_simp
  have fu2_2_1 : u2.frozen? ⟨w.heap.size + 1 + 1, 1, none⟩ = false := by go_simp
  have ku2_2_2 : u2.cell? ⟨w.heap.size + 1 + 1, 2, none⟩ = some (.int .i64 0) := by go_simp
  have fu2_2_2 : u2.frozen? ⟨w.heap.size + 1 + 1, 2, none⟩ = false := by go_simp
  clear hc1 hf1
  clear hc2 hf2
  go_wp2
  have b0 : u2.cell? ⟨w.heap.size + 1 + 1, 0, none⟩ = some (.int .i64 0) := by go_simp
  have b1 : u2.cell? ⟨w.heap.size + 1 + 1, 1, none⟩ = some (.int .i64 0) := by go_simp
  have b2 : u2.cell? ⟨w.heap.size + 1 + 1, 2, none⟩ = some (.int .i64 0) := by go_simp
  refine ret_cell_tmp Try.results62 rfl rfl (load_Dyad _ _ _ _ _ (set3 b0 b1 b2 _ _ _).1 (set3 b0 b1 b2 _ _ _).2.1 (set3 b0 b1 b2 _ _ _).2.2) ⟨rfl, by go_grown⟩
set_option maxHeartbeats 400000 in
theorem impl_DyadAdd_ge_yes1 (r i s x y t : Int) (w : World) (h1 : DV r i s = true) (h2 : DV x y t = true) (ho : t ≤ s) (hz : ¬ x = 0) (hn : s - t ≤ 31) (hl : DV (lR (AP r s x t) (AP i s y t) (max s t)) (lI (AP r s x t) (AP i s y t) (max s t)) (lS (AP r s x t) (AP i s y t) (max s t)) = true) :
    Calls Try.prog 62 #[.agg #[.int .i64 r, .int .i64 i, .int .i64 s], .agg #[.int .i64 x, .int .i64 y, .int .i64 t]] w (Gives (.tuple #[.agg #[.int .i64 (lR (AP r s x t) (AP i s y t) (max s t)), .int .i64 (lI (AP r s x t) (AP i s y t) (max s t)), .int .i64 (lS (AP r s x t) (AP i s y t) (max s t))], .bool true]) w) := by
  obtain ⟨a1, a2, a3, a4, a5, a6, -⟩ := (DV_iff r i s).1 h1
  obtain ⟨b1, b2, b3, b4, b5, b6, -⟩ := (DV_iff x y t).1 h2
  have hm : max s t = s := Int.max_eq_left ho
  obtain ⟨k0, k1, k2, k3, k4⟩ := add_near r i s x y t ho h1 h2 hn
  obtain ⟨p, hp⟩ : ∃ p : Int, x * 2 ^ (s - t).toNat = p := ⟨_, rfl⟩
  obtain ⟨q, hq⟩ : ∃ q : Int, y * 2 ^ (s - t).toNat = q := ⟨_, rfl⟩
  have w1 := (shl_up _ _ k1 k2).trans hp
  have v1 := shl_i64 w1
  have w2 := (shl_up _ _ k3 k4).trans hq
  have v2 := shl_i64 w2
  have ep : AP r s x t = r + p := by rw [AP_ge _ _ _ _ ho, hp]
  have eq' : AP i s y t = i + q := by rw [AP_ge _ _ _ _ ho, hq]
  have hk : MK (AP r s x t) (AP i s y t) (max s t) = true := by unfold MK; rw [k0, hl]; rfl
  rw [ep, eq', hm] at hk ⊢
  rw [hp] at k1 k2
  rw [hq] at k3 k4
  have v3 : IntKind.i64.wrap (r + p) = r + p := IntWalk.i64_in _ (by omega)
  have v4 : IntKind.i64.wrap (i + q) = i + q := IntWalk.i64_in _ (by omega)
  have HK := Lib.hid hk; clear hk ep eq' hm k0 hl
  have HP := Lib.hid hp; have HQ := Lib.hid hq; clear hp hq
  have n1 : 0 ≤ s - t := by omega
  have H1 := Lib.hid h1; have H2 := Lib.hid h2; clear h1 h2
  go_enter Try.func62, Try.ntmps62
  go_wp2_with fail
  refine (valid_any r i s _).mono ?_
  rw [H1.out]
  rintro e u1 ⟨rfl, hb⟩
  have hB1 : Below w.heap.size w u1 := Below.trans (by go_grown) (hb.mono (by go_size))
  have hz1 := hb.size
  try simp at hz1
  have hw1 := hB1.size
  obtain ⟨hc1, hf1⟩ := bcell hb
  clear hb
  try have s0_0_1 : w.heap.size < u1.heap.size := by omega
  try have l0_0_1 : w.heap.size ≤ u1.heap.size := by omega
  try have s0_1_1 : w.heap.size + 1 < u1.heap.size := by omega
  try have l0_1_1 : w.heap.size + 1 ≤ u1.heap.size := by omega
  try have s0_2_1 : w.heap.size + 2 < u1.heap.size := by omega
  try have l0_2_1 : w.heap.size + 2 ≤ u1.heap.size := by omega
  go_wp2_with fail
  refine (valid_any x y t _).mono ?_
  rw [H2.out]
  rintro e u2 ⟨rfl, hb⟩
  have hB2 : Below w.heap.size w u2 := Below.trans (by go_grown) (hb.mono (by go_size))
  have hz2 := hb.size
  try simp at hz2
  have hw2 := hB2.size
  obtain ⟨hc2, hf2⟩ := bcell hb
  clear hb
  try have s0_0_2 : w.heap.size < u2.heap.size := by omega
  try have l0_0_2 : w.heap.size ≤ u2.heap.size := by omega
  try have s0_1_2 : w.heap.size + 1 < u2.heap.size := by omega
  try have l0_1_2 : w.heap.size + 1 ≤ u2.heap.size := by omega
  try have s0_2_2 : w.heap.size + 2 < u2.heap.size := by omega
  try have l0_2_2 : w.heap.size + 2 ≤ u2.heap.size := by omega
  try have s1_0_2 : u1.heap.size < u2.heap.size := by omega
  try have l1_0_2 : u1.heap.size ≤ u2.heap.size := by omega
  have ku2_0_0 : u2.cell? ⟨w.heap.size, 0, none⟩ = some (.int .i64 r) := by go_simp
  have fu2_0_0 : u2.frozen? ⟨w.heap.size, 0, none⟩ = false := by go_simp
  have ku2_0_1 : u2.cell? ⟨w.heap.size, 1, none⟩ = some (.int .i64 i) := by go_simp
  have fu2_0_1 : u2.frozen? ⟨w.heap.size, 1, none⟩ = false := by go_simp
  have ku2_0_2 : u2.cell? ⟨w.heap.size, 2, none⟩ = some (.int .i64 s) := by go_simp
  have fu2_0_2 : u2.frozen? ⟨w.heap.size, 2, none⟩ = false := by go_simp
  have ku2_1_0 : u2.cell? ⟨w.heap.size + 1, 0, none⟩ = some (.int .i64 x) := by go_simp
  have fu2_1_0 : u2.frozen? ⟨w.heap.size + 1, 0, none⟩ = false := by go_simp
  have ku2_1_1 : u2.cell? ⟨w.heap.size + 1, 1, none⟩ = some (.int .i64 y) := by go_simp
  have fu2_1_1 : u2.frozen? ⟨w.heap.size + 1, 1, none⟩ = false := by go_simp
  have ku2_1_2 : u2.cell? ⟨w.heap.size + 1, 2, none⟩ = some (.int .i64 t) := by go_simp
  have fu2_1_2 : u2.frozen? ⟨w.heap.size + 1, 2, none⟩ = false := by go_simp
  have ku2_2_0 : u2.cell? ⟨w.heap.size + 1 + 1, 0, none⟩ = some (.int .i64 0) := by go_simp
  have fu2_2_0 : u2.frozen? ⟨w.heap.size + 1 + 1, 0, none⟩ = false := by go_simp
  have ku2_2_1 : u2.cell? ⟨w.heap.size + 1 + 1, 1, none⟩ = some (.int .i64 0) := by go_simp
  have fu2_2_1 : u2.frozen? ⟨w.heap.size + 1 + 1, 1, none⟩ = false := by go_simp
  have ku2_2_2 : u2.cell? ⟨w.heap.size + 1 + 1, 2, none⟩ = some (.int .i64 0) := by go_simp
  have fu2_2_2 : u2.frozen? ⟨w.heap.size + 1 + 1, 2, none⟩ = false := by go_simp
  clear hc1 hf1
  clear hc2 hf2
  have g0 : w.heap.size < u2.heap.size := by omega
  have g1 : w.heap.size + 1 < u2.heap.size := by omega
  have g2 : w.heap.size + 1 + 1 < u2.heap.size := by omega
  go_wp2
  go_region_held3 (fun w' => w'.cell? ⟨w.heap.size, 0, none⟩ = some (.int .i64 r) ∧ w'.cell? ⟨w.heap.size, 1, none⟩ = some (.int .i64 i) ∧ w'.cell? ⟨w.heap.size, 2, none⟩ = some (.int .i64 s) ∧ w'.cell? ⟨w.heap.size + 1, 0, none⟩ = some (.int .i64 x) ∧ w'.cell? ⟨w.heap.size + 1, 1, none⟩ = some (.int .i64 y))
    (first | exact ⟨ku2_0_0, ku2_0_1, ku2_0_2, ku2_1_0, ku2_1_1⟩ | exact ⟨hd0, hd1, hd2, hd3, hd4⟩ | exact ⟨set3_out hd0 (by omega), set3_out hd1 (by omega), set3_out hd2 (by omega), set3_out hd3 (by omega), set3_out hd4 (by omega)⟩)
    (first | (go_at_call 68; refine (impl_DyadMake_yes (r + p) (i + q) s _ HK.out).mono ?_; rintro e u4 ⟨rfl, hb⟩; have hB4 : Below w.heap.size w u4 := Below.trans (by go_grown) (hb.mono (by go_size)); have hd0 := (hb.cell (p := ⟨w.heap.size, 0, none⟩) g0).trans ku2_0_0; have hd1 := (hb.cell (p := ⟨w.heap.size, 1, none⟩) g0).trans ku2_0_1; have hd2 := (hb.cell (p := ⟨w.heap.size, 2, none⟩) g0).trans ku2_0_2; have hd3 := (hb.cell (p := ⟨w.heap.size + 1, 0, none⟩) g1).trans ku2_1_0; have hd4 := (hb.cell (p := ⟨w.heap.size + 1, 1, none⟩) g1).trans ku2_1_1; have e0 := (hb.cell (p := ⟨w.heap.size + 1 + 1, 0, none⟩) g2).trans ku2_2_0; have q0 := (hb.frozen (p := ⟨w.heap.size + 1 + 1, 0, none⟩) g2).trans fu2_2_0; have e1 := (hb.cell (p := ⟨w.heap.size + 1 + 1, 1, none⟩) g2).trans ku2_2_1; have q1 := (hb.frozen (p := ⟨w.heap.size + 1 + 1, 1, none⟩) g2).trans fu2_2_1; have e2 := (hb.cell (p := ⟨w.heap.size + 1 + 1, 2, none⟩) g2).trans ku2_2_2; have q2 := (hb.frozen (p := ⟨w.heap.size + 1 + 1, 2, none⟩) g2).trans fu2_2_2; clear hb))
  have hB4' := hB4
  go_wp2
  refine ret_cell_tmp Try.results62 rfl rfl (load_Dyad _ _ _ _ _ (set3 e0 e1 e2 _ _ _).1 (set3 e0 e1 e2 _ _ _).2.1 (set3 e0 e1 e2 _ _ _).2.2) ⟨rfl, by go_grown⟩
set_option maxHeartbeats 400000 in
theorem impl_DyadAdd_ge_yes2 (r i s x y t : Int) (w : World) (h1 : DV r i s = true) (h2 : DV x y t = true) (ho : t ≤ s) (hz0 : x = 0) (hz : ¬ y = 0) (hn : s - t ≤ 31) (hl : DV (lR (AP r s x t) (AP i s y t) (max s t)) (lI (AP r s x t) (AP i s y t) (max s t)) (lS (AP r s x t) (AP i s y t) (max s t)) = true) :
    Calls Try.prog 62 #[.agg #[.int .i64 r, .int .i64 i, .int .i64 s], .agg #[.int .i64 x, .int .i64 y, .int .i64 t]] w (Gives (.tuple #[.agg #[.int .i64 (lR (AP r s x t) (AP i s y t) (max s t)), .int .i64 (lI (AP r s x t) (AP i s y t) (max s t)), .int .i64 (lS (AP r s x t) (AP i s y t) (max s t))], .bool true]) w) := by
  obtain ⟨a1, a2, a3, a4, a5, a6, -⟩ := (DV_iff r i s).1 h1
  obtain ⟨b1, b2, b3, b4, b5, b6, -⟩ := (DV_iff x y t).1 h2
  subst hz0
  have hm : max s t = s := Int.max_eq_left ho
  obtain ⟨k0, k1, k2, k3, k4⟩ := add_near r i s 0 y t ho h1 h2 hn
  obtain ⟨p, hp⟩ : ∃ p : Int, 0 * 2 ^ (s - t).toNat = p := ⟨_, rfl⟩
  obtain ⟨q, hq⟩ : ∃ q : Int, y * 2 ^ (s - t).toNat = q := ⟨_, rfl⟩
  have w2 := (shl_up _ _ k3 k4).trans hq
  have v2 := shl_i64 w2
  have ep : AP r s 0 t = r + p := by rw [AP_ge _ _ _ _ ho, hp]
  have eq' : AP i s y t = i + q := by rw [AP_ge _ _ _ _ ho, hq]
  have hk : MK (AP r s 0 t) (AP i s y t) (max s t) = true := by unfold MK; rw [k0, hl]; rfl
  rw [ep, eq', hm] at hk ⊢
  rw [hp] at k1 k2
  rw [hq] at k3 k4
  have hp0 : p = 0 := by rw [← hp, Int.zero_mul]
  subst hp0
  rw [Int.add_zero] at hk ⊢
  have v3 : IntKind.i64.wrap r = r := IntWalk.i64_in _ (by omega)
  have v5 : IntKind.i64.wrap 0 = 0 := rfl
  have v4 : IntKind.i64.wrap (i + q) = i + q := IntWalk.i64_in _ (by omega)
  have HK := Lib.hid hk; clear hk ep eq' hm k0 hl
  have HP := Lib.hid hp; have HQ := Lib.hid hq; clear hp hq
  have n1 : 0 ≤ s - t := by omega
  have H1 := Lib.hid h1; have H2 := Lib.hid h2; clear h1 h2
  go_enter Try.func62, Try.ntmps62
  go_wp2_with fail
  refine (valid_any r i s _).mono ?_
  rw [H1.out]
  rintro e u1 ⟨rfl, hb⟩
  have hB1 : Below w.heap.size w u1 := Below.trans (by go_grown) (hb.mono (by go_size))
  have hz1 := hb.size
  try simp at hz1
  have hw1 := hB1.size
  obtain ⟨hc1, hf1⟩ := bcell hb
  clear hb
  try have s0_0_1 : w.heap.size < u1.heap.size := by omega
  try have l0_0_1 : w.heap.size ≤ u1.heap.size := by omega
  try have s0_1_1 : w.heap.size + 1 < u1.heap.size := by omega
  try have l0_1_1 : w.heap.size + 1 ≤ u1.heap.size := by omega
  try have s0_2_1 : w.heap.size + 2 < u1.heap.size := by omega
  try have l0_2_1 : w.heap.size + 2 ≤ u1.heap.size := by omega
  go_wp2_with fail
  refine (valid_any 0 y t _).mono ?_
  rw [H2.out]
  rintro e u2 ⟨rfl, hb⟩
  have hB2 : Below w.heap.size w u2 := Below.trans (by go_grown) (hb.mono (by go_size))
  have hz2 := hb.size
  try simp at hz2
  have hw2 := hB2.size
  obtain ⟨hc2, hf2⟩ := bcell hb
  clear hb
  try have s0_0_2 : w.heap.size < u2.heap.size := by omega
  try have l0_0_2 : w.heap.size ≤ u2.heap.size := by omega
  try have s0_1_2 : w.heap.size + 1 < u2.heap.size := by omega
  try have l0_1_2 : w.heap.size + 1 ≤ u2.heap.size := by omega
  try have s0_2_2 : w.heap.size + 2 < u2.heap.size := by omega
  try have l0_2_2 : w.heap.size + 2 ≤ u2.heap.size := by omega
  try have s1_0_2 : u1.heap.size < u2.heap.size := by omega
  try have l1_0_2 : u1.heap.size ≤ u2.heap.size := by omega
  have ku2_0_0 : u2.cell? ⟨w.heap.size, 0, none⟩ = some (.int .i64 r) := by go_simp
  have fu2_0_0 : u2.frozen? ⟨w.heap.size, 0, none⟩ = false := by go_simp
  have ku2_0_1 : u2.cell? ⟨w.heap.size, 1, none⟩ = some (.int .i64 i) := by go_simp
  have fu2_0_1 : u2.frozen? ⟨w.heap.size, 1, none⟩ = false := by go_simp
  have ku2_0_2 : u2.cell? ⟨w.heap.size, 2, none⟩ = some (.int .i64 s) := by go_simp
  have fu2_0_2 : u2.frozen? ⟨w.heap.size, 2, none⟩ = false := by go_simp
  have ku2_1_0 : u2.cell? ⟨w.heap.size + 1, 0, none⟩ = some (.int .i64 0) := by go_simp
  have fu2_1_0 : u2.frozen? ⟨w.heap.size + 1, 0, none⟩ = false := by go_simp
  have ku2_1_1 : u2.cell? ⟨w.heap.size + 1, 1, none⟩ = some (.int .i64 y) := by go_simp
  have fu2_1_1 : u2.frozen? ⟨w.heap.size + 1, 1, none⟩ = false := by go_simp
  have ku2_1_2 : u2.cell? ⟨w.heap.size + 1, 2, none⟩ = some (.int .i64 t) := by go_simp
  have fu2_1_2 : u2.frozen? ⟨w.heap.size + 1, 2, none⟩ = false := by go_simp
  have ku2_2_0 : u2.cell? ⟨w.heap.size + 1 + 1, 0, none⟩ = some (.int .i64 0) := by go_simp
  have fu2_2_0 : u2.frozen? ⟨w.heap.size + 1 + 1, 0, none⟩ = false := by go_simp
  have ku2_2_1 : u2.cell? ⟨w.heap.size + 1 + 1, 1, none⟩ = some (.int .i64 0) := by go_simp
  have fu2_2_1 : u2.frozen? ⟨w.heap.size + 1 + 1, 1, none⟩ = false := by go_simp
  have ku2_2_2 : u2.cell? ⟨w.heap.size + 1 + 1, 2, none⟩ = some (.int .i64 0) := by go_simp
  have fu2_2_2 : u2.frozen? ⟨w.heap.size + 1 + 1, 2, none⟩ = false := by go_simp
  clear hc1 hf1
  clear hc2 hf2
  have g0 : w.heap.size < u2.heap.size := by omega
  have g1 : w.heap.size + 1 < u2.heap.size := by omega
  have g2 : w.heap.size + 1 + 1 < u2.heap.size := by omega
  go_wp2
  go_region_held3 (fun w' => w'.cell? ⟨w.heap.size, 0, none⟩ = some (.int .i64 r) ∧ w'.cell? ⟨w.heap.size, 1, none⟩ = some (.int .i64 i) ∧ w'.cell? ⟨w.heap.size, 2, none⟩ = some (.int .i64 s) ∧ w'.cell? ⟨w.heap.size + 1, 0, none⟩ = some (.int .i64 0) ∧ w'.cell? ⟨w.heap.size + 1, 1, none⟩ = some (.int .i64 y))
    (first | exact ⟨ku2_0_0, ku2_0_1, ku2_0_2, ku2_1_0, ku2_1_1⟩ | exact ⟨hd0, hd1, hd2, hd3, hd4⟩ | exact ⟨set3_out hd0 (by omega), set3_out hd1 (by omega), set3_out hd2 (by omega), set3_out hd3 (by omega), set3_out hd4 (by omega)⟩)
    (first | (go_at_call 68; refine (impl_DyadMake_yes r (i + q) s _ HK.out).mono ?_; rintro e u4 ⟨rfl, hb⟩; have hB4 : Below w.heap.size w u4 := Below.trans (by go_grown) (hb.mono (by go_size)); have hd0 := (hb.cell (p := ⟨w.heap.size, 0, none⟩) g0).trans ku2_0_0; have hd1 := (hb.cell (p := ⟨w.heap.size, 1, none⟩) g0).trans ku2_0_1; have hd2 := (hb.cell (p := ⟨w.heap.size, 2, none⟩) g0).trans ku2_0_2; have hd3 := (hb.cell (p := ⟨w.heap.size + 1, 0, none⟩) g1).trans ku2_1_0; have hd4 := (hb.cell (p := ⟨w.heap.size + 1, 1, none⟩) g1).trans ku2_1_1; have e0 := (hb.cell (p := ⟨w.heap.size + 1 + 1, 0, none⟩) g2).trans ku2_2_0; have q0 := (hb.frozen (p := ⟨w.heap.size + 1 + 1, 0, none⟩) g2).trans fu2_2_0; have e1 := (hb.cell (p := ⟨w.heap.size + 1 + 1, 1, none⟩) g2).trans ku2_2_1; have q1 := (hb.frozen (p := ⟨w.heap.size + 1 + 1, 1, none⟩) g2).trans fu2_2_1; have e2 := (hb.cell (p := ⟨w.heap.size + 1 + 1, 2, none⟩) g2).trans ku2_2_2; have q2 := (hb.frozen (p := ⟨w.heap.size + 1 + 1, 2, none⟩) g2).trans fu2_2_2; clear hb))
  have hB4' := hB4
  go_wp2
  refine ret_cell_tmp Try.results62 rfl rfl (load_Dyad _ _ _ _ _ (set3 e0 e1 e2 _ _ _).1 (set3 e0 e1 e2 _ _ _).2.1 (set3 e0 e1 e2 _ _ _).2.2) ⟨rfl, by go_grown⟩
set_option maxHeartbeats 400000 in
theorem impl_DyadAdd_ge_no1 (r i s x y t : Int) (w : World) (h1 : DV r i s = true) (h2 : DV x y t = true) (ho : t ≤ s) (hz : ¬ x = 0) (hn : s - t ≤ 31) (hl : DV (lR (AP r s x t) (AP i s y t) (max s t)) (lI (AP r s x t) (AP i s y t) (max s t)) (lS (AP r s x t) (AP i s y t) (max s t)) = false) :
    Calls Try.prog 62 #[.agg #[.int .i64 r, .int .i64 i, .int .i64 s], .agg #[.int .i64 x, .int .i64 y, .int .i64 t]] w (Gives (.tuple #[.agg #[.int .i64 0, .int .i64 0, .int .i64 0], .bool false]) w) := by
  obtain ⟨a1, a2, a3, a4, a5, a6, -⟩ := (DV_iff r i s).1 h1
  obtain ⟨b1, b2, b3, b4, b5, b6, -⟩ := (DV_iff x y t).1 h2
  have hm : max s t = s := Int.max_eq_left ho
  obtain ⟨k0, k1, k2, k3, k4⟩ := add_near r i s x y t ho h1 h2 hn
  obtain ⟨p, hp⟩ : ∃ p : Int, x * 2 ^ (s - t).toNat = p := ⟨_, rfl⟩
  obtain ⟨q, hq⟩ : ∃ q : Int, y * 2 ^ (s - t).toNat = q := ⟨_, rfl⟩
  have w1 := (shl_up _ _ k1 k2).trans hp
  have v1 := shl_i64 w1
  have w2 := (shl_up _ _ k3 k4).trans hq
  have v2 := shl_i64 w2
  have ep : AP r s x t = r + p := by rw [AP_ge _ _ _ _ ho, hp]
  have eq' : AP i s y t = i + q := by rw [AP_ge _ _ _ _ ho, hq]
  have hk : MK (AP r s x t) (AP i s y t) (max s t) = false := by unfold MK; rw [k0, hl]; rfl
  rw [ep, eq', hm] at hk
  rw [hp] at k1 k2
  rw [hq] at k3 k4
  have v3 : IntKind.i64.wrap (r + p) = r + p := IntWalk.i64_in _ (by omega)
  have v4 : IntKind.i64.wrap (i + q) = i + q := IntWalk.i64_in _ (by omega)
  have HK := Lib.hid hk; clear hk ep eq' hm k0 hl
  have HP := Lib.hid hp; have HQ := Lib.hid hq; clear hp hq
  have n1 : 0 ≤ s - t := by omega
  have H1 := Lib.hid h1; have H2 := Lib.hid h2; clear h1 h2
  go_enter Try.func62, Try.ntmps62
  go_wp2_with fail
  refine (valid_any r i s _).mono ?_
  rw [H1.out]
  rintro e u1 ⟨rfl, hb⟩
  have hB1 : Below w.heap.size w u1 := Below.trans (by go_grown) (hb.mono (by go_size))
  have hz1 := hb.size
  try simp at hz1
  have hw1 := hB1.size
  obtain ⟨hc1, hf1⟩ := bcell hb
  clear hb
  try have s0_0_1 : w.heap.size < u1.heap.size := by omega
  try have l0_0_1 : w.heap.size ≤ u1.heap.size := by omega
  try have s0_1_1 : w.heap.size + 1 < u1.heap.size := by omega
  try have l0_1_1 : w.heap.size + 1 ≤ u1.heap.size := by omega
  try have s0_2_1 : w.heap.size + 2 < u1.heap.size := by omega
  try have l0_2_1 : w.heap.size + 2 ≤ u1.heap.size := by omega
  go_wp2_with fail
  refine (valid_any x y t _).mono ?_
  rw [H2.out]
  rintro e u2 ⟨rfl, hb⟩
  have hB2 : Below w.heap.size w u2 := Below.trans (by go_grown) (hb.mono (by go_size))
  have hz2 := hb.size
  try simp at hz2
  have hw2 := hB2.size
  obtain ⟨hc2, hf2⟩ := bcell hb
  clear hb
  try have s0_0_2 : w.heap.size < u2.heap.size := by omega
  try have l0_0_2 : w.heap.size ≤ u2.heap.size := by omega
  try have s0_1_2 : w.heap.size + 1 < u2.heap.size := by omega
  try have l0_1_2 : w.heap.size + 1 ≤ u2.heap.size := by omega
  try have s0_2_2 : w.heap.size + 2 < u2.heap.size := by omega
  try have l0_2_2 : w.heap.size + 2 ≤ u2.heap.size := by omega
  try have s1_0_2 : u1.heap.size < u2.heap.size := by omega
  try have l1_0_2 : u1.heap.size ≤ u2.heap.size := by omega
  have ku2_0_0 : u2.cell? ⟨w.heap.size, 0, none⟩ = some (.int .i64 r) := by go_simp
  have fu2_0_0 : u2.frozen? ⟨w.heap.size, 0, none⟩ = false := by go_simp
  have ku2_0_1 : u2.cell? ⟨w.heap.size, 1, none⟩ = some (.int .i64 i) := by go_simp
  have fu2_0_1 : u2.frozen? ⟨w.heap.size, 1, none⟩ = false := by go_simp
  have ku2_0_2 : u2.cell? ⟨w.heap.size, 2, none⟩ = some (.int .i64 s) := by go_simp
  have fu2_0_2 : u2.frozen? ⟨w.heap.size, 2, none⟩ = false := by go_simp
  have ku2_1_0 : u2.cell? ⟨w.heap.size + 1, 0, none⟩ = some (.int .i64 x) := by go_simp
  have fu2_1_0 : u2.frozen? ⟨w.heap.size + 1, 0, none⟩ = false := by go_simp
  have ku2_1_1 : u2.cell? ⟨w.heap.size + 1, 1, none⟩ = some (.int .i64 y) := by go_simp
  have fu2_1_1 : u2.frozen? ⟨w.heap.size + 1, 1, none⟩ = false := by go_simp
  have ku2_1_2 : u2.cell? ⟨w.heap.size + 1, 2, none⟩ = some (.int .i64 t) := by go_simp
  have fu2_1_2 : u2.frozen? ⟨w.heap.size + 1, 2, none⟩ = false := by go_simp
  have ku2_2_0 : u2.cell? ⟨w.heap.size + 1 + 1, 0, none⟩ = some (.int .i64 0) := by go_simp
  have fu2_2_0 : u2.frozen? ⟨w.heap.size + 1 + 1, 0, none⟩ = false := by go_simp
  have ku2_2_1 : u2.cell? ⟨w.heap.size + 1 + 1, 1, none⟩ = some (.int .i64 0) := by go_simp
  have fu2_2_1 : u2.frozen? ⟨w.heap.size + 1 + 1, 1, none⟩ = false := by go_simp
  have ku2_2_2 : u2.cell? ⟨w.heap.size + 1 + 1, 2, none⟩ = some (.int .i64 0) := by go_simp
  have fu2_2_2 : u2.frozen? ⟨w.heap.size + 1 + 1, 2, none⟩ = false := by go_simp
  clear hc1 hf1
  clear hc2 hf2
  have g0 : w.heap.size < u2.heap.size := by omega
  have g1 : w.heap.size + 1 < u2.heap.size := by omega
  have g2 : w.heap.size + 1 + 1 < u2.heap.size := by omega
  go_wp2
  go_region_held3 (fun w' => w'.cell? ⟨w.heap.size, 0, none⟩ = some (.int .i64 r) ∧ w'.cell? ⟨w.heap.size, 1, none⟩ = some (.int .i64 i) ∧ w'.cell? ⟨w.heap.size, 2, none⟩ = some (.int .i64 s) ∧ w'.cell? ⟨w.heap.size + 1, 0, none⟩ = some (.int .i64 x) ∧ w'.cell? ⟨w.heap.size + 1, 1, none⟩ = some (.int .i64 y))
    (first | exact ⟨ku2_0_0, ku2_0_1, ku2_0_2, ku2_1_0, ku2_1_1⟩ | exact ⟨hd0, hd1, hd2, hd3, hd4⟩ | exact ⟨set3_out hd0 (by omega), set3_out hd1 (by omega), set3_out hd2 (by omega), set3_out hd3 (by omega), set3_out hd4 (by omega)⟩)
    (first | (go_at_call 68; refine (impl_DyadMake_no (r + p) (i + q) s _ HK.out).mono ?_; rintro e u4 ⟨rfl, hb⟩; have hB4 : Below w.heap.size w u4 := Below.trans (by go_grown) (hb.mono (by go_size)); have hd0 := (hb.cell (p := ⟨w.heap.size, 0, none⟩) g0).trans ku2_0_0; have hd1 := (hb.cell (p := ⟨w.heap.size, 1, none⟩) g0).trans ku2_0_1; have hd2 := (hb.cell (p := ⟨w.heap.size, 2, none⟩) g0).trans ku2_0_2; have hd3 := (hb.cell (p := ⟨w.heap.size + 1, 0, none⟩) g1).trans ku2_1_0; have hd4 := (hb.cell (p := ⟨w.heap.size + 1, 1, none⟩) g1).trans ku2_1_1; have e0 := (hb.cell (p := ⟨w.heap.size + 1 + 1, 0, none⟩) g2).trans ku2_2_0; have q0 := (hb.frozen (p := ⟨w.heap.size + 1 + 1, 0, none⟩) g2).trans fu2_2_0; have e1 := (hb.cell (p := ⟨w.heap.size + 1 + 1, 1, none⟩) g2).trans ku2_2_1; have q1 := (hb.frozen (p := ⟨w.heap.size + 1 + 1, 1, none⟩) g2).trans fu2_2_1; have e2 := (hb.cell (p := ⟨w.heap.size + 1 + 1, 2, none⟩) g2).trans ku2_2_2; have q2 := (hb.frozen (p := ⟨w.heap.size + 1 + 1, 2, none⟩) g2).trans fu2_2_2; clear hb))
  have hB4' := hB4
  go_wp2
  refine ret_cell_tmp Try.results62 rfl rfl (load_Dyad _ _ _ _ _ (set3 e0 e1 e2 _ _ _).1 (set3 e0 e1 e2 _ _ _).2.1 (set3 e0 e1 e2 _ _ _).2.2) ⟨rfl, by go_grown⟩
set_option maxHeartbeats 400000 in
theorem impl_DyadAdd_ge_no2 (r i s x y t : Int) (w : World) (h1 : DV r i s = true) (h2 : DV x y t = true) (ho : t ≤ s) (hz0 : x = 0) (hz : ¬ y = 0) (hn : s - t ≤ 31) (hl : DV (lR (AP r s x t) (AP i s y t) (max s t)) (lI (AP r s x t) (AP i s y t) (max s t)) (lS (AP r s x t) (AP i s y t) (max s t)) = false) :
    Calls Try.prog 62 #[.agg #[.int .i64 r, .int .i64 i, .int .i64 s], .agg #[.int .i64 x, .int .i64 y, .int .i64 t]] w (Gives (.tuple #[.agg #[.int .i64 0, .int .i64 0, .int .i64 0], .bool false]) w) := by
  obtain ⟨a1, a2, a3, a4, a5, a6, -⟩ := (DV_iff r i s).1 h1
  obtain ⟨b1, b2, b3, b4, b5, b6, -⟩ := (DV_iff x y t).1 h2
  subst hz0
  have hm : max s t = s := Int.max_eq_left ho
  obtain ⟨k0, k1, k2, k3, k4⟩ := add_near r i s 0 y t ho h1 h2 hn
  obtain ⟨p, hp⟩ : ∃ p : Int, 0 * 2 ^ (s - t).toNat = p := ⟨_, rfl⟩
  obtain ⟨q, hq⟩ : ∃ q : Int, y * 2 ^ (s - t).toNat = q := ⟨_, rfl⟩
  have w2 := (shl_up _ _ k3 k4).trans hq
  have v2 := shl_i64 w2
  have ep : AP r s 0 t = r + p := by rw [AP_ge _ _ _ _ ho, hp]
  have eq' : AP i s y t = i + q := by rw [AP_ge _ _ _ _ ho, hq]
  have hk : MK (AP r s 0 t) (AP i s y t) (max s t) = false := by unfold MK; rw [k0, hl]; rfl
  rw [ep, eq', hm] at hk
  rw [hp] at k1 k2
  rw [hq] at k3 k4
  have hp0 : p = 0 := by rw [← hp, Int.zero_mul]
  subst hp0
  rw [Int.add_zero] at hk
  have v3 : IntKind.i64.wrap r = r := IntWalk.i64_in _ (by omega)
  have v5 : IntKind.i64.wrap 0 = 0 := rfl
  have v4 : IntKind.i64.wrap (i + q) = i + q := IntWalk.i64_in _ (by omega)
  have HK := Lib.hid hk; clear hk ep eq' hm k0 hl
  have HP := Lib.hid hp; have HQ := Lib.hid hq; clear hp hq
  have n1 : 0 ≤ s - t := by omega
  have H1 := Lib.hid h1; have H2 := Lib.hid h2; clear h1 h2
  go_enter Try.func62, Try.ntmps62
  go_wp2_with fail
  refine (valid_any r i s _).mono ?_
  rw [H1.out]
  rintro e u1 ⟨rfl, hb⟩
  have hB1 : Below w.heap.size w u1 := Below.trans (by go_grown) (hb.mono (by go_size))
  have hz1 := hb.size
  try simp at hz1
  have hw1 := hB1.size
  obtain ⟨hc1, hf1⟩ := bcell hb
  clear hb
  try have s0_0_1 : w.heap.size < u1.heap.size := by omega
  try have l0_0_1 : w.heap.size ≤ u1.heap.size := by omega
  try have s0_1_1 : w.heap.size + 1 < u1.heap.size := by omega
  try have l0_1_1 : w.heap.size + 1 ≤ u1.heap.size := by omega
  try have s0_2_1 : w.heap.size + 2 < u1.heap.size := by omega
  try have l0_2_1 : w.heap.size + 2 ≤ u1.heap.size := by omega
  go_wp2_with fail
  refine (valid_any 0 y t _).mono ?_
  rw [H2.out]
  rintro e u2 ⟨rfl, hb⟩
  have hB2 : Below w.heap.size w u2 := Below.trans (by go_grown) (hb.mono (by go_size))
  have hz2 := hb.size
  try simp at hz2
  have hw2 := hB2.size
  obtain ⟨hc2, hf2⟩ := bcell hb
  clear hb
  try have s0_0_2 : w.heap.size < u2.heap.size := by omega
  try have l0_0_2 : w.heap.size ≤ u2.heap.size := by omega
  try have s0_1_2 : w.heap.size + 1 < u2.heap.size := by omega
  try have l0_1_2 : w.heap.size + 1 ≤ u2.heap.size := by omega
  try have s0_2_2 : w.heap.size + 2 < u2.heap.size := by omega
  try have l0_2_2 : w.heap.size + 2 ≤ u2.heap.size := by omega
  try have s1_0_2 : u1.heap.size < u2.heap.size := by omega
  try have l1_0_2 : u1.heap.size ≤ u2.heap.size := by omega
  have ku2_0_0 : u2.cell? ⟨w.heap.size, 0, none⟩ = some (.int .i64 r) := by go_simp
  have fu2_0_0 : u2.frozen? ⟨w.heap.size, 0, none⟩ = false := by go_simp
  have ku2_0_1 : u2.cell? ⟨w.heap.size, 1, none⟩ = some (.int .i64 i) := by go_simp
  have fu2_0_1 : u2.frozen? ⟨w.heap.size, 1, none⟩ = false := by go_simp
  have ku2_0_2 : u2.cell? ⟨w.heap.size, 2, none⟩ = some (.int .i64 s) := by go_simp
  have fu2_0_2 : u2.frozen? ⟨w.heap.size, 2, none⟩ = false := by go_simp
  have ku2_1_0 : u2.cell? ⟨w.heap.size + 1, 0, none⟩ = some (.int .i64 0) := by go_simp
  have fu2_1_0 : u2.frozen? ⟨w.heap.size + 1, 0, none⟩ = false := by go_simp
  have ku2_1_1 : u2.cell? ⟨w.heap.size + 1, 1, none⟩ = some (.int .i64 y) := by go_simp
  have fu2_1_1 : u2.frozen? ⟨w.heap.size + 1, 1, none⟩ = false := by go_simp
  have ku2_1_2 : u2.cell? ⟨w.heap.size + 1, 2, none⟩ = some (.int .i64 t) := by go_simp
  have fu2_1_2 : u2.frozen? ⟨w.heap.size + 1, 2, none⟩ = false := by go_simp
  have ku2_2_0 : u2.cell? ⟨w.heap.size + 1 + 1, 0, none⟩ = some (.int .i64 0) := by go_simp
  have fu2_2_0 : u2.frozen? ⟨w.heap.size + 1 + 1, 0, none⟩ = false := by go_simp
  have ku2_2_1 : u2.cell? ⟨w.heap.size + 1 + 1, 1, none⟩ = some (.int .i64 0) := by go_simp
  have fu2_2_1 : u2.frozen? ⟨w.heap.size + 1 + 1, 1, none⟩ = false := by go_simp
  have ku2_2_2 : u2.cell? ⟨w.heap.size + 1 + 1, 2, none⟩ = some (.int .i64 0) := by go_simp
  have fu2_2_2 : u2.frozen? ⟨w.heap.size + 1 + 1, 2, none⟩ = false := by go_simp
  clear hc1 hf1
  clear hc2 hf2
  have g0 : w.heap.size < u2.heap.size := by omega
  have g1 : w.heap.size + 1 < u2.heap.size := by omega
  have g2 : w.heap.size + 1 + 1 < u2.heap.size := by omega
  go_wp2
  go_region_held3 (fun w' => w'.cell? ⟨w.heap.size, 0, none⟩ = some (.int .i64 r) ∧ w'.cell? ⟨w.heap.size, 1, none⟩ = some (.int .i64 i) ∧ w'.cell? ⟨w.heap.size, 2, none⟩ = some (.int .i64 s) ∧ w'.cell? ⟨w.heap.size + 1, 0, none⟩ = some (.int .i64 0) ∧ w'.cell? ⟨w.heap.size + 1, 1, none⟩ = some (.int .i64 y))
    (first | exact ⟨ku2_0_0, ku2_0_1, ku2_0_2, ku2_1_0, ku2_1_1⟩ | exact ⟨hd0, hd1, hd2, hd3, hd4⟩ | exact ⟨set3_out hd0 (by omega), set3_out hd1 (by omega), set3_out hd2 (by omega), set3_out hd3 (by omega), set3_out hd4 (by omega)⟩)
    (first | (go_at_call 68; refine (impl_DyadMake_no r (i + q) s _ HK.out).mono ?_; rintro e u4 ⟨rfl, hb⟩; have hB4 : Below w.heap.size w u4 := Below.trans (by go_grown) (hb.mono (by go_size)); have hd0 := (hb.cell (p := ⟨w.heap.size, 0, none⟩) g0).trans ku2_0_0; have hd1 := (hb.cell (p := ⟨w.heap.size, 1, none⟩) g0).trans ku2_0_1; have hd2 := (hb.cell (p := ⟨w.heap.size, 2, none⟩) g0).trans ku2_0_2; have hd3 := (hb.cell (p := ⟨w.heap.size + 1, 0, none⟩) g1).trans ku2_1_0; have hd4 := (hb.cell (p := ⟨w.heap.size + 1, 1, none⟩) g1).trans ku2_1_1; have e0 := (hb.cell (p := ⟨w.heap.size + 1 + 1, 0, none⟩) g2).trans ku2_2_0; have q0 := (hb.frozen (p := ⟨w.heap.size + 1 + 1, 0, none⟩) g2).trans fu2_2_0; have e1 := (hb.cell (p := ⟨w.heap.size + 1 + 1, 1, none⟩) g2).trans ku2_2_1; have q1 := (hb.frozen (p := ⟨w.heap.size + 1 + 1, 1, none⟩) g2).trans fu2_2_1; have e2 := (hb.cell (p := ⟨w.heap.size + 1 + 1, 2, none⟩) g2).trans ku2_2_2; have q2 := (hb.frozen (p := ⟨w.heap.size + 1 + 1, 2, none⟩) g2).trans fu2_2_2; clear hb))
  have hB4' := hB4
  go_wp2
  refine ret_cell_tmp Try.results62 rfl rfl (load_Dyad _ _ _ _ _ (set3 e0 e1 e2 _ _ _).1 (set3 e0 e1 e2 _ _ _).2.1 (set3 e0 e1 e2 _ _ _).2.2) ⟨rfl, by go_grown⟩
theorem impl_DyadAdd_lt_zero (r i s x y t : Int) (w : World) (h1 : DV r i s = true) (h2 : DV x y t = true) (ho : s < t) (hz : r = 0 ∧ i = 0 ∧ s = 0) :
    Calls Try.prog 62 #[.agg #[.int .i64 r, .int .i64 i, .int .i64 s], .agg #[.int .i64 x, .int .i64 y, .int .i64 t]] w (Gives (.tuple #[.agg #[.int .i64 x, .int .i64 y, .int .i64 t], .bool true]) w) := by
  obtain ⟨a1, a2, a3, a4, a5, a6, -⟩ := (DV_iff r i s).1 h1
  obtain ⟨b1, b2, b3, b4, b5, b6, -⟩ := (DV_iff x y t).1 h2
  have H1 := Lib.hid h1; have H2 := Lib.hid h2; clear h1 h2
  obtain ⟨rfl, rfl, rfl⟩ := hz
  go_enter Try.func62, Try.ntmps62
  go_wp2_with fail
  refine (valid_any 0 0 0 _).mono ?_
  rw [H1.out]
  rintro e u1 ⟨rfl, hb⟩
  have hB1 : Below w.heap.size w u1 := Below.trans (by go_grown) (hb.mono (by go_size))
  have hz1 := hb.size
  try simp at hz1
  have hw1 := hB1.size
  obtain ⟨hc1, hf1⟩ := bcell hb
  clear hb
  try have s0_0_1 : w.heap.size < u1.heap.size := by omega
  try have l0_0_1 : w.heap.size ≤ u1.heap.size := by omega
  try have s0_1_1 : w.heap.size + 1 < u1.heap.size := by omega
  try have l0_1_1 : w.heap.size + 1 ≤ u1.heap.size := by omega
  try have s0_2_1 : w.heap.size + 2 < u1.heap.size := by omega
  try have l0_2_1 : w.heap.size + 2 ≤ u1.heap.size := by omega
  go_wp2_with fail
  refine (valid_any x y t _).mono ?_
  rw [H2.out]
  rintro e u2 ⟨rfl, hb⟩
  have hB2 : Below w.heap.size w u2 := Below.trans (by go_grown) (hb.mono (by go_size))
  have hz2 := hb.size
  try simp at hz2
  have hw2 := hB2.size
  obtain ⟨hc2, hf2⟩ := bcell hb
  clear hb
  try have s0_0_2 : w.heap.size < u2.heap.size := by omega
  try have l0_0_2 : w.heap.size ≤ u2.heap.size := by omega
  try have s0_1_2 : w.heap.size + 1 < u2.heap.size := by omega
  try have l0_1_2 : w.heap.size + 1 ≤ u2.heap.size := by omega
  try have s0_2_2 : w.heap.size + 2 < u2.heap.size := by omega
  try have l0_2_2 : w.heap.size + 2 ≤ u2.heap.size := by omega
  try have s1_0_2 : u1.heap.size < u2.heap.size := by omega
  try have l1_0_2 : u1.heap.size ≤ u2.heap.size := by omega
  have ku2_0_0 : u2.cell? ⟨w.heap.size, 0, none⟩ = some (.int .i64 0) := by go_simp
  have fu2_0_0 : u2.frozen? ⟨w.heap.size, 0, none⟩ = false := by go_simp
  have ku2_0_1 : u2.cell? ⟨w.heap.size, 1, none⟩ = some (.int .i64 0) := by go_simp
  have fu2_0_1 : u2.frozen? ⟨w.heap.size, 1, none⟩ = false := by go_simp
  have ku2_0_2 : u2.cell? ⟨w.heap.size, 2, none⟩ = some (.int .i64 0) := by go_simp
  have fu2_0_2 : u2.frozen? ⟨w.heap.size, 2, none⟩ = false := by go_simp
  have ku2_1_0 : u2.cell? ⟨w.heap.size + 1, 0, none⟩ = some (.int .i64 x) := by go_simp
  have fu2_1_0 : u2.frozen? ⟨w.heap.size + 1, 0, none⟩ = false := by go_simp
  have ku2_1_1 : u2.cell? ⟨w.heap.size + 1, 1, none⟩ = some (.int .i64 y) := by go_simp
  have fu2_1_1 : u2.frozen? ⟨w.heap.size + 1, 1, none⟩ = false := by go_simp
  have ku2_1_2 : u2.cell? ⟨w.heap.size + 1, 2, none⟩ = some (.int .i64 t) := by go_simp
  have fu2_1_2 : u2.frozen? ⟨w.heap.size + 1, 2, none⟩ = false := by go_simp
  have ku2_2_0 : u2.cell? ⟨w.heap.size + 1 + 1, 0, none⟩ = some (.int .i64 0) := by go_simp
  have fu2_2_0 : u2.frozen? ⟨w.heap.size + 1 + 1, 0, none⟩ = false := by go_simp
  have ku2_2_1 : u2.cell? ⟨w.heap.size + 1 + 1, 1, none⟩ = some (.int .i64 0) := by go_simp
  have fu2_2_1 : u2.frozen? ⟨w.heap.size + 1 + 1, 1, none⟩ = false := by go_simp
  have ku2_2_2 : u2.cell? ⟨w.heap.size + 1 + 1, 2, none⟩ = some (.int .i64 0) := by go_simp
  have fu2_2_2 : u2.frozen? ⟨w.heap.size + 1 + 1, 2, none⟩ = false := by go_simp
  clear hc1 hf1
  clear hc2 hf2
  go_upto_region 5 with (fail)
  obtain ⟨u3, hu3⟩ : ∃ u3 : World, ((((((u2.setCell ⟨w.heap.size, 0, none⟩ (.int .i64 x)).setCell ⟨w.heap.size, 1, none⟩ (.int .i64 y)).setCell ⟨w.heap.size, 2, none⟩ (.int .i64 t)).setCell ⟨w.heap.size + 1, 0, none⟩ (.int .i64 0)).setCell ⟨w.heap.size + 1, 1, none⟩ (.int .i64 0)).setCell ⟨w.heap.size + 1, 2, none⟩ (.int .i64 0)) = u3 := ⟨_, rfl⟩
  rw [hu3]
  have HU := Lib.hid hu3; clear hu3
  have hB3 : Below w.heap.size w u3 := by rw [← HU.out]; go_grown
  have z3 : u3.heap.size = u2.heap.size := by rw [← HU.out]; simp
  have ku3_0_0 : u3.cell? ⟨w.heap.size, 0, none⟩ = some (.int .i64 x) := by rw [← HU.out]; go_simp
  have fu3_0_0 : u3.frozen? ⟨w.heap.size, 0, none⟩ = false := by rw [← HU.out]; go_simp
  have ku3_0_1 : u3.cell? ⟨w.heap.size, 1, none⟩ = some (.int .i64 y) := by rw [← HU.out]; go_simp
  have fu3_0_1 : u3.frozen? ⟨w.heap.size, 1, none⟩ = false := by rw [← HU.out]; go_simp
  have ku3_0_2 : u3.cell? ⟨w.heap.size, 2, none⟩ = some (.int .i64 t) := by rw [← HU.out]; go_simp
  have fu3_0_2 : u3.frozen? ⟨w.heap.size, 2, none⟩ = false := by rw [← HU.out]; go_simp
  have ku3_1_0 : u3.cell? ⟨w.heap.size + 1, 0, none⟩ = some (.int .i64 0) := by rw [← HU.out]; go_simp
  have fu3_1_0 : u3.frozen? ⟨w.heap.size + 1, 0, none⟩ = false := by rw [← HU.out]; go_simp
  have ku3_1_1 : u3.cell? ⟨w.heap.size + 1, 1, none⟩ = some (.int .i64 0) := by rw [← HU.out]; go_simp
  have fu3_1_1 : u3.frozen? ⟨w.heap.size + 1, 1, none⟩ = false := by rw [← HU.out]; go_simp
  have ku3_1_2 : u3.cell? ⟨w.heap.size + 1, 2, none⟩ = some (.int .i64 0) := by rw [← HU.out]; go_simp
  have fu3_1_2 : u3.frozen? ⟨w.heap.size + 1, 2, none⟩ = false := by rw [← HU.out]; go_simp
  have ku3_2_0 : u3.cell? ⟨w.heap.size + 1 + 1, 0, none⟩ = some (.int .i64 0) := by rw [← HU.out]; go_simp
  have fu3_2_0 : u3.frozen? ⟨w.heap.size + 1 + 1, 0, none⟩ = false := by rw [← HU.out]; go_simp
  have ku3_2_1 : u3.cell? ⟨w.heap.size + 1 + 1, 1, none⟩ = some (.int .i64 0) := by rw [← HU.out]; go_simp
  have fu3_2_1 : u3.frozen? ⟨w.heap.size + 1 + 1, 1, none⟩ = false := by rw [← HU.out]; go_simp
  have ku3_2_2 : u3.cell? ⟨w.heap.size + 1 + 1, 2, none⟩ = some (.int .i64 0) := by rw [← HU.out]; go_simp
  have fu3_2_2 : u3.frozen? ⟨w.heap.size + 1 + 1, 2, none⟩ = false := by rw [← HU.out]; go_simp
  clear HU hB2
  clear ku2_0_0 fu2_0_0 ku2_0_1 fu2_0_1 ku2_0_2 fu2_0_2 ku2_1_0 fu2_1_0 ku2_1_1 fu2_1_1 ku2_1_2 fu2_1_2 ku2_2_0 fu2_2_0 ku2_2_1 fu2_2_1 ku2_2_2 fu2_2_2
  go_wp2
  have b0 : u3.cell? ⟨w.heap.size + 1 + 1, 0, none⟩ = some (.int .i64 0) := by go_simp
  have b1 : u3.cell? ⟨w.heap.size + 1 + 1, 1, none⟩ = some (.int .i64 0) := by go_simp
  have b2 : u3.cell? ⟨w.heap.size + 1 + 1, 2, none⟩ = some (.int .i64 0) := by go_simp
  refine ret_cell_tmp Try.results62 rfl rfl (load_Dyad _ _ _ _ _ (set3 b0 b1 b2 _ _ _).1 (set3 b0 b1 b2 _ _ _).2.1 (set3 b0 b1 b2 _ _ _).2.2) ⟨rfl, by go_grown⟩
theorem impl_DyadAdd_lt_far1 (r i s x y t : Int) (w : World) (h1 : DV r i s = true) (h2 : DV x y t = true) (ho : s < t) (hz : ¬ r = 0) (hf : 31 < t - s) :
    Calls Try.prog 62 #[.agg #[.int .i64 r, .int .i64 i, .int .i64 s], .agg #[.int .i64 x, .int .i64 y, .int .i64 t]] w (Gives (.tuple #[.agg #[.int .i64 0, .int .i64 0, .int .i64 0], .bool false]) w) := by
  obtain ⟨a1, a2, a3, a4, a5, a6, -⟩ := (DV_iff r i s).1 h1
  obtain ⟨b1, b2, b3, b4, b5, b6, -⟩ := (DV_iff x y t).1 h2
  have H1 := Lib.hid h1; have H2 := Lib.hid h2; clear h1 h2
  go_enter Try.func62, Try.ntmps62
  go_wp2_with fail
  refine (valid_any r i s _).mono ?_
  rw [H1.out]
  rintro e u1 ⟨rfl, hb⟩
  have hB1 : Below w.heap.size w u1 := Below.trans (by go_grown) (hb.mono (by go_size))
  have hz1 := hb.size
  try simp at hz1
  have hw1 := hB1.size
  obtain ⟨hc1, hf1⟩ := bcell hb
  clear hb
  try have s0_0_1 : w.heap.size < u1.heap.size := by omega
  try have l0_0_1 : w.heap.size ≤ u1.heap.size := by omega
  try have s0_1_1 : w.heap.size + 1 < u1.heap.size := by omega
  try have l0_1_1 : w.heap.size + 1 ≤ u1.heap.size := by omega
  try have s0_2_1 : w.heap.size + 2 < u1.heap.size := by omega
  try have l0_2_1 : w.heap.size + 2 ≤ u1.heap.size := by omega
  go_wp2_with fail
  refine (valid_any x y t _).mono ?_
  rw [H2.out]
  rintro e u2 ⟨rfl, hb⟩
  have hB2 : Below w.heap.size w u2 := Below.trans (by go_grown) (hb.mono (by go_size))
  have hz2 := hb.size
  try simp at hz2
  have hw2 := hB2.size
  obtain ⟨hc2, hf2⟩ := bcell hb
  clear hb
  try have s0_0_2 : w.heap.size < u2.heap.size := by omega
  try have l0_0_2 : w.heap.size ≤ u2.heap.size := by omega
  try have s0_1_2 : w.heap.size + 1 < u2.heap.size := by omega
  try have l0_1_2 : w.heap.size + 1 ≤ u2.heap.size := by omega
  try have s0_2_2 : w.heap.size + 2 < u2.heap.size := by omega
  try have l0_2_2 : w.heap.size + 2 ≤ u2.heap.size := by omega
  try have s1_0_2 : u1.heap.size < u2.heap.size := by omega
  try have l1_0_2 : u1.heap.size ≤ u2.heap.size := by omega
  have ku2_0_0 : u2.cell? ⟨w.heap.size, 0, none⟩ = some (.int .i64 r) := by go_simp
  have fu2_0_0 : u2.frozen? ⟨w.heap.size, 0, none⟩ = false := by go_simp
  have ku2_0_1 : u2.cell? ⟨w.heap.size, 1, none⟩ = some (.int .i64 i) := by go_simp
  have fu2_0_1 : u2.frozen? ⟨w.heap.size, 1, none⟩ = false := by go_simp
  have ku2_0_2 : u2.cell? ⟨w.heap.size, 2, none⟩ = some (.int .i64 s) := by go_simp
  have fu2_0_2 : u2.frozen? ⟨w.heap.size, 2, none⟩ = false := by go_simp
  have ku2_1_0 : u2.cell? ⟨w.heap.size + 1, 0, none⟩ = some (.int .i64 x) := by go_simp
  have fu2_1_0 : u2.frozen? ⟨w.heap.size + 1, 0, none⟩ = false := by go_simp
  have ku2_1_1 : u2.cell? ⟨w.heap.size + 1, 1, none⟩ = some (.int .i64 y) := by go_simp
  have fu2_1_1 : u2.frozen? ⟨w.heap.size + 1, 1, none⟩ = false := by go_simp
  have ku2_1_2 : u2.cell? ⟨w.heap.size + 1, 2, none⟩ = some (.int .i64 t) := by go_simp
  have fu2_1_2 : u2.frozen? ⟨w.heap.size + 1, 2, none⟩ = false := by go_simp
  have ku2_2_0 : u2.cell? ⟨w.heap.size + 1 + 1, 0, none⟩ = some (.int .i64 0) := by go_simp
  have fu2_2_0 : u2.frozen? ⟨w.heap.size + 1 + 1, 0, none⟩ = false := by go_simp
  have ku2_2_1 : u2.cell? ⟨w.heap.size + 1 + 1, 1, none⟩ = some (.int .i64 0) := by go_simp
  have fu2_2_1 : u2.frozen? ⟨w.heap.size + 1 + 1, 1, none⟩ = false := by go_simp
  have ku2_2_2 : u2.cell? ⟨w.heap.size + 1 + 1, 2, none⟩ = some (.int .i64 0) := by go_simp
  have fu2_2_2 : u2.frozen? ⟨w.heap.size + 1 + 1, 2, none⟩ = false := by go_simp
  clear hc1 hf1
  clear hc2 hf2
  go_upto_region 5 with (fail)
  obtain ⟨u3, hu3⟩ : ∃ u3 : World, ((((((u2.setCell ⟨w.heap.size, 0, none⟩ (.int .i64 x)).setCell ⟨w.heap.size, 1, none⟩ (.int .i64 y)).setCell ⟨w.heap.size, 2, none⟩ (.int .i64 t)).setCell ⟨w.heap.size + 1, 0, none⟩ (.int .i64 r)).setCell ⟨w.heap.size + 1, 1, none⟩ (.int .i64 i)).setCell ⟨w.heap.size + 1, 2, none⟩ (.int .i64 s)) = u3 := ⟨_, rfl⟩
  rw [hu3]
  have HU := Lib.hid hu3; clear hu3
  have hB3 : Below w.heap.size w u3 := by rw [← HU.out]; go_grown
  have z3 : u3.heap.size = u2.heap.size := by rw [← HU.out]; simp
  have ku3_0_0 : u3.cell? ⟨w.heap.size, 0, none⟩ = some (.int .i64 x) := by rw [← HU.out]; go_simp
  have fu3_0_0 : u3.frozen? ⟨w.heap.size, 0, none⟩ = false := by rw [← HU.out]; go_simp
  have ku3_0_1 : u3.cell? ⟨w.heap.size, 1, none⟩ = some (.int .i64 y) := by rw [← HU.out]; go_simp
  have fu3_0_1 : u3.frozen? ⟨w.heap.size, 1, none⟩ = false := by rw [← HU.out]; go_simp
  have ku3_0_2 : u3.cell? ⟨w.heap.size, 2, none⟩ = some (.int .i64 t) := by rw [← HU.out]; go_simp
  have fu3_0_2 : u3.frozen? ⟨w.heap.size, 2, none⟩ = false := by rw [← HU.out]; go_simp
  have ku3_1_0 : u3.cell? ⟨w.heap.size + 1, 0, none⟩ = some (.int .i64 r) := by rw [← HU.out]; go_simp
  have fu3_1_0 : u3.frozen? ⟨w.heap.size + 1, 0, none⟩ = false := by rw [← HU.out]; go_simp
  have ku3_1_1 : u3.cell? ⟨w.heap.size + 1, 1, none⟩ = some (.int .i64 i) := by rw [← HU.out]; go_simp
  have fu3_1_1 : u3.frozen? ⟨w.heap.size + 1, 1, none⟩ = false := by rw [← HU.out]; go_simp
  have ku3_1_2 : u3.cell? ⟨w.heap.size + 1, 2, none⟩ = some (.int .i64 s) := by rw [← HU.out]; go_simp
  have fu3_1_2 : u3.frozen? ⟨w.heap.size + 1, 2, none⟩ = false := by rw [← HU.out]; go_simp
  have ku3_2_0 : u3.cell? ⟨w.heap.size + 1 + 1, 0, none⟩ = some (.int .i64 0) := by rw [← HU.out]; go_simp
  have fu3_2_0 : u3.frozen? ⟨w.heap.size + 1 + 1, 0, none⟩ = false := by rw [← HU.out]; go_simp
  have ku3_2_1 : u3.cell? ⟨w.heap.size + 1 + 1, 1, none⟩ = some (.int .i64 0) := by rw [← HU.out]; go_simp
  have fu3_2_1 : u3.frozen? ⟨w.heap.size + 1 + 1, 1, none⟩ = false := by rw [← HU.out]; go_simp
  have ku3_2_2 : u3.cell? ⟨w.heap.size + 1 + 1, 2, none⟩ = some (.int .i64 0) := by rw [← HU.out]; go_simp
  have fu3_2_2 : u3.frozen? ⟨w.heap.size + 1 + 1, 2, none⟩ = false := by rw [← HU.out]; go_simp
  clear HU hB2
  clear ku2_0_0 fu2_0_0 ku2_0_1 fu2_0_1 ku2_0_2 fu2_0_2 ku2_1_0 fu2_1_0 ku2_1_1 fu2_1_1 ku2_1_2 fu2_1_2 ku2_2_0 fu2_2_0 ku2_2_1 fu2_2_1 ku2_2_2 fu2_2_2
  go_wp2
  have b0 : u3.cell? ⟨w.heap.size + 1 + 1, 0, none⟩ = some (.int .i64 0) := by go_simp
  have b1 : u3.cell? ⟨w.heap.size + 1 + 1, 1, none⟩ = some (.int .i64 0) := by go_simp
  have b2 : u3.cell? ⟨w.heap.size + 1 + 1, 2, none⟩ = some (.int .i64 0) := by go_simp
  refine ret_cell_tmp Try.results62 rfl rfl (load_Dyad _ _ _ _ _ (set3 b0 b1 b2 _ _ _).1 (set3 b0 b1 b2 _ _ _).2.1 (set3 b0 b1 b2 _ _ _).2.2) ⟨rfl, by go_grown⟩
theorem impl_DyadAdd_lt_far2 (r i s x y t : Int) (w : World) (h1 : DV r i s = true) (h2 : DV x y t = true) (ho : s < t) (hz0 : r = 0) (hz : ¬ i = 0) (hf : 31 < t - s) :
    Calls Try.prog 62 #[.agg #[.int .i64 r, .int .i64 i, .int .i64 s], .agg #[.int .i64 x, .int .i64 y, .int .i64 t]] w (Gives (.tuple #[.agg #[.int .i64 0, .int .i64 0, .int .i64 0], .bool false]) w) := by
  obtain ⟨a1, a2, a3, a4, a5, a6, -⟩ := (DV_iff r i s).1 h1
  obtain ⟨b1, b2, b3, b4, b5, b6, -⟩ := (DV_iff x y t).1 h2
  subst hz0
  have H1 := Lib.hid h1; have H2 := Lib.hid h2; clear h1 h2
  go_enter Try.func62, Try.ntmps62
  go_wp2_with fail
  refine (valid_any 0 i s _).mono ?_
  rw [H1.out]
  rintro e u1 ⟨rfl, hb⟩
  have hB1 : Below w.heap.size w u1 := Below.trans (by go_grown) (hb.mono (by go_size))
  have hz1 := hb.size
  try simp at hz1
  have hw1 := hB1.size
  obtain ⟨hc1, hf1⟩ := bcell hb
  clear hb
  try have s0_0_1 : w.heap.size < u1.heap.size := by omega
  try have l0_0_1 : w.heap.size ≤ u1.heap.size := by omega
  try have s0_1_1 : w.heap.size + 1 < u1.heap.size := by omega
  try have l0_1_1 : w.heap.size + 1 ≤ u1.heap.size := by omega
  try have s0_2_1 : w.heap.size + 2 < u1.heap.size := by omega
  try have l0_2_1 : w.heap.size + 2 ≤ u1.heap.size := by omega
  go_wp2_with fail
  refine (valid_any x y t _).mono ?_
  rw [H2.out]
  rintro e u2 ⟨rfl, hb⟩
  have hB2 : Below w.heap.size w u2 := Below.trans (by go_grown) (hb.mono (by go_size))
  have hz2 := hb.size
  try simp at hz2
  have hw2 := hB2.size
  obtain ⟨hc2, hf2⟩ := bcell hb
  clear hb
  try have s0_0_2 : w.heap.size < u2.heap.size := by omega
  try have l0_0_2 : w.heap.size ≤ u2.heap.size := by omega
  try have s0_1_2 : w.heap.size + 1 < u2.heap.size := by omega
  try have l0_1_2 : w.heap.size + 1 ≤ u2.heap.size := by omega
  try have s0_2_2 : w.heap.size + 2 < u2.heap.size := by omega
  try have l0_2_2 : w.heap.size + 2 ≤ u2.heap.size := by omega
  try have s1_0_2 : u1.heap.size < u2.heap.size := by omega
  try have l1_0_2 : u1.heap.size ≤ u2.heap.size := by omega
  have ku2_0_0 : u2.cell? ⟨w.heap.size, 0, none⟩ = some (.int .i64 0) := by go_simp
  have fu2_0_0 : u2.frozen? ⟨w.heap.size, 0, none⟩ = false := by go_simp
  have ku2_0_1 : u2.cell? ⟨w.heap.size, 1, none⟩ = some (.int .i64 i) := by go_simp
  have fu2_0_1 : u2.frozen? ⟨w.heap.size, 1, none⟩ = false := by go_simp
  have ku2_0_2 : u2.cell? ⟨w.heap.size, 2, none⟩ = some (.int .i64 s) := by go_simp
  have fu2_0_2 : u2.frozen? ⟨w.heap.size, 2, none⟩ = false := by go_simp
  have ku2_1_0 : u2.cell? ⟨w.heap.size + 1, 0, none⟩ = some (.int .i64 x) := by go_simp
  have fu2_1_0 : u2.frozen? ⟨w.heap.size + 1, 0, none⟩ = false := by go_simp
  have ku2_1_1 : u2.cell? ⟨w.heap.size + 1, 1, none⟩ = some (.int .i64 y) := by go_simp
  have fu2_1_1 : u2.frozen? ⟨w.heap.size + 1, 1, none⟩ = false := by go_simp
  have ku2_1_2 : u2.cell? ⟨w.heap.size + 1, 2, none⟩ = some (.int .i64 t) := by go_simp
  have fu2_1_2 : u2.frozen? ⟨w.heap.size + 1, 2, none⟩ = false := by go_simp
  have ku2_2_0 : u2.cell? ⟨w.heap.size + 1 + 1, 0, none⟩ = some (.int .i64 0) := by go_simp
  have fu2_2_0 : u2.frozen? ⟨w.heap.size + 1 + 1, 0, none⟩ = false := by go_simp
  have ku2_2_1 : u2.cell? ⟨w.heap.size + 1 + 1, 1, none⟩ = some (.int .i64 0) := by go_simp
  have fu2_2_1 : u2.frozen? ⟨w.heap.size + 1 + 1, 1, none⟩ = false := by go_simp
  have ku2_2_2 : u2.cell? ⟨w.heap.size + 1 + 1, 2, none⟩ = some (.int .i64 0) := by go_simp
  have fu2_2_2 : u2.frozen? ⟨w.heap.size + 1 + 1, 2, none⟩ = false := by go_simp
  clear hc1 hf1
  clear hc2 hf2
  go_upto_region 5 with (fail)
  obtain ⟨u3, hu3⟩ : ∃ u3 : World, ((((((u2.setCell ⟨w.heap.size, 0, none⟩ (.int .i64 x)).setCell ⟨w.heap.size, 1, none⟩ (.int .i64 y)).setCell ⟨w.heap.size, 2, none⟩ (.int .i64 t)).setCell ⟨w.heap.size + 1, 0, none⟩ (.int .i64 0)).setCell ⟨w.heap.size + 1, 1, none⟩ (.int .i64 i)).setCell ⟨w.heap.size + 1, 2, none⟩ (.int .i64 s)) = u3 := ⟨_, rfl⟩
  rw [hu3]
  have HU := Lib.hid hu3; clear hu3
  have hB3 : Below w.heap.size w u3 := by rw [← HU.out]; go_grown
  have z3 : u3.heap.size = u2.heap.size := by rw [← HU.out]; simp
  have ku3_0_0 : u3.cell? ⟨w.heap.size, 0, none⟩ = some (.int .i64 x) := by rw [← HU.out]; go_simp
  have fu3_0_0 : u3.frozen? ⟨w.heap.size, 0, none⟩ = false := by rw [← HU.out]; go_simp
  have ku3_0_1 : u3.cell? ⟨w.heap.size, 1, none⟩ = some (.int .i64 y) := by rw [← HU.out]; go_simp
  have fu3_0_1 : u3.frozen? ⟨w.heap.size, 1, none⟩ = false := by rw [← HU.out]; go_simp
  have ku3_0_2 : u3.cell? ⟨w.heap.size, 2, none⟩ = some (.int .i64 t) := by rw [← HU.out]; go_simp
  have fu3_0_2 : u3.frozen? ⟨w.heap.size, 2, none⟩ = false := by rw [← HU.out]; go_simp
  have ku3_1_0 : u3.cell? ⟨w.heap.size + 1, 0, none⟩ = some (.int .i64 0) := by rw [← HU.out]; go_simp
  have fu3_1_0 : u3.frozen? ⟨w.heap.size + 1, 0, none⟩ = false := by rw [← HU.out]; go_simp
  have ku3_1_1 : u3.cell? ⟨w.heap.size + 1, 1, none⟩ = some (.int .i64 i) := by rw [← HU.out]; go_simp
  have fu3_1_1 : u3.frozen? ⟨w.heap.size + 1, 1, none⟩ = false := by rw [← HU.out]; go_simp
  have ku3_1_2 : u3.cell? ⟨w.heap.size + 1, 2, none⟩ = some (.int .i64 s) := by rw [← HU.out]; go_simp
  have fu3_1_2 : u3.frozen? ⟨w.heap.size + 1, 2, none⟩ = false := by rw [← HU.out]; go_simp
  have ku3_2_0 : u3.cell? ⟨w.heap.size + 1 + 1, 0, none⟩ = some (.int .i64 0) := by rw [← HU.out]; go_simp
  have fu3_2_0 : u3.frozen? ⟨w.heap.size + 1 + 1, 0, none⟩ = false := by rw [← HU.out]; go_simp
  have ku3_2_1 : u3.cell? ⟨w.heap.size + 1 + 1, 1, none⟩ = some (.int .i64 0) := by rw [← HU.out]; go_simp
  have fu3_2_1 : u3.frozen? ⟨w.heap.size + 1 + 1, 1, none⟩ = false := by rw [← HU.out]; go_simp
  have ku3_2_2 : u3.cell? ⟨w.heap.size + 1 + 1, 2, none⟩ = some (.int .i64 0) := by rw [← HU.out]; go_simp
  have fu3_2_2 : u3.frozen? ⟨w.heap.size + 1 + 1, 2, none⟩ = false := by rw [← HU.out]; go_simp
  clear HU hB2
  clear ku2_0_0 fu2_0_0 ku2_0_1 fu2_0_1 ku2_0_2 fu2_0_2 ku2_1_0 fu2_1_0 ku2_1_1 fu2_1_1 ku2_1_2 fu2_1_2 ku2_2_0 fu2_2_0 ku2_2_1 fu2_2_1 ku2_2_2 fu2_2_2
  go_wp2
  have b0 : u3.cell? ⟨w.heap.size + 1 + 1, 0, none⟩ = some (.int .i64 0) := by go_simp
  have b1 : u3.cell? ⟨w.heap.size + 1 + 1, 1, none⟩ = some (.int .i64 0) := by go_simp
  have b2 : u3.cell? ⟨w.heap.size + 1 + 1, 2, none⟩ = some (.int .i64 0) := by go_simp
  refine ret_cell_tmp Try.results62 rfl rfl (load_Dyad _ _ _ _ _ (set3 b0 b1 b2 _ _ _).1 (set3 b0 b1 b2 _ _ _).2.1 (set3 b0 b1 b2 _ _ _).2.2) ⟨rfl, by go_grown⟩
set_option maxHeartbeats 400000 in
theorem impl_DyadAdd_lt_yes1 (r i s x y t : Int) (w : World) (h1 : DV r i s = true) (h2 : DV x y t = true) (ho : s < t) (hz : ¬ r = 0) (hn : t - s ≤ 31) (hl : DV (lR (AP r s x t) (AP i s y t) (max s t)) (lI (AP r s x t) (AP i s y t) (max s t)) (lS (AP r s x t) (AP i s y t) (max s t)) = true) :
    Calls Try.prog 62 #[.agg #[.int .i64 r, .int .i64 i, .int .i64 s], .agg #[.int .i64 x, .int .i64 y, .int .i64 t]] w (Gives (.tuple #[.agg #[.int .i64 (lR (AP r s x t) (AP i s y t) (max s t)), .int .i64 (lI (AP r s x t) (AP i s y t) (max s t)), .int .i64 (lS (AP r s x t) (AP i s y t) (max s t))], .bool true]) w) := by
  obtain ⟨a1, a2, a3, a4, a5, a6, -⟩ := (DV_iff r i s).1 h1
  obtain ⟨b1, b2, b3, b4, b5, b6, -⟩ := (DV_iff x y t).1 h2
  have hm : max s t = t := Int.max_eq_right (Int.le_of_lt ho)
  obtain ⟨k0, k1, k2, k3, k4⟩ := add_near x y t r i s (Int.le_of_lt ho) h2 h1 hn
  obtain ⟨p, hp⟩ : ∃ p : Int, r * 2 ^ (t - s).toNat = p := ⟨_, rfl⟩
  obtain ⟨q, hq⟩ : ∃ q : Int, i * 2 ^ (t - s).toNat = q := ⟨_, rfl⟩
  have w1 := (shl_up _ _ k1 k2).trans hp
  have v1 := shl_i64 w1
  have w2 := (shl_up _ _ k3 k4).trans hq
  have v2 := shl_i64 w2
  have ep : AP r s x t = x + p := by rw [AP_comm, AP_ge _ _ _ _ (Int.le_of_lt ho), hp]
  have eq' : AP i s y t = y + q := by rw [AP_comm, AP_ge _ _ _ _ (Int.le_of_lt ho), hq]
  rw [AP_comm, AP_comm y t i s, Int.max_comm] at k0
  have hk : MK (AP r s x t) (AP i s y t) (max s t) = true := by unfold MK; rw [k0, hl]; rfl
  rw [ep, eq', hm] at hk ⊢
  rw [hp] at k1 k2
  rw [hq] at k3 k4
  have v3 : IntKind.i64.wrap (x + p) = x + p := IntWalk.i64_in _ (by omega)
  have v4 : IntKind.i64.wrap (y + q) = y + q := IntWalk.i64_in _ (by omega)
  have HK := Lib.hid hk; clear hk ep eq' hm k0 hl
  have HP := Lib.hid hp; have HQ := Lib.hid hq; clear hp hq
  have n1 : 0 ≤ t - s := by omega
  have H1 := Lib.hid h1; have H2 := Lib.hid h2; clear h1 h2
  go_enter Try.func62, Try.ntmps62
  go_wp2_with fail
  refine (valid_any r i s _).mono ?_
  rw [H1.out]
  rintro e u1 ⟨rfl, hb⟩
  have hB1 : Below w.heap.size w u1 := Below.trans (by go_grown) (hb.mono (by go_size))
  have hz1 := hb.size
  try simp at hz1
  have hw1 := hB1.size
  obtain ⟨hc1, hf1⟩ := bcell hb
  clear hb
  try have s0_0_1 : w.heap.size < u1.heap.size := by omega
  try have l0_0_1 : w.heap.size ≤ u1.heap.size := by omega
  try have s0_1_1 : w.heap.size + 1 < u1.heap.size := by omega
  try have l0_1_1 : w.heap.size + 1 ≤ u1.heap.size := by omega
  try have s0_2_1 : w.heap.size + 2 < u1.heap.size := by omega
  try have l0_2_1 : w.heap.size + 2 ≤ u1.heap.size := by omega
  go_wp2_with fail
  refine (valid_any x y t _).mono ?_
  rw [H2.out]
  rintro e u2 ⟨rfl, hb⟩
  have hB2 : Below w.heap.size w u2 := Below.trans (by go_grown) (hb.mono (by go_size))
  have hz2 := hb.size
  try simp at hz2
  have hw2 := hB2.size
  obtain ⟨hc2, hf2⟩ := bcell hb
  clear hb
  try have s0_0_2 : w.heap.size < u2.heap.size := by omega
  try have l0_0_2 : w.heap.size ≤ u2.heap.size := by omega
  try have s0_1_2 : w.heap.size + 1 < u2.heap.size := by omega
  try have l0_1_2 : w.heap.size + 1 ≤ u2.heap.size := by omega
  try have s0_2_2 : w.heap.size + 2 < u2.heap.size := by omega
  try have l0_2_2 : w.heap.size + 2 ≤ u2.heap.size := by omega
  try have s1_0_2 : u1.heap.size < u2.heap.size := by omega
  try have l1_0_2 : u1.heap.size ≤ u2.heap.size := by omega
  have ku2_0_0 : u2.cell? ⟨w.heap.size, 0, none⟩ = some (.int .i64 r) := by go_simp
  have fu2_0_0 : u2.frozen? ⟨w.heap.size, 0, none⟩ = false := by go_simp
  have ku2_0_1 : u2.cell? ⟨w.heap.size, 1, none⟩ = some (.int .i64 i) := by go_simp
  have fu2_0_1 : u2.frozen? ⟨w.heap.size, 1, none⟩ = false := by go_simp
  have ku2_0_2 : u2.cell? ⟨w.heap.size, 2, none⟩ = some (.int .i64 s) := by go_simp
  have fu2_0_2 : u2.frozen? ⟨w.heap.size, 2, none⟩ = false := by go_simp
  have ku2_1_0 : u2.cell? ⟨w.heap.size + 1, 0, none⟩ = some (.int .i64 x) := by go_simp
  have fu2_1_0 : u2.frozen? ⟨w.heap.size + 1, 0, none⟩ = false := by go_simp
  have ku2_1_1 : u2.cell? ⟨w.heap.size + 1, 1, none⟩ = some (.int .i64 y) := by go_simp
  have fu2_1_1 : u2.frozen? ⟨w.heap.size + 1, 1, none⟩ = false := by go_simp
  have ku2_1_2 : u2.cell? ⟨w.heap.size + 1, 2, none⟩ = some (.int .i64 t) := by go_simp
  have fu2_1_2 : u2.frozen? ⟨w.heap.size + 1, 2, none⟩ = false := by go_simp
  have ku2_2_0 : u2.cell? ⟨w.heap.size + 1 + 1, 0, none⟩ = some (.int .i64 0) := by go_simp
  have fu2_2_0 : u2.frozen? ⟨w.heap.size + 1 + 1, 0, none⟩ = false := by go_simp
  have ku2_2_1 : u2.cell? ⟨w.heap.size + 1 + 1, 1, none⟩ = some (.int .i64 0) := by go_simp
  have fu2_2_1 : u2.frozen? ⟨w.heap.size + 1 + 1, 1, none⟩ = false := by go_simp
  have ku2_2_2 : u2.cell? ⟨w.heap.size + 1 + 1, 2, none⟩ = some (.int .i64 0) := by go_simp
  have fu2_2_2 : u2.frozen? ⟨w.heap.size + 1 + 1, 2, none⟩ = false := by go_simp
  clear hc1 hf1
  clear hc2 hf2
  go_upto_region 5 with (fail)
  obtain ⟨u3, hu3⟩ : ∃ u3 : World, ((((((u2.setCell ⟨w.heap.size, 0, none⟩ (.int .i64 x)).setCell ⟨w.heap.size, 1, none⟩ (.int .i64 y)).setCell ⟨w.heap.size, 2, none⟩ (.int .i64 t)).setCell ⟨w.heap.size + 1, 0, none⟩ (.int .i64 r)).setCell ⟨w.heap.size + 1, 1, none⟩ (.int .i64 i)).setCell ⟨w.heap.size + 1, 2, none⟩ (.int .i64 s)) = u3 := ⟨_, rfl⟩
  rw [hu3]
  have HU := Lib.hid hu3; clear hu3
  have hB3 : Below w.heap.size w u3 := by rw [← HU.out]; go_grown
  have z3 : u3.heap.size = u2.heap.size := by rw [← HU.out]; simp
  have ku3_0_0 : u3.cell? ⟨w.heap.size, 0, none⟩ = some (.int .i64 x) := by rw [← HU.out]; go_simp
  have fu3_0_0 : u3.frozen? ⟨w.heap.size, 0, none⟩ = false := by rw [← HU.out]; go_simp
  have ku3_0_1 : u3.cell? ⟨w.heap.size, 1, none⟩ = some (.int .i64 y) := by rw [← HU.out]; go_simp
  have fu3_0_1 : u3.frozen? ⟨w.heap.size, 1, none⟩ = false := by rw [← HU.out]; go_simp
  have ku3_0_2 : u3.cell? ⟨w.heap.size, 2, none⟩ = some (.int .i64 t) := by rw [← HU.out]; go_simp
  have fu3_0_2 : u3.frozen? ⟨w.heap.size, 2, none⟩ = false := by rw [← HU.out]; go_simp
  have ku3_1_0 : u3.cell? ⟨w.heap.size + 1, 0, none⟩ = some (.int .i64 r) := by rw [← HU.out]; go_simp
  have fu3_1_0 : u3.frozen? ⟨w.heap.size + 1, 0, none⟩ = false := by rw [← HU.out]; go_simp
  have ku3_1_1 : u3.cell? ⟨w.heap.size + 1, 1, none⟩ = some (.int .i64 i) := by rw [← HU.out]; go_simp
  have fu3_1_1 : u3.frozen? ⟨w.heap.size + 1, 1, none⟩ = false := by rw [← HU.out]; go_simp
  have ku3_1_2 : u3.cell? ⟨w.heap.size + 1, 2, none⟩ = some (.int .i64 s) := by rw [← HU.out]; go_simp
  have fu3_1_2 : u3.frozen? ⟨w.heap.size + 1, 2, none⟩ = false := by rw [← HU.out]; go_simp
  have ku3_2_0 : u3.cell? ⟨w.heap.size + 1 + 1, 0, none⟩ = some (.int .i64 0) := by rw [← HU.out]; go_simp
  have fu3_2_0 : u3.frozen? ⟨w.heap.size + 1 + 1, 0, none⟩ = false := by rw [← HU.out]; go_simp
  have ku3_2_1 : u3.cell? ⟨w.heap.size + 1 + 1, 1, none⟩ = some (.int .i64 0) := by rw [← HU.out]; go_simp
  have fu3_2_1 : u3.frozen? ⟨w.heap.size + 1 + 1, 1, none⟩ = false := by rw [← HU.out]; go_simp
  have ku3_2_2 : u3.cell? ⟨w.heap.size + 1 + 1, 2, none⟩ = some (.int .i64 0) := by rw [← HU.out]; go_simp
  have fu3_2_2 : u3.frozen? ⟨w.heap.size + 1 + 1, 2, none⟩ = false := by rw [← HU.out]; go_simp
  clear HU hB2
  clear ku2_0_0 fu2_0_0 ku2_0_1 fu2_0_1 ku2_0_2 fu2_0_2 ku2_1_0 fu2_1_0 ku2_1_1 fu2_1_1 ku2_1_2 fu2_1_2 ku2_2_0 fu2_2_0 ku2_2_1 fu2_2_1 ku2_2_2 fu2_2_2
  have g0 : w.heap.size < u3.heap.size := by omega
  have g1 : w.heap.size + 1 < u3.heap.size := by omega
  have g2 : w.heap.size + 1 + 1 < u3.heap.size := by omega
  clear z3
  go_wp2
  go_region_held3 (fun w' => w'.cell? ⟨w.heap.size, 0, none⟩ = some (.int .i64 x) ∧ w'.cell? ⟨w.heap.size, 1, none⟩ = some (.int .i64 y) ∧ w'.cell? ⟨w.heap.size, 2, none⟩ = some (.int .i64 t) ∧ w'.cell? ⟨w.heap.size + 1, 0, none⟩ = some (.int .i64 r) ∧ w'.cell? ⟨w.heap.size + 1, 1, none⟩ = some (.int .i64 i))
    (first | exact ⟨ku3_0_0, ku3_0_1, ku3_0_2, ku3_1_0, ku3_1_1⟩ | exact ⟨hd0, hd1, hd2, hd3, hd4⟩ | exact ⟨set3_out hd0 (by omega), set3_out hd1 (by omega), set3_out hd2 (by omega), set3_out hd3 (by omega), set3_out hd4 (by omega)⟩)
    (first | (go_at_call 68; refine (impl_DyadMake_yes (x + p) (y + q) t _ HK.out).mono ?_; rintro e u4 ⟨rfl, hb⟩; have hB4 : Below w.heap.size w u4 := Below.trans (by go_grown) (hb.mono (by go_size)); have hd0 := (hb.cell (p := ⟨w.heap.size, 0, none⟩) g0).trans ku3_0_0; have hd1 := (hb.cell (p := ⟨w.heap.size, 1, none⟩) g0).trans ku3_0_1; have hd2 := (hb.cell (p := ⟨w.heap.size, 2, none⟩) g0).trans ku3_0_2; have hd3 := (hb.cell (p := ⟨w.heap.size + 1, 0, none⟩) g1).trans ku3_1_0; have hd4 := (hb.cell (p := ⟨w.heap.size + 1, 1, none⟩) g1).trans ku3_1_1; have e0 := (hb.cell (p := ⟨w.heap.size + 1 + 1, 0, none⟩) g2).trans ku3_2_0; have q0 := (hb.frozen (p := ⟨w.heap.size + 1 + 1, 0, none⟩) g2).trans fu3_2_0; have e1 := (hb.cell (p := ⟨w.heap.size + 1 + 1, 1, none⟩) g2).trans ku3_2_1; have q1 := (hb.frozen (p := ⟨w.heap.size + 1 + 1, 1, none⟩) g2).trans fu3_2_1; have e2 := (hb.cell (p := ⟨w.heap.size + 1 + 1, 2, none⟩) g2).trans ku3_2_2; have q2 := (hb.frozen (p := ⟨w.heap.size + 1 + 1, 2, none⟩) g2).trans fu3_2_2; clear hb))
  have hB4' := hB4
  go_wp2
  refine ret_cell_tmp Try.results62 rfl rfl (load_Dyad _ _ _ _ _ (set3 e0 e1 e2 _ _ _).1 (set3 e0 e1 e2 _ _ _).2.1 (set3 e0 e1 e2 _ _ _).2.2) ⟨rfl, by go_grown⟩
set_option maxHeartbeats 400000 in
theorem impl_DyadAdd_lt_yes2 (r i s x y t : Int) (w : World) (h1 : DV r i s = true) (h2 : DV x y t = true) (ho : s < t) (hz0 : r = 0) (hz : ¬ i = 0) (hn : t - s ≤ 31) (hl : DV (lR (AP r s x t) (AP i s y t) (max s t)) (lI (AP r s x t) (AP i s y t) (max s t)) (lS (AP r s x t) (AP i s y t) (max s t)) = true) :
    Calls Try.prog 62 #[.agg #[.int .i64 r, .int .i64 i, .int .i64 s], .agg #[.int .i64 x, .int .i64 y, .int .i64 t]] w (Gives (.tuple #[.agg #[.int .i64 (lR (AP r s x t) (AP i s y t) (max s t)), .int .i64 (lI (AP r s x t) (AP i s y t) (max s t)), .int .i64 (lS (AP r s x t) (AP i s y t) (max s t))], .bool true]) w) := by
  obtain ⟨a1, a2, a3, a4, a5, a6, -⟩ := (DV_iff r i s).1 h1
  obtain ⟨b1, b2, b3, b4, b5, b6, -⟩ := (DV_iff x y t).1 h2
  subst hz0
  have hm : max s t = t := Int.max_eq_right (Int.le_of_lt ho)
  obtain ⟨k0, k1, k2, k3, k4⟩ := add_near x y t 0 i s (Int.le_of_lt ho) h2 h1 hn
  obtain ⟨p, hp⟩ : ∃ p : Int, 0 * 2 ^ (t - s).toNat = p := ⟨_, rfl⟩
  obtain ⟨q, hq⟩ : ∃ q : Int, i * 2 ^ (t - s).toNat = q := ⟨_, rfl⟩
  have w2 := (shl_up _ _ k3 k4).trans hq
  have v2 := shl_i64 w2
  have ep : AP 0 s x t = x + p := by rw [AP_comm, AP_ge _ _ _ _ (Int.le_of_lt ho), hp]
  have eq' : AP i s y t = y + q := by rw [AP_comm, AP_ge _ _ _ _ (Int.le_of_lt ho), hq]
  rw [AP_comm, AP_comm y t i s, Int.max_comm] at k0
  have hk : MK (AP 0 s x t) (AP i s y t) (max s t) = true := by unfold MK; rw [k0, hl]; rfl
  rw [ep, eq', hm] at hk ⊢
  rw [hp] at k1 k2
  rw [hq] at k3 k4
  have hp0 : p = 0 := by rw [← hp, Int.zero_mul]
  subst hp0
  rw [Int.add_zero] at hk ⊢
  have v3 : IntKind.i64.wrap x = x := IntWalk.i64_in _ (by omega)
  have v5 : IntKind.i64.wrap 0 = 0 := rfl
  have v4 : IntKind.i64.wrap (y + q) = y + q := IntWalk.i64_in _ (by omega)
  have HK := Lib.hid hk; clear hk ep eq' hm k0 hl
  have HP := Lib.hid hp; have HQ := Lib.hid hq; clear hp hq
  have n1 : 0 ≤ t - s := by omega
  have H1 := Lib.hid h1; have H2 := Lib.hid h2; clear h1 h2
  go_enter Try.func62, Try.ntmps62
  go_wp2_with fail
  refine (valid_any 0 i s _).mono ?_
  rw [H1.out]
  rintro e u1 ⟨rfl, hb⟩
  have hB1 : Below w.heap.size w u1 := Below.trans (by go_grown) (hb.mono (by go_size))
  have hz1 := hb.size
  try simp at hz1
  have hw1 := hB1.size
  obtain ⟨hc1, hf1⟩ := bcell hb
  clear hb
  try have s0_0_1 : w.heap.size < u1.heap.size := by omega
  try have l0_0_1 : w.heap.size ≤ u1.heap.size := by omega
  try have s0_1_1 : w.heap.size + 1 < u1.heap.size := by omega
  try have l0_1_1 : w.heap.size + 1 ≤ u1.heap.size := by omega
  try have s0_2_1 : w.heap.size + 2 < u1.heap.size := by omega
  try have l0_2_1 : w.heap.size + 2 ≤ u1.heap.size := by omega
  go_wp2_with fail
  refine (valid_any x y t _).mono ?_
  rw [H2.out]
  rintro e u2 ⟨rfl, hb⟩
  have hB2 : Below w.heap.size w u2 := Below.trans (by go_grown) (hb.mono (by go_size))
  have hz2 := hb.size
  try simp at hz2
  have hw2 := hB2.size
  obtain ⟨hc2, hf2⟩ := bcell hb
  clear hb
  try have s0_0_2 : w.heap.size < u2.heap.size := by omega
  try have l0_0_2 : w.heap.size ≤ u2.heap.size := by omega
  try have s0_1_2 : w.heap.size + 1 < u2.heap.size := by omega
  try have l0_1_2 : w.heap.size + 1 ≤ u2.heap.size := by omega
  try have s0_2_2 : w.heap.size + 2 < u2.heap.size := by omega
  try have l0_2_2 : w.heap.size + 2 ≤ u2.heap.size := by omega
  try have s1_0_2 : u1.heap.size < u2.heap.size := by omega
  try have l1_0_2 : u1.heap.size ≤ u2.heap.size := by omega
  have ku2_0_0 : u2.cell? ⟨w.heap.size, 0, none⟩ = some (.int .i64 0) := by go_simp
  have fu2_0_0 : u2.frozen? ⟨w.heap.size, 0, none⟩ = false := by go_simp
  have ku2_0_1 : u2.cell? ⟨w.heap.size, 1, none⟩ = some (.int .i64 i) := by go_simp
  have fu2_0_1 : u2.frozen? ⟨w.heap.size, 1, none⟩ = false := by go_simp
  have ku2_0_2 : u2.cell? ⟨w.heap.size, 2, none⟩ = some (.int .i64 s) := by go_simp
  have fu2_0_2 : u2.frozen? ⟨w.heap.size, 2, none⟩ = false := by go_simp
  have ku2_1_0 : u2.cell? ⟨w.heap.size + 1, 0, none⟩ = some (.int .i64 x) := by go_simp
  have fu2_1_0 : u2.frozen? ⟨w.heap.size + 1, 0, none⟩ = false := by go_simp
  have ku2_1_1 : u2.cell? ⟨w.heap.size + 1, 1, none⟩ = some (.int .i64 y) := by go_simp
  have fu2_1_1 : u2.frozen? ⟨w.heap.size + 1, 1, none⟩ = false := by go_simp
  have ku2_1_2 : u2.cell? ⟨w.heap.size + 1, 2, none⟩ = some (.int .i64 t) := by go_simp
  have fu2_1_2 : u2.frozen? ⟨w.heap.size + 1, 2, none⟩ = false := by go_simp
  have ku2_2_0 : u2.cell? ⟨w.heap.size + 1 + 1, 0, none⟩ = some (.int .i64 0) := by go_simp
  have fu2_2_0 : u2.frozen? ⟨w.heap.size + 1 + 1, 0, none⟩ = false := by go_simp
  have ku2_2_1 : u2.cell? ⟨w.heap.size + 1 + 1, 1, none⟩ = some (.int .i64 0) := by go_simp
  have fu2_2_1 : u2.frozen? ⟨w.heap.size + 1 + 1, 1, none⟩ = false := by go_simp
  have ku2_2_2 : u2.cell? ⟨w.heap.size + 1 + 1, 2, none⟩ = some (.int .i64 0) := by go_simp
  have fu2_2_2 : u2.frozen? ⟨w.heap.size + 1 + 1, 2, none⟩ = false := by go_simp
  clear hc1 hf1
  clear hc2 hf2
  go_upto_region 5 with (fail)
  obtain ⟨u3, hu3⟩ : ∃ u3 : World, ((((((u2.setCell ⟨w.heap.size, 0, none⟩ (.int .i64 x)).setCell ⟨w.heap.size, 1, none⟩ (.int .i64 y)).setCell ⟨w.heap.size, 2, none⟩ (.int .i64 t)).setCell ⟨w.heap.size + 1, 0, none⟩ (.int .i64 0)).setCell ⟨w.heap.size + 1, 1, none⟩ (.int .i64 i)).setCell ⟨w.heap.size + 1, 2, none⟩ (.int .i64 s)) = u3 := ⟨_, rfl⟩
  rw [hu3]
  have HU := Lib.hid hu3; clear hu3
  have hB3 : Below w.heap.size w u3 := by rw [← HU.out]; go_grown
  have z3 : u3.heap.size = u2.heap.size := by rw [← HU.out]; simp
  have ku3_0_0 : u3.cell? ⟨w.heap.size, 0, none⟩ = some (.int .i64 x) := by rw [← HU.out]; go_simp
  have fu3_0_0 : u3.frozen? ⟨w.heap.size, 0, none⟩ = false := by rw [← HU.out]; go_simp
  have ku3_0_1 : u3.cell? ⟨w.heap.size, 1, none⟩ = some (.int .i64 y) := by rw [← HU.out]; go_simp
  have fu3_0_1 : u3.frozen? ⟨w.heap.size, 1, none⟩ = false := by rw [← HU.out]; go_simp
  have ku3_0_2 : u3.cell? ⟨w.heap.size, 2, none⟩ = some (.int .i64 t) := by rw [← HU.out]; go_simp
  have fu3_0_2 : u3.frozen? ⟨w.heap.size, 2, none⟩ = false := by rw [← HU.out]; go_simp
  have ku3_1_0 : u3.cell? ⟨w.heap.size + 1, 0, none⟩ = some (.int .i64 0) := by rw [← HU.out]; go_simp
  have fu3_1_0 : u3.frozen? ⟨w.heap.size + 1, 0, none⟩ = false := by rw [← HU.out]; go_simp
  have ku3_1_1 : u3.cell? ⟨w.heap.size + 1, 1, none⟩ = some (.int .i64 i) := by rw [← HU.out]; go_simp
  have fu3_1_1 : u3.frozen? ⟨w.heap.size + 1, 1, none⟩ = false := by rw [← HU.out]; go_simp
  have ku3_1_2 : u3.cell? ⟨w.heap.size + 1, 2, none⟩ = some (.int .i64 s) := by rw [← HU.out]; go_simp
  have fu3_1_2 : u3.frozen? ⟨w.heap.size + 1, 2, none⟩ = false := by rw [← HU.out]; go_simp
  have ku3_2_0 : u3.cell? ⟨w.heap.size + 1 + 1, 0, none⟩ = some (.int .i64 0) := by rw [← HU.out]; go_simp
  have fu3_2_0 : u3.frozen? ⟨w.heap.size + 1 + 1, 0, none⟩ = false := by rw [← HU.out]; go_simp
  have ku3_2_1 : u3.cell? ⟨w.heap.size + 1 + 1, 1, none⟩ = some (.int .i64 0) := by rw [← HU.out]; go_simp
  have fu3_2_1 : u3.frozen? ⟨w.heap.size + 1 + 1, 1, none⟩ = false := by rw [← HU.out]; go_simp
  have ku3_2_2 : u3.cell? ⟨w.heap.size + 1 + 1, 2, none⟩ = some (.int .i64 0) := by rw [← HU.out]; go_simp
  have fu3_2_2 : u3.frozen? ⟨w.heap.size + 1 + 1, 2, none⟩ = false := by rw [← HU.out]; go_simp
  clear HU hB2
  clear ku2_0_0 fu2_0_0 ku2_0_1 fu2_0_1 ku2_0_2 fu2_0_2 ku2_1_0 fu2_1_0 ku2_1_1 fu2_1_1 ku2_1_2 fu2_1_2 ku2_2_0 fu2_2_0 ku2_2_1 fu2_2_1 ku2_2_2 fu2_2_2
  have g0 : w.heap.size < u3.heap.size := by omega
  have g1 : w.heap.size + 1 < u3.heap.size := by omega
  have g2 : w.heap.size + 1 + 1 < u3.heap.size := by omega
  clear z3
  go_wp2
  go_region_held3 (fun w' => w'.cell? ⟨w.heap.size, 0, none⟩ = some (.int .i64 x) ∧ w'.cell? ⟨w.heap.size, 1, none⟩ = some (.int .i64 y) ∧ w'.cell? ⟨w.heap.size, 2, none⟩ = some (.int .i64 t) ∧ w'.cell? ⟨w.heap.size + 1, 0, none⟩ = some (.int .i64 0) ∧ w'.cell? ⟨w.heap.size + 1, 1, none⟩ = some (.int .i64 i))
    (first | exact ⟨ku3_0_0, ku3_0_1, ku3_0_2, ku3_1_0, ku3_1_1⟩ | exact ⟨hd0, hd1, hd2, hd3, hd4⟩ | exact ⟨set3_out hd0 (by omega), set3_out hd1 (by omega), set3_out hd2 (by omega), set3_out hd3 (by omega), set3_out hd4 (by omega)⟩)
    (first | (go_at_call 68; refine (impl_DyadMake_yes x (y + q) t _ HK.out).mono ?_; rintro e u4 ⟨rfl, hb⟩; have hB4 : Below w.heap.size w u4 := Below.trans (by go_grown) (hb.mono (by go_size)); have hd0 := (hb.cell (p := ⟨w.heap.size, 0, none⟩) g0).trans ku3_0_0; have hd1 := (hb.cell (p := ⟨w.heap.size, 1, none⟩) g0).trans ku3_0_1; have hd2 := (hb.cell (p := ⟨w.heap.size, 2, none⟩) g0).trans ku3_0_2; have hd3 := (hb.cell (p := ⟨w.heap.size + 1, 0, none⟩) g1).trans ku3_1_0; have hd4 := (hb.cell (p := ⟨w.heap.size + 1, 1, none⟩) g1).trans ku3_1_1; have e0 := (hb.cell (p := ⟨w.heap.size + 1 + 1, 0, none⟩) g2).trans ku3_2_0; have q0 := (hb.frozen (p := ⟨w.heap.size + 1 + 1, 0, none⟩) g2).trans fu3_2_0; have e1 := (hb.cell (p := ⟨w.heap.size + 1 + 1, 1, none⟩) g2).trans ku3_2_1; have q1 := (hb.frozen (p := ⟨w.heap.size + 1 + 1, 1, none⟩) g2).trans fu3_2_1; have e2 := (hb.cell (p := ⟨w.heap.size + 1 + 1, 2, none⟩) g2).trans ku3_2_2; have q2 := (hb.frozen (p := ⟨w.heap.size + 1 + 1, 2, none⟩) g2).trans fu3_2_2; clear hb))
  have hB4' := hB4
  go_wp2
  refine ret_cell_tmp Try.results62 rfl rfl (load_Dyad _ _ _ _ _ (set3 e0 e1 e2 _ _ _).1 (set3 e0 e1 e2 _ _ _).2.1 (set3 e0 e1 e2 _ _ _).2.2) ⟨rfl, by go_grown⟩
set_option maxHeartbeats 400000 in
theorem impl_DyadAdd_lt_no1 (r i s x y t : Int) (w : World) (h1 : DV r i s = true) (h2 : DV x y t = true) (ho : s < t) (hz : ¬ r = 0) (hn : t - s ≤ 31) (hl : DV (lR (AP r s x t) (AP i s y t) (max s t)) (lI (AP r s x t) (AP i s y t) (max s t)) (lS (AP r s x t) (AP i s y t) (max s t)) = false) :
    Calls Try.prog 62 #[.agg #[.int .i64 r, .int .i64 i, .int .i64 s], .agg #[.int .i64 x, .int .i64 y, .int .i64 t]] w (Gives (.tuple #[.agg #[.int .i64 0, .int .i64 0, .int .i64 0], .bool false]) w) := by
  obtain ⟨a1, a2, a3, a4, a5, a6, -⟩ := (DV_iff r i s).1 h1
  obtain ⟨b1, b2, b3, b4, b5, b6, -⟩ := (DV_iff x y t).1 h2
  have hm : max s t = t := Int.max_eq_right (Int.le_of_lt ho)
  obtain ⟨k0, k1, k2, k3, k4⟩ := add_near x y t r i s (Int.le_of_lt ho) h2 h1 hn
  obtain ⟨p, hp⟩ : ∃ p : Int, r * 2 ^ (t - s).toNat = p := ⟨_, rfl⟩
  obtain ⟨q, hq⟩ : ∃ q : Int, i * 2 ^ (t - s).toNat = q := ⟨_, rfl⟩
  have w1 := (shl_up _ _ k1 k2).trans hp
  have v1 := shl_i64 w1
  have w2 := (shl_up _ _ k3 k4).trans hq
  have v2 := shl_i64 w2
  have ep : AP r s x t = x + p := by rw [AP_comm, AP_ge _ _ _ _ (Int.le_of_lt ho), hp]
  have eq' : AP i s y t = y + q := by rw [AP_comm, AP_ge _ _ _ _ (Int.le_of_lt ho), hq]
  rw [AP_comm, AP_comm y t i s, Int.max_comm] at k0
  have hk : MK (AP r s x t) (AP i s y t) (max s t) = false := by unfold MK; rw [k0, hl]; rfl
  rw [ep, eq', hm] at hk
  rw [hp] at k1 k2
  rw [hq] at k3 k4
  have v3 : IntKind.i64.wrap (x + p) = x + p := IntWalk.i64_in _ (by omega)
  have v4 : IntKind.i64.wrap (y + q) = y + q := IntWalk.i64_in _ (by omega)
  have HK := Lib.hid hk; clear hk ep eq' hm k0 hl
  have HP := Lib.hid hp; have HQ := Lib.hid hq; clear hp hq
  have n1 : 0 ≤ t - s := by omega
  have H1 := Lib.hid h1; have H2 := Lib.hid h2; clear h1 h2
  go_enter Try.func62, Try.ntmps62
  go_wp2_with fail
  refine (valid_any r i s _).mono ?_
  rw [H1.out]
  rintro e u1 ⟨rfl, hb⟩
  have hB1 : Below w.heap.size w u1 := Below.trans (by go_grown) (hb.mono (by go_size))
  have hz1 := hb.size
  try simp at hz1
  have hw1 := hB1.size
  obtain ⟨hc1, hf1⟩ := bcell hb
  clear hb
  try have s0_0_1 : w.heap.size < u1.heap.size := by omega
  try have l0_0_1 : w.heap.size ≤ u1.heap.size := by omega
  try have s0_1_1 : w.heap.size + 1 < u1.heap.size := by omega
  try have l0_1_1 : w.heap.size + 1 ≤ u1.heap.size := by omega
  try have s0_2_1 : w.heap.size + 2 < u1.heap.size := by omega
  try have l0_2_1 : w.heap.size + 2 ≤ u1.heap.size := by omega
  go_wp2_with fail
  refine (valid_any x y t _).mono ?_
  rw [H2.out]
  rintro e u2 ⟨rfl, hb⟩
  have hB2 : Below w.heap.size w u2 := Below.trans (by go_grown) (hb.mono (by go_size))
  have hz2 := hb.size
  try simp at hz2
  have hw2 := hB2.size
  obtain ⟨hc2, hf2⟩ := bcell hb
  clear hb
  try have s0_0_2 : w.heap.size < u2.heap.size := by omega
  try have l0_0_2 : w.heap.size ≤ u2.heap.size := by omega
  try have s0_1_2 : w.heap.size + 1 < u2.heap.size := by omega
  try have l0_1_2 : w.heap.size + 1 ≤ u2.heap.size := by omega
  try have s0_2_2 : w.heap.size + 2 < u2.heap.size := by omega
  try have l0_2_2 : w.heap.size + 2 ≤ u2.heap.size := by omega
  try have s1_0_2 : u1.heap.size < u2.heap.size := by omega
  try have l1_0_2 : u1.heap.size ≤ u2.heap.size := by omega
  have ku2_0_0 : u2.cell? ⟨w.heap.size, 0, none⟩ = some (.int .i64 r) := by go_simp
  have fu2_0_0 : u2.frozen? ⟨w.heap.size, 0, none⟩ = false := by go_simp
  have ku2_0_1 : u2.cell? ⟨w.heap.size, 1, none⟩ = some (.int .i64 i) := by go_simp
  have fu2_0_1 : u2.frozen? ⟨w.heap.size, 1, none⟩ = false := by go_simp
  have ku2_0_2 : u2.cell? ⟨w.heap.size, 2, none⟩ = some (.int .i64 s) := by go_simp
  have fu2_0_2 : u2.frozen? ⟨w.heap.size, 2, none⟩ = false := by go_simp
  have ku2_1_0 : u2.cell? ⟨w.heap.size + 1, 0, none⟩ = some (.int .i64 x) := by go_simp
  have fu2_1_0 : u2.frozen? ⟨w.heap.size + 1, 0, none⟩ = false := by go_simp
  have ku2_1_1 : u2.cell? ⟨w.heap.size + 1, 1, none⟩ = some (.int .i64 y) := by go_simp
  have fu2_1_1 : u2.frozen? ⟨w.heap.size + 1, 1, none⟩ = false := by go_simp
  have ku2_1_2 : u2.cell? ⟨w.heap.size + 1, 2, none⟩ = some (.int .i64 t) := by go_simp
  have fu2_1_2 : u2.frozen? ⟨w.heap.size + 1, 2, none⟩ = false := by go_simp
  have ku2_2_0 : u2.cell? ⟨w.heap.size + 1 + 1, 0, none⟩ = some (.int .i64 0) := by go_simp
  have fu2_2_0 : u2.frozen? ⟨w.heap.size + 1 + 1, 0, none⟩ = false := by go_simp
  have ku2_2_1 : u2.cell? ⟨w.heap.size + 1 + 1, 1, none⟩ = some (.int .i64 0) := by go_simp
  have fu2_2_1 : u2.frozen? ⟨w.heap.size + 1 + 1, 1, none⟩ = false := by go_simp
  have ku2_2_2 : u2.cell? ⟨w.heap.size + 1 + 1, 2, none⟩ = some (.int .i64 0) := by go_simp
  have fu2_2_2 : u2.frozen? ⟨w.heap.size + 1 + 1, 2, none⟩ = false := by go_simp
  clear hc1 hf1
  clear hc2 hf2
  go_upto_region 5 with (fail)
  obtain ⟨u3, hu3⟩ : ∃ u3 : World, ((((((u2.setCell ⟨w.heap.size, 0, none⟩ (.int .i64 x)).setCell ⟨w.heap.size, 1, none⟩ (.int .i64 y)).setCell ⟨w.heap.size, 2, none⟩ (.int .i64 t)).setCell ⟨w.heap.size + 1, 0, none⟩ (.int .i64 r)).setCell ⟨w.heap.size + 1, 1, none⟩ (.int .i64 i)).setCell ⟨w.heap.size + 1, 2, none⟩ (.int .i64 s)) = u3 := ⟨_, rfl⟩
  rw [hu3]
  have HU := Lib.hid hu3; clear hu3
  have hB3 : Below w.heap.size w u3 := by rw [← HU.out]; go_grown
  have z3 : u3.heap.size = u2.heap.size := by rw [← HU.out]; simp
  have ku3_0_0 : u3.cell? ⟨w.heap.size, 0, none⟩ = some (.int .i64 x) := by rw [← HU.out]; go_simp
  have fu3_0_0 : u3.frozen? ⟨w.heap.size, 0, none⟩ = false := by rw [← HU.out]; go_simp
  have ku3_0_1 : u3.cell? ⟨w.heap.size, 1, none⟩ = some (.int .i64 y) := by rw [← HU.out]; go_simp
  have fu3_0_1 : u3.frozen? ⟨w.heap.size, 1, none⟩ = false := by rw [← HU.out]; go_simp
  have ku3_0_2 : u3.cell? ⟨w.heap.size, 2, none⟩ = some (.int .i64 t) := by rw [← HU.out]; go_simp
  have fu3_0_2 : u3.frozen? ⟨w.heap.size, 2, none⟩ = false := by rw [← HU.out]; go_simp
  have ku3_1_0 : u3.cell? ⟨w.heap.size + 1, 0, none⟩ = some (.int .i64 r) := by rw [← HU.out]; go_simp
  have fu3_1_0 : u3.frozen? ⟨w.heap.size + 1, 0, none⟩ = false := by rw [← HU.out]; go_simp
  have ku3_1_1 : u3.cell? ⟨w.heap.size + 1, 1, none⟩ = some (.int .i64 i) := by rw [← HU.out]; go_simp
  have fu3_1_1 : u3.frozen? ⟨w.heap.size + 1, 1, none⟩ = false := by rw [← HU.out]; go_simp
  have ku3_1_2 : u3.cell? ⟨w.heap.size + 1, 2, none⟩ = some (.int .i64 s) := by rw [← HU.out]; go_simp
  have fu3_1_2 : u3.frozen? ⟨w.heap.size + 1, 2, none⟩ = false := by rw [← HU.out]; go_simp
  have ku3_2_0 : u3.cell? ⟨w.heap.size + 1 + 1, 0, none⟩ = some (.int .i64 0) := by rw [← HU.out]; go_simp
  have fu3_2_0 : u3.frozen? ⟨w.heap.size + 1 + 1, 0, none⟩ = false := by rw [← HU.out]; go_simp
  have ku3_2_1 : u3.cell? ⟨w.heap.size + 1 + 1, 1, none⟩ = some (.int .i64 0) := by rw [← HU.out]; go_simp
  have fu3_2_1 : u3.frozen? ⟨w.heap.size + 1 + 1, 1, none⟩ = false := by rw [← HU.out]; go_simp
  have ku3_2_2 : u3.cell? ⟨w.heap.size + 1 + 1, 2, none⟩ = some (.int .i64 0) := by rw [← HU.out]; go_simp
  have fu3_2_2 : u3.frozen? ⟨w.heap.size + 1 + 1, 2, none⟩ = false := by rw [← HU.out]; go_simp
  clear HU hB2
  clear ku2_0_0 fu2_0_0 ku2_0_1 fu2_0_1 ku2_0_2 fu2_0_2 ku2_1_0 fu2_1_0 ku2_1_1 fu2_1_1 ku2_1_2 fu2_1_2 ku2_2_0 fu2_2_0 ku2_2_1 fu2_2_1 ku2_2_2 fu2_2_2
  have g0 : w.heap.size < u3.heap.size := by omega
  have g1 : w.heap.size + 1 < u3.heap.size := by omega
  have g2 : w.heap.size + 1 + 1 < u3.heap.size := by omega
  clear z3
  go_wp2
  go_region_held3 (fun w' => w'.cell? ⟨w.heap.size, 0, none⟩ = some (.int .i64 x) ∧ w'.cell? ⟨w.heap.size, 1, none⟩ = some (.int .i64 y) ∧ w'.cell? ⟨w.heap.size, 2, none⟩ = some (.int .i64 t) ∧ w'.cell? ⟨w.heap.size + 1, 0, none⟩ = some (.int .i64 r) ∧ w'.cell? ⟨w.heap.size + 1, 1, none⟩ = some (.int .i64 i))
    (first | exact ⟨ku3_0_0, ku3_0_1, ku3_0_2, ku3_1_0, ku3_1_1⟩ | exact ⟨hd0, hd1, hd2, hd3, hd4⟩ | exact ⟨set3_out hd0 (by omega), set3_out hd1 (by omega), set3_out hd2 (by omega), set3_out hd3 (by omega), set3_out hd4 (by omega)⟩)
    (first | (go_at_call 68; refine (impl_DyadMake_no (x + p) (y + q) t _ HK.out).mono ?_; rintro e u4 ⟨rfl, hb⟩; have hB4 : Below w.heap.size w u4 := Below.trans (by go_grown) (hb.mono (by go_size)); have hd0 := (hb.cell (p := ⟨w.heap.size, 0, none⟩) g0).trans ku3_0_0; have hd1 := (hb.cell (p := ⟨w.heap.size, 1, none⟩) g0).trans ku3_0_1; have hd2 := (hb.cell (p := ⟨w.heap.size, 2, none⟩) g0).trans ku3_0_2; have hd3 := (hb.cell (p := ⟨w.heap.size + 1, 0, none⟩) g1).trans ku3_1_0; have hd4 := (hb.cell (p := ⟨w.heap.size + 1, 1, none⟩) g1).trans ku3_1_1; have e0 := (hb.cell (p := ⟨w.heap.size + 1 + 1, 0, none⟩) g2).trans ku3_2_0; have q0 := (hb.frozen (p := ⟨w.heap.size + 1 + 1, 0, none⟩) g2).trans fu3_2_0; have e1 := (hb.cell (p := ⟨w.heap.size + 1 + 1, 1, none⟩) g2).trans ku3_2_1; have q1 := (hb.frozen (p := ⟨w.heap.size + 1 + 1, 1, none⟩) g2).trans fu3_2_1; have e2 := (hb.cell (p := ⟨w.heap.size + 1 + 1, 2, none⟩) g2).trans ku3_2_2; have q2 := (hb.frozen (p := ⟨w.heap.size + 1 + 1, 2, none⟩) g2).trans fu3_2_2; clear hb))
  have hB4' := hB4
  go_wp2
  refine ret_cell_tmp Try.results62 rfl rfl (load_Dyad _ _ _ _ _ (set3 e0 e1 e2 _ _ _).1 (set3 e0 e1 e2 _ _ _).2.1 (set3 e0 e1 e2 _ _ _).2.2) ⟨rfl, by go_grown⟩
set_option maxHeartbeats 400000 in
theorem impl_DyadAdd_lt_no2 (r i s x y t : Int) (w : World) (h1 : DV r i s = true) (h2 : DV x y t = true) (ho : s < t) (hz0 : r = 0) (hz : ¬ i = 0) (hn : t - s ≤ 31) (hl : DV (lR (AP r s x t) (AP i s y t) (max s t)) (lI (AP r s x t) (AP i s y t) (max s t)) (lS (AP r s x t) (AP i s y t) (max s t)) = false) :
    Calls Try.prog 62 #[.agg #[.int .i64 r, .int .i64 i, .int .i64 s], .agg #[.int .i64 x, .int .i64 y, .int .i64 t]] w (Gives (.tuple #[.agg #[.int .i64 0, .int .i64 0, .int .i64 0], .bool false]) w) := by
  obtain ⟨a1, a2, a3, a4, a5, a6, -⟩ := (DV_iff r i s).1 h1
  obtain ⟨b1, b2, b3, b4, b5, b6, -⟩ := (DV_iff x y t).1 h2
  subst hz0
  have hm : max s t = t := Int.max_eq_right (Int.le_of_lt ho)
  obtain ⟨k0, k1, k2, k3, k4⟩ := add_near x y t 0 i s (Int.le_of_lt ho) h2 h1 hn
  obtain ⟨p, hp⟩ : ∃ p : Int, 0 * 2 ^ (t - s).toNat = p := ⟨_, rfl⟩
  obtain ⟨q, hq⟩ : ∃ q : Int, i * 2 ^ (t - s).toNat = q := ⟨_, rfl⟩
  have w2 := (shl_up _ _ k3 k4).trans hq
  have v2 := shl_i64 w2
  have ep : AP 0 s x t = x + p := by rw [AP_comm, AP_ge _ _ _ _ (Int.le_of_lt ho), hp]
  have eq' : AP i s y t = y + q := by rw [AP_comm, AP_ge _ _ _ _ (Int.le_of_lt ho), hq]
  rw [AP_comm, AP_comm y t i s, Int.max_comm] at k0
  have hk : MK (AP 0 s x t) (AP i s y t) (max s t) = false := by unfold MK; rw [k0, hl]; rfl
  rw [ep, eq', hm] at hk
  rw [hp] at k1 k2
  rw [hq] at k3 k4
  have hp0 : p = 0 := by rw [← hp, Int.zero_mul]
  subst hp0
  rw [Int.add_zero] at hk
  have v3 : IntKind.i64.wrap x = x := IntWalk.i64_in _ (by omega)
  have v5 : IntKind.i64.wrap 0 = 0 := rfl
  have v4 : IntKind.i64.wrap (y + q) = y + q := IntWalk.i64_in _ (by omega)
  have HK := Lib.hid hk; clear hk ep eq' hm k0 hl
  have HP := Lib.hid hp; have HQ := Lib.hid hq; clear hp hq
  have n1 : 0 ≤ t - s := by omega
  have H1 := Lib.hid h1; have H2 := Lib.hid h2; clear h1 h2
  go_enter Try.func62, Try.ntmps62
  go_wp2_with fail
  refine (valid_any 0 i s _).mono ?_
  rw [H1.out]
  rintro e u1 ⟨rfl, hb⟩
  have hB1 : Below w.heap.size w u1 := Below.trans (by go_grown) (hb.mono (by go_size))
  have hz1 := hb.size
  try simp at hz1
  have hw1 := hB1.size
  obtain ⟨hc1, hf1⟩ := bcell hb
  clear hb
  try have s0_0_1 : w.heap.size < u1.heap.size := by omega
  try have l0_0_1 : w.heap.size ≤ u1.heap.size := by omega
  try have s0_1_1 : w.heap.size + 1 < u1.heap.size := by omega
  try have l0_1_1 : w.heap.size + 1 ≤ u1.heap.size := by omega
  try have s0_2_1 : w.heap.size + 2 < u1.heap.size := by omega
  try have l0_2_1 : w.heap.size + 2 ≤ u1.heap.size := by omega
  go_wp2_with fail
  refine (valid_any x y t _).mono ?_
  rw [H2.out]
  rintro e u2 ⟨rfl, hb⟩
  have hB2 : Below w.heap.size w u2 := Below.trans (by go_grown) (hb.mono (by go_size))
  have hz2 := hb.size
  try simp at hz2
  have hw2 := hB2.size
  obtain ⟨hc2, hf2⟩ := bcell hb
  clear hb
  try have s0_0_2 : w.heap.size < u2.heap.size := by omega
  try have l0_0_2 : w.heap.size ≤ u2.heap.size := by omega
  try have s0_1_2 : w.heap.size + 1 < u2.heap.size := by omega
  try have l0_1_2 : w.heap.size + 1 ≤ u2.heap.size := by omega
  try have s0_2_2 : w.heap.size + 2 < u2.heap.size := by omega
  try have l0_2_2 : w.heap.size + 2 ≤ u2.heap.size := by omega
  try have s1_0_2 : u1.heap.size < u2.heap.size := by omega
  try have l1_0_2 : u1.heap.size ≤ u2.heap.size := by omega
  have ku2_0_0 : u2.cell? ⟨w.heap.size, 0, none⟩ = some (.int .i64 0) := by go_simp
  have fu2_0_0 : u2.frozen? ⟨w.heap.size, 0, none⟩ = false := by go_simp
  have ku2_0_1 : u2.cell? ⟨w.heap.size, 1, none⟩ = some (.int .i64 i) := by go_simp
  have fu2_0_1 : u2.frozen? ⟨w.heap.size, 1, none⟩ = false := by go_simp
  have ku2_0_2 : u2.cell? ⟨w.heap.size, 2, none⟩ = some (.int .i64 s) := by go_simp
  have fu2_0_2 : u2.frozen? ⟨w.heap.size, 2, none⟩ = false := by go_simp
  have ku2_1_0 : u2.cell? ⟨w.heap.size + 1, 0, none⟩ = some (.int .i64 x) := by go_simp
  have fu2_1_0 : u2.frozen? ⟨w.heap.size + 1, 0, none⟩ = false := by go_simp
  have ku2_1_1 : u2.cell? ⟨w.heap.size + 1, 1, none⟩ = some (.int .i64 y) := by go_simp
  have fu2_1_1 : u2.frozen? ⟨w.heap.size + 1, 1, none⟩ = false := by go_simp
  have ku2_1_2 : u2.cell? ⟨w.heap.size + 1, 2, none⟩ = some (.int .i64 t) := by go_simp
  have fu2_1_2 : u2.frozen? ⟨w.heap.size + 1, 2, none⟩ = false := by go_simp
  have ku2_2_0 : u2.cell? ⟨w.heap.size + 1 + 1, 0, none⟩ = some (.int .i64 0) := by go_simp
  have fu2_2_0 : u2.frozen? ⟨w.heap.size + 1 + 1, 0, none⟩ = false := by go_simp
  have ku2_2_1 : u2.cell? ⟨w.heap.size + 1 + 1, 1, none⟩ = some (.int .i64 0) := by go_simp
  have fu2_2_1 : u2.frozen? ⟨w.heap.size + 1 + 1, 1, none⟩ = false := by go_simp
  have ku2_2_2 : u2.cell? ⟨w.heap.size + 1 + 1, 2, none⟩ = some (.int .i64 0) := by go_simp
  have fu2_2_2 : u2.frozen? ⟨w.heap.size + 1 + 1, 2, none⟩ = false := by go_simp
  clear hc1 hf1
  clear hc2 hf2
  go_upto_region 5 with (fail)
  obtain ⟨u3, hu3⟩ : ∃ u3 : World, ((((((u2.setCell ⟨w.heap.size, 0, none⟩ (.int .i64 x)).setCell ⟨w.heap.size, 1, none⟩ (.int .i64 y)).setCell ⟨w.heap.size, 2, none⟩ (.int .i64 t)).setCell ⟨w.heap.size + 1, 0, none⟩ (.int .i64 0)).setCell ⟨w.heap.size + 1, 1, none⟩ (.int .i64 i)).setCell ⟨w.heap.size + 1, 2, none⟩ (.int .i64 s)) = u3 := ⟨_, rfl⟩
  rw [hu3]
  have HU := Lib.hid hu3; clear hu3
  have hB3 : Below w.heap.size w u3 := by rw [← HU.out]; go_grown
  have z3 : u3.heap.size = u2.heap.size := by rw [← HU.out]; simp
  have ku3_0_0 : u3.cell? ⟨w.heap.size, 0, none⟩ = some (.int .i64 x) := by rw [← HU.out]; go_simp
  have fu3_0_0 : u3.frozen? ⟨w.heap.size, 0, none⟩ = false := by rw [← HU.out]; go_simp
  have ku3_0_1 : u3.cell? ⟨w.heap.size, 1, none⟩ = some (.int .i64 y) := by rw [← HU.out]; go_simp
  have fu3_0_1 : u3.frozen? ⟨w.heap.size, 1, none⟩ = false := by rw [← HU.out]; go_simp
  have ku3_0_2 : u3.cell? ⟨w.heap.size, 2, none⟩ = some (.int .i64 t) := by rw [← HU.out]; go_simp
  have fu3_0_2 : u3.frozen? ⟨w.heap.size, 2, none⟩ = false := by rw [← HU.out]; go_simp
  have ku3_1_0 : u3.cell? ⟨w.heap.size + 1, 0, none⟩ = some (.int .i64 0) := by rw [← HU.out]; go_simp
  have fu3_1_0 : u3.frozen? ⟨w.heap.size + 1, 0, none⟩ = false := by rw [← HU.out]; go_simp
  have ku3_1_1 : u3.cell? ⟨w.heap.size + 1, 1, none⟩ = some (.int .i64 i) := by rw [← HU.out]; go_simp
  have fu3_1_1 : u3.frozen? ⟨w.heap.size + 1, 1, none⟩ = false := by rw [← HU.out]; go_simp
  have ku3_1_2 : u3.cell? ⟨w.heap.size + 1, 2, none⟩ = some (.int .i64 s) := by rw [← HU.out]; go_simp
  have fu3_1_2 : u3.frozen? ⟨w.heap.size + 1, 2, none⟩ = false := by rw [← HU.out]; go_simp
  have ku3_2_0 : u3.cell? ⟨w.heap.size + 1 + 1, 0, none⟩ = some (.int .i64 0) := by rw [← HU.out]; go_simp
  have fu3_2_0 : u3.frozen? ⟨w.heap.size + 1 + 1, 0, none⟩ = false := by rw [← HU.out]; go_simp
  have ku3_2_1 : u3.cell? ⟨w.heap.size + 1 + 1, 1, none⟩ = some (.int .i64 0) := by rw [← HU.out]; go_simp
  have fu3_2_1 : u3.frozen? ⟨w.heap.size + 1 + 1, 1, none⟩ = false := by rw [← HU.out]; go_simp
  have ku3_2_2 : u3.cell? ⟨w.heap.size + 1 + 1, 2, none⟩ = some (.int .i64 0) := by rw [← HU.out]; go_simp
  have fu3_2_2 : u3.frozen? ⟨w.heap.size + 1 + 1, 2, none⟩ = false := by rw [← HU.out]; go_simp
  clear HU hB2
  clear ku2_0_0 fu2_0_0 ku2_0_1 fu2_0_1 ku2_0_2 fu2_0_2 ku2_1_0 fu2_1_0 ku2_1_1 fu2_1_1 ku2_1_2 fu2_1_2 ku2_2_0 fu2_2_0 ku2_2_1 fu2_2_1 ku2_2_2 fu2_2_2
  have g0 : w.heap.size < u3.heap.size := by omega
  have g1 : w.heap.size + 1 < u3.heap.size := by omega
  have g2 : w.heap.size + 1 + 1 < u3.heap.size := by omega
  clear z3
  go_wp2
  go_region_held3 (fun w' => w'.cell? ⟨w.heap.size, 0, none⟩ = some (.int .i64 x) ∧ w'.cell? ⟨w.heap.size, 1, none⟩ = some (.int .i64 y) ∧ w'.cell? ⟨w.heap.size, 2, none⟩ = some (.int .i64 t) ∧ w'.cell? ⟨w.heap.size + 1, 0, none⟩ = some (.int .i64 0) ∧ w'.cell? ⟨w.heap.size + 1, 1, none⟩ = some (.int .i64 i))
    (first | exact ⟨ku3_0_0, ku3_0_1, ku3_0_2, ku3_1_0, ku3_1_1⟩ | exact ⟨hd0, hd1, hd2, hd3, hd4⟩ | exact ⟨set3_out hd0 (by omega), set3_out hd1 (by omega), set3_out hd2 (by omega), set3_out hd3 (by omega), set3_out hd4 (by omega)⟩)
    (first | (go_at_call 68; refine (impl_DyadMake_no x (y + q) t _ HK.out).mono ?_; rintro e u4 ⟨rfl, hb⟩; have hB4 : Below w.heap.size w u4 := Below.trans (by go_grown) (hb.mono (by go_size)); have hd0 := (hb.cell (p := ⟨w.heap.size, 0, none⟩) g0).trans ku3_0_0; have hd1 := (hb.cell (p := ⟨w.heap.size, 1, none⟩) g0).trans ku3_0_1; have hd2 := (hb.cell (p := ⟨w.heap.size, 2, none⟩) g0).trans ku3_0_2; have hd3 := (hb.cell (p := ⟨w.heap.size + 1, 0, none⟩) g1).trans ku3_1_0; have hd4 := (hb.cell (p := ⟨w.heap.size + 1, 1, none⟩) g1).trans ku3_1_1; have e0 := (hb.cell (p := ⟨w.heap.size + 1 + 1, 0, none⟩) g2).trans ku3_2_0; have q0 := (hb.frozen (p := ⟨w.heap.size + 1 + 1, 0, none⟩) g2).trans fu3_2_0; have e1 := (hb.cell (p := ⟨w.heap.size + 1 + 1, 1, none⟩) g2).trans ku3_2_1; have q1 := (hb.frozen (p := ⟨w.heap.size + 1 + 1, 1, none⟩) g2).trans fu3_2_1; have e2 := (hb.cell (p := ⟨w.heap.size + 1 + 1, 2, none⟩) g2).trans ku3_2_2; have q2 := (hb.frozen (p := ⟨w.heap.size + 1 + 1, 2, none⟩) g2).trans fu3_2_2; clear hb))
  have hB4' := hB4
  go_wp2
  refine ret_cell_tmp Try.results62 rfl rfl (load_Dyad _ _ _ _ _ (set3 e0 e1 e2 _ _ _).1 (set3 e0 e1 e2 _ _ _).2.1 (set3 e0 e1 e2 _ _ _).2.2) ⟨rfl, by go_grown⟩
theorem impl_DyadAdd_any (r i s x y t : Int) (w : World) :
    Calls Try.prog 62 #[.agg #[.int .i64 r, .int .i64 i, .int .i64 s], .agg #[.int .i64 x, .int .i64 y, .int .i64 t]] w (Gives (ADV r i s x y t) w) := by
  cases h1 : DV r i s
  · rw [ADV_no (by unfold ADD; rw [h1]; rfl)]; exact impl_DyadAdd_a r i s x y t w h1
  cases h2 : DV x y t
  · rw [ADV_no (by unfold ADD; rw [h1, h2]; rfl)]; exact impl_DyadAdd_b r i s x y t w h1 h2
  rcases Int.lt_or_le s t with ho | ho
  · have hle := Int.le_of_lt ho
    by_cases hz : r = 0 ∧ i = 0
    · obtain ⟨e1, e2⟩ := hz
      subst e1 e2
      have e3 := zero_shift _ h1
      subst e3
      obtain ⟨z1, z2, z3⟩ := add_zero' x y t 0 hle h2
      rw [AP_comm, AP_comm y, Int.max_comm] at z1 z2 z3
      have hv : ADD 0 0 0 x y t = true := by rw [ADD_low h1 h2, z1, z2, z3]; exact h2
      rw [ADV_yes hv, z1, z2, z3]
      exact impl_DyadAdd_lt_zero _ _ _ _ _ _ w h1 h2 ho ⟨rfl, rfl, rfl⟩
    · by_cases hf : 31 < t - s
      · have hv : ADD r i s x y t = false := by
          rw [ADD_comm]; unfold ADD
          rw [h1, h2, add_far x y t r i s hle h2 hz hf]; rfl
        rw [ADV_no hv]
        by_cases hx : r = 0
        · exact impl_DyadAdd_lt_far2 r i s x y t w h1 h2 ho hx (fun e => hz ⟨hx, e⟩) hf
        · exact impl_DyadAdd_lt_far1 r i s x y t w h1 h2 ho hx hf
      · cases c3 : DV (lR (AP r s x t) (AP i s y t) (max s t)) (lI (AP r s x t) (AP i s y t) (max s t)) (lS (AP r s x t) (AP i s y t) (max s t))
        · rw [ADV_no (by rw [ADD_low h1 h2, c3])]
          by_cases hx : r = 0
          · exact impl_DyadAdd_lt_no2 r i s x y t w h1 h2 ho hx (fun e => hz ⟨hx, e⟩) (by omega) c3
          · exact impl_DyadAdd_lt_no1 r i s x y t w h1 h2 ho hx (by omega) c3
        · rw [ADV_yes (by rw [ADD_low h1 h2, c3])]
          by_cases hx : r = 0
          · exact impl_DyadAdd_lt_yes2 r i s x y t w h1 h2 ho hx (fun e => hz ⟨hx, e⟩) (by omega) c3
          · exact impl_DyadAdd_lt_yes1 r i s x y t w h1 h2 ho hx (by omega) c3
  · have hle := ho
    by_cases hz : x = 0 ∧ y = 0
    · obtain ⟨e1, e2⟩ := hz
      subst e1 e2
      have e3 := zero_shift _ h2
      subst e3
      obtain ⟨z1, z2, z3⟩ := add_zero' r i s 0 hle h1
      have hv : ADD r i s 0 0 0 = true := by rw [ADD_low h1 h2, z1, z2, z3]; exact h1
      rw [ADV_yes hv, z1, z2, z3]
      exact impl_DyadAdd_ge_zero _ _ _ _ _ _ w h1 h2 ho ⟨rfl, rfl, rfl⟩
    · by_cases hf : 31 < s - t
      · have hv : ADD r i s x y t = false := by
          unfold ADD
          rw [h1, h2, add_far r i s x y t hle h1 hz hf]; rfl
        rw [ADV_no hv]
        by_cases hx : x = 0
        · exact impl_DyadAdd_ge_far2 r i s x y t w h1 h2 ho hx (fun e => hz ⟨hx, e⟩) hf
        · exact impl_DyadAdd_ge_far1 r i s x y t w h1 h2 ho hx hf
      · cases c3 : DV (lR (AP r s x t) (AP i s y t) (max s t)) (lI (AP r s x t) (AP i s y t) (max s t)) (lS (AP r s x t) (AP i s y t) (max s t))
        · rw [ADV_no (by rw [ADD_low h1 h2, c3])]
          by_cases hx : x = 0
          · exact impl_DyadAdd_ge_no2 r i s x y t w h1 h2 ho hx (fun e => hz ⟨hx, e⟩) (by omega) c3
          · exact impl_DyadAdd_ge_no1 r i s x y t w h1 h2 ho hx (by omega) c3
        · rw [ADV_yes (by rw [ADD_low h1 h2, c3])]
          by_cases hx : x = 0
          · exact impl_DyadAdd_ge_yes2 r i s x y t w h1 h2 ho hx (fun e => hz ⟨hx, e⟩) (by omega) c3
          · exact impl_DyadAdd_ge_yes1 r i s x y t w h1 h2 ho hx (by omega) c3

end Go.Proofs.Ythggppjdapmgdaa
