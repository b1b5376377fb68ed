/- What lowest terms and DyadMake give. -/
import Derived.Test.YthggppjdapmgdaaDyW
import Derived.Deep.LoopGhost
namespace Go.Proofs.Ythggppjdapmgdaa
set_option linter.unusedSimpArgs false
set_option linter.unusedVariables false
open Go.RowKit

theorem l2Low_any (r i s : Int) (w : World) (hr : I64 r) (hi : I64 i) (hs : 0 ≤ s) (hs' : s ≤ 1000) :
    Calls Try.prog 93 #[.int .i64 r, .int .i64 i, .int .i64 s] w (Gives (.agg #[.int .i64 (lR r i s), .int .i64 (lI r i s), .int .i64 (lS r i s)]) w) := by
  go_enter Try.func93, Try.ntmps93
  go_wp2
  go_loop [0, 1, 2] (fun x y z => ∃ a b c : Int, x = .int .i64 a ∧ y = .int .i64 b ∧ z = .int .i64 c ∧ I64 a ∧ I64 b ∧ 0 ≤ c ∧ c ≤ 1000 ∧ lR a b c = lR r i s ∧ lI a b c = lI r i s ∧ lS a b c = lS r i s) (fun _ _ z => (intOf z).toNat)
  case atStart => exact ⟨r, i, s, rfl, rfl, rfl, hr, hi, hs, hs', rfl, rfl, rfl⟩
  case round =>
    obtain ⟨a, b, c, rfl, rfl, rfl, ⟨ha, ha'⟩, ⟨hb, hb'⟩, hc, hc', h1, h2, h3⟩ := hrel
    have H1 := Lib.hid h1; have H2 := Lib.hid h2; have H3 := Lib.hid h3; clear h1 h2 h3
    by_cases hc0 : c = 0
    · subst hc0
      have HS := Lib.hid (l_stop a b 0 (by omega) (Or.inl rfl))
      go_wp2
      refine ret_cell Try.results93 rfl (load_Dyad _ _ (.int .i64 a) (.int .i64 b) (.int .i64 0) (by go_simp) (by go_simp) (by go_simp)) ⟨?_, by go_grown⟩
      rw [← H1.out, ← H2.out, ← H3.out, HS.out.1, HS.out.2.1, HS.out.2.2]
    have hc1 : 1 ≤ c := by omega
    by_cases pa : a % 2 = 0
    · have e1 := tmod_two_t pa
      have e1' := tdiv_two a pa
      by_cases pb : b % 2 = 0
      · have e2 := tmod_two_t pb
        have e2' := tdiv_two b pb
        obtain ⟨s1, s2, s3⟩ := l_step a b c hc1 pa pb
        have S1 := Lib.hid s1; have S2 := Lib.hid s2; have S3 := Lib.hid s3; clear s1 s2 s3 pa pb
        go_wp2
        go_round
        case rel => exact ⟨a / 2, b / 2, c - 1, rfl, rfl, rfl, ⟨by omega, by omega⟩, ⟨by omega, by omega⟩, by omega, by omega, by rw [← H1.out, S1.out], by rw [← H2.out, S2.out], by rw [← H3.out, S3.out]⟩
        case measure => simp [intOf]; omega
      · have e2 := tmod_two_f pb
        have HS := Lib.hid (l_stop a b c hc (Or.inr (Or.inr pb)))
        clear pa pb
        go_wp2
        refine ret_cell Try.results93 rfl (load_Dyad _ _ (.int .i64 a) (.int .i64 b) (.int .i64 c) (by go_simp) (by go_simp) (by go_simp)) ⟨?_, by go_grown⟩
        rw [← H1.out, ← H2.out, ← H3.out, HS.out.1, HS.out.2.1, HS.out.2.2]
    · have e1 := tmod_two_f pa
      have HS := Lib.hid (l_stop a b c hc (Or.inr (Or.inl pa)))
      clear pa
      go_wp2
      refine ret_cell Try.results93 rfl (load_Dyad _ _ (.int .i64 a) (.int .i64 b) (.int .i64 c) (by go_simp) (by go_simp) (by go_simp)) ⟨?_, by go_grown⟩
      rw [← H1.out, ← H2.out, ← H3.out, HS.out.1, HS.out.2.1, HS.out.2.2]


theorem I64_of_le {x y : Int} (h : x.natAbs ≤ y.natAbs) (hy : -4611686018427387904 ≤ y ∧ y ≤ 4611686018427387904) : I64 x := ⟨by omega, by omega⟩


end Go.Proofs.Ythggppjdapmgdaa
