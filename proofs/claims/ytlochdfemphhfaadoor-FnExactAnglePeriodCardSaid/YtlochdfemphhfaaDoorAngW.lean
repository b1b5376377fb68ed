/- What the functions on angles give: each call by its contract. -/
import Derived.Test.YtlochdfemphhfaaDoorBase
import Derived.Test.YtlochdfemphhfaaDoorAngM
namespace Go.Proofs.YtlochdfemphhfaaDoor
set_option linter.unusedSimpArgs false
set_option linter.unusedVariables false
open Go.RowKit

theorem divisor_any (a b : Int) (w : World) (ha : 0 ≤ a) (hb : 0 ≤ b) (_ha : a ≤ 9223372036854775807) (_hb : b ≤ 9223372036854775807) :
    Calls Tryd.prog 12 #[.int .i64 a, .int .i64 b] w fun e w' => e = .returned (.int .i64 (Int.gcd a b)) ∧ Below w.heap.size w w' := by
  go_enter Tryd.func12, Tryd.ntmps12
  go_wp2
  go_loopw [0, 1] (fun u v wr => ∃ x y : Int, u = .int .i64 x ∧ v = .int .i64 y ∧ 0 ≤ x ∧ 0 ≤ y ∧ x ≤ 9223372036854775807 ∧ y ≤ 9223372036854775807 ∧ Int.gcd x y = Int.gcd a b ∧ Below w.heap.size w wr) (fun _ v _ => (intOf v).toNat)
  case atStart => exact ⟨a, b, rfl, rfl, ha, hb, by omega, by omega, rfl, Below.refl _ _⟩
  case round =>
    obtain ⟨x, y, rfl, rfl, hx, hy, hx', hy', hg, hb⟩ := hrel
    have HG := Lib.hid hg; clear hg
    by_cases h0 : y = 0
    · subst h0
      go_wp2
      go_ret
      refine ⟨?_, hb⟩
      rw [← HG.out]; simp; omega
    · have h1 : 0 < y := by omega
      have h2 : x % y < y := Int.emod_lt_of_pos _ h1
      have h3 : 0 ≤ x % y := Int.emod_nonneg _ (by omega)
      go_wp2
      go_region
      go_wp2
      go_roundw
      case rel => exact ⟨y, x % y, rfl, rfl, by omega, by omega, by omega, by omega, by rw [gcd_step x y hx h1, HG.out], hb.drew⟩
      case measure => simp [intOf]; omega

theorem l6aGcd_any (a b : Int) (w : World) (ha : 0 ≤ a) (hb : 0 ≤ b) (_ha : a ≤ 9223372036854775807) (_hb : b ≤ 9223372036854775807) :
    Calls Tryd.prog 11 #[.int .i64 a, .int .i64 b] w fun e w' => e = .returned (.int .i64 (Int.gcd a b)) ∧ Below w.heap.size w w' := by
  go_enter Tryd.func11, Tryd.ntmps11
  go_wp2
  go_loopw [0, 1] (fun u v wr => ∃ x y : Int, u = .int .i64 x ∧ v = .int .i64 y ∧ 0 ≤ x ∧ 0 ≤ y ∧ x ≤ 9223372036854775807 ∧ y ≤ 9223372036854775807 ∧ Int.gcd x y = Int.gcd a b ∧ Below w.heap.size w wr) (fun _ v _ => (intOf v).toNat)
  case atStart => exact ⟨a, b, rfl, rfl, ha, hb, by omega, by omega, rfl, Below.refl _ _⟩
  case round =>
    obtain ⟨x, y, rfl, rfl, hx, hy, hx', hy', hg, hb⟩ := hrel
    have HG := Lib.hid hg; clear hg
    by_cases h0 : y = 0
    · subst h0
      go_wp2
      go_ret
      refine ⟨?_, hb⟩
      rw [← HG.out]; simp; omega
    · have h1 : 0 < y := by omega
      have h2 : x % y < y := Int.emod_lt_of_pos _ h1
      have h3 : 0 ≤ x % y := Int.emod_nonneg _ (by omega)
      go_wp2
      go_roundw
      case rel => exact ⟨y, x % y, rfl, rfl, by omega, by omega, by omega, by omega, by rw [gcd_step x y hx h1, HG.out], hb⟩
      case measure => simp [intOf]; omega

theorem toAngle_any (n d : Int) (w : World) :
    Calls Tryd.prog 5 #[.agg #[.int .i64 n, .int .i64 d]] w (Gives (.agg #[.int .i64 n, .int .i64 d]) w) := by
  go_enter Tryd.func5, Tryd.ntmps5
  go_wp2
  go_returns
  refine ⟨rfl, ?_⟩
  go_grown

theorem spec_AngleValid_any (n d : Int) (w : World) :
    Calls Tryd.prog 7 #[.agg #[.int .i64 n, .int .i64 d]] w (Gives (.bool (AV n d)) w) := by
  by_cases h1 : 1 ≤ d ∧ d ≤ 1048576
  · obtain ⟨a1, a2⟩ := h1
    by_cases h2 : 0 ≤ n ∧ n ≤ d - 1
    · obtain ⟨a3, a4⟩ := h2
      by_cases hg : Int.gcd n d = 1
      · have HV : Hid (AV n d = true) := (AV_iff n d).2 ⟨a1, a2, a3, by omega, hg⟩
        have hg' : (((Int.gcd n d : Nat) : Int) == 1) = true := by rw [hg]; rfl
        clear hg
        go_enter Tryd.func7, Tryd.ntmps7
        go_wp2_with (first | (go_at_call 10; refine (l6In_any _ _ _ _).mono ?_; rintro e w' ⟨rfl, rfl⟩) | (go_at_call 11; refine (l6aGcd_any n d _ a3 (by omega) (by omega) (by omega)).mono ?_; rintro e w' ⟨rfl, hb⟩))
        go_returns
        exact ⟨by rw [HV.out]; first | done | rfl, ((Below.refl _ _).alloc (Nat.le_refl _) _).trans (hb.mono (by simp))⟩
      · have HV : Hid (AV n d = false) := by
          refine Bool.eq_false_iff.2 fun h => hg ((AV_iff n d).1 h).2.2.2.2
        have hg' : (((Int.gcd n d : Nat) : Int) == 1) = false := by rw [beq_eq_false_iff_ne]; omega
        clear hg
        go_enter Tryd.func7, Tryd.ntmps7
        go_wp2_with (first | (go_at_call 10; refine (l6In_any _ _ _ _).mono ?_; rintro e w' ⟨rfl, rfl⟩) | (go_at_call 11; refine (l6aGcd_any n d _ a3 (by omega) (by omega) (by omega)).mono ?_; rintro e w' ⟨rfl, hb⟩))
        go_returns
        exact ⟨by rw [HV.out]; first | done | rfl, ((Below.refl _ _).alloc (Nat.le_refl _) _).trans (hb.mono (by simp))⟩
    · have HV : Hid (AV n d = false) := by
        refine Bool.eq_false_iff.2 fun h => h2 ?_
        have := (AV_iff n d).1 h; omega
      have e1 : (decide (0 ≤ n) && decide (n ≤ d - 1)) = false := by simp; omega
      go_enter Tryd.func7, Tryd.ntmps7
      go_wp2_with (go_at_call 10; refine (l6In_any _ _ _ _).mono ?_; rintro e w' ⟨rfl, rfl⟩)
      go_returns
      exact ⟨by rw [HV.out]; first | done | rfl, by go_grown⟩
  · have HV : Hid (AV n d = false) := by
      refine Bool.eq_false_iff.2 fun h => h1 ?_
      have := (AV_iff n d).1 h; omega
    have e1 : (decide (1 ≤ d) && decide (d ≤ 1048576)) = false := by simp; omega
    go_enter Tryd.func7, Tryd.ntmps7
    go_wp2_with (go_at_call 10; refine (l6In_any _ _ _ _).mono ?_; rintro e w' ⟨rfl, rfl⟩)
    go_returns
    exact ⟨by rw [HV.out]; first | done | rfl, by go_grown⟩

theorem impl_AngleValid_any (n d : Int) (w : World) :
    Calls Tryd.prog 8 #[.agg #[.int .i64 n, .int .i64 d]] w (Gives (.bool (AV n d)) w) := by
  by_cases h1 : 1 ≤ d ∧ d ≤ 1048576 ∧ 0 ≤ n ∧ n ≤ d - 1
  · obtain ⟨a1, a2, a3, a4⟩ := h1
    have HV : Hid ((((Int.gcd n d : Nat) : Int) == 1) = AV n d) := by
      rw [Hid, Bool.eq_iff_iff, AV_iff, beq_iff_eq]
      constructor
      · intro h; exact ⟨a1, a2, a3, by omega, by omega⟩
      · intro h; omega
    go_enter Tryd.func8, Tryd.ntmps8
    go_wp2_with (go_at_call 12; refine (divisor_any n d _ a3 (by omega) (by omega) (by omega)).mono ?_; rintro e w' ⟨rfl, hb⟩)
    go_returns
    exact ⟨by rw [HV.out]; first | done | rfl, ((Below.refl _ _).alloc (Nat.le_refl _) _).trans (hb.mono (by simp))⟩
  · have HV : Hid (AV n d = false) := by
      refine Bool.eq_false_iff.2 fun h => h1 ?_
      have := (AV_iff n d).1 h; omega
    by_cases b1 : d < 1
    · go_enter Tryd.func8, Tryd.ntmps8
      go_wp2
      go_returns
      exact ⟨by rw [HV.out]; first | done | rfl, by go_grown⟩
    · by_cases b2 : 1048576 < d
      · go_enter Tryd.func8, Tryd.ntmps8
        go_wp2
        go_returns
        exact ⟨by rw [HV.out]; first | done | rfl, by go_grown⟩
      · by_cases b3 : n < 0
        · go_enter Tryd.func8, Tryd.ntmps8
          go_wp2
          go_returns
          exact ⟨by rw [HV.out]; first | done | rfl, by go_grown⟩
        · have b4 : d ≤ n := by omega
          go_enter Tryd.func8, Tryd.ntmps8
          go_wp2
          go_returns
          exact ⟨by rw [HV.out]; first | done | rfl, by go_grown⟩

end Go.Proofs.YtlochdfemphhfaaDoor
