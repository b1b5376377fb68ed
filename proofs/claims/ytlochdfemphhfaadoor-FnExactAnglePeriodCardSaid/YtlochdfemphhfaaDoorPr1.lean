/- The program's AnglePeriod: what it gives. -/
import Derived.Test.YtlochdfemphhfaaDoorAngW
import Derived.Test.YtlochdfemphhfaaDoorTz
import Derived.Test.YtlochdfemphhfaaDoorPrM
namespace Go.Proofs.YtlochdfemphhfaaDoor
set_option linter.unusedSimpArgs false
set_option linter.unusedVariables false
open Go.RowKit
theorem pow_next (q k : Nat) : ((2 ^ (k + 1) % q : Nat) : Int) = 2 * ((2 ^ k % q : Nat) : Int) % (q : Int) := by
  have : 2 ^ (k + 1) % q = 2 * (2 ^ k % q) % q := by rw [Nat.pow_succ, Nat.mul_comm, Nat.mul_mod_mod]
  rw [this]
  generalize 2 ^ k % q = u
  simp
theorem impl_AnglePeriod_yes (n : Int) (x p q m : Nat) (w : World) (hT : Tb w) (h : AV n x = true) (hd5 : x ≤ 5000) (hc : Lib.ctz 64 x = p) (hdq : x / 2 ^ p = q) (hp : p ≤ 13) (hq : 1 ≤ q) (hq5 : q ≤ 5000) (h1 : 1 ≤ m) (h2 : m ≤ q) (hm : 2 ^ m % q = 1 % q) (hk : ∀ k, 1 ≤ k → k < m → 2 ^ k % q ≠ 1 % q) :
    Calls Tryd.prog 6 #[.agg #[.int .i64 n, .int .i64 x]] w (Gives (.tuple #[.int .i64 p, .int .i64 m, .bool true]) w) := by
  obtain ⟨a1, a2, a3, a4, _⟩ := (AV_iff n x).1 h
  have H := Lib.hid h; clear h
  have HM := Lib.hid hm; clear hm
  have HK := Lib.hid hk; clear hk
  have hx : x < 18446744073709551616 := by omega
  have hw : IntKind.u64.wrap (x : Int) = (x : Int) := by rw [IntKind.wrap_u64]; omega
  have HT := Lib.hid hT; clear hT
  have tz := fun w hT => bits_TrailingZeros x hx w hT
  rw [hc] at tz
  have TZ := Lib.hid tz; clear tz
  have HQ : (x : Int) / 2 ^ p = (q : Int) := by rw [← hdq]; simp
  clear hc hdq
  have hq0 : ¬ ((q : Int) = 0) := by omega
  go_enter Tryd.func6, Tryd.ntmps6
  go_wp2_with (first | (go_at_call 8; refine (impl_AngleValid_any n x _).mono ?_; rw [H.out]; rintro e w1 ⟨rfl, hb⟩; have hB : Below w.heap.size w w1 := Below.trans (by go_grown) (hb.mono (by go_size)); have hz := hB.size; have hz2 := hb.size; (try simp at hz2); have hs0 : w.heap.size < w1.heap.size := (by omega); obtain ⟨hc, hf⟩ := bcell hb; clear hb) | (go_at_call 9; (try rw [hw]); refine (TZ.out _ (HT.out.below hB)).mono ?_; rintro e w' ⟨rfl, hw'⟩; rw [hw']) | (simp only [HQ]))
  go_loopw [7, 8] (fun u v wr => ∃ k : Nat, u = .int .i64 k ∧ v = .int .i64 ((2 ^ k % q : Nat) : Int) ∧ 1 ≤ k ∧ k ≤ m ∧ Below w.heap.size w wr) (fun u _ _ => m - (intOf u).toNat)
  case atStart => exact ⟨1, rfl, by simp, by omega, h1, hB⟩
  case round =>
    obtain ⟨k, rfl, rfl, k1, k2, hb⟩ := hrel
    by_cases hkm : k = m
    · subst hkm
      have e : (((2 ^ k % q : Nat)) : Int) = 1 % (q : Int) := by rw [HM.out]; simp
      rw [e]
      go_wp2
      go_returns
      exact ⟨rfl, hb⟩
    · have e1 : (1 : Int) % (q : Int) = ((1 % q : Nat) : Int) := by simp
      have hne : (((2 ^ k % q : Nat)) : Int) ≠ 1 % (q : Int) := fun he => by
        refine HK.out k k1 (by omega) ?_
        rw [e1] at he
        generalize 2 ^ k % q = A at he ⊢
        generalize 1 % q = B at he ⊢
        omega
      have nx := pow_next q k
      have lt : 2 ^ k % q < q := Nat.mod_lt _ (by omega)
      obtain ⟨u, hu⟩ : ∃ u : Nat, 2 ^ k % q = u := ⟨_, rfl⟩
      rw [hu] at hne nx lt
      rw [hu]
      have NX := Lib.hid nx; clear nx
      clear hu e1
      go_wp2
      go_roundw
      case rel => exact ⟨k + 1, by simp, by rw [NX.out], by omega, by omega, hb⟩
      case measure => simp [intOf]; omega
end Go.Proofs.YtlochdfemphhfaaDoor
