/- Words of exact numbers with few digits fit single numbers. -/
import Derived.Test.YtgnkjfafgcbpbaaDoorFd1
namespace Go.Proofs.YtgnkjfafgcbpbaaDoor
set_option linter.unusedSimpArgs false
set_option linter.unusedVariables false
open Go.RowKit Eng
theorem pow_mul_eq {n : Int} {a b c d : Nat} (h : a + b = c + d) : n * 2 ^ a * 2 ^ b = n * 2 ^ c * 2 ^ d := by
  rw [Int.mul_assoc, Int.mul_assoc, ← Int.pow_add, ← Int.pow_add, h]
theorem DWi_V {n s : Int} (hn : n.natAbs ≤ 1073741824) (hs : 0 ≤ s ∧ s ≤ 60) : Fl.V Ieee.double (DWi n s).toNat (n * 2 ^ (1074 - s.toNat)) := by
  unfold DWi; rw [Int.toNat_natCast]; exact Fl.V_DWn (by omega) (by omega)
theorem fits_dw {n s : Int} (hn : n.natAbs ≤ 1073741824) (hs : 0 ≤ s ∧ s ≤ 60) (hb : BT n ≤ 24) : ∃ r q : Nat, cvI .f64 (DWi n s).toNat = some r ∧ cvI .f32 r = some q ∧ (ordI (Ieee.double.order (DWi n s).toNat q) == 0) = true := by
  have hV := DWi_V hn hs
  by_cases h0 : n = 0
  · subst h0; exact ⟨0, 0, by kernel_rfl, by kernel_rfl, by kernel_rfl⟩
  · obtain ⟨m, k, hm, hk⟩ := BT_split h0 (by omega)
    have hm24 := hk 24 hb
    have hr : Fl.Rep Ieee.single (n * 2 ^ (149 - s.toNat)).natAbs := by
      rw [Fl.natAbs_mul_pow]
      refine ⟨⟨m, k + (149 - s.toNat), by rw [hm, Nat.pow_add, Nat.mul_assoc], Nat.lt_of_lt_of_le hm24 (by decide)⟩, ?_⟩
      exact Fl.mul_pow_lt (a := n.natAbs) (b := 31) (k := 149 - s.toNat) (by omega) (Nat.le_trans (Nat.add_le_add_left (Nat.sub_le 149 _) 31) (by decide))
    obtain ⟨r, h1, h2⟩ := Fl.V_narrow (w := n * 2 ^ (149 - s.toNat)) hV (pow_mul_eq (by omega)) hr
    obtain ⟨q, h3, h4⟩ := Fl.V_widen (w := n * 2 ^ (1074 - s.toNat)) h2 (pow_mul_eq (by omega)) (Fl.rep_dbl (by omega) (by omega))
    exact ⟨r, q, h1, h3, by rw [Fl.V_eq hV h4]; rfl⟩
/-- A word is 0, and one over it is above; or it is not 0. -/
theorem zero_or {n s : Int} (hn : n.natAbs ≤ 1073741824) (hs : 0 ≤ s ∧ s ≤ 60) :
    ((ordI (Ieee.double.order (DWi n s).toNat 0) == 0) = true ∧ decide (0 ≤ oInt (Ieee.double.div 4607182418800017408 (DWi n s).toNat)) = true ∧ (ordI (Ieee.double.order (oInt (Ieee.double.div 4607182418800017408 (DWi n s).toNat)).toNat 0) == 1) = true) ∨
    (ordI (Ieee.double.order (DWi n s).toNat 0) == 0) = false := by
  by_cases h0 : n = 0
  · subst h0; left; exact ⟨by kernel_rfl, by kernel_rfl, by kernel_rfl⟩
  · right
    have hN := (Fl.DWn_nrm (n := n) (s := s.toNat) h0 (by omega) (by omega)).1
    unfold DWi; rw [Int.toNat_natCast]
    exact ordI_ne (k := .eq) (Fl.order_zero hN)
end Go.Proofs.YtgnkjfafgcbpbaaDoor
