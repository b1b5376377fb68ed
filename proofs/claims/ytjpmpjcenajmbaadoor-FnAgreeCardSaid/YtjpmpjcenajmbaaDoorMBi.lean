import Derived.Test.YtjpmpjcenajmbaaDoorBo2
import Derived.Test.YtjpmpjcenajmbaaDoorLoop
/- The digits of a number, plain: zeros at the end, halvings. -/
namespace Go.Proofs.YtjpmpjcenajmbaaDoor
set_option linter.unusedSimpArgs false
set_option linter.unusedVariables false
variable {pv : Int → Int → Int}
open Go.RowKit Eng
theorem ctzFrom_fuel : ∀ (f x : Nat), 0 < x → x < 2 ^ f → ∀ g, f ≤ g → Lib.ctzFrom g x = Lib.ctzFrom f x
  | 0, x, h0, hx, _, _ => by simp at hx; omega
  | f + 1, x, h0, hx, g, hg => by
    obtain ⟨g', rfl⟩ : ∃ g', g = g' + 1 := ⟨g - 1, by omega⟩
    simp only [Lib.ctzFrom]
    split
    · rfl
    · rw [ctzFrom_fuel f (x / 2) (by omega) (by rw [Nat.pow_succ] at hx; omega) g' (by omega)]
theorem tz_odd {n : Int} (h1 : 1 ≤ n) (h : n % 2 = 1) : tz n = 0 := by
  unfold tz Lib.ctz
  rw [if_neg (by omega), show (64 : Nat) = 63 + 1 from rfl, Lib.ctzFrom, if_pos (by omega)]; rfl
theorem tz_even {n : Int} (h1 : 1 ≤ n) (h2 : n ≤ 18446744073709551615) (h : n % 2 = 0) : tz n = 1 + tz (n / 2) := by
  unfold tz Lib.ctz
  rw [if_neg (by omega), if_neg (by omega), show (64 : Nat) = 63 + 1 from rfl, Lib.ctzFrom, if_neg (by omega), show n.toNat / 2 = (n / 2).toNat by omega, ← ctzFrom_fuel 63 (n / 2).toNat (by omega) (by omega) (63 + 1) (by omega)]
  omega
theorem tz_nonneg (n : Int) : 0 ≤ tz n := by unfold tz; omega
theorem bl_nonneg (n : Int) : 0 ≤ bl n := by unfold bl; omega
theorem bl_zero : bl 0 = 0 := by decide
theorem bl_half {n : Int} (h1 : 1 ≤ n) (h2 : n ≤ 18446744073709551615) : bl n = 1 + bl (n / 2) := by
  unfold bl
  rw [Lib.bitLen_half n.toNat (by omega) (by omega), show n.toNat / 2 = (n / 2).toNat by omega]
  omega
/-- What is left when the zeros at the end are struck. -/
theorem tz_split : ∀ (k : Nat) (n : Int), n.toNat ≤ k → 1 ≤ n → n ≤ 18446744073709551615 → ∃ m : Int, 0 ≤ m ∧ n = 2 ^ (tz n).toNat * (2 * m + 1)
  | 0, n, hk, h1, _ => by omega
  | k + 1, n, hk, h1, h2 => by
    by_cases h : n % 2 = 1
    · exact ⟨n / 2, by omega, by rw [tz_odd h1 h]; simp; omega⟩
    · have he : n % 2 = 0 := by omega
      obtain ⟨m, hm, hn⟩ := tz_split k (n / 2) (by omega) (by omega) (by omega)
      refine ⟨m, hm, ?_⟩
      have h0 := tz_nonneg (n / 2)
      rw [tz_even h1 h2 he, show (1 + tz (n / 2)).toNat = (tz (n / 2)).toNat + 1 by omega, Int.pow_succ]
      have : n = 2 * (n / 2) := by omega
      rw [Int.mul_assoc, Int.mul_left_comm, ← hn]; omega
theorem bl_shift {n : Int} {k : Nat} (h : 2 ^ k ≤ n) (h2 : n ≤ 18446744073709551615) : bl n = k + bl (n / 2 ^ k) := by
  unfold bl
  have hp : (0 : Int) < 2 ^ k := pos2 k
  obtain ⟨m, rfl⟩ : ∃ m : Nat, n = m := ⟨n.toNat, by omega⟩
  have h' : 2 ^ k ≤ m := by
    have : ((2 ^ k : Nat) : Int) ≤ (m : Int) := by rw [Int.natCast_pow]; exact h
    omega
  have e : ((m : Int) / 2 ^ k).toNat = m / 2 ^ k := by
    rw [show ((2 : Int) ^ k) = ((2 ^ k : Nat) : Int) by rw [Int.natCast_pow]; rfl, ← Int.natCast_ediv, Int.toNat_natCast]
  rw [e, Int.toNat_natCast, Lib.bitLen_shift k m h' (by omega)]
  omega
/-- The digits between, counted either way. -/
theorem bl_odd {n : Int} (h1 : 1 ≤ n) (h2 : n ≤ 18446744073709551615) : bl (n / 2 ^ (tz n).toNat) = bl n - tz n := by
  obtain ⟨m, hm, hn⟩ := tz_split n.toNat n (Nat.le_refl _) h1 h2
  have hp : (0 : Int) < 2 ^ (tz n).toNat := pos2 _
  have hge : 2 ^ (tz n).toNat ≤ n := by
    have : (2 : Int) ^ (tz n).toNat * 1 ≤ 2 ^ (tz n).toNat * (2 * m + 1) := Int.mul_le_mul_of_nonneg_left (by omega) (Int.le_of_lt hp)
    rw [← hn] at this; omega
  rw [bl_shift hge h2]
  have := tz_nonneg n
  omega
theorem bl_le {n : Int} (k : Nat) (hk : k ≤ 64) (h : n < 2 ^ k) : bl n ≤ k := by
  unfold bl
  have : Lib.bitLen n.toNat ≤ k := Lib.bitLen_le n.toNat k hk (by
    have : ((n.toNat : Nat) : Int) < ((2 ^ k : Nat) : Int) := by
      rw [Int.natCast_pow]
      have := pos2 k
      show ((n.toNat : Nat) : Int) < 2 ^ k
      omega
    omega)
  omega
theorem bl_pos {n : Int} (h1 : 1 ≤ n) (h2 : n ≤ 18446744073709551615) : 1 ≤ bl n := by
  rw [bl_half h1 h2]
  have := bl_nonneg (n / 2)
  omega
theorem tz_lt {n : Int} (h1 : 1 ≤ n) (h2 : n ≤ 18446744073709551615) : tz n < bl n := by
  have h := bl_odd h1 h2
  obtain ⟨m, hm, hn⟩ := tz_split n.toNat n (Nat.le_refl _) h1 h2
  have hp : (0 : Int) < 2 ^ (tz n).toNat := pos2 _
  have hq : n / 2 ^ (tz n).toNat = 2 * m + 1 := by
    generalize (tz n).toNat = t at hn hp ⊢
    rw [hn]
    exact Int.mul_ediv_cancel_left _ (by omega)
  have : 1 ≤ bl (n / 2 ^ (tz n).toNat) := bl_pos (by omega) (Int.le_trans (Int.ediv_le_self _ (by omega)) h2)
  omega
theorem BT_rng {n : Int} (h : -1073741824 ≤ n) (h' : n ≤ 1073741824) : 0 ≤ BT n ∧ BT n ≤ 31 ∧ (BT n = 0 ↔ n = 0) := by
  unfold BT
  split
  · omega
  · have h1 : (1 : Int) ≤ n.natAbs := by omega
    have a := tz_lt h1 (by omega)
    have b := tz_nonneg n.natAbs
    have c := bl_le (n := n.natAbs) 31 (by omega) (by omega)
    omega
theorem BT_neg (n : Int) : BT (-n) = BT n := by unfold BT; rw [Int.natAbs_neg]; split <;> split <;> omega
def enB0 : List Nat := [69, 59, 43]
theorem enB0_69 : Enters Tryd.prog 69 := enters_of Tryd.func69 rfl (by kernel_rfl)
theorem enB0_59 : Enters Tryd.prog 59 := enters_of Tryd.func59 rfl (by kernel_rfl)
theorem enB0_43 : Enters Tryd.prog 43 := enters_of Tryd.func43 rfl (by kernel_rfl)
theorem enB0_ok : ∀ f ∈ enB0, Enters Tryd.prog f := by
  intro f hf
  simp only [enB0, List.mem_cons, List.not_mem_nil, or_false] at hf
  rcases hf with rfl | rfl | rfl
  · exact enB0_69
  · exact enB0_59
  · exact enB0_43
def XB0c (P : Program) : Cx := { P := P, G := G2, en := enB0, call := nil0 }
noncomputable def XB0 : Cx := XB0c Tryd.prog
theorem XB0_ok (w : World) (E : Env) (hi : E.fi = FI pv) (hb : E.fb = FB) : XOk XB0 w E := xok G2_ok enB0_ok w E hi hb
end Go.Proofs.YtjpmpjcenajmbaaDoor
/- The reference's count of digits: its loops and its contract. -/
namespace Go.Proofs.YtjpmpjcenajmbaaDoor
set_option linter.unusedSimpArgs false
set_option linter.unusedVariables false
variable {pv : Int → Int → Int}
open Go.RowKit Eng
theorem tdiv2 {n : Int} (h : 0 ≤ n) : n.tdiv 2 = n / 2 := Int.tdiv_eq_ediv_of_nonneg h
def LB : List LEnt := []
theorem LB_ok : ∀ e ∈ LB, ∀ w : World, e.ok Tryd.prog w (FI pv) FB := by
  intro e he w
  simp only [LB, List.mem_cons, List.not_mem_nil, or_false] at he
def XB1c (P : Program) : Cx := { P := P, G := G2, en := enB0, call := nil0, L := LB }
noncomputable def XB1 : Cx := XB1c Tryd.prog
theorem XB1_ok (w : World) (E : Env) (hi : E.fi = FI pv) (hb : E.fb = FB) : XOk XB1 w E := xokL G2_ok enB0_ok LB_ok w E hi hb
end Go.Proofs.YtjpmpjcenajmbaaDoor
/- The reference's count of digits: its contract. -/
namespace Go.Proofs.YtjpmpjcenajmbaaDoor
set_option linter.unusedSimpArgs false
set_option linter.unusedVariables false
variable {pv : Int → Int → Int}
open Go.RowKit Eng
theorem bits_val {m : Int} (h1 : 1 ≤ m) (h2 : m ≤ 9223372036854775807) :
    (bif decide (1 ≤ m) && decide (m ≤ 9223372036854775807) then bif decide (0 ≤ FI pv 94 0 [m]) && decide (FI pv 94 0 [m] ≤ 9223372036854775807) then some (Value.int IntKind.i64 (FI pv 95 0 [FI pv 94 0 [m], 0])) else none else none) = some (Value.int .i64 (bl m - tz m)) := by
  have e1 : FI pv 94 0 [m] = m / 2 ^ (tz m).toNat := rfl
  have e2 : ∀ x, FI pv 95 0 [x, 0] = 0 + bl x := fun _ => rfl
  have q1 : 0 ≤ m / 2 ^ (tz m).toNat := Int.ediv_nonneg (by omega) (Int.le_of_lt (pos2 _))
  have q2 : m / 2 ^ (tz m).toNat ≤ m := Int.ediv_le_self _ (by omega)
  rw [e1, e2, bl_odd h1 (by omega), decide_eq_true h1, decide_eq_true h2, decide_eq_true q1, decide_eq_true (show m / 2 ^ (tz m).toNat ≤ 9223372036854775807 by omega), Int.zero_add]
  rfl
end Go.Proofs.YtjpmpjcenajmbaaDoor
