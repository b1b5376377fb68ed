/- Contracts of the small functions on boxes and exact numbers, by the reckoner. -/
import Derived.Test.YtjpmpjcenajmbaaDoorSig
import Derived.Test.YtjpmpjcenajmbaaDoorBase
namespace Go.Proofs.YtjpmpjcenajmbaaDoor
set_option linter.unusedSimpArgs false
set_option linter.unusedVariables false
variable {pv : Int → Int → Int}
open Go.RowKit Eng

theorem shr_eq (x k : Int) (h0 : 0 ≤ k) (h : k ≤ 62) : x.fdiv (2 ^ min k.toNat IntKind.i64.bits) = x / 2 ^ k.toNat := by
  have e : min k.toNat IntKind.i64.bits = k.toNat := by simp [IntKind.bits]; omega
  rw [e]
  have h2 : (0 : Int) ≤ 2 ^ k.toNat := Int.le_of_lt (Int.pow_pos (by decide))
  exact Int.fdiv_eq_ediv_of_nonneg _ h2
theorem ite_min (x y : Int) : (if y < x then y else x) = min x y := by omega
theorem ite_max (x y : Int) : (if y > x then y else x) = max x y := by omega
theorem pos2 (k : Nat) : (0 : Int) < 2 ^ k := Int.pow_pos (by decide)
theorem ediv_bd {x B : Int} (k : Nat) (h : -B ≤ x) (h' : x ≤ B) : -B ≤ x / 2 ^ k ∧ x / 2 ^ k ≤ B := by
  have hp := pos2 k
  refine ⟨(Int.le_ediv_iff_mul_le hp).2 ?_, ?_⟩
  · have : B * 1 ≤ B * 2 ^ k := Int.mul_le_mul_of_nonneg_left (by omega) (by omega)
    rw [Int.neg_mul]; omega
  · have : x / 2 ^ k < B + 1 := (Int.ediv_lt_iff_lt_mul hp).2 (by
      have : (B + 1) * 1 ≤ (B + 1) * 2 ^ k := Int.mul_le_mul_of_nonneg_left (by omega) (by omega)
      omega)
    omega
theorem div_bd {n d B : Int} (hd : 1 ≤ d) (h : -B ≤ n) (h' : n ≤ B) : -B ≤ n / d ∧ n / d ≤ B := by
  have hB : 0 ≤ B := by omega
  refine ⟨(Int.le_ediv_iff_mul_le (by omega)).2 ?_, ?_⟩
  · have : B * 1 ≤ B * d := Int.mul_le_mul_of_nonneg_left (by omega) hB
    rw [Int.neg_mul]; omega
  · have : n / d < B + 1 := (Int.ediv_lt_iff_lt_mul (by omega)).2 (by
      have : (B + 1) * 1 ≤ (B + 1) * d := Int.mul_le_mul_of_nonneg_left (by omega) (by omega)
      omega)
    omega
theorem tdiv_fl (n d : Int) (hd : 1 ≤ d) (h : (n.tmod d == 0) = true ∨ ¬ n < 0) : n.tdiv d = fl n d := by
  unfold fl
  by_cases h0 : 0 ≤ n
  · rw [Int.tdiv_eq_ediv_of_nonneg h0]
  · obtain ⟨m, rfl⟩ : ∃ m, n = -m := ⟨-n, by omega⟩
    rcases h with h | h
    · rw [Int.neg_tmod, Int.tmod_eq_emod_of_nonneg (by omega)] at h
      simp at h
      rw [Int.neg_tdiv, Int.tdiv_eq_ediv_of_nonneg (by omega), neg_ediv_0 m d hd h]
    · omega
theorem tdiv_fl' (n d : Int) (hd : 1 ≤ d) (h : (n.tmod d == 0) = false) (h0 : n < 0) : n.tdiv d - 1 = fl n d := by
  unfold fl
  obtain ⟨m, rfl⟩ : ∃ m, n = -m := ⟨-n, by omega⟩
  rw [Int.neg_tmod, Int.tmod_eq_emod_of_nonneg (by omega)] at h
  simp at h
  rw [Int.neg_tdiv, Int.tdiv_eq_ediv_of_nonneg (by omega), neg_ediv_1 m d hd h]

def e_l6In : CEnt := ⟨43, [0, 0, 0], none, ob (.and (.cmp .le (vv 1) (vv 0)) (.cmp .le (vv 0) (vv 2)))⟩
def t_l6In : Tree := (.node (.cmp .le (.var 1) (.var 0)) (.leaf (.cv (.one (.bool (.cmp .le (.var 0) (.var 2)))))) (.leaf (.cv (.one (.bool (.lit false))))))
theorem t_l6In_eq : explore X0 100 43 (lettersFrom 0 [0, 0, 0]) 40 [] = t_l6In := by kernel_rfl
theorem ok_l6In (w : World) : e_l6In.ok Tryd.prog w (FI pv) FB := by
  refine CEnt.by_tree (e := e_l6In) (fi := FI pv) (fb := FB) (X := X0) (fuel := 100) (d := 40) (enters_of Tryd.func43 rfl (by kernel_rfl)) (fun w zs => X0_ok w _ rfl rfl) mixed (fun zs hz hp => ?_) w
  obtain ⟨a, b, c, rfl⟩ := len3 hz
  show (explore X0 100 43 (lettersFrom 0 [0, 0, 0]) 40 []).den _ = _
  rw [t_l6In_eq]
  clear hz
  clear hp
  show Tree.den _ t_l6In = some (.bool (decide (b ≤ a) && decide (a ≤ c)))
  simp only [t_l6In, Tree.den, SVal.den, CV.den, At.den, SE.den, SB.den, SL.den, IOp.den, COp.den, envOf, List.map_cons, List.map_nil, List.getD_cons_zero, List.getD_cons_succ]
  cases decide (b ≤ a) <;> rfl

def G1 : List CEnt := [e_l6In]
theorem G1_ok : ∀ e ∈ G1, ∀ w : World, e.ok Tryd.prog w (FI pv) FB := by
  intro e he w
  simp only [G1, List.mem_cons, List.not_mem_nil, or_false] at he
  rcases he with rfl
  · exact ok_l6In w
def en1 : List Nat := [59]
theorem en1_59 : Enters Tryd.prog 59 := enters_of Tryd.func59 rfl (by kernel_rfl)
theorem en1_ok : ∀ f ∈ en1, Enters Tryd.prog f := by
  intro f hf
  simp only [en1, List.mem_cons, List.not_mem_nil, or_false] at hf
  rcases hf with rfl
  · exact en1_59
def X1c (P : Program) : Cx := { P := P, G := G1, en := en1, call := nil0 }
noncomputable def X1 : Cx := X1c Tryd.prog
theorem X1_ok (w : World) (E : Env) (hi : E.fi = FI pv) (hb : E.fb = FB) : XOk X1 w E := xok G1_ok en1_ok w E hi hb
end Go.Proofs.YtjpmpjcenajmbaaDoor
