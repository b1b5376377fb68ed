/- Contracts of the small functions on boxes and exact numbers, by the reckoner. -/
import Derived.Test.YtgnkjfafgcbpbaaDoorSig
import Derived.Test.YtgnkjfafgcbpbaaDoorBase
namespace Go.Proofs.YtgnkjfafgcbpbaaDoor
set_option linter.unusedSimpArgs false
set_option linter.unusedVariables false
variable {pv : Int → Int → Int}
open Go.RowKit Eng

theorem shr_eq (x k : Int) (h0 : 0 ≤ k) (h : k ≤ 62) : x.fdiv (2 ^ min k.toNat IntKind.i64.bits) = x / 2 ^ k.toNat := by
  have e : min k.toNat IntKind.i64.bits = k.toNat := by simp [IntKind.bits]; omega
  rw [e]
  have h2 : (0 : Int) ≤ 2 ^ k.toNat := Int.le_of_lt (Int.pow_pos (by decide))
  exact Int.fdiv_eq_ediv_of_nonneg _ h2
theorem ite_min (x y : Int) : (if y < x then y else x) = min x y := by omega
theorem ite_max (x y : Int) : (if y > x then y else x) = max x y := by omega
theorem pos2 (k : Nat) : (0 : Int) < 2 ^ k := Int.pow_pos (by decide)
theorem ediv_bd {x B : Int} (k : Nat) (h : -B ≤ x) (h' : x ≤ B) : -B ≤ x / 2 ^ k ∧ x / 2 ^ k ≤ B := by
  have hp := pos2 k
  refine ⟨(Int.le_ediv_iff_mul_le hp).2 ?_, ?_⟩
  · have : B * 1 ≤ B * 2 ^ k := Int.mul_le_mul_of_nonneg_left (by omega) (by omega)
    rw [Int.neg_mul]; omega
  · have : x / 2 ^ k < B + 1 := (Int.ediv_lt_iff_lt_mul hp).2 (by
      have : (B + 1) * 1 ≤ (B + 1) * 2 ^ k := Int.mul_le_mul_of_nonneg_left (by omega) (by omega)
      omega)
    omega
theorem div_bd {n d B : Int} (hd : 1 ≤ d) (h : -B ≤ n) (h' : n ≤ B) : -B ≤ n / d ∧ n / d ≤ B := by
  have hB : 0 ≤ B := by omega
  refine ⟨(Int.le_ediv_iff_mul_le (by omega)).2 ?_, ?_⟩
  · have : B * 1 ≤ B * d := Int.mul_le_mul_of_nonneg_left (by omega) hB
    rw [Int.neg_mul]; omega
  · have : n / d < B + 1 := (Int.ediv_lt_iff_lt_mul (by omega)).2 (by
      have : (B + 1) * 1 ≤ (B + 1) * d := Int.mul_le_mul_of_nonneg_left (by omega) (by omega)
      omega)
    omega
theorem tdiv_fl (n d : Int) (hd : 1 ≤ d) (h : (n.tmod d == 0) = true ∨ ¬ n < 0) : n.tdiv d = fl n d := by
  unfold fl
  by_cases h0 : 0 ≤ n
  · rw [Int.tdiv_eq_ediv_of_nonneg h0]
  · obtain ⟨m, rfl⟩ : ∃ m, n = -m := ⟨-n, by omega⟩
    rcases h with h | h
    · rw [Int.neg_tmod, Int.tmod_eq_emod_of_nonneg (by omega)] at h
      simp at h
      rw [Int.neg_tdiv, Int.tdiv_eq_ediv_of_nonneg (by omega), neg_ediv_0 m d hd h]
    · omega
theorem tdiv_fl' (n d : Int) (hd : 1 ≤ d) (h : (n.tmod d == 0) = false) (h0 : n < 0) : n.tdiv d - 1 = fl n d := by
  unfold fl
  obtain ⟨m, rfl⟩ : ∃ m, n = -m := ⟨-n, by omega⟩
  rw [Int.neg_tmod, Int.tmod_eq_emod_of_nonneg (by omega)] at h
  simp at h
  rw [Int.neg_tdiv, Int.tdiv_eq_ediv_of_nonneg (by omega), neg_ediv_1 m d hd h]

def e_l6In : CEnt := ⟨41, [0, 0, 0], none, ob (.and (.cmp .le (vv 1) (vv 0)) (.cmp .le (vv 0) (vv 2)))⟩
def t_l6In : Tree := (.node (.cmp .le (.var 1) (.var 0)) (.leaf (.cv (.one (.bool (.cmp .le (.var 0) (.var 2)))))) (.leaf (.cv (.one (.bool (.lit false))))))
theorem t_l6In_eq : explore X0 100 41 (lettersFrom 0 [0, 0, 0]) 40 [] = t_l6In := by kernel_rfl
theorem ok_l6In (w : World) : e_l6In.ok Tryd.prog w (FI pv) FB := by
  refine CEnt.by_tree (e := e_l6In) (fi := FI pv) (fb := FB) (X := X0) (fuel := 100) (d := 40) (enters_of Tryd.func41 rfl (by kernel_rfl)) (fun w zs => X0_ok w _ rfl rfl) mixed (fun zs hz hp => ?_) w
  obtain ⟨a, b, c, rfl⟩ := len3 hz
  show (explore X0 100 41 (lettersFrom 0 [0, 0, 0]) 40 []).den _ = _
  rw [t_l6In_eq]
  clear hz
  clear hp
  show Tree.den _ t_l6In = some (.bool (decide (b ≤ a) && decide (a ≤ c)))
  simp only [t_l6In, Tree.den, SVal.den, CV.den, At.den, SE.den, SB.den, SL.den, IOp.den, COp.den, envOf, List.map_cons, List.map_nil, List.getD_cons_zero, List.getD_cons_succ]
  cases decide (b ≤ a) <;> rfl
def e_valid : CEnt := ⟨79, [2], none, ob (.app 1 0 (vs 2))⟩
def t_valid : Tree := (.node (.cmp .le (.lit (-134217728)) (.var 0)) (.node (.cmp .le (.var 0) (.var 1)) (.leaf (.cv (.one (.bool (.cmp .le (.var 1) (.lit 134217728)))))) (.leaf (.cv (.one (.bool (.lit false)))))) (.leaf (.cv (.one (.bool (.lit false))))))
theorem t_valid_eq : explore X0 100 79 (lettersFrom 0 [2]) 40 [] = t_valid := by kernel_rfl
theorem ok_valid (w : World) : e_valid.ok Tryd.prog w (FI pv) FB := by
  refine CEnt.by_tree (e := e_valid) (fi := FI pv) (fb := FB) (X := X0) (fuel := 100) (d := 40) (enters_of Tryd.func79 rfl (by kernel_rfl)) (fun w zs => X0_ok w _ rfl rfl) mixed (fun zs hz hp => ?_) w
  obtain ⟨a, b, rfl⟩ := len2 hz
  show (explore X0 100 79 (lettersFrom 0 [2]) 40 []).den _ = _
  rw [t_valid_eq]
  clear hz
  clear hp
  show Tree.den _ t_valid = some (.bool (SV a b))
  simp only [t_valid, Tree.den, SVal.den, CV.den, At.den, SE.den, SB.den, SL.den, IOp.den, COp.den, envOf, List.map_cons, List.map_nil, List.getD_cons_zero, List.getD_cons_succ]
  unfold SV
  cases decide (-134217728 ≤ a) <;> cases decide (a ≤ b) <;> rfl
def e_swithin : CEnt := ⟨82, [2, 2], none, ob (.app 10 0 (vs 4))⟩
def t_swithin : Tree := (.node (.cmp .le (.var 2) (.var 0)) (.leaf (.cv (.one (.bool (.cmp .le (.var 1) (.var 3)))))) (.leaf (.cv (.one (.bool (.lit false))))))
theorem t_swithin_eq : explore X0 100 82 (lettersFrom 0 [2, 2]) 40 [] = t_swithin := by kernel_rfl
theorem ok_swithin (w : World) : e_swithin.ok Tryd.prog w (FI pv) FB := by
  refine CEnt.by_tree (e := e_swithin) (fi := FI pv) (fb := FB) (X := X0) (fuel := 100) (d := 40) (enters_of Tryd.func82 rfl (by kernel_rfl)) (fun w zs => X0_ok w _ rfl rfl) mixed (fun zs hz hp => ?_) w
  obtain ⟨a, b, c, d, rfl⟩ := len4 hz
  show (explore X0 100 82 (lettersFrom 0 [2, 2]) 40 []).den _ = _
  rw [t_swithin_eq]
  clear hz
  clear hp
  show Tree.den _ t_swithin = some (.bool (SW a b c d))
  simp only [t_swithin, Tree.den, SVal.den, CV.den, At.den, SE.den, SB.den, SL.den, IOp.den, COp.den, envOf, List.map_cons, List.map_nil, List.getD_cons_zero, List.getD_cons_succ]
  unfold SW
  cases decide (c ≤ a) <;> rfl
def e_spans : CEnt := ⟨65, [4], none, .cv (og [vv 0, vv 1, vv 2, vv 3])⟩
def t_spans : Tree := (.leaf (.cv (.agg [(.int .i64 (.var 0)), (.int .i64 (.var 1)), (.int .i64 (.var 2)), (.int .i64 (.var 3))])))
theorem t_spans_eq : explore X0 100 65 (lettersFrom 0 [4]) 40 [] = t_spans := by kernel_rfl
theorem ok_spans (w : World) : e_spans.ok Tryd.prog w (FI pv) FB := by
  refine CEnt.by_tree (e := e_spans) (fi := FI pv) (fb := FB) (X := X0) (fuel := 100) (d := 40) (enters_of Tryd.func65 rfl (by kernel_rfl)) (fun w zs => X0_ok w _ rfl rfl) mixed (fun zs hz hp => ?_) w
  obtain ⟨a, b, c, d, rfl⟩ := len4 hz
  show (explore X0 100 65 (lettersFrom 0 [4]) 40 []).den _ = _
  rw [t_spans_eq]
  clear hz
  clear hp
  show Tree.den _ t_spans = some (.agg #[.int .i64 a, .int .i64 b, .int .i64 c, .int .i64 d])
  simp only [t_spans, Tree.den, SVal.den, CV.den, At.den, SE.den, SB.den, SL.den, IOp.den, COp.den, envOf, List.map_cons, List.map_nil, List.getD_cons_zero, List.getD_cons_succ]
def e_outward : CEnt := ⟨81, [2, 0], some (.app 103 0 (vs 3)), .cv (og [.app 32 0 (SL.of [vv 0, vv 2]), .app 32 1 (SL.of [vv 1, vv 2])])⟩
def t_outward : Tree := (.node (.cmp .lt (.var 2) (.lit 0)) (.dead 3) (.leaf (.cv (.agg [(.int .i64 (.bin .shr .i64 (.var 0) (.var 2))), (.int .i64 (.wrap .i64 (.bin .sub .i64 (.lit 0) (.bin .shr .i64 (.wrap .i64 (.bin .sub .i64 (.lit 0) (.var 1))) (.var 2)))))]))))
theorem t_outward_eq : explore X0 100 81 (lettersFrom 0 [2, 0]) 40 [] = t_outward := by kernel_rfl
theorem ok_outward (w : World) : e_outward.ok Tryd.prog w (FI pv) FB := by
  refine CEnt.by_tree (e := e_outward) (fi := FI pv) (fb := FB) (X := X0) (fuel := 100) (d := 40) (enters_of Tryd.func81 rfl (by kernel_rfl)) (fun w zs => X0_ok w _ rfl rfl) mixed (fun zs hz hp => ?_) w
  obtain ⟨a, b, c, rfl⟩ := len3 hz
  show (explore X0 100 81 (lettersFrom 0 [2, 0]) 40 []).den _ = _
  rw [t_outward_eq]
  clear hz
  replace hp : (le60 a && le60 b && decide (0 ≤ c) && decide (c ≤ 62)) = true := hp _ rfl
  show Tree.den _ t_outward = some (.agg #[.int .i64 (a / 2 ^ c.toNat), .int .i64 (-(-b / 2 ^ c.toNat))])
  simp only [t_outward, Tree.den, SVal.den, CV.den, At.den, SE.den, SB.den, SL.den, IOp.den, COp.den, envOf, List.map_cons, List.map_nil, List.getD_cons_zero, List.getD_cons_succ]
  simp only [Bool.and_eq_true, le60_iff, decide_eq_true_eq] at hp
  obtain ⟨⟨⟨h1, h2⟩, h3⟩, h4⟩ := hp
  have hb := ediv_bd (B := 1152921504606846976) (x := -b) c.toNat (by omega) (by omega)
  have e0 : IntKind.i64.wrap (0 - b) = -b := by rw [wrap_in (by omega) (by omega)]; omega
  rw [shr_eq _ _ h3 h4, e0, shr_eq _ _ h3 h4, Int.zero_sub, wrap_in (by omega) (by omega), decide_eq_false (by omega)]
  rfl

def G1 : List CEnt := [e_l6In, e_valid, e_swithin, e_spans, e_outward]
theorem G1_ok : ∀ e ∈ G1, ∀ w : World, e.ok Tryd.prog w (FI pv) FB := by
  intro e he w
  simp only [G1, List.mem_cons, List.not_mem_nil, or_false] at he
  rcases he with rfl | rfl | rfl | rfl | rfl
  · exact ok_l6In w
  · exact ok_valid w
  · exact ok_swithin w
  · exact ok_spans w
  · exact ok_outward w
def en1 : List Nat := [61, 67, 47]
theorem en1_61 : Enters Tryd.prog 61 := enters_of Tryd.func61 rfl (by kernel_rfl)
theorem en1_67 : Enters Tryd.prog 67 := enters_of Tryd.func67 rfl (by kernel_rfl)
theorem en1_47 : Enters Tryd.prog 47 := enters_of Tryd.func47 rfl (by kernel_rfl)
theorem en1_ok : ∀ f ∈ en1, Enters Tryd.prog f := by
  intro f hf
  simp only [en1, List.mem_cons, List.not_mem_nil, or_false] at hf
  rcases hf with rfl | rfl | rfl
  · exact en1_61
  · exact en1_67
  · exact en1_47
def X1c (P : Program) : Cx := { P := P, G := G1, en := en1, call := nil0 }
noncomputable def X1 : Cx := X1c Tryd.prog
theorem X1_ok (w : World) (E : Env) (hi : E.fi = FI pv) (hb : E.fb = FB) : XOk X1 w E := xok G1_ok en1_ok w E hi hb
end Go.Proofs.YtgnkjfafgcbpbaaDoor
