/- Contracts of the small functions on boxes and exact numbers, by the reckoner. -/
import Derived.Test.YtjbpaejjpamcpaaSig
import Derived.Test.YtjbpaejjpamcpaaBase
namespace Go.Proofs.Ytjbpaejjpamcpaa
set_option linter.unusedSimpArgs false
set_option linter.unusedVariables false
variable {pv : Int → Int → Int}
open Go.RowKit Eng

theorem shr_eq (x k : Int) (h0 : 0 ≤ k) (h : k ≤ 62) : x.fdiv (2 ^ min k.toNat IntKind.i64.bits) = x / 2 ^ k.toNat := by
  have e : min k.toNat IntKind.i64.bits = k.toNat := by simp [IntKind.bits]; omega
  rw [e]
  have h2 : (0 : Int) ≤ 2 ^ k.toNat := Int.le_of_lt (Int.pow_pos (by decide))
  exact Int.fdiv_eq_ediv_of_nonneg _ h2
theorem ite_min (x y : Int) : (if y < x then y else x) = min x y := by omega
theorem ite_max (x y : Int) : (if y > x then y else x) = max x y := by omega
theorem pos2 (k : Nat) : (0 : Int) < 2 ^ k := Int.pow_pos (by decide)
theorem ediv_bd {x B : Int} (k : Nat) (h : -B ≤ x) (h' : x ≤ B) : -B ≤ x / 2 ^ k ∧ x / 2 ^ k ≤ B := by
  have hp := pos2 k
  refine ⟨(Int.le_ediv_iff_mul_le hp).2 ?_, ?_⟩
  · have : B * 1 ≤ B * 2 ^ k := Int.mul_le_mul_of_nonneg_left (by omega) (by omega)
    rw [Int.neg_mul]; omega
  · have : x / 2 ^ k < B + 1 := (Int.ediv_lt_iff_lt_mul hp).2 (by
      have : (B + 1) * 1 ≤ (B + 1) * 2 ^ k := Int.mul_le_mul_of_nonneg_left (by omega) (by omega)
      omega)
    omega
theorem div_bd {n d B : Int} (hd : 1 ≤ d) (h : -B ≤ n) (h' : n ≤ B) : -B ≤ n / d ∧ n / d ≤ B := by
  have hB : 0 ≤ B := by omega
  refine ⟨(Int.le_ediv_iff_mul_le (by omega)).2 ?_, ?_⟩
  · have : B * 1 ≤ B * d := Int.mul_le_mul_of_nonneg_left (by omega) hB
    rw [Int.neg_mul]; omega
  · have : n / d < B + 1 := (Int.ediv_lt_iff_lt_mul (by omega)).2 (by
      have : (B + 1) * 1 ≤ (B + 1) * d := Int.mul_le_mul_of_nonneg_left (by omega) (by omega)
      omega)
    omega
theorem tdiv_fl (n d : Int) (hd : 1 ≤ d) (h : (n.tmod d == 0) = true ∨ ¬ n < 0) : n.tdiv d = fl n d := by
  unfold fl
  by_cases h0 : 0 ≤ n
  · rw [Int.tdiv_eq_ediv_of_nonneg h0]
  · obtain ⟨m, rfl⟩ : ∃ m, n = -m := ⟨-n, by omega⟩
    rcases h with h | h
    · rw [Int.neg_tmod, Int.tmod_eq_emod_of_nonneg (by omega)] at h
      simp at h
      rw [Int.neg_tdiv, Int.tdiv_eq_ediv_of_nonneg (by omega), neg_ediv_0 m d hd h]
    · omega
theorem tdiv_fl' (n d : Int) (hd : 1 ≤ d) (h : (n.tmod d == 0) = false) (h0 : n < 0) : n.tdiv d - 1 = fl n d := by
  unfold fl
  obtain ⟨m, rfl⟩ : ∃ m, n = -m := ⟨-n, by omega⟩
  rw [Int.neg_tmod, Int.tmod_eq_emod_of_nonneg (by omega)] at h
  simp at h
  rw [Int.neg_tdiv, Int.tdiv_eq_ediv_of_nonneg (by omega), neg_ediv_1 m d hd h]

def e_toBox : CEnt := ⟨6, [4], none, .cv (og [vv 0, vv 1, vv 2, vv 3])⟩
def t_toBox : Tree := (.leaf (.cv (.agg [(.int .i64 (.var 0)), (.int .i64 (.var 1)), (.int .i64 (.var 2)), (.int .i64 (.var 3))])))
theorem t_toBox_eq : explore X0 100 6 (lettersFrom 0 [4]) 40 [] = t_toBox := by kernel_rfl
theorem ok_toBox (w : World) : e_toBox.ok Try.prog w (FI pv) FB := by
  refine CEnt.by_tree (e := e_toBox) (fi := FI pv) (fb := FB) (X := X0) (fuel := 100) (d := 40) (enters_of Try.func6 rfl (by kernel_rfl)) (fun w zs => X0_ok w _ rfl rfl) mixed (fun zs hz hp => ?_) w
  obtain ⟨a, b, c, d, rfl⟩ := len4 hz
  show (explore X0 100 6 (lettersFrom 0 [4]) 40 []).den _ = _
  rw [t_toBox_eq]
  clear hz
  clear hp
  show Tree.den _ t_toBox = some (.agg #[.int .i64 a, .int .i64 b, .int .i64 c, .int .i64 d])
  simp only [t_toBox, Tree.den, SVal.den, CV.den, At.den, SE.den, SB.den, SL.den, IOp.den, COp.den, envOf, List.map_cons, List.map_nil, List.getD_cons_zero, List.getD_cons_succ]
def e_l6In : CEnt := ⟨60, [0, 0, 0], none, ob (.and (.cmp .le (vv 1) (vv 0)) (.cmp .le (vv 0) (vv 2)))⟩
def t_l6In : Tree := (.node (.cmp .le (.var 1) (.var 0)) (.leaf (.cv (.one (.bool (.cmp .le (.var 0) (.var 2)))))) (.leaf (.cv (.one (.bool (.lit false))))))
theorem t_l6In_eq : explore X0 100 60 (lettersFrom 0 [0, 0, 0]) 40 [] = t_l6In := by kernel_rfl
theorem ok_l6In (w : World) : e_l6In.ok Try.prog w (FI pv) FB := by
  refine CEnt.by_tree (e := e_l6In) (fi := FI pv) (fb := FB) (X := X0) (fuel := 100) (d := 40) (enters_of Try.func60 rfl (by kernel_rfl)) (fun w zs => X0_ok w _ rfl rfl) mixed (fun zs hz hp => ?_) w
  obtain ⟨a, b, c, rfl⟩ := len3 hz
  show (explore X0 100 60 (lettersFrom 0 [0, 0, 0]) 40 []).den _ = _
  rw [t_l6In_eq]
  clear hz
  clear hp
  show Tree.den _ t_l6In = some (.bool (decide (b ≤ a) && decide (a ≤ c)))
  simp only [t_l6In, Tree.den, SVal.den, CV.den, At.den, SE.den, SB.den, SL.den, IOp.den, COp.den, envOf, List.map_cons, List.map_nil, List.getD_cons_zero, List.getD_cons_succ]
  cases decide (b ≤ a) <;> rfl
def e_valid : CEnt := ⟨80, [2], none, ob (.app 1 0 (vs 2))⟩
def t_valid : Tree := (.node (.cmp .le (.lit (-134217728)) (.var 0)) (.node (.cmp .le (.var 0) (.var 1)) (.leaf (.cv (.one (.bool (.cmp .le (.var 1) (.lit 134217728)))))) (.leaf (.cv (.one (.bool (.lit false)))))) (.leaf (.cv (.one (.bool (.lit false))))))
theorem t_valid_eq : explore X0 100 80 (lettersFrom 0 [2]) 40 [] = t_valid := by kernel_rfl
theorem ok_valid (w : World) : e_valid.ok Try.prog w (FI pv) FB := by
  refine CEnt.by_tree (e := e_valid) (fi := FI pv) (fb := FB) (X := X0) (fuel := 100) (d := 40) (enters_of Try.func80 rfl (by kernel_rfl)) (fun w zs => X0_ok w _ rfl rfl) mixed (fun zs hz hp => ?_) w
  obtain ⟨a, b, rfl⟩ := len2 hz
  show (explore X0 100 80 (lettersFrom 0 [2]) 40 []).den _ = _
  rw [t_valid_eq]
  clear hz
  clear hp
  show Tree.den _ t_valid = some (.bool (SV a b))
  simp only [t_valid, Tree.den, SVal.den, CV.den, At.den, SE.den, SB.den, SL.den, IOp.den, COp.den, envOf, List.map_cons, List.map_nil, List.getD_cons_zero, List.getD_cons_succ]
  unfold SV
  cases decide (-134217728 ≤ a) <;> cases decide (a ≤ b) <;> rfl
def e_spans : CEnt := ⟨59, [4], none, .cv (og [vv 0, vv 1, vv 2, vv 3])⟩
def t_spans : Tree := (.leaf (.cv (.agg [(.int .i64 (.var 0)), (.int .i64 (.var 1)), (.int .i64 (.var 2)), (.int .i64 (.var 3))])))
theorem t_spans_eq : explore X0 100 59 (lettersFrom 0 [4]) 40 [] = t_spans := by kernel_rfl
theorem ok_spans (w : World) : e_spans.ok Try.prog w (FI pv) FB := by
  refine CEnt.by_tree (e := e_spans) (fi := FI pv) (fb := FB) (X := X0) (fuel := 100) (d := 40) (enters_of Try.func59 rfl (by kernel_rfl)) (fun w zs => X0_ok w _ rfl rfl) mixed (fun zs hz hp => ?_) w
  obtain ⟨a, b, c, d, rfl⟩ := len4 hz
  show (explore X0 100 59 (lettersFrom 0 [4]) 40 []).den _ = _
  rw [t_spans_eq]
  clear hz
  clear hp
  show Tree.den _ t_spans = some (.agg #[.int .i64 a, .int .i64 b, .int .i64 c, .int .i64 d])
  simp only [t_spans, Tree.den, SVal.den, CV.den, At.den, SE.den, SB.den, SL.den, IOp.den, COp.den, envOf, List.map_cons, List.map_nil, List.getD_cons_zero, List.getD_cons_succ]
def e_plus : CEnt := ⟨55, [2, 2], some (.app 101 0 (vs 4)), .cv (og [.bin .add .i64 (vv 0) (vv 2), .bin .add .i64 (vv 1) (vv 3)])⟩
def t_plus : Tree := (.leaf (.cv (.agg [(.int .i64 (.wrap .i64 (.bin .add .i64 (.var 0) (.var 2)))), (.int .i64 (.wrap .i64 (.bin .add .i64 (.var 1) (.var 3))))])))
theorem t_plus_eq : explore X0 100 55 (lettersFrom 0 [2, 2]) 40 [] = t_plus := by kernel_rfl
theorem ok_plus (w : World) : e_plus.ok Try.prog w (FI pv) FB := by
  refine CEnt.by_tree (e := e_plus) (fi := FI pv) (fb := FB) (X := X0) (fuel := 100) (d := 40) (enters_of Try.func55 rfl (by kernel_rfl)) (fun w zs => X0_ok w _ rfl rfl) mixed (fun zs hz hp => ?_) w
  obtain ⟨a, b, c, d, rfl⟩ := len4 hz
  show (explore X0 100 55 (lettersFrom 0 [2, 2]) 40 []).den _ = _
  rw [t_plus_eq]
  clear hz
  replace hp : [a, b, c, d].all le60 = true := hp _ rfl
  show Tree.den _ t_plus = some (.agg #[.int .i64 (a + c), .int .i64 (b + d)])
  simp only [t_plus, Tree.den, SVal.den, CV.den, At.den, SE.den, SB.den, SL.den, IOp.den, COp.den, envOf, List.map_cons, List.map_nil, List.getD_cons_zero, List.getD_cons_succ]
  simp only [List.all_cons, List.all_nil, Bool.and_eq_true, le60_iff] at hp
  obtain ⟨h1, h2, h3, h4, -⟩ := hp
  rw [wrap_in (by omega) (by omega), wrap_in (by omega) (by omega)]
def e_less : CEnt := ⟨53, [2, 2], some (.app 101 0 (vs 4)), .cv (og [.bin .sub .i64 (vv 0) (vv 3), .bin .sub .i64 (vv 1) (vv 2)])⟩
def t_less : Tree := (.leaf (.cv (.agg [(.int .i64 (.wrap .i64 (.bin .sub .i64 (.var 0) (.var 3)))), (.int .i64 (.wrap .i64 (.bin .sub .i64 (.var 1) (.var 2))))])))
theorem t_less_eq : explore X0 100 53 (lettersFrom 0 [2, 2]) 40 [] = t_less := by kernel_rfl
theorem ok_less (w : World) : e_less.ok Try.prog w (FI pv) FB := by
  refine CEnt.by_tree (e := e_less) (fi := FI pv) (fb := FB) (X := X0) (fuel := 100) (d := 40) (enters_of Try.func53 rfl (by kernel_rfl)) (fun w zs => X0_ok w _ rfl rfl) mixed (fun zs hz hp => ?_) w
  obtain ⟨a, b, c, d, rfl⟩ := len4 hz
  show (explore X0 100 53 (lettersFrom 0 [2, 2]) 40 []).den _ = _
  rw [t_less_eq]
  clear hz
  replace hp : [a, b, c, d].all le60 = true := hp _ rfl
  show Tree.den _ t_less = some (.agg #[.int .i64 (a - d), .int .i64 (b - c)])
  simp only [t_less, Tree.den, SVal.den, CV.den, At.den, SE.den, SB.den, SL.den, IOp.den, COp.den, envOf, List.map_cons, List.map_nil, List.getD_cons_zero, List.getD_cons_succ]
  simp only [List.all_cons, List.all_nil, Bool.and_eq_true, le60_iff] at hp
  obtain ⟨h1, h2, h3, h4, -⟩ := hp
  rw [wrap_in (by omega) (by omega), wrap_in (by omega) (by omega)]
def e_times : CEnt := ⟨81, [2, 2], some (.app 100 0 (vs 4)), .cv (og (oapps 30 2 (vs 4)))⟩
def t_times : Tree := (.leaf (.cv (.agg [(.int .i64 (.bin .imin .i64 (.bin .imin .i64 (.bin .imin .i64 (.wrap .i64 (.bin .mul .i64 (.var 0) (.var 2))) (.wrap .i64 (.bin .mul .i64 (.var 0) (.var 3)))) (.wrap .i64 (.bin .mul .i64 (.var 1) (.var 2)))) (.wrap .i64 (.bin .mul .i64 (.var 1) (.var 3))))), (.int .i64 (.bin .imax .i64 (.bin .imax .i64 (.bin .imax .i64 (.wrap .i64 (.bin .mul .i64 (.var 0) (.var 2))) (.wrap .i64 (.bin .mul .i64 (.var 0) (.var 3)))) (.wrap .i64 (.bin .mul .i64 (.var 1) (.var 2)))) (.wrap .i64 (.bin .mul .i64 (.var 1) (.var 3)))))])))
theorem t_times_eq : explore X0 100 81 (lettersFrom 0 [2, 2]) 40 [] = t_times := by kernel_rfl
theorem ok_times (w : World) : e_times.ok Try.prog w (FI pv) FB := by
  refine CEnt.by_tree (e := e_times) (fi := FI pv) (fb := FB) (X := X0) (fuel := 100) (d := 40) (enters_of Try.func81 rfl (by kernel_rfl)) (fun w zs => X0_ok w _ rfl rfl) mixed (fun zs hz hp => ?_) w
  obtain ⟨a, b, c, d, rfl⟩ := len4 hz
  show (explore X0 100 81 (lettersFrom 0 [2, 2]) 40 []).den _ = _
  rw [t_times_eq]
  clear hz
  replace hp : [a, b, c, d].all le30 = true := hp _ rfl
  show Tree.den _ t_times = some (.agg #[.int .i64 (mulLo a b c d), .int .i64 (mulHi a b c d)])
  simp only [t_times, Tree.den, SVal.den, CV.den, At.den, SE.den, SB.den, SL.den, IOp.den, COp.den, envOf, List.map_cons, List.map_nil, List.getD_cons_zero, List.getD_cons_succ]
  simp only [List.all_cons, List.all_nil, Bool.and_eq_true, le30_iff] at hp
  obtain ⟨h1, h2, h3, h4, -⟩ := hp
  have m1 := mul30 h1 h3; have m2 := mul30 h1 h4; have m3 := mul30 h2 h3; have m4 := mul30 h2 h4
  unfold mulLo mulHi
  generalize a * c = p at *; generalize a * d = q at *; generalize b * c = r at *; generalize b * d = s at *
  rw [wrap_in (x := p) (by omega) (by omega), wrap_in (x := q) (by omega) (by omega), wrap_in (x := r) (by omega) (by omega), wrap_in (x := s) (by omega) (by omega)]
  simp only [ite_min, ite_max]
def e_square : CEnt := ⟨54, [2], some (.app 100 0 (vs 2)), .cv (og (oapps 31 2 (vs 2)))⟩
def t_square : Tree := (.node (.cmp .le (.var 0) (.lit 0)) (.node (.cmp .le (.lit 0) (.var 1)) (.leaf (.cv (.agg [(.int .i64 (.lit 0)), (.int .i64 (.bin .imax .i64 (.wrap .i64 (.bin .mul .i64 (.var 0) (.var 0))) (.wrap .i64 (.bin .mul .i64 (.var 1) (.var 1)))))]))) (.leaf (.cv (.agg [(.int .i64 (.bin .imin .i64 (.wrap .i64 (.bin .mul .i64 (.var 0) (.var 0))) (.wrap .i64 (.bin .mul .i64 (.var 1) (.var 1))))), (.int .i64 (.bin .imax .i64 (.wrap .i64 (.bin .mul .i64 (.var 0) (.var 0))) (.wrap .i64 (.bin .mul .i64 (.var 1) (.var 1)))))])))) (.leaf (.cv (.agg [(.int .i64 (.bin .imin .i64 (.wrap .i64 (.bin .mul .i64 (.var 0) (.var 0))) (.wrap .i64 (.bin .mul .i64 (.var 1) (.var 1))))), (.int .i64 (.bin .imax .i64 (.wrap .i64 (.bin .mul .i64 (.var 0) (.var 0))) (.wrap .i64 (.bin .mul .i64 (.var 1) (.var 1)))))]))))
theorem t_square_eq : explore X0 100 54 (lettersFrom 0 [2]) 40 [] = t_square := by kernel_rfl
theorem ok_square (w : World) : e_square.ok Try.prog w (FI pv) FB := by
  refine CEnt.by_tree (e := e_square) (fi := FI pv) (fb := FB) (X := X0) (fuel := 100) (d := 40) (enters_of Try.func54 rfl (by kernel_rfl)) (fun w zs => X0_ok w _ rfl rfl) mixed (fun zs hz hp => ?_) w
  obtain ⟨a, b, rfl⟩ := len2 hz
  show (explore X0 100 54 (lettersFrom 0 [2]) 40 []).den _ = _
  rw [t_square_eq]
  clear hz
  replace hp : [a, b].all le30 = true := hp _ rfl
  show Tree.den _ t_square = some (.agg #[.int .i64 (sqLo a b), .int .i64 (sqHi a b)])
  simp only [t_square, Tree.den, SVal.den, CV.den, At.den, SE.den, SB.den, SL.den, IOp.den, COp.den, envOf, List.map_cons, List.map_nil, List.getD_cons_zero, List.getD_cons_succ]
  simp only [List.all_cons, List.all_nil, Bool.and_eq_true, le30_iff] at hp
  obtain ⟨h1, h2, -⟩ := hp
  have m1 := mul30 h1 h1; have m2 := mul30 h2 h2
  unfold sqLo sqHi
  generalize a * a = p at *; generalize b * b = q at *
  rw [wrap_in (x := p) (by omega) (by omega), wrap_in (x := q) (by omega) (by omega)]
  simp only [ite_min, ite_max]
  by_cases c1 : a ≤ 0 <;> by_cases c2 : 0 ≤ b <;> simp [c1, c2] <;> first | done | omega
def e_l4Square : CEnt := ⟨62, [0, 0], some (.app 100 0 (vs 2)), .tup ((oapps 31 2 (vs 2)).map fun e => .one (ai e))⟩
def t_l4Square : Tree := (.node (.cmp .le (.var 0) (.lit 0)) (.node (.cmp .le (.lit 0) (.var 1)) (.leaf (.tup [(.one (.int .i64 (.lit 0))), (.one (.int .i64 (.bin .imax .i64 (.wrap .i64 (.bin .mul .i64 (.var 0) (.var 0))) (.wrap .i64 (.bin .mul .i64 (.var 1) (.var 1))))))])) (.leaf (.tup [(.one (.int .i64 (.bin .imin .i64 (.wrap .i64 (.bin .mul .i64 (.var 0) (.var 0))) (.wrap .i64 (.bin .mul .i64 (.var 1) (.var 1)))))), (.one (.int .i64 (.bin .imax .i64 (.wrap .i64 (.bin .mul .i64 (.var 0) (.var 0))) (.wrap .i64 (.bin .mul .i64 (.var 1) (.var 1))))))]))) (.leaf (.tup [(.one (.int .i64 (.bin .imin .i64 (.wrap .i64 (.bin .mul .i64 (.var 0) (.var 0))) (.wrap .i64 (.bin .mul .i64 (.var 1) (.var 1)))))), (.one (.int .i64 (.bin .imax .i64 (.wrap .i64 (.bin .mul .i64 (.var 0) (.var 0))) (.wrap .i64 (.bin .mul .i64 (.var 1) (.var 1))))))])))
theorem t_l4Square_eq : explore X0 100 62 (lettersFrom 0 [0, 0]) 40 [] = t_l4Square := by kernel_rfl
theorem ok_l4Square (w : World) : e_l4Square.ok Try.prog w (FI pv) FB := by
  refine CEnt.by_tree (e := e_l4Square) (fi := FI pv) (fb := FB) (X := X0) (fuel := 100) (d := 40) (enters_of Try.func62 rfl (by kernel_rfl)) (fun w zs => X0_ok w _ rfl rfl) mixed (fun zs hz hp => ?_) w
  obtain ⟨a, b, rfl⟩ := len2 hz
  show (explore X0 100 62 (lettersFrom 0 [0, 0]) 40 []).den _ = _
  rw [t_l4Square_eq]
  clear hz
  replace hp : [a, b].all le30 = true := hp _ rfl
  show Tree.den _ t_l4Square = some (.tuple #[.int .i64 (sqLo a b), .int .i64 (sqHi a b)])
  simp only [t_l4Square, Tree.den, SVal.den, CV.den, At.den, SE.den, SB.den, SL.den, IOp.den, COp.den, envOf, List.map_cons, List.map_nil, List.getD_cons_zero, List.getD_cons_succ]
  simp only [List.all_cons, List.all_nil, Bool.and_eq_true, le30_iff] at hp
  obtain ⟨h1, h2, -⟩ := hp
  have m1 := mul30 h1 h1; have m2 := mul30 h2 h2
  unfold sqLo sqHi
  generalize a * a = p at *; generalize b * b = q at *
  rw [wrap_in (x := p) (by omega) (by omega), wrap_in (x := q) (by omega) (by omega)]
  simp only [ite_min, ite_max]
  by_cases c1 : a ≤ 0 <;> by_cases c2 : 0 ≤ b <;> simp [c1, c2] <;> first | done | omega
def e_outward : CEnt := ⟨74, [2, 0], some (.app 103 0 (vs 3)), .cv (og [.app 32 0 (SL.of [vv 0, vv 2]), .app 32 1 (SL.of [vv 1, vv 2])])⟩
def t_outward : Tree := (.node (.cmp .lt (.var 2) (.lit 0)) (.dead 3) (.leaf (.cv (.agg [(.int .i64 (.bin .shr .i64 (.var 0) (.var 2))), (.int .i64 (.wrap .i64 (.bin .sub .i64 (.lit 0) (.bin .shr .i64 (.wrap .i64 (.bin .sub .i64 (.lit 0) (.var 1))) (.var 2)))))]))))
theorem t_outward_eq : explore X0 100 74 (lettersFrom 0 [2, 0]) 40 [] = t_outward := by kernel_rfl
theorem ok_outward (w : World) : e_outward.ok Try.prog w (FI pv) FB := by
  refine CEnt.by_tree (e := e_outward) (fi := FI pv) (fb := FB) (X := X0) (fuel := 100) (d := 40) (enters_of Try.func74 rfl (by kernel_rfl)) (fun w zs => X0_ok w _ rfl rfl) mixed (fun zs hz hp => ?_) w
  obtain ⟨a, b, c, rfl⟩ := len3 hz
  show (explore X0 100 74 (lettersFrom 0 [2, 0]) 40 []).den _ = _
  rw [t_outward_eq]
  clear hz
  replace hp : (le60 a && le60 b && decide (0 ≤ c) && decide (c ≤ 62)) = true := hp _ rfl
  show Tree.den _ t_outward = some (.agg #[.int .i64 (a / 2 ^ c.toNat), .int .i64 (-(-b / 2 ^ c.toNat))])
  simp only [t_outward, Tree.den, SVal.den, CV.den, At.den, SE.den, SB.den, SL.den, IOp.den, COp.den, envOf, List.map_cons, List.map_nil, List.getD_cons_zero, List.getD_cons_succ]
  simp only [Bool.and_eq_true, le60_iff, decide_eq_true_eq] at hp
  obtain ⟨⟨⟨h1, h2⟩, h3⟩, h4⟩ := hp
  have hb := ediv_bd (B := 1152921504606846976) (x := -b) c.toNat (by omega) (by omega)
  have e0 : IntKind.i64.wrap (0 - b) = -b := by rw [wrap_in (by omega) (by omega)]; omega
  rw [shr_eq _ _ h3 h4, e0, shr_eq _ _ h3 h4, Int.zero_sub, wrap_in (by omega) (by omega), decide_eq_false (by omega)]
  rfl
def e_l4Floor : CEnt := ⟨26, [0, 0], some (.app 102 0 (vs 2)), oi (.app 33 0 (vs 2))⟩
def t_l4Floor : Tree := (.node (.cmp .eq (.var 1) (.lit 0)) (.dead 1) (.node (.cmp .eq (.bin .tmod .i64 (.var 0) (.var 1)) (.lit 0)) (.leaf (.cv (.one (.int .i64 (.wrap .i64 (.bin .tdiv .i64 (.var 0) (.var 1))))))) (.node (.cmp .lt (.var 0) (.lit 0)) (.leaf (.cv (.one (.int .i64 (.wrap .i64 (.bin .sub .i64 (.wrap .i64 (.bin .tdiv .i64 (.var 0) (.var 1))) (.lit 1))))))) (.leaf (.cv (.one (.int .i64 (.wrap .i64 (.bin .tdiv .i64 (.var 0) (.var 1))))))))))
theorem t_l4Floor_eq : explore X0 100 26 (lettersFrom 0 [0, 0]) 40 [] = t_l4Floor := by kernel_rfl
theorem ok_l4Floor (w : World) : e_l4Floor.ok Try.prog w (FI pv) FB := by
  refine CEnt.by_tree (e := e_l4Floor) (fi := FI pv) (fb := FB) (X := X0) (fuel := 100) (d := 40) (enters_of Try.func26 rfl (by kernel_rfl)) (fun w zs => X0_ok w _ rfl rfl) mixed (fun zs hz hp => ?_) w
  obtain ⟨a, b, rfl⟩ := len2 hz
  show (explore X0 100 26 (lettersFrom 0 [0, 0]) 40 []).den _ = _
  rw [t_l4Floor_eq]
  clear hz
  replace hp : (le60 a && decide (1 ≤ b) && le60 b) = true := hp _ rfl
  show Tree.den _ t_l4Floor = some (.int .i64 (fl a b))
  simp only [t_l4Floor, Tree.den, SVal.den, CV.den, At.den, SE.den, SB.den, SL.den, IOp.den, COp.den, envOf, List.map_cons, List.map_nil, List.getD_cons_zero, List.getD_cons_succ]
  simp only [Bool.and_eq_true, le60_iff, decide_eq_true_eq] at hp
  obtain ⟨⟨h1, h2⟩, h3⟩ := hp
  have hb0 : (b == 0) = false := by rw [beq_eq_false_iff_ne]; omega
  have hd := div_bd h2 h1.1 h1.2
  have hf : fl a b = a / b := rfl
  rw [hb0]
  cases hm : (a.tmod b == 0)
  · by_cases h0 : a < 0
    · have := tdiv_fl' a b h2 hm h0
      rw [decide_eq_true h0, wrap_in (x := a.tdiv b) (by omega) (by omega), this, wrap_in (by omega) (by omega)]; rfl
    · have := tdiv_fl a b h2 (Or.inr h0)
      rw [decide_eq_false h0, this, wrap_in (by omega) (by omega)]; rfl
  · have := tdiv_fl a b h2 (Or.inl hm)
    rw [this, wrap_in (by omega) (by omega)]; rfl

def G1 : List CEnt := [e_toBox, e_l6In, e_valid, e_spans, e_plus, e_less, e_times, e_square, e_l4Square, e_outward, e_l4Floor]
theorem G1_ok : ∀ e ∈ G1, ∀ w : World, e.ok Try.prog w (FI pv) FB := by
  intro e he w
  simp only [G1, List.mem_cons, List.not_mem_nil, or_false] at he
  rcases he with rfl | rfl | rfl | rfl | rfl | rfl | rfl | rfl | rfl | rfl | rfl
  · exact ok_toBox w
  · exact ok_l6In w
  · exact ok_valid w
  · exact ok_spans w
  · exact ok_plus w
  · exact ok_less w
  · exact ok_times w
  · exact ok_square w
  · exact ok_l4Square w
  · exact ok_outward w
  · exact ok_l4Floor w
def en1 : List Nat := [67, 56]
theorem en1_67 : Enters Try.prog 67 := enters_of Try.func67 rfl (by kernel_rfl)
theorem en1_56 : Enters Try.prog 56 := enters_of Try.func56 rfl (by kernel_rfl)
theorem en1_ok : ∀ f ∈ en1, Enters Try.prog f := by
  intro f hf
  simp only [en1, List.mem_cons, List.not_mem_nil, or_false] at hf
  rcases hf with rfl | rfl
  · exact en1_67
  · exact en1_56
def X1c (P : Program) : Cx := { P := P, G := G1, en := en1, call := nil0 }
noncomputable def X1 : Cx := X1c Try.prog
theorem X1_ok (w : World) (E : Env) (hi : E.fi = FI pv) (hb : E.fb = FB) : XOk X1 w E := xok G1_ok en1_ok w E hi hb
end Go.Proofs.Ytjbpaejjpamcpaa
