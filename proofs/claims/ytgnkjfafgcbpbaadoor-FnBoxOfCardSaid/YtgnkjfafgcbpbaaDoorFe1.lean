/- A float's odd number and power of 2; a part raised: contracts. -/
import Derived.Test.YtgnkjfafgcbpbaaDoorFd3
namespace Go.Proofs.YtgnkjfafgcbpbaaDoor
set_option linter.unusedSimpArgs false
set_option linter.unusedVariables false
variable {pv : Int → Int → Int}
open Go.RowKit Eng
theorem finw_of {a : Int} (h : finw a = true) : ∃ b : Nat, a = b ∧ b < 18446744073709551616 ∧ Fl.fld b ≤ 2046 := by
  unfold finw at h
  simp only [Bool.and_eq_true, decide_eq_true_eq] at h
  exact ⟨a.toNat, by omega, by omega, by omega⟩
theorem ofInt64 {x : Int} (h : 0 ≤ x) (h' : x < 18446744073709551616) : (BitVec.ofInt 64 x).toNat = x.toNat := by
  obtain ⟨n, rfl⟩ : ∃ n : Nat, x = n := ⟨x.toNat, by omega⟩
  rw [Fl.ofInt_nat (by omega), Int.toNat_natCast]
/-- The exponent's field; the fraction; the fraction with its leading 1; the sign. -/
theorem raised_eq {b : Nat} (hb : b < 18446744073709551616) : IntKind.i64.wrap ↑(BitVec.ofInt IntKind.i64.bits (IntKind.i64.wrap ((if 0 > (b : Int) then 0 else (b : Int)).fdiv (2 ^ min (Int.toNat 52) IntKind.u64.bits))) &&& BitVec.ofInt IntKind.i64.bits 2047).toNat = (Fl.fld b : Nat) := by
  rw [imax0 (by omega), show (2 : Int) ^ min (Int.toNat 52) IntKind.u64.bits = 4503599627370496 by decide, Int.fdiv_eq_ediv_of_nonneg _ (by decide)]
  rw [show ((b : Int) / 4503599627370496) = ((b / 4503599627370496 : Nat) : Int) by omega, wrap_in (x := ((b / 4503599627370496 : Nat) : Int)) (by omega) (by omega)]
  rw [show IntKind.i64.bits = 64 from rfl, Fl.and_mask (by omega)]
  exact wrap_in (by omega) (by omega)
theorem frac_eq {b : Nat} (hb : b < 18446744073709551616) : IntKind.u64.wrap ↑(BitVec.ofInt IntKind.u64.bits (if 0 > (b : Int) then 0 else (b : Int)) &&& BitVec.ofInt IntKind.u64.bits 4503599627370495).toNat = ((b % 4503599627370496 : Nat) : Int) := by
  rw [imax0 (by omega), show IntKind.u64.bits = 64 from rfl, BitVec.toNat_and, Fl.ofInt_nat hb, show (BitVec.ofInt 64 4503599627370495).toNat = 2 ^ 52 - 1 by decide, Nat.and_two_pow_sub_one_eq_mod]
  exact wrap_u (by omega) (by omega)
theorem lead_eq {b : Nat} : IntKind.u64.wrap ↑(BitVec.ofInt IntKind.u64.bits ((b % 4503599627370496 : Nat) : Int) ||| BitVec.ofInt IntKind.u64.bits 4503599627370496).toNat = ((4503599627370496 + b % 4503599627370496 : Nat) : Int) := by
  rw [show IntKind.u64.bits = 64 from rfl, BitVec.toNat_or, Fl.ofInt_nat (by omega), show (BitVec.ofInt 64 4503599627370496).toNat = 2 ^ 52 * 1 by decide, Nat.or_comm, ← Nat.two_pow_add_eq_or_of_lt (i := 52) (by omega)]
  exact wrap_u (by omega) (by omega)
theorem sign_eq {b : Nat} (hb : b < 18446744073709551616) : (if 0 > (b : Int) then 0 else (b : Int)).fdiv (2 ^ min (Int.toNat 63) IntKind.u64.bits) = ((b / 9223372036854775808 : Nat) : Int) := by
  rw [imax0 (by omega), show (2 : Int) ^ min (Int.toNat 63) IntKind.u64.bits = 9223372036854775808 by decide, Int.fdiv_eq_ediv_of_nonneg _ (by decide)]
  omega
theorem f91 (x : Int) : FI pv 91 0 [x] = tz x := rfl
theorem g105 {x : Int} (h : 0 ≤ x) (h' : x ≤ 18446744073709551615) : FB 105 0 [x] = true := by
  show (decide (0 ≤ x) && decide (x ≤ 18446744073709551615)) = true
  simp only [Bool.and_eq_true, decide_eq_true_eq]; omega
theorem shr_u {x t : Int} (h0 : 0 ≤ t) (h : t ≤ 63) : x.fdiv (2 ^ min t.toNat IntKind.u64.bits) = x / 2 ^ t.toNat := by
  have e : min t.toNat IntKind.u64.bits = t.toNat := by show min t.toNat 64 = _; omega
  have hp := pos2 t.toNat
  rw [e, Int.fdiv_eq_ediv_of_nonneg _ (Int.le_of_lt hp)]
def e_split : CEnt := ⟨45, [1001], some (.app 118 0 (vs 1)), .tup [.one (ai (.app 121 0 (vs 1))), .one (ai (.app 121 1 (vs 1)))]⟩
def t_split : Tree := (.node (.cmp .eq (.wrap .i64 (.bin .band .i64 (.wrap .i64 (.bin .shr .u64 (.bin .imax .i64 (.var 0) (.lit 0)) (.lit 52))) (.lit 2047))) (.lit 0)) (.node (.cmp .eq (.wrap .u64 (.bin .band .u64 (.bin .imax .i64 (.var 0) (.lit 0)) (.lit 4503599627370495))) (.lit 0)) (.leaf (.tup [(.one (.int .i64 (.lit 0))), (.one (.int .i64 (.lit 0)))])) (.node (.app 105 0 (.cons (.wrap .u64 (.bin .band .u64 (.bin .imax .i64 (.var 0) (.lit 0)) (.lit 4503599627370495))) .nil)) (.node (.cmp .lt (.app 91 0 (.cons (.wrap .u64 (.bin .band .u64 (.bin .imax .i64 (.var 0) (.lit 0)) (.lit 4503599627370495))) .nil)) (.lit 0)) (.dead 3) (.node (.cmp .eq (.bin .shr .u64 (.bin .imax .i64 (.var 0) (.lit 0)) (.lit 63)) (.lit 1)) (.leaf (.tup [(.one (.int .i64 (.wrap .i64 (.bin .sub .i64 (.lit 0) (.wrap .i64 (.bin .shr .u64 (.wrap .u64 (.bin .band .u64 (.bin .imax .i64 (.var 0) (.lit 0)) (.lit 4503599627370495))) (.app 91 0 (.cons (.wrap .u64 (.bin .band .u64 (.bin .imax .i64 (.var 0) (.lit 0)) (.lit 4503599627370495))) .nil)))))))), (.one (.int .i64 (.wrap .i64 (.bin .add .i64 (.lit (-1074)) (.app 91 0 (.cons (.wrap .u64 (.bin .band .u64 (.bin .imax .i64 (.var 0) (.lit 0)) (.lit 4503599627370495))) .nil))))))])) (.leaf (.tup [(.one (.int .i64 (.wrap .i64 (.bin .shr .u64 (.wrap .u64 (.bin .band .u64 (.bin .imax .i64 (.var 0) (.lit 0)) (.lit 4503599627370495))) (.app 91 0 (.cons (.wrap .u64 (.bin .band .u64 (.bin .imax .i64 (.var 0) (.lit 0)) (.lit 4503599627370495))) .nil)))))), (.one (.int .i64 (.wrap .i64 (.bin .add .i64 (.lit (-1074)) (.app 91 0 (.cons (.wrap .u64 (.bin .band .u64 (.bin .imax .i64 (.var 0) (.lit 0)) (.lit 4503599627370495))) .nil))))))])))) (.dead 47))) (.node (.cmp .eq (.wrap .u64 (.bin .bor .u64 (.wrap .u64 (.bin .band .u64 (.bin .imax .i64 (.var 0) (.lit 0)) (.lit 4503599627370495))) (.lit 4503599627370496))) (.lit 0)) (.leaf (.tup [(.one (.int .i64 (.lit 0))), (.one (.int .i64 (.lit 0)))])) (.node (.app 105 0 (.cons (.wrap .u64 (.bin .bor .u64 (.wrap .u64 (.bin .band .u64 (.bin .imax .i64 (.var 0) (.lit 0)) (.lit 4503599627370495))) (.lit 4503599627370496))) .nil)) (.node (.cmp .lt (.app 91 0 (.cons (.wrap .u64 (.bin .bor .u64 (.wrap .u64 (.bin .band .u64 (.bin .imax .i64 (.var 0) (.lit 0)) (.lit 4503599627370495))) (.lit 4503599627370496))) .nil)) (.lit 0)) (.dead 3) (.node (.cmp .eq (.bin .shr .u64 (.bin .imax .i64 (.var 0) (.lit 0)) (.lit 63)) (.lit 1)) (.leaf (.tup [(.one (.int .i64 (.wrap .i64 (.bin .sub .i64 (.lit 0) (.wrap .i64 (.bin .shr .u64 (.wrap .u64 (.bin .bor .u64 (.wrap .u64 (.bin .band .u64 (.bin .imax .i64 (.var 0) (.lit 0)) (.lit 4503599627370495))) (.lit 4503599627370496))) (.app 91 0 (.cons (.wrap .u64 (.bin .bor .u64 (.wrap .u64 (.bin .band .u64 (.bin .imax .i64 (.var 0) (.lit 0)) (.lit 4503599627370495))) (.lit 4503599627370496))) .nil)))))))), (.one (.int .i64 (.wrap .i64 (.bin .add .i64 (.wrap .i64 (.bin .sub .i64 (.wrap .i64 (.bin .band .i64 (.wrap .i64 (.bin .shr .u64 (.bin .imax .i64 (.var 0) (.lit 0)) (.lit 52))) (.lit 2047))) (.lit 1075))) (.app 91 0 (.cons (.wrap .u64 (.bin .bor .u64 (.wrap .u64 (.bin .band .u64 (.bin .imax .i64 (.var 0) (.lit 0)) (.lit 4503599627370495))) (.lit 4503599627370496))) .nil))))))])) (.leaf (.tup [(.one (.int .i64 (.wrap .i64 (.bin .shr .u64 (.wrap .u64 (.bin .bor .u64 (.wrap .u64 (.bin .band .u64 (.bin .imax .i64 (.var 0) (.lit 0)) (.lit 4503599627370495))) (.lit 4503599627370496))) (.app 91 0 (.cons (.wrap .u64 (.bin .bor .u64 (.wrap .u64 (.bin .band .u64 (.bin .imax .i64 (.var 0) (.lit 0)) (.lit 4503599627370495))) (.lit 4503599627370496))) .nil)))))), (.one (.int .i64 (.wrap .i64 (.bin .add .i64 (.wrap .i64 (.bin .sub .i64 (.wrap .i64 (.bin .band .i64 (.wrap .i64 (.bin .shr .u64 (.bin .imax .i64 (.var 0) (.lit 0)) (.lit 52))) (.lit 2047))) (.lit 1075))) (.app 91 0 (.cons (.wrap .u64 (.bin .bor .u64 (.wrap .u64 (.bin .band .u64 (.bin .imax .i64 (.var 0) (.lit 0)) (.lit 4503599627370495))) (.lit 4503599627370496))) .nil))))))])))) (.dead 47))))
theorem t_split_eq : explore XD1 200 45 (lettersFrom 0 [1001]) 40 [] = t_split := by kernel_rfl
theorem ok_split (w : World) (hT : Tb w) : e_split.ok Tryd.prog w (FI pv) FB := by
  refine by_treeT (e := e_split) (fi := FI pv) (fb := FB) (X := XD1) (fuel := 200) (d := 40) (enters_of Tryd.func45 rfl (by kernel_rfl)) (fun w zs hT => XD1_ok w hT _ rfl rfl) mixed (fun zs hz hp => ?_) w hT
  obtain ⟨a, rfl⟩ := len1 hz
  show (explore XD1 200 45 (lettersFrom 0 [1001]) 40 []).den _ = _
  rw [t_split_eq]
  clear hz
  replace hp : finw a = true := hp _ rfl
  show Tree.den _ t_split = some (.tuple #[.int .i64 (SPo a), .int .i64 (SPp a)])
  simp only [t_split, Tree.den, SVal.den, CV.den, At.den, SE.den, SB.den, SL.den, IOp.den, COp.den, envOf, List.map_cons, List.map_nil, List.getD_cons_zero, List.getD_cons_succ]
  obtain ⟨b, rfl, hb, hf⟩ := finw_of hp
  rw [raised_eq hb, frac_eq hb, lead_eq, sign_eq hb]
  have hdiv : ∀ (x t : Int), 0 ≤ x → 0 ≤ t → x < 9007199254740992 → 0 ≤ x / 2 ^ t.toNat ∧ x / 2 ^ t.toNat < 9007199254740992 := fun x t h0 _ h => by
    have := Int.ediv_le_self (2 ^ t.toNat) h0
    exact ⟨Int.ediv_nonneg h0 (Int.le_of_lt (pos2 _)), by omega⟩
  have fin : ∀ (x P : Int), 1 ≤ x → x < 9007199254740992 → -1074 ≤ P → P ≤ 1000 →
      (bif x == 0 then some (Value.tuple #[Value.int IntKind.i64 0, Value.int IntKind.i64 0]) else
        bif FB 105 0 [x] then bif decide (FI pv 91 0 [x] < 0) then none else
          bif ((b / 9223372036854775808 : Nat) : Int) == 1 then some (Value.tuple #[Value.int .i64 (IntKind.i64.wrap (0 - IntKind.i64.wrap (x.fdiv (2 ^ min (FI pv 91 0 [x]).toNat IntKind.u64.bits)))), Value.int .i64 (IntKind.i64.wrap (P + FI pv 91 0 [x]))])
          else some (Value.tuple #[Value.int .i64 (IntKind.i64.wrap (x.fdiv (2 ^ min (FI pv 91 0 [x]).toNat IntKind.u64.bits))), Value.int .i64 (IntKind.i64.wrap (P + FI pv 91 0 [x]))]) else none) =
      some (Value.tuple #[.int .i64 (if ((b / 9223372036854775808 : Nat) : Int) = 1 then -(x / 2 ^ (tz x).toNat) else x / 2 ^ (tz x).toNat), .int .i64 (P + tz x)]) := by
    intro x P h1 h2 h3 h4
    have t0 := tz_nonneg x
    have t1 := tz_lt (n := x) h1 (by omega)
    have t2 := bl_le (n := x) 53 (by omega) (by omega)
    obtain ⟨d1, d2⟩ := hdiv x (tz x) (by omega) t0 h2
    rw [beq_eq_false_iff_ne.2 (by omega), g105 (by omega) (by omega), f91, decide_eq_false (by omega), shr_u t0 (by omega), wrap_in (x := x / 2 ^ (tz x).toNat) (by omega) (by omega), wrap_in (x := P + tz x) (by omega) (by omega), wrap_in (by omega) (by omega), cond_beq, Int.zero_sub]
    simp only [cond_true, cond_false]
    split <;> rfl
  have hsg : ((b : Int) / 9223372036854775808) = ((b / 9223372036854775808 : Nat) : Int) := by omega
  by_cases h0 : Fl.fld b = 0
  · have hd : dig (b : Int) = ((b % 4503599627370496 : Nat) : Int) := by
      unfold dig; rw [Int.toNat_natCast, if_pos h0]; omega
    have hp' : dpw (b : Int) = -1074 := by unfold dpw; rw [Int.toNat_natCast, if_pos h0]
    unfold SPo SPp
    rw [hd, hp', hsg, h0]
    by_cases hz : b % 4503599627370496 = 0
    · rw [hz]; rfl
    · have hz' : ¬ ((b % 4503599627370496 : Nat) : Int) = 0 := by omega
      rw [if_neg hz', if_neg hz']
      exact fin ((b % 4503599627370496 : Nat) : Int) (-1074) (by omega) (by omega) (by omega) (by omega)
  · have hd : dig (b : Int) = ((4503599627370496 + b % 4503599627370496 : Nat) : Int) := by
      unfold dig; rw [Int.toNat_natCast, if_neg h0]; omega
    have hp' : dpw (b : Int) = (Fl.fld b : Nat) - 1075 := by unfold dpw; rw [Int.toNat_natCast, if_neg h0]
    unfold SPo SPp
    have e0 : (((Fl.fld b : Nat) : Int) == 0) = false := by rw [beq_eq_false_iff_ne]; omega
    have hz' : ¬ ((4503599627370496 + b % 4503599627370496 : Nat) : Int) = 0 := by omega
    rw [hd, hp', hsg, e0, if_neg hz', if_neg hz', wrap_in (x := ((Fl.fld b : Nat) : Int) - 1075) (by omega) (by omega)]
    exact fin ((4503599627370496 + b % 4503599627370496 : Nat) : Int) (((Fl.fld b : Nat) : Int) - 1075) (by omega) (by omega) (by omega) (by omega)
def e_raise : CEnt := ⟨46, [0, 0], some (.app 117 0 (vs 2)), .tup [.one (ai (.app 122 0 (vs 2))), .one (.bool (.app 122 0 (vs 2)))]⟩
def t_raise : Tree := (.node (.cmp .eq (.var 0) (.lit 0)) (.leaf (.tup [(.one (.int .i64 (.lit 0))), (.one (.bool (.lit true)))])) (.node (.cmp .lt (.lit 30) (.var 1)) (.leaf (.tup [(.one (.int .i64 (.lit 0))), (.one (.bool (.lit false)))])) (.node (.cmp .lt (.var 1) (.lit 0)) (.dead 3) (.node (.cmp .lt (.var 0) (.wrap .i64 (.bin .sub .i64 (.lit 0) (.bin .shr .i64 (.lit 1073741824) (.var 1))))) (.leaf (.tup [(.one (.int .i64 (.lit 0))), (.one (.bool (.lit false)))])) (.node (.cmp .lt (.bin .shr .i64 (.lit 1073741824) (.var 1)) (.var 0)) (.leaf (.tup [(.one (.int .i64 (.lit 0))), (.one (.bool (.lit false)))])) (.leaf (.tup [(.one (.int .i64 (.wrap .i64 (.bin .shl .i64 (.var 0) (.var 1))))), (.one (.bool (.lit true)))])))))))
theorem t_raise_eq : explore XD1 200 46 (lettersFrom 0 [0, 0]) 40 [] = t_raise := by kernel_rfl
theorem ok_raise (w : World) (hT : Tb w) : e_raise.ok Tryd.prog w (FI pv) FB := by
  refine by_treeT (e := e_raise) (fi := FI pv) (fb := FB) (X := XD1) (fuel := 200) (d := 40) (enters_of Tryd.func46 rfl (by kernel_rfl)) (fun w zs hT => XD1_ok w hT _ rfl rfl) mixed (fun zs hz hp => ?_) w hT
  obtain ⟨a, b, rfl⟩ := len2 hz
  show (explore XD1 200 46 (lettersFrom 0 [0, 0]) 40 []).den _ = _
  rw [t_raise_eq]
  clear hz
  replace hp : (le60 a && decide (0 ≤ b) && decide (b ≤ 3000)) = true := hp _ rfl
  show Tree.den _ t_raise = some (.tuple #[.int .i64 (FI pv 122 0 [a, b]), .bool (RPok a b)])
  simp only [t_raise, Tree.den, SVal.den, CV.den, At.den, SE.den, SB.den, SL.den, IOp.den, COp.den, envOf, List.map_cons, List.map_nil, List.getD_cons_zero, List.getD_cons_succ]
  simp only [Bool.and_eq_true, decide_eq_true_eq, le60_iff] at hp
  obtain ⟨⟨h1, h2⟩, h3⟩ := hp
  have f122 : FI pv 122 0 [a, b] = if RPok a b then a * 2 ^ b.toNat else 0 := rfl
  rw [f122]
  by_cases h0 : a = 0
  · subst h0
    have : RPok 0 b = true := rfl
    rw [this, if_pos rfl]; simp
  rw [beq_eq_false_iff_ne.2 h0]
  by_cases h4 : 30 < b
  · have : RPok a b = false := by
      unfold RPok; rw [beq_eq_false_iff_ne.2 h0, decide_eq_false (show ¬ b ≤ 30 by omega)]; rfl
    rw [this, decide_eq_true h4]; rfl
  have hmin : min b.toNat IntKind.i64.bits = b.toNat := by show min b.toNat 64 = _; omega
  have hp2 := pos2 b.toNat
  have hq : Int.fdiv 1073741824 (2 ^ b.toNat) = 1073741824 / 2 ^ b.toNat := Int.fdiv_eq_ediv_of_nonneg _ (Int.le_of_lt hp2)
  have q0 : 0 ≤ (1073741824 : Int) / 2 ^ b.toNat := Int.ediv_nonneg (by decide) (Int.le_of_lt hp2)
  have q1 : (1073741824 : Int) / 2 ^ b.toNat ≤ 1073741824 := Int.ediv_le_self _ (by decide)
  have hm : (1073741824 : Int) / 2 ^ b.toNat * 2 ^ b.toNat ≤ 1073741824 := Int.ediv_mul_le _ (by omega)
  rw [hmin, hq, decide_eq_false h4, decide_eq_false (show ¬ b < 0 by omega), wrap_in (x := 0 - 1073741824 / 2 ^ b.toNat) (by omega) (by omega)]
  have hR : RPok a b = (decide (-(1073741824 / 2 ^ b.toNat) ≤ a) && decide (a ≤ 1073741824 / 2 ^ b.toNat)) := by
    unfold RPok; rw [beq_eq_false_iff_ne.2 h0, decide_eq_true (show b ≤ 30 by omega)]; simp
  rw [hR]
  generalize (1073741824 : Int) / 2 ^ b.toNat = Q at *
  by_cases h5 : a < 0 - Q
  · rw [decide_eq_true h5, decide_eq_false (show ¬ -Q ≤ a by omega)]; rfl
  by_cases h6 : Q < a
  · rw [decide_eq_false h5, decide_eq_true h6, decide_eq_false (show ¬ a ≤ Q by omega), Bool.and_false]; rfl
  rw [decide_eq_false h5, decide_eq_false h6, decide_eq_true (show -Q ≤ a by omega), decide_eq_true (show a ≤ Q by omega)]
  have b1 : a * 2 ^ b.toNat ≤ Q * 2 ^ b.toNat := Int.mul_le_mul_of_nonneg_right (by omega) (Int.le_of_lt hp2)
  have b2 : -Q * 2 ^ b.toNat ≤ a * 2 ^ b.toNat := Int.mul_le_mul_of_nonneg_right (by omega) (Int.le_of_lt hp2)
  rw [Int.neg_mul] at b2
  rw [wrap_in (by omega) (by omega)]; rfl
def GE1 : List CEnt := [e_split, e_raise] ++ GD1
theorem GE1_ok : ∀ e ∈ GE1, ∀ w : World, Tb w → e.ok Tryd.prog w (FI pv) FB := by
  intro e he w hT
  rcases List.mem_append.1 he with he | he
  case inr => exact GD1_ok e he w hT
  simp only [List.mem_cons, List.not_mem_nil, or_false] at he
  rcases he with rfl | rfl
  · exact ok_split w hT
  · exact ok_raise w hT
def enE1 : List Nat := [44, 43, 70]
theorem enE1_44 : Enters Tryd.prog 44 := enters_of Tryd.func44 rfl (by kernel_rfl)
theorem enE1_43 : Enters Tryd.prog 43 := enters_of Tryd.func43 rfl (by kernel_rfl)
theorem enE1_70 : Enters Tryd.prog 70 := enters_of Tryd.func70 rfl (by kernel_rfl)
theorem enE1_ok : ∀ f ∈ enE1, Enters Tryd.prog f := by
  intro f hf
  simp only [enE1, List.mem_cons, List.not_mem_nil, or_false] at hf
  rcases hf with rfl | rfl | rfl
  · exact enE1_44
  · exact enE1_43
  · exact enE1_70
def XE1c (P : Program) : Cx := { P := P, G := GE1, en := enE1, call := nil0, L := [], R := [], ext := xF }
noncomputable def XE1 : Cx := XE1c Tryd.prog
theorem XE1_ok (w : World) (hT : Tb w) (E : Env) (hi : E.fi = FI pv) (hb : E.fb = FB) : XOk XE1 w E := xokT GE1_ok enE1_ok (fun _ h => by cases h) (fun _ h => by cases h) xF_ok w hT E hi hb
end Go.Proofs.YtgnkjfafgcbpbaaDoor
