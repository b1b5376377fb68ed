import Derived.Test.YtjpmpjcenajmbaaDoorMFd
import Derived.Test.YtjpmpjcenajmbaaDoorMFm
/- A float's odd number and power of 2; a part raised: contracts. -/
namespace Go.Proofs.YtjpmpjcenajmbaaDoor
set_option linter.unusedSimpArgs false
set_option linter.unusedVariables false
variable {pv : Int → Int → Int}
open Go.RowKit Eng
theorem finw_of {a : Int} (h : finw a = true) : ∃ b : Nat, a = b ∧ b < 18446744073709551616 ∧ Fl.fld b ≤ 2046 := by
  unfold finw at h
  simp only [Bool.and_eq_true, decide_eq_true_eq] at h
  exact ⟨a.toNat, by omega, by omega, by omega⟩
theorem ofInt64 {x : Int} (h : 0 ≤ x) (h' : x < 18446744073709551616) : (BitVec.ofInt 64 x).toNat = x.toNat := by
  obtain ⟨n, rfl⟩ : ∃ n : Nat, x = n := ⟨x.toNat, by omega⟩
  rw [Fl.ofInt_nat (by omega), Int.toNat_natCast]
/-- The exponent's field; the fraction; the fraction with its leading 1; the sign. -/
theorem raised_eq {b : Nat} (hb : b < 18446744073709551616) : IntKind.i64.wrap ↑(BitVec.ofInt IntKind.i64.bits (IntKind.i64.wrap ((if 0 > (b : Int) then 0 else (b : Int)).fdiv (2 ^ min (Int.toNat 52) IntKind.u64.bits))) &&& BitVec.ofInt IntKind.i64.bits 2047).toNat = (Fl.fld b : Nat) := by
  rw [imax0 (by omega), show (2 : Int) ^ min (Int.toNat 52) IntKind.u64.bits = 4503599627370496 by decide, Int.fdiv_eq_ediv_of_nonneg _ (by decide)]
  rw [show ((b : Int) / 4503599627370496) = ((b / 4503599627370496 : Nat) : Int) by omega, wrap_in (x := ((b / 4503599627370496 : Nat) : Int)) (by omega) (by omega)]
  rw [show IntKind.i64.bits = 64 from rfl, Fl.and_mask (by omega)]
  exact wrap_in (by omega) (by omega)
theorem frac_eq {b : Nat} (hb : b < 18446744073709551616) : IntKind.u64.wrap ↑(BitVec.ofInt IntKind.u64.bits (if 0 > (b : Int) then 0 else (b : Int)) &&& BitVec.ofInt IntKind.u64.bits 4503599627370495).toNat = ((b % 4503599627370496 : Nat) : Int) := by
  rw [imax0 (by omega), show IntKind.u64.bits = 64 from rfl, BitVec.toNat_and, Fl.ofInt_nat hb, show (BitVec.ofInt 64 4503599627370495).toNat = 2 ^ 52 - 1 by decide, Nat.and_two_pow_sub_one_eq_mod]
  exact wrap_u (by omega) (by omega)
theorem lead_eq {b : Nat} : IntKind.u64.wrap ↑(BitVec.ofInt IntKind.u64.bits ((b % 4503599627370496 : Nat) : Int) ||| BitVec.ofInt IntKind.u64.bits 4503599627370496).toNat = ((4503599627370496 + b % 4503599627370496 : Nat) : Int) := by
  rw [show IntKind.u64.bits = 64 from rfl, BitVec.toNat_or, Fl.ofInt_nat (by omega), show (BitVec.ofInt 64 4503599627370496).toNat = 2 ^ 52 * 1 by decide, Nat.or_comm, ← Nat.two_pow_add_eq_or_of_lt (i := 52) (by omega)]
  exact wrap_u (by omega) (by omega)
theorem sign_eq {b : Nat} (hb : b < 18446744073709551616) : (if 0 > (b : Int) then 0 else (b : Int)).fdiv (2 ^ min (Int.toNat 63) IntKind.u64.bits) = ((b / 9223372036854775808 : Nat) : Int) := by
  rw [imax0 (by omega), show (2 : Int) ^ min (Int.toNat 63) IntKind.u64.bits = 9223372036854775808 by decide, Int.fdiv_eq_ediv_of_nonneg _ (by decide)]
  omega
theorem f91 (x : Int) : FI pv 91 0 [x] = tz x := rfl
theorem g105 {x : Int} (h : 0 ≤ x) (h' : x ≤ 18446744073709551615) : FB 105 0 [x] = true := by
  show (decide (0 ≤ x) && decide (x ≤ 18446744073709551615)) = true
  simp only [Bool.and_eq_true, decide_eq_true_eq]; omega
theorem shr_u {x t : Int} (h0 : 0 ≤ t) (h : t ≤ 63) : x.fdiv (2 ^ min t.toNat IntKind.u64.bits) = x / 2 ^ t.toNat := by
  have e : min t.toNat IntKind.u64.bits = t.toNat := by show min t.toNat 64 = _; omega
  have hp := pos2 t.toNat
  rw [e, Int.fdiv_eq_ediv_of_nonneg _ (Int.le_of_lt hp)]
def e_split : CEnt := ⟨33, [1001], some (.app 118 0 (vs 1)), .tup [.one (ai (.app 121 0 (vs 1))), .one (ai (.app 121 1 (vs 1)))]⟩
def t_split : Tree := (.node (.cmp .eq (.wrap .i64 (.bin .band .i64 (.wrap .i64 (.bin .shr .u64 (.bin .imax .i64 (.var 0) (.lit 0)) (.lit 52))) (.lit 2047))) (.lit 0)) (.node (.cmp .eq (.wrap .u64 (.bin .band .u64 (.bin .imax .i64 (.var 0) (.lit 0)) (.lit 4503599627370495))) (.lit 0)) (.leaf (.tup [(.one (.int .i64 (.lit 0))), (.one (.int .i64 (.lit 0)))])) (.node (.app 105 0 (.cons (.wrap .u64 (.bin .band .u64 (.bin .imax .i64 (.var 0) (.lit 0)) (.lit 4503599627370495))) .nil)) (.node (.cmp .lt (.app 91 0 (.cons (.wrap .u64 (.bin .band .u64 (.bin .imax .i64 (.var 0) (.lit 0)) (.lit 4503599627370495))) .nil)) (.lit 0)) (.dead 3) (.node (.cmp .eq (.bin .shr .u64 (.bin .imax .i64 (.var 0) (.lit 0)) (.lit 63)) (.lit 1)) (.leaf (.tup [(.one (.int .i64 (.wrap .i64 (.bin .sub .i64 (.lit 0) (.wrap .i64 (.bin .shr .u64 (.wrap .u64 (.bin .band .u64 (.bin .imax .i64 (.var 0) (.lit 0)) (.lit 4503599627370495))) (.app 91 0 (.cons (.wrap .u64 (.bin .band .u64 (.bin .imax .i64 (.var 0) (.lit 0)) (.lit 4503599627370495))) .nil)))))))), (.one (.int .i64 (.wrap .i64 (.bin .add .i64 (.lit (-1074)) (.app 91 0 (.cons (.wrap .u64 (.bin .band .u64 (.bin .imax .i64 (.var 0) (.lit 0)) (.lit 4503599627370495))) .nil))))))])) (.leaf (.tup [(.one (.int .i64 (.wrap .i64 (.bin .shr .u64 (.wrap .u64 (.bin .band .u64 (.bin .imax .i64 (.var 0) (.lit 0)) (.lit 4503599627370495))) (.app 91 0 (.cons (.wrap .u64 (.bin .band .u64 (.bin .imax .i64 (.var 0) (.lit 0)) (.lit 4503599627370495))) .nil)))))), (.one (.int .i64 (.wrap .i64 (.bin .add .i64 (.lit (-1074)) (.app 91 0 (.cons (.wrap .u64 (.bin .band .u64 (.bin .imax .i64 (.var 0) (.lit 0)) (.lit 4503599627370495))) .nil))))))])))) (.dead 47))) (.node (.cmp .eq (.wrap .u64 (.bin .bor .u64 (.wrap .u64 (.bin .band .u64 (.bin .imax .i64 (.var 0) (.lit 0)) (.lit 4503599627370495))) (.lit 4503599627370496))) (.lit 0)) (.leaf (.tup [(.one (.int .i64 (.lit 0))), (.one (.int .i64 (.lit 0)))])) (.node (.app 105 0 (.cons (.wrap .u64 (.bin .bor .u64 (.wrap .u64 (.bin .band .u64 (.bin .imax .i64 (.var 0) (.lit 0)) (.lit 4503599627370495))) (.lit 4503599627370496))) .nil)) (.node (.cmp .lt (.app 91 0 (.cons (.wrap .u64 (.bin .bor .u64 (.wrap .u64 (.bin .band .u64 (.bin .imax .i64 (.var 0) (.lit 0)) (.lit 4503599627370495))) (.lit 4503599627370496))) .nil)) (.lit 0)) (.dead 3) (.node (.cmp .eq (.bin .shr .u64 (.bin .imax .i64 (.var 0) (.lit 0)) (.lit 63)) (.lit 1)) (.leaf (.tup [(.one (.int .i64 (.wrap .i64 (.bin .sub .i64 (.lit 0) (.wrap .i64 (.bin .shr .u64 (.wrap .u64 (.bin .bor .u64 (.wrap .u64 (.bin .band .u64 (.bin .imax .i64 (.var 0) (.lit 0)) (.lit 4503599627370495))) (.lit 4503599627370496))) (.app 91 0 (.cons (.wrap .u64 (.bin .bor .u64 (.wrap .u64 (.bin .band .u64 (.bin .imax .i64 (.var 0) (.lit 0)) (.lit 4503599627370495))) (.lit 4503599627370496))) .nil)))))))), (.one (.int .i64 (.wrap .i64 (.bin .add .i64 (.wrap .i64 (.bin .sub .i64 (.wrap .i64 (.bin .band .i64 (.wrap .i64 (.bin .shr .u64 (.bin .imax .i64 (.var 0) (.lit 0)) (.lit 52))) (.lit 2047))) (.lit 1075))) (.app 91 0 (.cons (.wrap .u64 (.bin .bor .u64 (.wrap .u64 (.bin .band .u64 (.bin .imax .i64 (.var 0) (.lit 0)) (.lit 4503599627370495))) (.lit 4503599627370496))) .nil))))))])) (.leaf (.tup [(.one (.int .i64 (.wrap .i64 (.bin .shr .u64 (.wrap .u64 (.bin .bor .u64 (.wrap .u64 (.bin .band .u64 (.bin .imax .i64 (.var 0) (.lit 0)) (.lit 4503599627370495))) (.lit 4503599627370496))) (.app 91 0 (.cons (.wrap .u64 (.bin .bor .u64 (.wrap .u64 (.bin .band .u64 (.bin .imax .i64 (.var 0) (.lit 0)) (.lit 4503599627370495))) (.lit 4503599627370496))) .nil)))))), (.one (.int .i64 (.wrap .i64 (.bin .add .i64 (.wrap .i64 (.bin .sub .i64 (.wrap .i64 (.bin .band .i64 (.wrap .i64 (.bin .shr .u64 (.bin .imax .i64 (.var 0) (.lit 0)) (.lit 52))) (.lit 2047))) (.lit 1075))) (.app 91 0 (.cons (.wrap .u64 (.bin .bor .u64 (.wrap .u64 (.bin .band .u64 (.bin .imax .i64 (.var 0) (.lit 0)) (.lit 4503599627370495))) (.lit 4503599627370496))) .nil))))))])))) (.dead 47))))
theorem t_split_eq : explore XFD1 200 33 (lettersFrom 0 [1001]) 40 [] = t_split := by kernel_rfl
theorem ok_split (w : World) (hT : Tb w) : e_split.ok Tryd.prog w (FI pv) FB := by
  refine by_treeT (e := e_split) (fi := FI pv) (fb := FB) (X := XFD1) (fuel := 200) (d := 40) (enters_of Tryd.func33 rfl (by kernel_rfl)) (fun w zs hT => XFD1_ok w hT _ rfl rfl) mixed (fun zs hz hp => ?_) w hT
  obtain ⟨a, rfl⟩ := len1 hz
  show (explore XFD1 200 33 (lettersFrom 0 [1001]) 40 []).den _ = _
  rw [t_split_eq]
  clear hz
  replace hp : finw a = true := hp _ rfl
  show Tree.den _ t_split = some (.tuple #[.int .i64 (SPo a), .int .i64 (SPp a)])
  simp only [t_split, Tree.den, SVal.den, CV.den, At.den, SE.den, SB.den, SL.den, IOp.den, COp.den, envOf, List.map_cons, List.map_nil, List.getD_cons_zero, List.getD_cons_succ]
  obtain ⟨b, rfl, hb, hf⟩ := finw_of hp
  rw [raised_eq hb, frac_eq hb, lead_eq, sign_eq hb]
  have hdiv : ∀ (x t : Int), 0 ≤ x → 0 ≤ t → x < 9007199254740992 → 0 ≤ x / 2 ^ t.toNat ∧ x / 2 ^ t.toNat < 9007199254740992 := fun x t h0 _ h => by
    have := Int.ediv_le_self (2 ^ t.toNat) h0
    exact ⟨Int.ediv_nonneg h0 (Int.le_of_lt (pos2 _)), by omega⟩
  have fin : ∀ (x P : Int), 1 ≤ x → x < 9007199254740992 → -1074 ≤ P → P ≤ 1000 →
      (bif x == 0 then some (Value.tuple #[Value.int IntKind.i64 0, Value.int IntKind.i64 0]) else
        bif FB 105 0 [x] then bif decide (FI pv 91 0 [x] < 0) then none else
          bif ((b / 9223372036854775808 : Nat) : Int) == 1 then some (Value.tuple #[Value.int .i64 (IntKind.i64.wrap (0 - IntKind.i64.wrap (x.fdiv (2 ^ min (FI pv 91 0 [x]).toNat IntKind.u64.bits)))), Value.int .i64 (IntKind.i64.wrap (P + FI pv 91 0 [x]))])
          else some (Value.tuple #[Value.int .i64 (IntKind.i64.wrap (x.fdiv (2 ^ min (FI pv 91 0 [x]).toNat IntKind.u64.bits))), Value.int .i64 (IntKind.i64.wrap (P + FI pv 91 0 [x]))]) else none) =
      some (Value.tuple #[.int .i64 (if ((b / 9223372036854775808 : Nat) : Int) = 1 then -(x / 2 ^ (tz x).toNat) else x / 2 ^ (tz x).toNat), .int .i64 (P + tz x)]) := by
    intro x P h1 h2 h3 h4
    have t0 := tz_nonneg x
    have t1 := tz_lt (n := x) h1 (by omega)
    have t2 := bl_le (n := x) 53 (by omega) (by omega)
    obtain ⟨d1, d2⟩ := hdiv x (tz x) (by omega) t0 h2
    rw [beq_eq_false_iff_ne.2 (by omega), g105 (by omega) (by omega), f91, decide_eq_false (by omega), shr_u t0 (by omega), wrap_in (x := x / 2 ^ (tz x).toNat) (by omega) (by omega), wrap_in (x := P + tz x) (by omega) (by omega), wrap_in (by omega) (by omega), cond_beq, Int.zero_sub]
    simp only [cond_true, cond_false]
    split <;> rfl
  have hsg : ((b : Int) / 9223372036854775808) = ((b / 9223372036854775808 : Nat) : Int) := by omega
  by_cases h0 : Fl.fld b = 0
  · have hd : dig (b : Int) = ((b % 4503599627370496 : Nat) : Int) := by
      unfold dig; rw [Int.toNat_natCast, if_pos h0]; omega
    have hp' : dpw (b : Int) = -1074 := by unfold dpw; rw [Int.toNat_natCast, if_pos h0]
    unfold SPo SPp
    rw [hd, hp', hsg, h0]
    by_cases hz : b % 4503599627370496 = 0
    · rw [hz]; rfl
    · have hz' : ¬ ((b % 4503599627370496 : Nat) : Int) = 0 := by omega
      rw [if_neg hz', if_neg hz']
      exact fin ((b % 4503599627370496 : Nat) : Int) (-1074) (by omega) (by omega) (by omega) (by omega)
  · have hd : dig (b : Int) = ((4503599627370496 + b % 4503599627370496 : Nat) : Int) := by
      unfold dig; rw [Int.toNat_natCast, if_neg h0]; omega
    have hp' : dpw (b : Int) = (Fl.fld b : Nat) - 1075 := by unfold dpw; rw [Int.toNat_natCast, if_neg h0]
    unfold SPo SPp
    have e0 : (((Fl.fld b : Nat) : Int) == 0) = false := by rw [beq_eq_false_iff_ne]; omega
    have hz' : ¬ ((4503599627370496 + b % 4503599627370496 : Nat) : Int) = 0 := by omega
    rw [hd, hp', hsg, e0, if_neg hz', if_neg hz', wrap_in (x := ((Fl.fld b : Nat) : Int) - 1075) (by omega) (by omega)]
    exact fin ((4503599627370496 + b % 4503599627370496 : Nat) : Int) (((Fl.fld b : Nat) : Int) - 1075) (by omega) (by omega) (by omega) (by omega)
def e_raise : CEnt := ⟨34, [0, 0], some (.app 117 0 (vs 2)), .tup [.one (ai (.app 122 0 (vs 2))), .one (.bool (.app 122 0 (vs 2)))]⟩
def t_raise : Tree := (.node (.cmp .eq (.var 0) (.lit 0)) (.leaf (.tup [(.one (.int .i64 (.lit 0))), (.one (.bool (.lit true)))])) (.node (.cmp .lt (.lit 30) (.var 1)) (.leaf (.tup [(.one (.int .i64 (.lit 0))), (.one (.bool (.lit false)))])) (.node (.cmp .lt (.var 1) (.lit 0)) (.dead 3) (.node (.cmp .lt (.var 0) (.wrap .i64 (.bin .sub .i64 (.lit 0) (.bin .shr .i64 (.lit 1073741824) (.var 1))))) (.leaf (.tup [(.one (.int .i64 (.lit 0))), (.one (.bool (.lit false)))])) (.node (.cmp .lt (.bin .shr .i64 (.lit 1073741824) (.var 1)) (.var 0)) (.leaf (.tup [(.one (.int .i64 (.lit 0))), (.one (.bool (.lit false)))])) (.leaf (.tup [(.one (.int .i64 (.wrap .i64 (.bin .shl .i64 (.var 0) (.var 1))))), (.one (.bool (.lit true)))])))))))
theorem t_raise_eq : explore XFD1 200 34 (lettersFrom 0 [0, 0]) 40 [] = t_raise := by kernel_rfl
theorem ok_raise (w : World) (hT : Tb w) : e_raise.ok Tryd.prog w (FI pv) FB := by
  refine by_treeT (e := e_raise) (fi := FI pv) (fb := FB) (X := XFD1) (fuel := 200) (d := 40) (enters_of Tryd.func34 rfl (by kernel_rfl)) (fun w zs hT => XFD1_ok w hT _ rfl rfl) mixed (fun zs hz hp => ?_) w hT
  obtain ⟨a, b, rfl⟩ := len2 hz
  show (explore XFD1 200 34 (lettersFrom 0 [0, 0]) 40 []).den _ = _
  rw [t_raise_eq]
  clear hz
  replace hp : (le60 a && decide (0 ≤ b) && decide (b ≤ 3000)) = true := hp _ rfl
  show Tree.den _ t_raise = some (.tuple #[.int .i64 (FI pv 122 0 [a, b]), .bool (RPok a b)])
  simp only [t_raise, Tree.den, SVal.den, CV.den, At.den, SE.den, SB.den, SL.den, IOp.den, COp.den, envOf, List.map_cons, List.map_nil, List.getD_cons_zero, List.getD_cons_succ]
  simp only [Bool.and_eq_true, decide_eq_true_eq, le60_iff] at hp
  obtain ⟨⟨h1, h2⟩, h3⟩ := hp
  have f122 : FI pv 122 0 [a, b] = if RPok a b then a * 2 ^ b.toNat else 0 := rfl
  rw [f122]
  by_cases h0 : a = 0
  · subst h0
    have : RPok 0 b = true := rfl
    rw [this, if_pos rfl]; simp
  rw [beq_eq_false_iff_ne.2 h0]
  by_cases h4 : 30 < b
  · have : RPok a b = false := by
      unfold RPok; rw [beq_eq_false_iff_ne.2 h0, decide_eq_false (show ¬ b ≤ 30 by omega)]; rfl
    rw [this, decide_eq_true h4]; rfl
  have hmin : min b.toNat IntKind.i64.bits = b.toNat := by show min b.toNat 64 = _; omega
  have hp2 := pos2 b.toNat
  have hq : Int.fdiv 1073741824 (2 ^ b.toNat) = 1073741824 / 2 ^ b.toNat := Int.fdiv_eq_ediv_of_nonneg _ (Int.le_of_lt hp2)
  have q0 : 0 ≤ (1073741824 : Int) / 2 ^ b.toNat := Int.ediv_nonneg (by decide) (Int.le_of_lt hp2)
  have q1 : (1073741824 : Int) / 2 ^ b.toNat ≤ 1073741824 := Int.ediv_le_self _ (by decide)
  have hm : (1073741824 : Int) / 2 ^ b.toNat * 2 ^ b.toNat ≤ 1073741824 := Int.ediv_mul_le _ (by omega)
  rw [hmin, hq, decide_eq_false h4, decide_eq_false (show ¬ b < 0 by omega), wrap_in (x := 0 - 1073741824 / 2 ^ b.toNat) (by omega) (by omega)]
  have hR : RPok a b = (decide (-(1073741824 / 2 ^ b.toNat) ≤ a) && decide (a ≤ 1073741824 / 2 ^ b.toNat)) := by
    unfold RPok; rw [beq_eq_false_iff_ne.2 h0, decide_eq_true (show b ≤ 30 by omega)]; simp
  rw [hR]
  generalize (1073741824 : Int) / 2 ^ b.toNat = Q at *
  by_cases h5 : a < 0 - Q
  · rw [decide_eq_true h5, decide_eq_false (show ¬ -Q ≤ a by omega)]; rfl
  by_cases h6 : Q < a
  · rw [decide_eq_false h5, decide_eq_true h6, decide_eq_false (show ¬ a ≤ Q by omega), Bool.and_false]; rfl
  rw [decide_eq_false h5, decide_eq_false h6, decide_eq_true (show -Q ≤ a by omega), decide_eq_true (show a ≤ Q by omega)]
  have b1 : a * 2 ^ b.toNat ≤ Q * 2 ^ b.toNat := Int.mul_le_mul_of_nonneg_right (by omega) (Int.le_of_lt hp2)
  have b2 : -Q * 2 ^ b.toNat ≤ a * 2 ^ b.toNat := Int.mul_le_mul_of_nonneg_right (by omega) (Int.le_of_lt hp2)
  rw [Int.neg_mul] at b2
  rw [wrap_in (by omega) (by omega)]; rfl
def GE1 : List CEnt := [e_split, e_raise] ++ GD1
theorem GE1_ok : ∀ e ∈ GE1, ∀ w : World, Tb w → e.ok Tryd.prog w (FI pv) FB := by
  intro e he w hT
  rcases List.mem_append.1 he with he | he
  case inr => exact GD1_ok e he w hT
  simp only [List.mem_cons, List.not_mem_nil, or_false] at he
  rcases he with rfl | rfl
  · exact ok_split w hT
  · exact ok_raise w hT
def enE1 : List Nat := [32, 31, 56]
theorem enE1_32 : Enters Tryd.prog 32 := enters_of Tryd.func32 rfl (by kernel_rfl)
theorem enE1_31 : Enters Tryd.prog 31 := enters_of Tryd.func31 rfl (by kernel_rfl)
theorem enE1_56 : Enters Tryd.prog 56 := enters_of Tryd.func56 rfl (by kernel_rfl)
theorem enE1_ok : ∀ f ∈ enE1, Enters Tryd.prog f := by
  intro f hf
  simp only [enE1, List.mem_cons, List.not_mem_nil, or_false] at hf
  rcases hf with rfl | rfl | rfl
  · exact enE1_32
  · exact enE1_31
  · exact enE1_56
def XE1c (P : Program) : Cx := { P := P, G := GE1, en := enE1, call := nil0, L := [], R := [], ext := xF }
noncomputable def XE1 : Cx := XE1c Tryd.prog
theorem XE1_ok (w : World) (hT : Tb w) (E : Env) (hi : E.fi = FI pv) (hb : E.fb = FB) : XOk XE1 w E := xokT GE1_ok enE1_ok (fun _ h => by cases h) (fun _ h => by cases h) xF_ok w hT E hi hb
end Go.Proofs.YtjpmpjcenajmbaaDoor
/- Finite words of float64 numbers, small ones too. No program in sight. -/
namespace Go.Proofs.YtjpmpjcenajmbaaDoor.Fl
set_option linter.unusedSimpArgs false
set_option linter.unusedVariables false
open Ieee
theorem read_sub {b : Nat} (hb : b < 18446744073709551616) (h : fld b = 0) : double.read b = .number (neg b) (b % 4503599627370496) (-1074) := by
  obtain ⟨h1, h2, h3, h4, h5⟩ := dbl_facts
  unfold Format.read
  simp only [h1, h2, h3, h4]
  unfold fld at h
  rw [if_pos (by omega)]
  have e1 : (b / 9223372036854775808 % 2 == 1) = neg b := by
    unfold neg; rw [Nat.mod_eq_of_lt (by omega)]
  rw [e1]
  have e2 : b % 9223372036854775808 = b % 4503599627370496 := by omega
  rw [e2]
theorem V_sub0 {b : Nat} (hb : b < 18446744073709551616) (h : fld b = 0) : V double b (sg (neg b) (b % 4503599627370496)) := by
  refine ⟨_, _, _, read_sub hb h, by decide, ?_⟩
  rw [show ((-1074 : Int) - double.leastPlace).toNat = 0 by decide, Nat.pow_zero, Nat.mul_one]
/-- Any finite word: its number, and a bound of it. -/
theorem V_fin {b : Nat} (hb : b < 18446744073709551616) (h : fld b ≤ 2046) : ∃ v, V double b v ∧ ∀ K, 2045 ≤ K → v.natAbs ≤ 9007199254740991 * 2 ^ K := by
  by_cases h0 : fld b = 0
  · refine ⟨_, V_sub0 hb h0, fun K hK => ?_⟩
    rw [sg_natAbs]
    have : b % 4503599627370496 * 2 ^ 0 ≤ 9007199254740991 * 2 ^ K := mul_pow_le (a := b % 4503599627370496) (b := 9007199254740991) (k := 0) (l := K) (by omega) (Nat.zero_le _)
    rwa [Nat.pow_zero, Nat.mul_one] at this
  · have hN : Nrm b := ⟨hb, by omega, h⟩
    refine ⟨_, V_nrm hN, fun K hK => ?_⟩
    unfold vN
    rw [sg_natAbs]
    exact mul_pow_le (a := mant b) (b := 9007199254740991) (k := fld b - 1) (l := K) (by unfold mant; omega) (by omega)
theorem fin_self {b : Nat} (hb : b < 18446744073709551616) (h : fld b ≤ 2046) : double.order b b = some .eq := by
  obtain ⟨v, hv, -⟩ := V_fin hb h
  exact order_self hv
theorem fin_abs {b : Nat} (hb : b < 18446744073709551616) (h : fld b ≤ 2046) : double.order (b % 9223372036854775808) 9218868437227405311 ≠ some .gt := by
  have e : fld (b % 9223372036854775808) = fld b := by unfold fld; omega
  obtain ⟨v, hv, hk⟩ := V_fin (b := b % 9223372036854775808) (by omega) (by omega)
  rw [V_order hv V_max]
  intro q
  simp only [Option.some.injEq, Int.compare_eq_gt] at q
  have := hk 2045 (by omega)
  generalize (2045 : Nat) = K at this q
  have c : (v.natAbs : Int) ≤ ((9007199254740991 * 2 ^ K : Nat) : Int) := by omega
  rw [cast_mul_pow] at c
  have c2 : v ≤ (v.natAbs : Int) := by omega
  exact absurd (Int.le_trans c2 c) (by
    show ¬ v ≤ ((9007199254740991 : Nat) : Int) * 2 ^ K
    omega)
end Go.Proofs.YtjpmpjcenajmbaaDoor.Fl
/- The exact number that a wide one is, in the program: its contract. -/
namespace Go.Proofs.YtjpmpjcenajmbaaDoor
set_option linter.unusedSimpArgs false
set_option linter.unusedVariables false
variable {pv : Int → Int → Int}
open Go.RowKit Eng
def outDO : SVal := .tup [og (oapps 123 3 (vs 2)), .one (.bool (.app 123 0 (vs 2)))]
theorem dig_rng {a : Int} (h : finw a = true) : 0 ≤ dig a ∧ dig a < 9007199254740992 ∧ -1074 ≤ dpw a ∧ dpw a ≤ 971 := by
  obtain ⟨b, rfl, hb, hf⟩ := finw_of h
  unfold dig dpw
  rw [Int.toNat_natCast]
  split <;> omega
theorem SP_rng {a : Int} (h : finw a = true) : -9007199254740992 < SPo a ∧ SPo a < 9007199254740992 ∧ -1074 ≤ SPp a ∧ SPp a ≤ 1100 := by
  obtain ⟨h1, h2, h3, h4⟩ := dig_rng h
  by_cases h0 : dig a = 0
  · unfold SPo SPp; rw [if_pos h0, if_pos h0]; omega
  · have t0 := tz_nonneg (dig a)
    have t1 := tz_lt (n := dig a) (by omega) (by omega)
    have t2 := bl_le (n := dig a) 53 (by omega) (by omega)
    have q0 : 0 ≤ dig a / 2 ^ (tz (dig a)).toNat := Int.ediv_nonneg h1 (Int.le_of_lt (pos2 _))
    have q1 : dig a / 2 ^ (tz (dig a)).toNat ≤ dig a := Int.ediv_le_self _ h1
    unfold SPo SPp
    rw [if_neg h0, if_neg h0]
    refine ⟨?_, ?_, by omega, by omega⟩ <;> split <;> omega
theorem f121a (a : Int) : FI pv 121 0 [a] = SPo a := rfl
theorem f121b (a : Int) : FI pv 121 1 [a] = SPp a := rfl
theorem g117 {n u : Int} (h1 : -9007199254740992 < n) (h2 : n < 9007199254740992) (h3 : 0 ≤ u) (h4 : u ≤ 3000) : FB 117 0 [n, u] = true := by
  show (le60 n && decide (0 ≤ u) && decide (u ≤ 3000)) = true
  simp only [Bool.and_eq_true, decide_eq_true_eq, le60_iff]; omega
def e_iDOf : CEnt := ⟨11, [1002], some (.app 124 0 (vs 2)), outDO⟩
def t_iDOf : Tree := (.node (.cmp .eq (.bin .ford .u64 (.var 0) (.var 0)) (.lit 0)) (.node (.cmp .eq (.bin .ford .u64 (.wrap .u64 (.bin .bandn .u64 (.bin .imax .i64 (.var 0) (.lit 0)) (.lit 9223372036854775808))) (.lit 9218868437227405311)) (.lit 1)) (.leaf (.tup [(.agg [(.int .i64 (.lit 0)), (.int .i64 (.lit 0)), (.int .i64 (.lit 0))]), (.one (.bool (.lit false)))])) (.node (.cmp .eq (.bin .ford .u64 (.var 1) (.var 1)) (.lit 0)) (.node (.cmp .eq (.bin .ford .u64 (.wrap .u64 (.bin .bandn .u64 (.bin .imax .i64 (.var 1) (.lit 0)) (.lit 9223372036854775808))) (.lit 9218868437227405311)) (.lit 1)) (.leaf (.tup [(.agg [(.int .i64 (.lit 0)), (.int .i64 (.lit 0)), (.int .i64 (.lit 0))]), (.one (.bool (.lit false)))])) (.node (.app 118 0 (.cons (.var 0) .nil)) (.node (.app 118 0 (.cons (.var 1) .nil)) (.node (.cmp .lt (.lit 60) (.bin .imax .i64 (.bin .imax .i64 (.lit 0) (.wrap .i64 (.bin .sub .i64 (.lit 0) (.app 121 1 (.cons (.var 0) .nil))))) (.wrap .i64 (.bin .sub .i64 (.lit 0) (.app 121 1 (.cons (.var 1) .nil)))))) (.leaf (.tup [(.agg [(.int .i64 (.lit 0)), (.int .i64 (.lit 0)), (.int .i64 (.lit 0))]), (.one (.bool (.lit false)))])) (.node (.app 117 0 (.cons (.app 121 0 (.cons (.var 0) .nil)) (.cons (.wrap .i64 (.bin .add .i64 (.app 121 1 (.cons (.var 0) .nil)) (.bin .imax .i64 (.bin .imax .i64 (.lit 0) (.wrap .i64 (.bin .sub .i64 (.lit 0) (.app 121 1 (.cons (.var 0) .nil))))) (.wrap .i64 (.bin .sub .i64 (.lit 0) (.app 121 1 (.cons (.var 1) .nil))))))) .nil))) (.node (.app 117 0 (.cons (.app 121 0 (.cons (.var 1) .nil)) (.cons (.wrap .i64 (.bin .add .i64 (.app 121 1 (.cons (.var 1) .nil)) (.bin .imax .i64 (.bin .imax .i64 (.lit 0) (.wrap .i64 (.bin .sub .i64 (.lit 0) (.app 121 1 (.cons (.var 0) .nil))))) (.wrap .i64 (.bin .sub .i64 (.lit 0) (.app 121 1 (.cons (.var 1) .nil))))))) .nil))) (.node (.app 122 0 (.cons (.app 121 0 (.cons (.var 0) .nil)) (.cons (.wrap .i64 (.bin .add .i64 (.app 121 1 (.cons (.var 0) .nil)) (.bin .imax .i64 (.bin .imax .i64 (.lit 0) (.wrap .i64 (.bin .sub .i64 (.lit 0) (.app 121 1 (.cons (.var 0) .nil))))) (.wrap .i64 (.bin .sub .i64 (.lit 0) (.app 121 1 (.cons (.var 1) .nil))))))) .nil))) (.node (.app 122 0 (.cons (.app 121 0 (.cons (.var 1) .nil)) (.cons (.wrap .i64 (.bin .add .i64 (.app 121 1 (.cons (.var 1) .nil)) (.bin .imax .i64 (.bin .imax .i64 (.lit 0) (.wrap .i64 (.bin .sub .i64 (.lit 0) (.app 121 1 (.cons (.var 0) .nil))))) (.wrap .i64 (.bin .sub .i64 (.lit 0) (.app 121 1 (.cons (.var 1) .nil))))))) .nil))) (.leaf (.tup [(.agg [(.int .i64 (.app 4 0 (.cons (.app 122 0 (.cons (.app 121 0 (.cons (.var 0) .nil)) (.cons (.wrap .i64 (.bin .add .i64 (.app 121 1 (.cons (.var 0) .nil)) (.bin .imax .i64 (.bin .imax .i64 (.lit 0) (.wrap .i64 (.bin .sub .i64 (.lit 0) (.app 121 1 (.cons (.var 0) .nil))))) (.wrap .i64 (.bin .sub .i64 (.lit 0) (.app 121 1 (.cons (.var 1) .nil))))))) .nil))) (.cons (.app 122 0 (.cons (.app 121 0 (.cons (.var 1) .nil)) (.cons (.wrap .i64 (.bin .add .i64 (.app 121 1 (.cons (.var 1) .nil)) (.bin .imax .i64 (.bin .imax .i64 (.lit 0) (.wrap .i64 (.bin .sub .i64 (.lit 0) (.app 121 1 (.cons (.var 0) .nil))))) (.wrap .i64 (.bin .sub .i64 (.lit 0) (.app 121 1 (.cons (.var 1) .nil))))))) .nil))) (.cons (.bin .imax .i64 (.bin .imax .i64 (.lit 0) (.wrap .i64 (.bin .sub .i64 (.lit 0) (.app 121 1 (.cons (.var 0) .nil))))) (.wrap .i64 (.bin .sub .i64 (.lit 0) (.app 121 1 (.cons (.var 1) .nil))))) .nil))))), (.int .i64 (.app 4 1 (.cons (.app 122 0 (.cons (.app 121 0 (.cons (.var 0) .nil)) (.cons (.wrap .i64 (.bin .add .i64 (.app 121 1 (.cons (.var 0) .nil)) (.bin .imax .i64 (.bin .imax .i64 (.lit 0) (.wrap .i64 (.bin .sub .i64 (.lit 0) (.app 121 1 (.cons (.var 0) .nil))))) (.wrap .i64 (.bin .sub .i64 (.lit 0) (.app 121 1 (.cons (.var 1) .nil))))))) .nil))) (.cons (.app 122 0 (.cons (.app 121 0 (.cons (.var 1) .nil)) (.cons (.wrap .i64 (.bin .add .i64 (.app 121 1 (.cons (.var 1) .nil)) (.bin .imax .i64 (.bin .imax .i64 (.lit 0) (.wrap .i64 (.bin .sub .i64 (.lit 0) (.app 121 1 (.cons (.var 0) .nil))))) (.wrap .i64 (.bin .sub .i64 (.lit 0) (.app 121 1 (.cons (.var 1) .nil))))))) .nil))) (.cons (.bin .imax .i64 (.bin .imax .i64 (.lit 0) (.wrap .i64 (.bin .sub .i64 (.lit 0) (.app 121 1 (.cons (.var 0) .nil))))) (.wrap .i64 (.bin .sub .i64 (.lit 0) (.app 121 1 (.cons (.var 1) .nil))))) .nil))))), (.int .i64 (.app 4 2 (.cons (.app 122 0 (.cons (.app 121 0 (.cons (.var 0) .nil)) (.cons (.wrap .i64 (.bin .add .i64 (.app 121 1 (.cons (.var 0) .nil)) (.bin .imax .i64 (.bin .imax .i64 (.lit 0) (.wrap .i64 (.bin .sub .i64 (.lit 0) (.app 121 1 (.cons (.var 0) .nil))))) (.wrap .i64 (.bin .sub .i64 (.lit 0) (.app 121 1 (.cons (.var 1) .nil))))))) .nil))) (.cons (.app 122 0 (.cons (.app 121 0 (.cons (.var 1) .nil)) (.cons (.wrap .i64 (.bin .add .i64 (.app 121 1 (.cons (.var 1) .nil)) (.bin .imax .i64 (.bin .imax .i64 (.lit 0) (.wrap .i64 (.bin .sub .i64 (.lit 0) (.app 121 1 (.cons (.var 0) .nil))))) (.wrap .i64 (.bin .sub .i64 (.lit 0) (.app 121 1 (.cons (.var 1) .nil))))))) .nil))) (.cons (.bin .imax .i64 (.bin .imax .i64 (.lit 0) (.wrap .i64 (.bin .sub .i64 (.lit 0) (.app 121 1 (.cons (.var 0) .nil))))) (.wrap .i64 (.bin .sub .i64 (.lit 0) (.app 121 1 (.cons (.var 1) .nil))))) .nil)))))]), (.one (.bool (.app 4 0 (.cons (.app 122 0 (.cons (.app 121 0 (.cons (.var 0) .nil)) (.cons (.wrap .i64 (.bin .add .i64 (.app 121 1 (.cons (.var 0) .nil)) (.bin .imax .i64 (.bin .imax .i64 (.lit 0) (.wrap .i64 (.bin .sub .i64 (.lit 0) (.app 121 1 (.cons (.var 0) .nil))))) (.wrap .i64 (.bin .sub .i64 (.lit 0) (.app 121 1 (.cons (.var 1) .nil))))))) .nil))) (.cons (.app 122 0 (.cons (.app 121 0 (.cons (.var 1) .nil)) (.cons (.wrap .i64 (.bin .add .i64 (.app 121 1 (.cons (.var 1) .nil)) (.bin .imax .i64 (.bin .imax .i64 (.lit 0) (.wrap .i64 (.bin .sub .i64 (.lit 0) (.app 121 1 (.cons (.var 0) .nil))))) (.wrap .i64 (.bin .sub .i64 (.lit 0) (.app 121 1 (.cons (.var 1) .nil))))))) .nil))) (.cons (.bin .imax .i64 (.bin .imax .i64 (.lit 0) (.wrap .i64 (.bin .sub .i64 (.lit 0) (.app 121 1 (.cons (.var 0) .nil))))) (.wrap .i64 (.bin .sub .i64 (.lit 0) (.app 121 1 (.cons (.var 1) .nil))))) .nil))))))])) (.leaf (.tup [(.agg [(.int .i64 (.lit 0)), (.int .i64 (.lit 0)), (.int .i64 (.lit 0))]), (.one (.bool (.lit false)))]))) (.leaf (.tup [(.agg [(.int .i64 (.lit 0)), (.int .i64 (.lit 0)), (.int .i64 (.lit 0))]), (.one (.bool (.lit false)))]))) (.dead 47)) (.dead 47))) (.dead 47)) (.dead 47))) (.leaf (.tup [(.agg [(.int .i64 (.lit 0)), (.int .i64 (.lit 0)), (.int .i64 (.lit 0))]), (.one (.bool (.lit false)))])))) (.leaf (.tup [(.agg [(.int .i64 (.lit 0)), (.int .i64 (.lit 0)), (.int .i64 (.lit 0))]), (.one (.bool (.lit false)))])))
theorem t_iDOf_eq : explore XE1 200 11 (lettersFrom 0 [1002]) 40 [] = t_iDOf := by kernel_rfl
theorem ok_iDOf (w : World) (hT : Tb w) : e_iDOf.ok Tryd.prog w (FI pv) FB := by
  refine by_treeT (e := e_iDOf) (fi := FI pv) (fb := FB) (X := XE1) (fuel := 200) (d := 40) (enters_of Tryd.func11 rfl (by kernel_rfl)) (fun w zs hT => XE1_ok w hT _ rfl rfl) mixed (fun zs hz hp => ?_) w hT
  obtain ⟨a, b, rfl⟩ := len2 hz
  show (explore XE1 200 11 (lettersFrom 0 [1002]) 40 []).den _ = _
  rw [t_iDOf_eq]
  clear hz
  replace hp : (finw a && finw b) = true := hp _ rfl
  show Tree.den _ t_iDOf = some (.tuple #[.agg #[.int .i64 (FI pv 123 0 [a, b]), .int .i64 (FI pv 123 1 [a, b]), .int .i64 (FI pv 123 2 [a, b])], .bool (DOk a b)])
  simp only [t_iDOf, Tree.den, SVal.den, CV.den, At.den, SE.den, SB.den, SL.den, IOp.den, COp.den, envOf, List.map_cons, List.map_nil, List.getD_cons_zero, List.getD_cons_succ]
  simp only [Bool.and_eq_true] at hp
  obtain ⟨ha, hb⟩ := hp
  simp only [ite_max]
  obtain ⟨p1, p2, p3, p4⟩ := SP_rng ha
  obtain ⟨q1, q2, q3, q4⟩ := SP_rng hb
  have key : ∀ a : Int, finw a = true → (ordI (Ieee.double.order a.toNat a.toNat) == 0) = true ∧ (ordI (Ieee.double.order (IntKind.u64.wrap ↑(BitVec.ofInt IntKind.u64.bits (if 0 > a then 0 else a) &&& ~~~BitVec.ofInt IntKind.u64.bits 9223372036854775808).toNat).toNat 9218868437227405311) == 1) = false := by
    intro a h
    obtain ⟨b, rfl, hb, hf⟩ := finw_of h
    refine ⟨by rw [Int.toNat_natCast, Fl.fin_self hb hf]; rfl, ?_⟩
    rw [imax0 (by omega), show IntKind.u64.bits = 64 from rfl, Fl.and_not_sign hb, wrap_u (by omega) (by omega), Int.toNat_natCast]
    exact ordI_ne (k := .gt) (Fl.fin_abs hb hf)
  obtain ⟨a1, a2⟩ := key a ha
  obtain ⟨b1, b2⟩ := key b hb
  have im : ∀ a : Int, finw a = true → max a 0 = (if 0 > a then 0 else a) := fun a h => by obtain ⟨b, rfl, -⟩ := finw_of h; rw [imax0 (by omega)]; omega
  rw [im a ha, im b hb]
  rw [show (fkOf IntKind.u64).format = Ieee.double from rfl, a1, b1, show Int.toNat 9218868437227405311 = 9218868437227405311 from rfl, a2, b2, show FB 118 0 [a] = true from ha, show FB 118 0 [b] = true from hb]
  simp only [cond_true, cond_false]
  have hs : max (max 0 (IntKind.i64.wrap (0 - FI pv 121 1 [a]))) (IntKind.i64.wrap (0 - FI pv 121 1 [b])) = DOs a b := by
    rw [f121b, f121b, wrap_in (x := 0 - SPp a) (by omega) (by omega), wrap_in (x := 0 - SPp b) (by omega) (by omega)]
    unfold DOs; rw [Int.zero_sub, Int.zero_sub]
  rw [hs, f121a, f121a, f121b, f121b]
  have s0 : 0 ≤ SPp a + DOs a b := by unfold DOs; omega
  have s1 : 0 ≤ SPp b + DOs a b := by unfold DOs; omega
  have s2 : 0 ≤ DOs a b ∧ DOs a b ≤ 1074 := by unfold DOs; omega
  have hk : DOk a b = (decide (DOs a b ≤ 60) && RPok (SPo a) (SPp a + DOs a b) && RPok (SPo b) (SPp b + DOs a b) && MK (DOr a b) (DOi a b) (DOs a b)) := rfl
  by_cases h60 : 60 < DOs a b
  · rw [decide_eq_true h60]
    have : DOk a b = false := by rw [hk, decide_eq_false (show ¬ DOs a b ≤ 60 by omega)]; rfl
    have hn : ¬ DOk a b = true := by rw [this]; decide
    rw [this, show FI pv 123 0 [a, b] = 0 from if_neg hn, show FI pv 123 1 [a, b] = 0 from if_neg hn, show FI pv 123 2 [a, b] = 0 from if_neg hn]; rfl
  rw [decide_eq_false h60, wrap_in (x := SPp a + DOs a b) (by omega) (by omega), wrap_in (x := SPp b + DOs a b) (by omega) (by omega), g117 p1 p2 s0 (by omega), g117 q1 q2 s1 (by omega)]
  simp only [cond_true, cond_false]
  have e1 : FB 122 0 [SPo a, SPp a + DOs a b] = RPok (SPo a) (SPp a + DOs a b) := rfl
  have e2 : FB 122 0 [SPo b, SPp b + DOs a b] = RPok (SPo b) (SPp b + DOs a b) := rfl
  rw [e1, e2]
  cases g1 : RPok (SPo a) (SPp a + DOs a b)
  · have : DOk a b = false := by rw [hk, g1, Bool.and_false]; rfl
    have hn : ¬ DOk a b = true := by rw [this]; decide
    rw [this, show FI pv 123 0 [a, b] = 0 from if_neg hn, show FI pv 123 1 [a, b] = 0 from if_neg hn, show FI pv 123 2 [a, b] = 0 from if_neg hn]; rfl
  cases g2 : RPok (SPo b) (SPp b + DOs a b)
  · have : DOk a b = false := by rw [hk, g2, Bool.and_false]; rfl
    have hn : ¬ DOk a b = true := by rw [this]; decide
    rw [this, show FI pv 123 0 [a, b] = 0 from if_neg hn, show FI pv 123 1 [a, b] = 0 from if_neg hn, show FI pv 123 2 [a, b] = 0 from if_neg hn]; rfl
  have e3 : FI pv 122 0 [SPo a, SPp a + DOs a b] = DOr a b := if_pos g1
  have e4 : FI pv 122 0 [SPo b, SPp b + DOs a b] = DOi a b := if_pos g2
  rw [e3, e4]
  simp only [cond_true]
  have e5 : FB 4 0 [DOr a b, DOi a b, DOs a b] = MK (DOr a b) (DOi a b) (DOs a b) := rfl
  have hk2 : DOk a b = MK (DOr a b) (DOi a b) (DOs a b) := by rw [hk, decide_eq_true (show DOs a b ≤ 60 by omega), g1, g2]; rfl
  have e6 : FI pv 4 0 [DOr a b, DOi a b, DOs a b] = FI pv 123 0 [a, b] := by
    show (if MK (DOr a b) (DOi a b) (DOs a b) then _ else _) = (if DOk a b then _ else _); rw [hk2]
  have e7 : FI pv 4 1 [DOr a b, DOi a b, DOs a b] = FI pv 123 1 [a, b] := by
    show (if MK (DOr a b) (DOi a b) (DOs a b) then _ else _) = (if DOk a b then _ else _); rw [hk2]
  have e8 : FI pv 4 2 [DOr a b, DOi a b, DOs a b] = FI pv 123 2 [a, b] := by
    show (if MK (DOr a b) (DOi a b) (DOs a b) then _ else _) = (if DOk a b then _ else _); rw [hk2]
  rw [e5, e6, e7, e8, hk2]
def GE2 : List CEnt := [e_iDOf] ++ GE1
theorem GE2_ok : ∀ e ∈ GE2, ∀ w : World, Tb w → e.ok Tryd.prog w (FI pv) FB := by
  intro e he w hT
  rcases List.mem_append.1 he with he | he
  case inr => exact GE1_ok e he w hT
  simp only [List.mem_cons, List.not_mem_nil, or_false] at he
  rcases he with rfl
  · exact ok_iDOf w hT
def enE2 : List Nat := [59, 43, 19, 8, 28]
theorem enE2_59 : Enters Tryd.prog 59 := enters_of Tryd.func59 rfl (by kernel_rfl)
theorem enE2_43 : Enters Tryd.prog 43 := enters_of Tryd.func43 rfl (by kernel_rfl)
theorem enE2_19 : Enters Tryd.prog 19 := enters_of Tryd.func19 rfl (by kernel_rfl)
theorem enE2_8 : Enters Tryd.prog 8 := enters_of Tryd.func8 rfl (by kernel_rfl)
theorem enE2_28 : Enters Tryd.prog 28 := enters_of Tryd.func28 rfl (by kernel_rfl)
theorem enE2_ok : ∀ f ∈ enE2, Enters Tryd.prog f := by
  intro f hf
  simp only [enE2, List.mem_cons, List.not_mem_nil, or_false] at hf
  rcases hf with rfl | rfl | rfl | rfl | rfl
  · exact enE2_59
  · exact enE2_43
  · exact enE2_19
  · exact enE2_8
  · exact enE2_28
def XE2c (P : Program) : Cx := { P := P, G := GE2, en := enE2, call := nil0, L := [], R := [], ext := xF }
noncomputable def XE2 : Cx := XE2c Tryd.prog
theorem XE2_ok (w : World) (hT : Tb w) (E : Env) (hi : E.fi = FI pv) (hb : E.fb = FB) : XOk XE2 w E := xokT GE2_ok enE2_ok (fun _ h => by cases h) (fun _ h => by cases h) xF_ok w hT E hi hb
end Go.Proofs.YtjpmpjcenajmbaaDoor
/- A word of an exact number is read back. -/
namespace Go.Proofs.YtjpmpjcenajmbaaDoor
set_option linter.unusedSimpArgs false
set_option linter.unusedVariables false
open Go.RowKit Eng
theorem pow_cancel {a b : Int} {j k : Nat} (h : a * 2 ^ j = b * 2 ^ k) (hb : b % 2 = 1) : ∃ u : Nat, k = j + u ∧ a = b * 2 ^ u := by
  by_cases hk : j ≤ k
  · obtain ⟨u, rfl⟩ : ∃ u, k = j + u := ⟨k - j, by omega⟩
    refine ⟨u, rfl, ?_⟩
    rw [Int.pow_add, ← Int.mul_assoc, Int.mul_right_comm] at h
    exact Int.eq_of_mul_eq_mul_right (by have := pos2 j; omega) h
  · exfalso
    obtain ⟨u, rfl⟩ : ∃ u, j = k + (u + 1) := ⟨j - k - 1, by omega⟩
    rw [Int.pow_add, ← Int.mul_assoc, Int.mul_right_comm] at h
    have h2 := Int.eq_of_mul_eq_mul_right (by have := pos2 k; omega) h
    rw [Int.pow_succ, ← Int.mul_assoc] at h2
    omega
theorem sp_dw {n s : Int} (h0 : n ≠ 0) (hn : n.natAbs ≤ 1073741824) (hs : 0 ≤ s ∧ s ≤ 60) : ∃ u : Nat, SPp (DWi n s) + s = u ∧ n = SPo (DWi n s) * 2 ^ u ∧ SPo (DWi n s) % 2 = 1 := by
  obtain ⟨hN, hf, hw⟩ := Fl.DWn_nrm (n := n) (s := s.toNat) h0 (by omega) (by omega)
  have hv := Fl.V_unique (Fl.V_nrm hN) (Fl.V_DWn (n := n) (s := s.toNat) (by omega) (by omega))
  have hf0 : ¬ Fl.fld (Fl.DWn n s.toNat) = 0 := by have := hN.lo; omega
  have hd : dig (DWi n s) = (Fl.mant (Fl.DWn n s.toNat) : Nat) := by
    unfold dig DWi; rw [Int.toNat_natCast, if_neg hf0]; unfold Fl.mant; omega
  have hp : dpw (DWi n s) = (Fl.fld (Fl.DWn n s.toNat) : Nat) - 1075 := by
    unfold dpw DWi; rw [Int.toNat_natCast, if_neg hf0]
  have hng : (DWi n s / 9223372036854775808 = 1) ↔ Fl.neg (Fl.DWn n s.toNat) = true := by
    unfold DWi Fl.neg; rw [beq_iff_eq]; omega
  have hm1 : (1 : Int) ≤ (Fl.mant (Fl.DWn n s.toNat) : Nat) := by unfold Fl.mant; omega
  have hm2 : ((Fl.mant (Fl.DWn n s.toNat) : Nat) : Int) ≤ 18446744073709551615 := by unfold Fl.mant; omega
  have hlo := hN.lo
  generalize DWi n s = W at *
  generalize Fl.DWn n s.toNat = b at *
  obtain ⟨m, hm, hq⟩ := tz_split (Fl.mant b) (Fl.mant b : Nat) (by omega) hm1 hm2
  have t0 := tz_nonneg ((Fl.mant b : Nat) : Int)
  obtain ⟨t, ht⟩ : ∃ t : Nat, tz ((Fl.mant b : Nat) : Int) = t := ⟨(tz ((Fl.mant b : Nat) : Int)).toNat, by omega⟩
  rw [ht, Int.toNat_natCast] at hq
  have hodd : ((Fl.mant b : Nat) : Int) / 2 ^ t = 2 * m + 1 := by
    rw [hq]; exact Int.mul_ediv_cancel_left _ (by have := pos2 t; omega)
  have hSo : SPo W = if Fl.neg b = true then -(2 * m + 1) else 2 * m + 1 := by
    unfold SPo
    rw [hd, if_neg (by omega), ht, Int.toNat_natCast, hodd]
    by_cases hg : Fl.neg b = true
    · rw [if_pos (hng.2 hg), if_pos hg]
    · rw [if_neg (fun h => hg (hng.1 h)), if_neg hg]
  have hSp : SPp W = (Fl.fld b : Nat) - 1075 + t := by
    unfold SPp; rw [hd, if_neg (by omega), hp, ht]
  have e : n * 2 ^ (1074 - s.toNat) = SPo W * 2 ^ (t + (Fl.fld b - 1)) := by
    rw [← hv]
    unfold Fl.vN Fl.sg
    rw [hSo]
    have c : ((Fl.mant b * 2 ^ (Fl.fld b - 1) : Nat) : Int) = (2 * m + 1) * 2 ^ (t + (Fl.fld b - 1)) := by
      rw [Fl.cast_mul_pow, hq, Int.pow_add, ← Int.mul_assoc, Int.mul_comm (2 ^ t)]
    cases hg : Fl.neg b
    · simp only [Bool.false_eq_true, if_false]; exact c
    · simp only [if_true]; rw [c, Int.neg_mul]
  have hodd2 : SPo W % 2 = 1 := by rw [hSo]; split <;> omega
  obtain ⟨u, hu1, hu2⟩ := pow_cancel e hodd2
  exact ⟨u, by omega, hu2, hodd2⟩
theorem sp_zero (s : Int) : SPo (DWi 0 s) = 0 ∧ SPp (DWi 0 s) = 0 := by
  have : DWi 0 s = 0 := rfl
  rw [this]; exact ⟨rfl, rfl⟩
theorem dwi_fin {n s : Int} (hn : n.natAbs ≤ 1073741824) (hs : 0 ≤ s ∧ s ≤ 60) : finw (DWi n s) = true := by
  by_cases h0 : n = 0
  · subst h0
    rw [show DWi 0 s = 0 from rfl]; decide
  · obtain ⟨hN, -, -⟩ := Fl.DWn_nrm (n := n) (s := s.toNat) h0 (by omega) (by omega)
    have := hN.lt; have := hN.hi
    unfold finw DWi
    simp only [Bool.and_eq_true, decide_eq_true_eq, Int.toNat_natCast]; omega
theorem rp_ok {n o : Int} {u : Nat} (hn : n.natAbs ≤ 1073741824) (ho : o % 2 = 1) (h : n = o * 2 ^ u) : RPok o u = true ∧ u ≤ 30 := by
  have hp := pos2 u
  have ha : n.natAbs = o.natAbs * 2 ^ u := by rw [h, Int.natAbs_mul, Int.natAbs_pow]; rfl
  have hu : u ≤ 30 := by
    by_cases hc : u ≤ 30
    · exact hc
    · exfalso
      have h1 : 2 ^ 31 ≤ 2 ^ u := Nat.pow_le_pow_right (by decide) (by omega)
      have h2 : 1 * 2 ^ u ≤ o.natAbs * 2 ^ u := Nat.mul_le_mul_right _ (by omega)
      omega
  refine ⟨?_, hu⟩
  have hq : (o.natAbs : Int) ≤ 1073741824 / 2 ^ u := by
    rw [Int.le_ediv_iff_mul_le hp]
    have : ((o.natAbs * 2 ^ u : Nat) : Int) = (o.natAbs : Int) * 2 ^ u := Fl.cast_mul_pow _ _
    omega
  unfold RPok
  rw [Int.toNat_natCast, decide_eq_true (show (u : Int) ≤ 30 by omega), decide_eq_true (show -(1073741824 / 2 ^ u) ≤ o by omega), decide_eq_true (show o ≤ 1073741824 / 2 ^ u by omega)]
  simp
/-- A valid number is read back from its words. -/
theorem read_back {r i s : Int} (h : DV r i s = true) : DOk (DWi r s) (DWi i s) = true ∧ DOr (DWi r s) (DWi i s) = r ∧ DOi (DWi r s) (DWi i s) = i ∧ DOs (DWi r s) (DWi i s) = s := by
  obtain ⟨h1, h2, h3⟩ := dv_rngF h
  obtain ⟨_, _, _, _, _, _, hlow⟩ := (DV_iff r i s).1 h
  have part : ∀ n : Int, n.natAbs ≤ 1073741824 → -SPp (DWi n s) ≤ s ∧ (n % 2 = 1 → -SPp (DWi n s) = s) ∧ RPok (SPo (DWi n s)) (SPp (DWi n s) + s) = true ∧ SPo (DWi n s) * 2 ^ (SPp (DWi n s) + s).toNat = n := by
    intro n hn
    by_cases h0 : n = 0
    · subst h0
      obtain ⟨e1, e2⟩ := sp_zero s
      rw [e1, e2]
      exact ⟨by omega, by omega, rfl, by simp⟩
    · obtain ⟨u, u1, u2, u3⟩ := sp_dw h0 hn h3
      obtain ⟨r1, r2⟩ := rp_ok hn u3 u2
      rw [u1, Int.toNat_natCast]
      refine ⟨by omega, fun ho => ?_, r1, u2.symm⟩
      cases u with
      | zero => omega
      | succ v =>
        exfalso
        rw [Int.pow_succ, ← Int.mul_assoc] at u2
        omega
  obtain ⟨a1, a2, a3, a4⟩ := part r (by omega)
  obtain ⟨b1, b2, b3, b4⟩ := part i (by omega)
  have hS : DOs (DWi r s) (DWi i s) = s := by
    unfold DOs
    rcases hlow with e | e | e
    · omega
    · have := a2 (by omega); omega
    · have := b2 (by omega); omega
  have hR : DOr (DWi r s) (DWi i s) = r := by unfold DOr; rw [hS]; exact a4
  have hI : DOi (DWi r s) (DWi i s) = i := by unfold DOi; rw [hS]; exact b4
  refine ⟨?_, hR, hI, hS⟩
  obtain ⟨l1, l2, l3⟩ := l_norm r i s h
  unfold DOk
  rw [hS, hR, hI, a3, b3, decide_eq_true h3.2]
  unfold MK
  rw [l1, l2, l3, h, (MKr_iff r i s).2 ⟨by omega, by omega, by omega, by omega, by omega, by omega⟩]; rfl
end Go.Proofs.YtjpmpjcenajmbaaDoor
