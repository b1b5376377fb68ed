/- math.Ldexp of numbers that are neither great nor small: its contract. -/
import Derived.Test.YtgnkjfafgcbpbaaDoorFw0
import Derived.Test.YtgnkjfafgcbpbaaDoorFl2
namespace Go.Proofs.YtgnkjfafgcbpbaaDoor
set_option linter.unusedSimpArgs false
set_option linter.unusedVariables false
variable {pv : Int → Int → Int}
open Go.RowKit Eng
theorem nrm_of {a : Int} (h : nrm a = true) : ∃ b : Nat, a = b ∧ Fl.Nrm b := by
  unfold nrm at h
  simp only [Bool.and_eq_true, decide_eq_true_eq] at h
  exact ⟨a.toNat, by omega, by omega, by omega, by omega⟩
theorem nrm_iff (b : Nat) : nrm (b : Int) = true ↔ Fl.Nrm b := by
  unfold nrm
  simp only [Bool.and_eq_true, decide_eq_true_eq, Int.toNat_natCast]
  exact ⟨fun h => ⟨by omega, by omega, by omega⟩, fun h => ⟨⟨⟨by omega, by have := h.lt; omega⟩, h.lo⟩, h.hi⟩⟩
theorem wrap_u {x : Int} (h : 0 ≤ x) (h' : x ≤ 18446744073709551615) : IntKind.u64.wrap x = x := by
  simp [IntKind.wrap, IntKind.bits, IntKind.signed]; omega
theorem imax0 {a : Int} (h : 0 ≤ a) : (if 0 > a then 0 else a) = a := if_neg (by omega)
section
variable {b : Nat} (h : Fl.Nrm b)
include h
theorem exp_eq {e : Int} (h1 : -3000 ≤ e) (h2 : e ≤ 3000) : IntKind.i64.wrap (IntKind.i64.wrap (e + 0) + IntKind.i64.wrap (IntKind.i64.wrap ↑(BitVec.ofInt IntKind.i64.bits (IntKind.i64.wrap ((if 0 > (b : Int) then 0 else (b : Int)).fdiv (2 ^ min (Int.toNat 52) IntKind.u64.bits))) &&& BitVec.ofInt IntKind.i64.bits 2047).toNat - 1023)) = e + Fl.fld b - 1023 := by
  have hlt := h.lt
  rw [imax0 (by omega), show (2 : Int) ^ min (Int.toNat 52) IntKind.u64.bits = 4503599627370496 by decide, Int.fdiv_eq_ediv_of_nonneg _ (by decide)]
  rw [show ((b : Int) / 4503599627370496) = ((b / 4503599627370496 : Nat) : Int) by omega, wrap_in (x := ((b / 4503599627370496 : Nat) : Int)) (by omega) (by omega)]
  rw [show IntKind.i64.bits = 64 from rfl, Fl.and_mask (by omega)]
  have : b / 4503599627370496 % 2048 = Fl.fld b := rfl
  rw [this]
  have := h.hi
  rw [wrap_in (x := ((Fl.fld b : Nat) : Int)) (by omega) (by omega), wrap_in (x := ((Fl.fld b : Nat) : Int) - 1023) (by omega) (by omega), wrap_in (x := e + 0) (by omega) (by omega), wrap_in (by omega) (by omega)]
  omega
theorem word_eq {e : Int} (h1 : -3000 ≤ e) (h2 : e ≤ 3000) (h3 : 1 ≤ (Fl.fld b : Int) + e) (h4 : (Fl.fld b : Int) + e ≤ 2046) : IntKind.u64.wrap ↑(BitVec.ofInt IntKind.u64.bits (IntKind.u64.wrap ↑(BitVec.ofInt IntKind.u64.bits (if 0 > (b : Int) then 0 else (b : Int)) &&& ~~~BitVec.ofInt IntKind.u64.bits 9218868437227405312).toNat) ||| BitVec.ofInt IntKind.u64.bits (IntKind.u64.wrap (IntKind.u64.wrap (IntKind.i64.wrap (e + Fl.fld b - 1023 + 1023)) * 2 ^ min (Int.toNat 52) IntKind.u64.bits))).toNat = (b : Int) + e * 4503599627370496 := by
  have hlt := h.lt
  rw [imax0 (by omega), show (2 : Int) ^ min (Int.toNat 52) IntKind.u64.bits = 4503599627370496 by decide, show IntKind.u64.bits = 64 from rfl, Fl.and_not_exp hlt, wrap_in (x := e + Fl.fld b - 1023 + 1023) (by omega) (by omega)]
  obtain ⟨k, hk⟩ : ∃ k : Nat, e + Fl.fld b - 1023 + 1023 = k := ⟨(e + Fl.fld b).toNat, by omega⟩
  have hk2 : k < 2048 := by omega
  rw [hk, wrap_u (x := (k : Int)) (by omega) (by omega), show (k : Int) * 4503599627370496 = ((k * 4503599627370496 : Nat) : Int) by omega, wrap_u (x := ((k * 4503599627370496 : Nat) : Int)) (by omega) (by omega), wrap_u (x := ((9223372036854775808 * (b / 9223372036854775808) + b % 4503599627370496 : Nat) : Int)) (by omega) (by omega), Fl.or_exp (by omega) (by omega) hk2, wrap_u (by omega) (by omega)]
  unfold Fl.fld at hk
  omega
theorem abs_eq : IntKind.u64.wrap ↑(BitVec.ofInt IntKind.u64.bits (if 0 > (b : Int) then 0 else (b : Int)) &&& ~~~BitVec.ofInt IntKind.u64.bits 9223372036854775808).toNat = ((b % 9223372036854775808 : Nat) : Int) := by
  have hlt := h.lt
  rw [imax0 (by omega), show IntKind.u64.bits = 64 from rfl, Fl.and_not_sign hlt, wrap_u (by omega) (by omega)]
end
theorem ordI_ne {o : Option Ordering} {k : Ordering} (h : o ≠ some k) : (ordI o == ordI (some k)) = false := by
  rcases o with _ | (_ | _ | _) <;> cases k <;> first | rfl | exact absurd rfl h
def kn_ldA : Kn := [((.cmp .le (.lit 0) (.bin .fmul .u64 (.lit 4607182418800017408) (.wrap .u64 (.bin .bor .u64 (.wrap .u64 (.bin .bandn .u64 (.bin .imax .i64 (.var 0) (.lit 0)) (.lit 9218868437227405312))) (.wrap .u64 (.bin .shl .u64 (.wrap .u64 (.wrap .i64 (.bin .add .i64 (.wrap .i64 (.bin .add .i64 (.wrap .i64 (.bin .add .i64 (.var 1) (.lit 0))) (.wrap .i64 (.bin .sub .i64 (.wrap .i64 (.bin .band .i64 (.wrap .i64 (.bin .shr .u64 (.bin .imax .i64 (.var 0) (.lit 0)) (.lit 52))) (.lit 2047))) (.lit 1023))))) (.lit 1023)))) (.lit 52))))))), true), ((.cmp .lt (.wrap .i64 (.bin .add .i64 (.wrap .i64 (.bin .add .i64 (.var 1) (.lit 0))) (.wrap .i64 (.bin .sub .i64 (.wrap .i64 (.bin .band .i64 (.wrap .i64 (.bin .shr .u64 (.bin .imax .i64 (.var 0) (.lit 0)) (.lit 52))) (.lit 2047))) (.lit 1023))))) (.lit (-1022))), false), ((.cmp .lt (.lit 1023) (.wrap .i64 (.bin .add .i64 (.wrap .i64 (.bin .add .i64 (.var 1) (.lit 0))) (.wrap .i64 (.bin .sub .i64 (.wrap .i64 (.bin .band .i64 (.wrap .i64 (.bin .shr .u64 (.bin .imax .i64 (.var 0) (.lit 0)) (.lit 52))) (.lit 2047))) (.lit 1023)))))), false), ((.cmp .lt (.wrap .i64 (.bin .add .i64 (.wrap .i64 (.bin .add .i64 (.var 1) (.lit 0))) (.wrap .i64 (.bin .sub .i64 (.wrap .i64 (.bin .band .i64 (.wrap .i64 (.bin .shr .u64 (.bin .imax .i64 (.var 0) (.lit 0)) (.lit 52))) (.lit 2047))) (.lit 1023))))) (.lit (-1075))), false), ((.cmp .eq (.bin .ford .u64 (.wrap .u64 (.bin .bandn .u64 (.bin .imax .i64 (.var 0) (.lit 0)) (.lit 9223372036854775808))) (.lit 4503599627370496)) (.lit (-1))), false), ((.cmp .eq (.bin .ford .u64 (.var 0) (.var 0)) (.lit 0)), true), ((.cmp .eq (.bin .ford .u64 (.wrap .u64 (.bin .bandn .u64 (.bin .imax .i64 (.var 0) (.lit 0)) (.lit 9223372036854775808))) (.lit 9218868437227405311)) (.lit 1)), false), ((.cmp .eq (.bin .ford .u64 (.var 0) (.lit 0)) (.lit 0)), false)]
theorem run_ldA : runFn XF0 kn_ldA 200 42 (lettersFrom 0 [1001, 0]) = .ok (.cv (.one (.flt .f64 (.bin .fmul .u64 (.lit 4607182418800017408) (.wrap .u64 (.bin .bor .u64 (.wrap .u64 (.bin .bandn .u64 (.bin .imax .i64 (.var 0) (.lit 0)) (.lit 9218868437227405312))) (.wrap .u64 (.bin .shl .u64 (.wrap .u64 (.wrap .i64 (.bin .add .i64 (.wrap .i64 (.bin .add .i64 (.wrap .i64 (.bin .add .i64 (.var 1) (.lit 0))) (.wrap .i64 (.bin .sub .i64 (.wrap .i64 (.bin .band .i64 (.wrap .i64 (.bin .shr .u64 (.bin .imax .i64 (.var 0) (.lit 0)) (.lit 52))) (.lit 2047))) (.lit 1023))))) (.lit 1023)))) (.lit 52))))))))) := by kernel_rfl
def kn_ldB : Kn := [((.cmp .eq (.bin .ford .u64 (.var 0) (.lit 0)) (.lit 0)), true)]
theorem run_ldB : runFn XF0 kn_ldB 200 42 (lettersFrom 0 [1001, 0]) = .ok (.cv (.one (.flt .f64 (.var 0)))) := by kernel_rfl
def e_ldexp : CEnt := ⟨42, [1001, 0], some (.app 110 0 (vs 2)), .cv (.one (.flt .f64 (.app 110 0 (vs 2))))⟩
theorem ok_ldexp (w : World) : e_ldexp.ok Tryd.prog w (FI pv) FB := by
  refine by_path (X := XF0) (fuel := 200) (enters_of Tryd.func42 rfl (by kernel_rfl)) (fun w zs => XF0_ok w _ rfl rfl) mixed (fun zs hz hp => ?_) w
  obtain ⟨a, b, rfl⟩ := len2 hz
  clear hz
  replace hp : LDok a b = true := hp _ rfl
  by_cases h0 : a = 0
  · subst h0
    refine ⟨kn_ldB, _, run_ldB, kn_ok_cons ?_ (kn_ok_nil _), ?_⟩
    · show (ordI (Ieee.double.order 0 0) == 0) = true
      decide
    · show Value.float .f64 (Int.toNat 0) = .float .f64 (LD 0 b).toNat
      rfl
  · unfold LDok at hp
    rw [beq_eq_false_iff_ne.2 h0, Bool.false_or] at hp
    simp only [Bool.and_eq_true, decide_eq_true_eq] at hp
    obtain ⟨⟨⟨⟨hn, h1⟩, h2⟩, h3⟩, h4⟩ := hp
    obtain ⟨x, rfl, hN⟩ := nrm_of hn
    rw [Int.toNat_natCast] at h1 h2
    have hb := hN.lt
    obtain ⟨y, hy⟩ : ∃ y : Nat, (y : Int) = x + b * 4503599627370496 := ⟨((x : Int) + b * 4503599627370496).toNat, by unfold Fl.fld at h1; omega⟩
    obtain ⟨hN', -⟩ := Fl.nrm_shift (b' := y) (k := b) hN hy h1 h2
    have hm : oInt (Ieee.double.mul 4607182418800017408 y) = y := by rw [Fl.mul_one hN']; rfl
    refine ⟨kn_ldA, _, run_ldA, kn_ok_cons ?_ (kn_ok_cons ?_ (kn_ok_cons ?_ (kn_ok_cons ?_ (kn_ok_cons ?_ (kn_ok_cons ?_ (kn_ok_cons ?_ (kn_ok_cons ?_ (kn_ok_nil _)))))))), ?_⟩
    all_goals simp only [SB.den, SVal.den, CV.den, At.den, SE.den, COp.den, IOp.den, envOf, List.getD_cons_zero, List.getD_cons_succ, exp_eq hN h3 h4, word_eq hN h3 h4 h1 h2, abs_eq hN, ← hy, Int.toNat_natCast, show (fkOf IntKind.u64).format = Ieee.double from rfl, show Int.toNat 4607182418800017408 = 4607182418800017408 from rfl, hm]
    · exact decide_eq_true (by omega)
    · exact decide_eq_false (by omega)
    · exact decide_eq_false (by omega)
    · exact decide_eq_false (by omega)
    · exact ordI_ne (k := .lt) (Fl.abs_not_lt hN)
    · rw [Fl.order_self (Fl.V_nrm hN)]; rfl
    · exact ordI_ne (k := .gt) (Fl.abs_not_gt hN)
    · exact ordI_ne (k := .eq) (Fl.order_zero hN)
    · show Value.float .f64 y = .float .f64 (LD (x : Int) b).toNat
      unfold LD
      rw [if_neg h0, ← hy, Int.toNat_natCast]
def GF1 : List CEnt := [e_ldexp] ++ G2
theorem GF1_ok : ∀ e ∈ GF1, ∀ w : World, e.ok Tryd.prog w (FI pv) FB := by
  intro e he w
  rcases List.mem_append.1 he with he | he
  case inr => exact G2_ok e he w
  simp only [List.mem_cons, List.not_mem_nil, or_false] at he
  rcases he with rfl
  · exact ok_ldexp w
def XF1c (P : Program) : Cx := { P := P, G := GF1, en := enF, call := nil0, L := [], R := [], ext := xF }
noncomputable def XF1 : Cx := XF1c Tryd.prog
theorem XF1_ok (w : World) (E : Env) (hi : E.fi = FI pv) (hb : E.fb = FB) : XOk XF1 w E := xokX GF1_ok enF_ok (fun _ h => by cases h) (fun _ h => by cases h) xF_ok w E hi hb
end Go.Proofs.YtgnkjfafgcbpbaaDoor
