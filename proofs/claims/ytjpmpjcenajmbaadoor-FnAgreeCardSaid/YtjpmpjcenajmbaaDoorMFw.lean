import Derived.Test.YtjpmpjcenajmbaaDoorBo2
import Derived.Laws.Externs
import Derived.Test.YtjpmpjcenajmbaaDoorMFm
import Derived.Test.YtjpmpjcenajmbaaDoorLoop
/- Floats and their words: what the machine itself gives, as contracts. -/
namespace Go.Proofs.YtjpmpjcenajmbaaDoor
set_option linter.unusedSimpArgs false
set_option linter.unusedVariables false
variable {pv : Int → Int → Int}
open Go.RowKit Eng
def e_f64b : CEnt := ⟨57, [1001], none, .cv (.one (.int .u64 (.bin .imax .i64 (vv 0) (.lit 0))))⟩
theorem ok_f64b : e_f64b.okX Tryd.prog (FI pv) FB := by
  intro zs hz w
  obtain ⟨b, rfl⟩ := len1 hz
  refine (run_callFunc_extern Tryd.func57 (by kernel_rfl) (by kernel_rfl) (by kernel_rfl) (show Extern.find Tryd.f57 = some Extern.MathFloatBits.float64bits by kernel_rfl) _ w).trans ?_
  show Result.ok (Next.value (Value.int .u64 ((b.toNat : Nat) : Int))) w = Result.ok (.value (.int .u64 (if 0 > b then 0 else b))) w
  have e : ((b.toNat : Nat) : Int) = if 0 > b then 0 else b := by split <;> omega
  rw [e]
def e_f64f : CEnt := ⟨68, [1000], none, .cv (.one (.flt .f64 (vv 0)))⟩
theorem ok_f64f : e_f64f.okX Tryd.prog (FI pv) FB := by
  intro zs hz w
  obtain ⟨b, rfl⟩ := len1 hz
  exact (run_callFunc_extern Tryd.func68 (by kernel_rfl) (by kernel_rfl) (by kernel_rfl) (show Extern.find Tryd.f68 = some Extern.MathFloatBits.float64frombits by kernel_rfl) _ w).trans rfl
def xF : List CEnt := [
  e_f64b, e_f64f
  ]
theorem xF_ok : ∀ e ∈ xF, e.okX Tryd.prog (FI pv) FB := by
  unfold xF
  refine List.forall_mem_cons.2 ⟨ok_f64b, ?_⟩
  refine List.forall_mem_cons.2 ⟨ok_f64f, ?_⟩
  exact fun e he => by cases he
theorem xokX {G : List CEnt} {en : List Nat} {L : List LEnt} {R : List REnt} {xs : List CEnt} (hG : ∀ e ∈ G, ∀ w : World, e.ok Tryd.prog w (FI pv) FB) (hen : ∀ f ∈ en, Enters Tryd.prog f) (hL : ∀ e ∈ L, ∀ w : World, e.ok Tryd.prog w (FI pv) FB) (hR : ∀ e ∈ R, ∀ w : World, e.ok Tryd.prog w (FI pv) FB) (hx : ∀ e ∈ xs, e.okX Tryd.prog (FI pv) FB) (w : World) (E : Env) (hi : E.fi = FI pv) (hb : E.fb = FB) : XOk { P := Tryd.prog, G := G, en := en, call := nil0, L := L, R := R, ext := xs } w E :=
  { g := (fun e he => by rw [hi, hb]; exact hG e he w), en := hen, call := (fun _ _ _ _ _ h => by cases h), l := (fun e he => by rw [hi, hb]; exact hL e he w), d := (fun _ _ h => by cases h), r := (fun e he => by rw [hi, hb]; exact hR e he w), x := (fun e he => by rw [hi, hb]; exact hx e he) }
/-- A contract by the ways that its inputs go. -/
theorem by_path {X : Cx} {e : CEnt} {fuel : Nat} (hen : Enters X.P e.f) (hX : ∀ (w : World) zs, XOk X w (envOf zs (FI pv) FB)) (hm : X.P.follows .mixedOrders = true)
    (h : ∀ zs : List Int, zs.length = insLen e.ins → (∀ c, e.pre = some c → c.den (envOf zs (FI pv) FB) = true) → ∃ (kn : Kn) (r : SVal), runFn X kn fuel e.f (lettersFrom 0 e.ins) = .ok r ∧ kn.ok (envOf zs (FI pv) FB) ∧ r.den (envOf zs (FI pv) FB) Pl.no = e.out.den (envOf zs (FI pv) FB) Pl.no) (w0 : World) : e.ok X.P w0 (FI pv) FB := by
  refine ⟨hen, fun zs hz hp w _ => ?_⟩
  obtain ⟨kn, r, hr, hk, ht⟩ := h zs hz hp
  have := runFn_ok hk (hX w zs) hm hr
  rw [letters_den (FI pv) FB zs e.ins 0 zs hz (fun i _ => by simp), ht] at this
  exact this
theorem kn_ok_nil (E : Env) : Kn.ok E [] := fun p hp => by cases hp
theorem kn_ok_cons {E : Env} {c : SB} {b : Bool} {kn : Kn} (h : c.den E = b) (hk : Kn.ok E kn) : Kn.ok E ((c, b) :: kn) := kn_cons hk h
def enF : List Nat := [46, 65, 32, 31, 70, 71, 72, 56, 59, 43]
theorem enF_46 : Enters Tryd.prog 46 := enters_of Tryd.func46 rfl (by kernel_rfl)
theorem enF_65 : Enters Tryd.prog 65 := enters_of Tryd.func65 rfl (by kernel_rfl)
theorem enF_32 : Enters Tryd.prog 32 := enters_of Tryd.func32 rfl (by kernel_rfl)
theorem enF_31 : Enters Tryd.prog 31 := enters_of Tryd.func31 rfl (by kernel_rfl)
theorem enF_70 : Enters Tryd.prog 70 := enters_of Tryd.func70 rfl (by kernel_rfl)
theorem enF_71 : Enters Tryd.prog 71 := enters_of Tryd.func71 rfl (by kernel_rfl)
theorem enF_72 : Enters Tryd.prog 72 := enters_of Tryd.func72 rfl (by kernel_rfl)
theorem enF_56 : Enters Tryd.prog 56 := enters_of Tryd.func56 rfl (by kernel_rfl)
theorem enF_59 : Enters Tryd.prog 59 := enters_of Tryd.func59 rfl (by kernel_rfl)
theorem enF_43 : Enters Tryd.prog 43 := enters_of Tryd.func43 rfl (by kernel_rfl)
theorem enF_ok : ∀ f ∈ enF, Enters Tryd.prog f := by
  intro f hf
  simp only [enF, List.mem_cons, List.not_mem_nil, or_false] at hf
  rcases hf with rfl | rfl | rfl | rfl | rfl | rfl | rfl | rfl | rfl | rfl
  · exact enF_46
  · exact enF_65
  · exact enF_32
  · exact enF_31
  · exact enF_70
  · exact enF_71
  · exact enF_72
  · exact enF_56
  · exact enF_59
  · exact enF_43
def XF0c (P : Program) : Cx := { P := P, G := G2, en := enF, call := nil0, L := [], R := [], ext := xF }
noncomputable def XF0 : Cx := XF0c Tryd.prog
theorem XF0_ok (w : World) (E : Env) (hi : E.fi = FI pv) (hb : E.fb = FB) : XOk XF0 w E := xokX G2_ok enF_ok (fun _ h => by cases h) (fun _ h => by cases h) xF_ok w E hi hb
end Go.Proofs.YtjpmpjcenajmbaaDoor
/- math.Ldexp of numbers that are neither great nor small: its contract. -/
namespace Go.Proofs.YtjpmpjcenajmbaaDoor
set_option linter.unusedSimpArgs false
set_option linter.unusedVariables false
variable {pv : Int → Int → Int}
open Go.RowKit Eng
theorem nrm_of {a : Int} (h : nrm a = true) : ∃ b : Nat, a = b ∧ Fl.Nrm b := by
  unfold nrm at h
  simp only [Bool.and_eq_true, decide_eq_true_eq] at h
  exact ⟨a.toNat, by omega, by omega, by omega, by omega⟩
theorem nrm_iff (b : Nat) : nrm (b : Int) = true ↔ Fl.Nrm b := by
  unfold nrm
  simp only [Bool.and_eq_true, decide_eq_true_eq, Int.toNat_natCast]
  exact ⟨fun h => ⟨by omega, by omega, by omega⟩, fun h => ⟨⟨⟨by omega, by have := h.lt; omega⟩, h.lo⟩, h.hi⟩⟩
theorem wrap_u {x : Int} (h : 0 ≤ x) (h' : x ≤ 18446744073709551615) : IntKind.u64.wrap x = x := by
  simp [IntKind.wrap, IntKind.bits, IntKind.signed]; omega
theorem imax0 {a : Int} (h : 0 ≤ a) : (if 0 > a then 0 else a) = a := if_neg (by omega)
section
variable {b : Nat} (h : Fl.Nrm b)
include h
theorem exp_eq {e : Int} (h1 : -3000 ≤ e) (h2 : e ≤ 3000) : IntKind.i64.wrap (IntKind.i64.wrap (e + 0) + IntKind.i64.wrap (IntKind.i64.wrap ↑(BitVec.ofInt IntKind.i64.bits (IntKind.i64.wrap ((if 0 > (b : Int) then 0 else (b : Int)).fdiv (2 ^ min (Int.toNat 52) IntKind.u64.bits))) &&& BitVec.ofInt IntKind.i64.bits 2047).toNat - 1023)) = e + Fl.fld b - 1023 := by
  have hlt := h.lt
  rw [imax0 (by omega), show (2 : Int) ^ min (Int.toNat 52) IntKind.u64.bits = 4503599627370496 by decide, Int.fdiv_eq_ediv_of_nonneg _ (by decide)]
  rw [show ((b : Int) / 4503599627370496) = ((b / 4503599627370496 : Nat) : Int) by omega, wrap_in (x := ((b / 4503599627370496 : Nat) : Int)) (by omega) (by omega)]
  rw [show IntKind.i64.bits = 64 from rfl, Fl.and_mask (by omega)]
  have : b / 4503599627370496 % 2048 = Fl.fld b := rfl
  rw [this]
  have := h.hi
  rw [wrap_in (x := ((Fl.fld b : Nat) : Int)) (by omega) (by omega), wrap_in (x := ((Fl.fld b : Nat) : Int) - 1023) (by omega) (by omega), wrap_in (x := e + 0) (by omega) (by omega), wrap_in (by omega) (by omega)]
  omega
theorem word_eq {e : Int} (h1 : -3000 ≤ e) (h2 : e ≤ 3000) (h3 : 1 ≤ (Fl.fld b : Int) + e) (h4 : (Fl.fld b : Int) + e ≤ 2046) : IntKind.u64.wrap ↑(BitVec.ofInt IntKind.u64.bits (IntKind.u64.wrap ↑(BitVec.ofInt IntKind.u64.bits (if 0 > (b : Int) then 0 else (b : Int)) &&& ~~~BitVec.ofInt IntKind.u64.bits 9218868437227405312).toNat) ||| BitVec.ofInt IntKind.u64.bits (IntKind.u64.wrap (IntKind.u64.wrap (IntKind.i64.wrap (e + Fl.fld b - 1023 + 1023)) * 2 ^ min (Int.toNat 52) IntKind.u64.bits))).toNat = (b : Int) + e * 4503599627370496 := by
  have hlt := h.lt
  rw [imax0 (by omega), show (2 : Int) ^ min (Int.toNat 52) IntKind.u64.bits = 4503599627370496 by decide, show IntKind.u64.bits = 64 from rfl, Fl.and_not_exp hlt, wrap_in (x := e + Fl.fld b - 1023 + 1023) (by omega) (by omega)]
  obtain ⟨k, hk⟩ : ∃ k : Nat, e + Fl.fld b - 1023 + 1023 = k := ⟨(e + Fl.fld b).toNat, by omega⟩
  have hk2 : k < 2048 := by omega
  rw [hk, wrap_u (x := (k : Int)) (by omega) (by omega), show (k : Int) * 4503599627370496 = ((k * 4503599627370496 : Nat) : Int) by omega, wrap_u (x := ((k * 4503599627370496 : Nat) : Int)) (by omega) (by omega), wrap_u (x := ((9223372036854775808 * (b / 9223372036854775808) + b % 4503599627370496 : Nat) : Int)) (by omega) (by omega), Fl.or_exp (by omega) (by omega) hk2, wrap_u (by omega) (by omega)]
  unfold Fl.fld at hk
  omega
theorem abs_eq : IntKind.u64.wrap ↑(BitVec.ofInt IntKind.u64.bits (if 0 > (b : Int) then 0 else (b : Int)) &&& ~~~BitVec.ofInt IntKind.u64.bits 9223372036854775808).toNat = ((b % 9223372036854775808 : Nat) : Int) := by
  have hlt := h.lt
  rw [imax0 (by omega), show IntKind.u64.bits = 64 from rfl, Fl.and_not_sign hlt, wrap_u (by omega) (by omega)]
end
theorem ordI_ne {o : Option Ordering} {k : Ordering} (h : o ≠ some k) : (ordI o == ordI (some k)) = false := by
  rcases o with _ | (_ | _ | _) <;> cases k <;> first | rfl | exact absurd rfl h
def kn_ldA : Kn := [((.cmp .le (.lit 0) (.bin .fmul .u64 (.lit 4607182418800017408) (.wrap .u64 (.bin .bor .u64 (.wrap .u64 (.bin .bandn .u64 (.bin .imax .i64 (.var 0) (.lit 0)) (.lit 9218868437227405312))) (.wrap .u64 (.bin .shl .u64 (.wrap .u64 (.wrap .i64 (.bin .add .i64 (.wrap .i64 (.bin .add .i64 (.wrap .i64 (.bin .add .i64 (.var 1) (.lit 0))) (.wrap .i64 (.bin .sub .i64 (.wrap .i64 (.bin .band .i64 (.wrap .i64 (.bin .shr .u64 (.bin .imax .i64 (.var 0) (.lit 0)) (.lit 52))) (.lit 2047))) (.lit 1023))))) (.lit 1023)))) (.lit 52))))))), true), ((.cmp .lt (.wrap .i64 (.bin .add .i64 (.wrap .i64 (.bin .add .i64 (.var 1) (.lit 0))) (.wrap .i64 (.bin .sub .i64 (.wrap .i64 (.bin .band .i64 (.wrap .i64 (.bin .shr .u64 (.bin .imax .i64 (.var 0) (.lit 0)) (.lit 52))) (.lit 2047))) (.lit 1023))))) (.lit (-1022))), false), ((.cmp .lt (.lit 1023) (.wrap .i64 (.bin .add .i64 (.wrap .i64 (.bin .add .i64 (.var 1) (.lit 0))) (.wrap .i64 (.bin .sub .i64 (.wrap .i64 (.bin .band .i64 (.wrap .i64 (.bin .shr .u64 (.bin .imax .i64 (.var 0) (.lit 0)) (.lit 52))) (.lit 2047))) (.lit 1023)))))), false), ((.cmp .lt (.wrap .i64 (.bin .add .i64 (.wrap .i64 (.bin .add .i64 (.var 1) (.lit 0))) (.wrap .i64 (.bin .sub .i64 (.wrap .i64 (.bin .band .i64 (.wrap .i64 (.bin .shr .u64 (.bin .imax .i64 (.var 0) (.lit 0)) (.lit 52))) (.lit 2047))) (.lit 1023))))) (.lit (-1075))), false), ((.cmp .eq (.bin .ford .u64 (.wrap .u64 (.bin .bandn .u64 (.bin .imax .i64 (.var 0) (.lit 0)) (.lit 9223372036854775808))) (.lit 4503599627370496)) (.lit (-1))), false), ((.cmp .eq (.bin .ford .u64 (.var 0) (.var 0)) (.lit 0)), true), ((.cmp .eq (.bin .ford .u64 (.wrap .u64 (.bin .bandn .u64 (.bin .imax .i64 (.var 0) (.lit 0)) (.lit 9223372036854775808))) (.lit 9218868437227405311)) (.lit 1)), false), ((.cmp .eq (.bin .ford .u64 (.var 0) (.lit 0)) (.lit 0)), false)]
theorem run_ldA : runFn XF0 kn_ldA 200 46 (lettersFrom 0 [1001, 0]) = .ok (.cv (.one (.flt .f64 (.bin .fmul .u64 (.lit 4607182418800017408) (.wrap .u64 (.bin .bor .u64 (.wrap .u64 (.bin .bandn .u64 (.bin .imax .i64 (.var 0) (.lit 0)) (.lit 9218868437227405312))) (.wrap .u64 (.bin .shl .u64 (.wrap .u64 (.wrap .i64 (.bin .add .i64 (.wrap .i64 (.bin .add .i64 (.wrap .i64 (.bin .add .i64 (.var 1) (.lit 0))) (.wrap .i64 (.bin .sub .i64 (.wrap .i64 (.bin .band .i64 (.wrap .i64 (.bin .shr .u64 (.bin .imax .i64 (.var 0) (.lit 0)) (.lit 52))) (.lit 2047))) (.lit 1023))))) (.lit 1023)))) (.lit 52))))))))) := by kernel_rfl
def kn_ldB : Kn := [((.cmp .eq (.bin .ford .u64 (.var 0) (.lit 0)) (.lit 0)), true)]
theorem run_ldB : runFn XF0 kn_ldB 200 46 (lettersFrom 0 [1001, 0]) = .ok (.cv (.one (.flt .f64 (.var 0)))) := by kernel_rfl
def e_ldexp : CEnt := ⟨46, [1001, 0], some (.app 110 0 (vs 2)), .cv (.one (.flt .f64 (.app 110 0 (vs 2))))⟩
theorem ok_ldexp (w : World) : e_ldexp.ok Tryd.prog w (FI pv) FB := by
  refine by_path (X := XF0) (fuel := 200) (enters_of Tryd.func46 rfl (by kernel_rfl)) (fun w zs => XF0_ok w _ rfl rfl) mixed (fun zs hz hp => ?_) w
  obtain ⟨a, b, rfl⟩ := len2 hz
  clear hz
  replace hp : LDok a b = true := hp _ rfl
  by_cases h0 : a = 0
  · subst h0
    refine ⟨kn_ldB, _, run_ldB, kn_ok_cons ?_ (kn_ok_nil _), ?_⟩
    · show (ordI (Ieee.double.order 0 0) == 0) = true
      decide
    · show Value.float .f64 (Int.toNat 0) = .float .f64 (LD 0 b).toNat
      rfl
  · unfold LDok at hp
    rw [beq_eq_false_iff_ne.2 h0, Bool.false_or] at hp
    simp only [Bool.and_eq_true, decide_eq_true_eq] at hp
    obtain ⟨⟨⟨⟨hn, h1⟩, h2⟩, h3⟩, h4⟩ := hp
    obtain ⟨x, rfl, hN⟩ := nrm_of hn
    rw [Int.toNat_natCast] at h1 h2
    have hb := hN.lt
    obtain ⟨y, hy⟩ : ∃ y : Nat, (y : Int) = x + b * 4503599627370496 := ⟨((x : Int) + b * 4503599627370496).toNat, by unfold Fl.fld at h1; omega⟩
    obtain ⟨hN', -⟩ := Fl.nrm_shift (b' := y) (k := b) hN hy h1 h2
    have hm : oInt (Ieee.double.mul 4607182418800017408 y) = y := by rw [Fl.mul_one hN']; rfl
    refine ⟨kn_ldA, _, run_ldA, kn_ok_cons ?_ (kn_ok_cons ?_ (kn_ok_cons ?_ (kn_ok_cons ?_ (kn_ok_cons ?_ (kn_ok_cons ?_ (kn_ok_cons ?_ (kn_ok_cons ?_ (kn_ok_nil _)))))))), ?_⟩
    all_goals simp only [SB.den, SVal.den, CV.den, At.den, SE.den, COp.den, IOp.den, envOf, List.getD_cons_zero, List.getD_cons_succ, exp_eq hN h3 h4, word_eq hN h3 h4 h1 h2, abs_eq hN, ← hy, Int.toNat_natCast, show (fkOf IntKind.u64).format = Ieee.double from rfl, show Int.toNat 4607182418800017408 = 4607182418800017408 from rfl, hm]
    · exact decide_eq_true (by omega)
    · exact decide_eq_false (by omega)
    · exact decide_eq_false (by omega)
    · exact decide_eq_false (by omega)
    · exact ordI_ne (k := .lt) (Fl.abs_not_lt hN)
    · rw [Fl.order_self (Fl.V_nrm hN)]; rfl
    · exact ordI_ne (k := .gt) (Fl.abs_not_gt hN)
    · exact ordI_ne (k := .eq) (Fl.order_zero hN)
    · show Value.float .f64 y = .float .f64 (LD (x : Int) b).toNat
      unfold LD
      rw [if_neg h0, ← hy, Int.toNat_natCast]
def GF1 : List CEnt := [e_ldexp] ++ G2
theorem GF1_ok : ∀ e ∈ GF1, ∀ w : World, e.ok Tryd.prog w (FI pv) FB := by
  intro e he w
  rcases List.mem_append.1 he with he | he
  case inr => exact G2_ok e he w
  simp only [List.mem_cons, List.not_mem_nil, or_false] at he
  rcases he with rfl
  · exact ok_ldexp w
def XF1c (P : Program) : Cx := { P := P, G := GF1, en := enF, call := nil0, L := [], R := [], ext := xF }
noncomputable def XF1 : Cx := XF1c Tryd.prog
theorem XF1_ok (w : World) (E : Env) (hi : E.fi = FI pv) (hb : E.fb = FB) : XOk XF1 w E := xokX GF1_ok enF_ok (fun _ h => by cases h) (fun _ h => by cases h) xF_ok w E hi hb
end Go.Proofs.YtjpmpjcenajmbaaDoor
/- The reference's halvings: the loop. -/
namespace Go.Proofs.YtjpmpjcenajmbaaDoor
set_option linter.unusedSimpArgs false
set_option linter.unusedVariables false
variable {pv : Int → Int → Int}
open Go.RowKit Eng
theorem ldok_zero (e : Int) : LDok 0 e = true := rfl
theorem ldok_iff {x : Nat} (h0 : (x : Int) ≠ 0) {e : Int} : LDok x e = true ↔ Fl.Nrm x ∧ 1 ≤ (Fl.fld x : Int) + e ∧ (Fl.fld x : Int) + e ≤ 2046 ∧ -3000 ≤ e ∧ e ≤ 3000 := by
  unfold LDok
  rw [beq_eq_false_iff_ne.2 h0, Bool.false_or]
  simp only [Bool.and_eq_true, decide_eq_true_eq, nrm_iff, Int.toNat_natCast]
  constructor <;> intro h <;> simp_all
theorem ldok_nat {x e : Int} (h : LDok x e = true) : ∃ b : Nat, x = b := by
  by_cases h0 : x = 0
  · exact ⟨0, h0⟩
  · unfold LDok at h
    rw [beq_eq_false_iff_ne.2 h0, Bool.false_or] at h
    simp only [Bool.and_eq_true] at h
    obtain ⟨b, hb, -⟩ := nrm_of h.1.1.1.1
    exact ⟨b, hb⟩
/-- One halving. -/
theorem half_eq {x e : Int} (h : LDok x e = true) (he : e ≤ -1) : ∃ y : Int, oInt (Ieee.double.div x.toNat 4611686018427387904) = y ∧ 0 ≤ y ∧ LDok y (e + 1) = true ∧ LD y (e + 1) = LD x e := by
  obtain ⟨b, rfl⟩ := ldok_nat h
  by_cases h0 : (b : Int) = 0
  · obtain rfl : b = 0 := by omega
    exact ⟨0, by decide, by decide, rfl, rfl⟩
  · obtain ⟨hN, h1, h2, h3, h4⟩ := (ldok_iff h0).1 h
    have hi := hN.hi
    have hge : 4503599627370496 ≤ b := by have := hN.lo; unfold Fl.fld at this; omega
    obtain ⟨n1, n2, -, -⟩ := Fl.nrm_shift (b' := b - 4503599627370496) (k := -1) hN (by omega) (by omega) (by omega)
    refine ⟨((b - 4503599627370496 : Nat) : Int), ?_, by omega, ?_, ?_⟩
    · rw [Int.toNat_natCast, Fl.div_two hN (by omega)]; rfl
    · have hb0 : ((b - 4503599627370496 : Nat) : Int) ≠ 0 := by have := n1.lo; unfold Fl.fld at this; omega
      exact (ldok_iff hb0).2 ⟨n1, by omega, by omega, by omega, by omega⟩
    · have hb0 : ((b - 4503599627370496 : Nat) : Int) ≠ 0 := by have := n1.lo; unfold Fl.fld at this; omega
      unfold LD
      rw [if_neg hb0, if_neg h0]; omega
theorem LD_zero (x : Int) : LD x 0 = x := by unfold LD; split <;> omega
def LF : List LEnt := []
theorem LF_ok : ∀ e ∈ LF, ∀ w : World, e.ok Tryd.prog w (FI pv) FB := by
  intro e he w
  simp only [LF, List.mem_cons, List.not_mem_nil, or_false] at he
def XF2c (P : Program) : Cx := { P := P, G := GF1, en := enF, call := nil0, L := LF, R := [], ext := xF }
noncomputable def XF2 : Cx := XF2c Tryd.prog
theorem XF2_ok (w : World) (E : Env) (hi : E.fi = FI pv) (hb : E.fb = FB) : XOk XF2 w E := xokX GF1_ok enF_ok LF_ok (fun _ h => by cases h) xF_ok w E hi hb
end Go.Proofs.YtjpmpjcenajmbaaDoor
/- The wide number that an exact one is, both: contracts. -/
namespace Go.Proofs.YtjpmpjcenajmbaaDoor
set_option linter.unusedSimpArgs false
set_option linter.unusedVariables false
variable {pv : Int → Int → Int}
open Go.RowKit Eng
theorem FWi_eq (n : Int) : ((Ieee.double.nearest (decide (n < 0)) n.natAbs 0 : Nat) : Int) = FWi n := rfl
theorem b110_of {n s : Int} (h1 : -2147483648 ≤ n) (h2 : n ≤ 2147483648) (h3 : 0 ≤ s) (h4 : s ≤ 60) : LDok (FWi n) (-s) = true := by
  by_cases h0 : n = 0
  · subst h0; exact ldok_zero _
  · obtain ⟨a, b⟩ := Fl.FW_nrm h0 (by omega)
    have hL : n.natAbs.log2 ≤ 52 := by have := (Nat.log2_lt (k := 53) (by omega : n.natAbs ≠ 0)).2 (by omega); omega
    have hb0 : ((Fl.FW n : Nat) : Int) ≠ 0 := by unfold Fl.fld at b; omega
    exact (ldok_iff hb0).2 ⟨a, by omega, by omega, by omega, by omega⟩
theorem LD_FWi {n s : Int} (h1 : -2147483648 ≤ n) (h2 : n ≤ 2147483648) (h3 : 0 ≤ s) (h4 : s ≤ 60) : LD (FWi n) (-s) = DWi n s := by
  unfold DWi
  by_cases h0 : n = 0
  · subst h0; unfold Fl.DWn; rw [if_pos rfl]; rfl
  · obtain ⟨a, b⟩ := Fl.FW_nrm h0 (by omega)
    have hb0 : ((Fl.FW n : Nat) : Int) ≠ 0 := by unfold Fl.fld at b; omega
    obtain ⟨-, -, c⟩ := Fl.DWn_nrm (s := s.toNat) h0 (by omega) (by omega)
    unfold LD FWi
    rw [if_neg hb0, c]; omega
theorem f110 (b e : Int) : FI pv 110 0 [b, e] = LD b e := rfl
theorem g110 (b e : Int) : FB 110 0 [b, e] = LDok b e := rfl
theorem DWi_nonneg (n s : Int) : 0 ≤ DWi n s := by unfold DWi; omega
def outDW : SVal := .tup [.one (.cpx .f64 (.app 112 0 (vs 3)) (.app 112 1 (vs 3))), .one (.bool (.app 3 0 (vs 3)))]
theorem f112a {r i s : Int} (h : DV r i s = true) : FI pv 112 0 [r, i, s] = DWi r s := if_pos h
theorem f112b {r i s : Int} (h : DV r i s = true) : FI pv 112 1 [r, i, s] = DWi i s := if_pos h
theorem f112a' {r i s : Int} (h : DV r i s = false) : FI pv 112 0 [r, i, s] = 0 := by
  show (if DV r i s = true then DWi r s else (0 : Int)) = 0
  rw [if_neg (by rw [h]; decide)]
theorem f112b' {r i s : Int} (h : DV r i s = false) : FI pv 112 1 [r, i, s] = 0 := by
  show (if DV r i s = true then DWi i s else (0 : Int)) = 0
  rw [if_neg (by rw [h]; decide)]
theorem dv_rngF {r i s : Int} (h : DV r i s = true) : (-1073741824 ≤ r ∧ r ≤ 1073741824) ∧ (-1073741824 ≤ i ∧ i ≤ 1073741824) ∧ 0 ≤ s ∧ s ≤ 60 := by
  obtain ⟨a1, a2, a3, a4, a5, a6, _⟩ := (DV_iff r i s).1 h
  exact ⟨⟨by omega, by omega⟩, ⟨by omega, by omega⟩, by omega, by omega⟩
theorem near_eq (a : Int) : (((fkOf IntKind.u64).nearest a : Nat) : Int) = FWi a := rfl
def GF2 : List CEnt := GF1
theorem GF2_ok : ∀ e ∈ GF2, ∀ w : World, e.ok Tryd.prog w (FI pv) FB := GF1_ok
def XF3c (P : Program) : Cx := { P := P, G := GF2, en := enF, call := nil0, L := [], R := [], ext := xF }
noncomputable def XF3 : Cx := XF3c Tryd.prog
theorem XF3_ok (w : World) (E : Env) (hi : E.fi = FI pv) (hb : E.fb = FB) : XOk XF3 w E := xokX GF2_ok enF_ok (fun _ h => by cases h) (fun _ h => by cases h) xF_ok w E hi hb
end Go.Proofs.YtjpmpjcenajmbaaDoor
