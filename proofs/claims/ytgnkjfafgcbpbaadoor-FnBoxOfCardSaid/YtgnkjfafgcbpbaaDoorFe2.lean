/- The exact number that a wide one is, in the program: its contract. -/
import Derived.Test.YtgnkjfafgcbpbaaDoorFe1
import Derived.Test.YtgnkjfafgcbpbaaDoorFl5
namespace Go.Proofs.YtgnkjfafgcbpbaaDoor
set_option linter.unusedSimpArgs false
set_option linter.unusedVariables false
variable {pv : Int → Int → Int}
open Go.RowKit Eng
def outDO : SVal := .tup [og (oapps 123 3 (vs 2)), .one (.bool (.app 123 0 (vs 2)))]
theorem dig_rng {a : Int} (h : finw a = true) : 0 ≤ dig a ∧ dig a < 9007199254740992 ∧ -1074 ≤ dpw a ∧ dpw a ≤ 971 := by
  obtain ⟨b, rfl, hb, hf⟩ := finw_of h
  unfold dig dpw
  rw [Int.toNat_natCast]
  split <;> omega
theorem SP_rng {a : Int} (h : finw a = true) : -9007199254740992 < SPo a ∧ SPo a < 9007199254740992 ∧ -1074 ≤ SPp a ∧ SPp a ≤ 1100 := by
  obtain ⟨h1, h2, h3, h4⟩ := dig_rng h
  by_cases h0 : dig a = 0
  · unfold SPo SPp; rw [if_pos h0, if_pos h0]; omega
  · have t0 := tz_nonneg (dig a)
    have t1 := tz_lt (n := dig a) (by omega) (by omega)
    have t2 := bl_le (n := dig a) 53 (by omega) (by omega)
    have q0 : 0 ≤ dig a / 2 ^ (tz (dig a)).toNat := Int.ediv_nonneg h1 (Int.le_of_lt (pos2 _))
    have q1 : dig a / 2 ^ (tz (dig a)).toNat ≤ dig a := Int.ediv_le_self _ h1
    unfold SPo SPp
    rw [if_neg h0, if_neg h0]
    refine ⟨?_, ?_, by omega, by omega⟩ <;> split <;> omega
theorem f121a (a : Int) : FI pv 121 0 [a] = SPo a := rfl
theorem f121b (a : Int) : FI pv 121 1 [a] = SPp a := rfl
theorem g117 {n u : Int} (h1 : -9007199254740992 < n) (h2 : n < 9007199254740992) (h3 : 0 ≤ u) (h4 : u ≤ 3000) : FB 117 0 [n, u] = true := by
  show (le60 n && decide (0 ≤ u) && decide (u ≤ 3000)) = true
  simp only [Bool.and_eq_true, decide_eq_true_eq, le60_iff]; omega
def e_iDOf : CEnt := ⟨13, [1002], some (.app 124 0 (vs 2)), outDO⟩
def t_iDOf : Tree := (.node (.cmp .eq (.bin .ford .u64 (.var 0) (.var 0)) (.lit 0)) (.node (.cmp .eq (.bin .ford .u64 (.wrap .u64 (.bin .bandn .u64 (.bin .imax .i64 (.var 0) (.lit 0)) (.lit 9223372036854775808))) (.lit 9218868437227405311)) (.lit 1)) (.leaf (.tup [(.agg [(.int .i64 (.lit 0)), (.int .i64 (.lit 0)), (.int .i64 (.lit 0))]), (.one (.bool (.lit false)))])) (.node (.cmp .eq (.bin .ford .u64 (.var 1) (.var 1)) (.lit 0)) (.node (.cmp .eq (.bin .ford .u64 (.wrap .u64 (.bin .bandn .u64 (.bin .imax .i64 (.var 1) (.lit 0)) (.lit 9223372036854775808))) (.lit 9218868437227405311)) (.lit 1)) (.leaf (.tup [(.agg [(.int .i64 (.lit 0)), (.int .i64 (.lit 0)), (.int .i64 (.lit 0))]), (.one (.bool (.lit false)))])) (.node (.app 118 0 (.cons (.var 0) .nil)) (.node (.app 118 0 (.cons (.var 1) .nil)) (.node (.cmp .lt (.lit 60) (.bin .imax .i64 (.bin .imax .i64 (.lit 0) (.wrap .i64 (.bin .sub .i64 (.lit 0) (.app 121 1 (.cons (.var 0) .nil))))) (.wrap .i64 (.bin .sub .i64 (.lit 0) (.app 121 1 (.cons (.var 1) .nil)))))) (.leaf (.tup [(.agg [(.int .i64 (.lit 0)), (.int .i64 (.lit 0)), (.int .i64 (.lit 0))]), (.one (.bool (.lit false)))])) (.node (.app 117 0 (.cons (.app 121 0 (.cons (.var 0) .nil)) (.cons (.wrap .i64 (.bin .add .i64 (.app 121 1 (.cons (.var 0) .nil)) (.bin .imax .i64 (.bin .imax .i64 (.lit 0) (.wrap .i64 (.bin .sub .i64 (.lit 0) (.app 121 1 (.cons (.var 0) .nil))))) (.wrap .i64 (.bin .sub .i64 (.lit 0) (.app 121 1 (.cons (.var 1) .nil))))))) .nil))) (.node (.app 117 0 (.cons (.app 121 0 (.cons (.var 1) .nil)) (.cons (.wrap .i64 (.bin .add .i64 (.app 121 1 (.cons (.var 1) .nil)) (.bin .imax .i64 (.bin .imax .i64 (.lit 0) (.wrap .i64 (.bin .sub .i64 (.lit 0) (.app 121 1 (.cons (.var 0) .nil))))) (.wrap .i64 (.bin .sub .i64 (.lit 0) (.app 121 1 (.cons (.var 1) .nil))))))) .nil))) (.node (.app 122 0 (.cons (.app 121 0 (.cons (.var 0) .nil)) (.cons (.wrap .i64 (.bin .add .i64 (.app 121 1 (.cons (.var 0) .nil)) (.bin .imax .i64 (.bin .imax .i64 (.lit 0) (.wrap .i64 (.bin .sub .i64 (.lit 0) (.app 121 1 (.cons (.var 0) .nil))))) (.wrap .i64 (.bin .sub .i64 (.lit 0) (.app 121 1 (.cons (.var 1) .nil))))))) .nil))) (.node (.app 122 0 (.cons (.app 121 0 (.cons (.var 1) .nil)) (.cons (.wrap .i64 (.bin .add .i64 (.app 121 1 (.cons (.var 1) .nil)) (.bin .imax .i64 (.bin .imax .i64 (.lit 0) (.wrap .i64 (.bin .sub .i64 (.lit 0) (.app 121 1 (.cons (.var 0) .nil))))) (.wrap .i64 (.bin .sub .i64 (.lit 0) (.app 121 1 (.cons (.var 1) .nil))))))) .nil))) (.leaf (.tup [(.agg [(.int .i64 (.app 4 0 (.cons (.app 122 0 (.cons (.app 121 0 (.cons (.var 0) .nil)) (.cons (.wrap .i64 (.bin .add .i64 (.app 121 1 (.cons (.var 0) .nil)) (.bin .imax .i64 (.bin .imax .i64 (.lit 0) (.wrap .i64 (.bin .sub .i64 (.lit 0) (.app 121 1 (.cons (.var 0) .nil))))) (.wrap .i64 (.bin .sub .i64 (.lit 0) (.app 121 1 (.cons (.var 1) .nil))))))) .nil))) (.cons (.app 122 0 (.cons (.app 121 0 (.cons (.var 1) .nil)) (.cons (.wrap .i64 (.bin .add .i64 (.app 121 1 (.cons (.var 1) .nil)) (.bin .imax .i64 (.bin .imax .i64 (.lit 0) (.wrap .i64 (.bin .sub .i64 (.lit 0) (.app 121 1 (.cons (.var 0) .nil))))) (.wrap .i64 (.bin .sub .i64 (.lit 0) (.app 121 1 (.cons (.var 1) .nil))))))) .nil))) (.cons (.bin .imax .i64 (.bin .imax .i64 (.lit 0) (.wrap .i64 (.bin .sub .i64 (.lit 0) (.app 121 1 (.cons (.var 0) .nil))))) (.wrap .i64 (.bin .sub .i64 (.lit 0) (.app 121 1 (.cons (.var 1) .nil))))) .nil))))), (.int .i64 (.app 4 1 (.cons (.app 122 0 (.cons (.app 121 0 (.cons (.var 0) .nil)) (.cons (.wrap .i64 (.bin .add .i64 (.app 121 1 (.cons (.var 0) .nil)) (.bin .imax .i64 (.bin .imax .i64 (.lit 0) (.wrap .i64 (.bin .sub .i64 (.lit 0) (.app 121 1 (.cons (.var 0) .nil))))) (.wrap .i64 (.bin .sub .i64 (.lit 0) (.app 121 1 (.cons (.var 1) .nil))))))) .nil))) (.cons (.app 122 0 (.cons (.app 121 0 (.cons (.var 1) .nil)) (.cons (.wrap .i64 (.bin .add .i64 (.app 121 1 (.cons (.var 1) .nil)) (.bin .imax .i64 (.bin .imax .i64 (.lit 0) (.wrap .i64 (.bin .sub .i64 (.lit 0) (.app 121 1 (.cons (.var 0) .nil))))) (.wrap .i64 (.bin .sub .i64 (.lit 0) (.app 121 1 (.cons (.var 1) .nil))))))) .nil))) (.cons (.bin .imax .i64 (.bin .imax .i64 (.lit 0) (.wrap .i64 (.bin .sub .i64 (.lit 0) (.app 121 1 (.cons (.var 0) .nil))))) (.wrap .i64 (.bin .sub .i64 (.lit 0) (.app 121 1 (.cons (.var 1) .nil))))) .nil))))), (.int .i64 (.app 4 2 (.cons (.app 122 0 (.cons (.app 121 0 (.cons (.var 0) .nil)) (.cons (.wrap .i64 (.bin .add .i64 (.app 121 1 (.cons (.var 0) .nil)) (.bin .imax .i64 (.bin .imax .i64 (.lit 0) (.wrap .i64 (.bin .sub .i64 (.lit 0) (.app 121 1 (.cons (.var 0) .nil))))) (.wrap .i64 (.bin .sub .i64 (.lit 0) (.app 121 1 (.cons (.var 1) .nil))))))) .nil))) (.cons (.app 122 0 (.cons (.app 121 0 (.cons (.var 1) .nil)) (.cons (.wrap .i64 (.bin .add .i64 (.app 121 1 (.cons (.var 1) .nil)) (.bin .imax .i64 (.bin .imax .i64 (.lit 0) (.wrap .i64 (.bin .sub .i64 (.lit 0) (.app 121 1 (.cons (.var 0) .nil))))) (.wrap .i64 (.bin .sub .i64 (.lit 0) (.app 121 1 (.cons (.var 1) .nil))))))) .nil))) (.cons (.bin .imax .i64 (.bin .imax .i64 (.lit 0) (.wrap .i64 (.bin .sub .i64 (.lit 0) (.app 121 1 (.cons (.var 0) .nil))))) (.wrap .i64 (.bin .sub .i64 (.lit 0) (.app 121 1 (.cons (.var 1) .nil))))) .nil)))))]), (.one (.bool (.app 4 0 (.cons (.app 122 0 (.cons (.app 121 0 (.cons (.var 0) .nil)) (.cons (.wrap .i64 (.bin .add .i64 (.app 121 1 (.cons (.var 0) .nil)) (.bin .imax .i64 (.bin .imax .i64 (.lit 0) (.wrap .i64 (.bin .sub .i64 (.lit 0) (.app 121 1 (.cons (.var 0) .nil))))) (.wrap .i64 (.bin .sub .i64 (.lit 0) (.app 121 1 (.cons (.var 1) .nil))))))) .nil))) (.cons (.app 122 0 (.cons (.app 121 0 (.cons (.var 1) .nil)) (.cons (.wrap .i64 (.bin .add .i64 (.app 121 1 (.cons (.var 1) .nil)) (.bin .imax .i64 (.bin .imax .i64 (.lit 0) (.wrap .i64 (.bin .sub .i64 (.lit 0) (.app 121 1 (.cons (.var 0) .nil))))) (.wrap .i64 (.bin .sub .i64 (.lit 0) (.app 121 1 (.cons (.var 1) .nil))))))) .nil))) (.cons (.bin .imax .i64 (.bin .imax .i64 (.lit 0) (.wrap .i64 (.bin .sub .i64 (.lit 0) (.app 121 1 (.cons (.var 0) .nil))))) (.wrap .i64 (.bin .sub .i64 (.lit 0) (.app 121 1 (.cons (.var 1) .nil))))) .nil))))))])) (.leaf (.tup [(.agg [(.int .i64 (.lit 0)), (.int .i64 (.lit 0)), (.int .i64 (.lit 0))]), (.one (.bool (.lit false)))]))) (.leaf (.tup [(.agg [(.int .i64 (.lit 0)), (.int .i64 (.lit 0)), (.int .i64 (.lit 0))]), (.one (.bool (.lit false)))]))) (.dead 47)) (.dead 47))) (.dead 47)) (.dead 47))) (.leaf (.tup [(.agg [(.int .i64 (.lit 0)), (.int .i64 (.lit 0)), (.int .i64 (.lit 0))]), (.one (.bool (.lit false)))])))) (.leaf (.tup [(.agg [(.int .i64 (.lit 0)), (.int .i64 (.lit 0)), (.int .i64 (.lit 0))]), (.one (.bool (.lit false)))])))
theorem t_iDOf_eq : explore XE1 200 13 (lettersFrom 0 [1002]) 40 [] = t_iDOf := by kernel_rfl
theorem ok_iDOf (w : World) (hT : Tb w) : e_iDOf.ok Tryd.prog w (FI pv) FB := by
  refine by_treeT (e := e_iDOf) (fi := FI pv) (fb := FB) (X := XE1) (fuel := 200) (d := 40) (enters_of Tryd.func13 rfl (by kernel_rfl)) (fun w zs hT => XE1_ok w hT _ rfl rfl) mixed (fun zs hz hp => ?_) w hT
  obtain ⟨a, b, rfl⟩ := len2 hz
  show (explore XE1 200 13 (lettersFrom 0 [1002]) 40 []).den _ = _
  rw [t_iDOf_eq]
  clear hz
  replace hp : (finw a && finw b) = true := hp _ rfl
  show Tree.den _ t_iDOf = some (.tuple #[.agg #[.int .i64 (FI pv 123 0 [a, b]), .int .i64 (FI pv 123 1 [a, b]), .int .i64 (FI pv 123 2 [a, b])], .bool (DOk a b)])
  simp only [t_iDOf, Tree.den, SVal.den, CV.den, At.den, SE.den, SB.den, SL.den, IOp.den, COp.den, envOf, List.map_cons, List.map_nil, List.getD_cons_zero, List.getD_cons_succ]
  simp only [Bool.and_eq_true] at hp
  obtain ⟨ha, hb⟩ := hp
  simp only [ite_max]
  obtain ⟨p1, p2, p3, p4⟩ := SP_rng ha
  obtain ⟨q1, q2, q3, q4⟩ := SP_rng hb
  have key : ∀ a : Int, finw a = true → (ordI (Ieee.double.order a.toNat a.toNat) == 0) = true ∧ (ordI (Ieee.double.order (IntKind.u64.wrap ↑(BitVec.ofInt IntKind.u64.bits (if 0 > a then 0 else a) &&& ~~~BitVec.ofInt IntKind.u64.bits 9223372036854775808).toNat).toNat 9218868437227405311) == 1) = false := by
    intro a h
    obtain ⟨b, rfl, hb, hf⟩ := finw_of h
    refine ⟨by rw [Int.toNat_natCast, Fl.fin_self hb hf]; rfl, ?_⟩
    rw [imax0 (by omega), show IntKind.u64.bits = 64 from rfl, Fl.and_not_sign hb, wrap_u (by omega) (by omega), Int.toNat_natCast]
    exact ordI_ne (k := .gt) (Fl.fin_abs hb hf)
  obtain ⟨a1, a2⟩ := key a ha
  obtain ⟨b1, b2⟩ := key b hb
  have im : ∀ a : Int, finw a = true → max a 0 = (if 0 > a then 0 else a) := fun a h => by obtain ⟨b, rfl, -⟩ := finw_of h; rw [imax0 (by omega)]; omega
  rw [im a ha, im b hb]
  rw [show (fkOf IntKind.u64).format = Ieee.double from rfl, a1, b1, show Int.toNat 9218868437227405311 = 9218868437227405311 from rfl, a2, b2, show FB 118 0 [a] = true from ha, show FB 118 0 [b] = true from hb]
  simp only [cond_true, cond_false]
  have hs : max (max 0 (IntKind.i64.wrap (0 - FI pv 121 1 [a]))) (IntKind.i64.wrap (0 - FI pv 121 1 [b])) = DOs a b := by
    rw [f121b, f121b, wrap_in (x := 0 - SPp a) (by omega) (by omega), wrap_in (x := 0 - SPp b) (by omega) (by omega)]
    unfold DOs; rw [Int.zero_sub, Int.zero_sub]
  rw [hs, f121a, f121a, f121b, f121b]
  have s0 : 0 ≤ SPp a + DOs a b := by unfold DOs; omega
  have s1 : 0 ≤ SPp b + DOs a b := by unfold DOs; omega
  have s2 : 0 ≤ DOs a b ∧ DOs a b ≤ 1074 := by unfold DOs; omega
  have hk : DOk a b = (decide (DOs a b ≤ 60) && RPok (SPo a) (SPp a + DOs a b) && RPok (SPo b) (SPp b + DOs a b) && MK (DOr a b) (DOi a b) (DOs a b)) := rfl
  by_cases h60 : 60 < DOs a b
  · rw [decide_eq_true h60]
    have : DOk a b = false := by rw [hk, decide_eq_false (show ¬ DOs a b ≤ 60 by omega)]; rfl
    have hn : ¬ DOk a b = true := by rw [this]; decide
    rw [this, show FI pv 123 0 [a, b] = 0 from if_neg hn, show FI pv 123 1 [a, b] = 0 from if_neg hn, show FI pv 123 2 [a, b] = 0 from if_neg hn]; rfl
  rw [decide_eq_false h60, wrap_in (x := SPp a + DOs a b) (by omega) (by omega), wrap_in (x := SPp b + DOs a b) (by omega) (by omega), g117 p1 p2 s0 (by omega), g117 q1 q2 s1 (by omega)]
  simp only [cond_true, cond_false]
  have e1 : FB 122 0 [SPo a, SPp a + DOs a b] = RPok (SPo a) (SPp a + DOs a b) := rfl
  have e2 : FB 122 0 [SPo b, SPp b + DOs a b] = RPok (SPo b) (SPp b + DOs a b) := rfl
  rw [e1, e2]
  cases g1 : RPok (SPo a) (SPp a + DOs a b)
  · have : DOk a b = false := by rw [hk, g1, Bool.and_false]; rfl
    have hn : ¬ DOk a b = true := by rw [this]; decide
    rw [this, show FI pv 123 0 [a, b] = 0 from if_neg hn, show FI pv 123 1 [a, b] = 0 from if_neg hn, show FI pv 123 2 [a, b] = 0 from if_neg hn]; rfl
  cases g2 : RPok (SPo b) (SPp b + DOs a b)
  · have : DOk a b = false := by rw [hk, g2, Bool.and_false]; rfl
    have hn : ¬ DOk a b = true := by rw [this]; decide
    rw [this, show FI pv 123 0 [a, b] = 0 from if_neg hn, show FI pv 123 1 [a, b] = 0 from if_neg hn, show FI pv 123 2 [a, b] = 0 from if_neg hn]; rfl
  have e3 : FI pv 122 0 [SPo a, SPp a + DOs a b] = DOr a b := if_pos g1
  have e4 : FI pv 122 0 [SPo b, SPp b + DOs a b] = DOi a b := if_pos g2
  rw [e3, e4]
  simp only [cond_true]
  have e5 : FB 4 0 [DOr a b, DOi a b, DOs a b] = MK (DOr a b) (DOi a b) (DOs a b) := rfl
  have hk2 : DOk a b = MK (DOr a b) (DOi a b) (DOs a b) := by rw [hk, decide_eq_true (show DOs a b ≤ 60 by omega), g1, g2]; rfl
  have e6 : FI pv 4 0 [DOr a b, DOi a b, DOs a b] = FI pv 123 0 [a, b] := by
    show (if MK (DOr a b) (DOi a b) (DOs a b) then _ else _) = (if DOk a b then _ else _); rw [hk2]
  have e7 : FI pv 4 1 [DOr a b, DOi a b, DOs a b] = FI pv 123 1 [a, b] := by
    show (if MK (DOr a b) (DOi a b) (DOs a b) then _ else _) = (if DOk a b then _ else _); rw [hk2]
  have e8 : FI pv 4 2 [DOr a b, DOi a b, DOs a b] = FI pv 123 2 [a, b] := by
    show (if MK (DOr a b) (DOi a b) (DOs a b) then _ else _) = (if DOk a b then _ else _); rw [hk2]
  rw [e5, e6, e7, e8, hk2]
def GE2 : List CEnt := [e_iDOf] ++ GE1
theorem GE2_ok : ∀ e ∈ GE2, ∀ w : World, Tb w → e.ok Tryd.prog w (FI pv) FB := by
  intro e he w hT
  rcases List.mem_append.1 he with he | he
  case inr => exact GE1_ok e he w hT
  simp only [List.mem_cons, List.not_mem_nil, or_false] at he
  rcases he with rfl
  · exact ok_iDOf w hT
def enE2 : List Nat := [10, 47, 41, 24, 35, 64, 9, 30, 32]
theorem enE2_10 : Enters Tryd.prog 10 := enters_of Tryd.func10 rfl (by kernel_rfl)
theorem enE2_47 : Enters Tryd.prog 47 := enters_of Tryd.func47 rfl (by kernel_rfl)
theorem enE2_41 : Enters Tryd.prog 41 := enters_of Tryd.func41 rfl (by kernel_rfl)
theorem enE2_24 : Enters Tryd.prog 24 := enters_of Tryd.func24 rfl (by kernel_rfl)
theorem enE2_35 : Enters Tryd.prog 35 := enters_of Tryd.func35 rfl (by kernel_rfl)
theorem enE2_64 : Enters Tryd.prog 64 := enters_of Tryd.func64 rfl (by kernel_rfl)
theorem enE2_9 : Enters Tryd.prog 9 := enters_of Tryd.func9 rfl (by kernel_rfl)
theorem enE2_30 : Enters Tryd.prog 30 := enters_of Tryd.func30 rfl (by kernel_rfl)
theorem enE2_32 : Enters Tryd.prog 32 := enters_of Tryd.func32 rfl (by kernel_rfl)
theorem enE2_ok : ∀ f ∈ enE2, Enters Tryd.prog f := by
  intro f hf
  simp only [enE2, List.mem_cons, List.not_mem_nil, or_false] at hf
  rcases hf with rfl | rfl | rfl | rfl | rfl | rfl | rfl | rfl | rfl
  · exact enE2_10
  · exact enE2_47
  · exact enE2_41
  · exact enE2_24
  · exact enE2_35
  · exact enE2_64
  · exact enE2_9
  · exact enE2_30
  · exact enE2_32
def XE2c (P : Program) : Cx := { P := P, G := GE2, en := enE2, call := nil0, L := [], R := [], ext := xF }
noncomputable def XE2 : Cx := XE2c Tryd.prog
theorem XE2_ok (w : World) (hT : Tb w) (E : Env) (hi : E.fi = FI pv) (hb : E.fb = FB) : XOk XE2 w E := xokT GE2_ok enE2_ok (fun _ h => by cases h) (fun _ h => by cases h) xF_ok w hT E hi hb
end Go.Proofs.YtgnkjfafgcbpbaaDoor
