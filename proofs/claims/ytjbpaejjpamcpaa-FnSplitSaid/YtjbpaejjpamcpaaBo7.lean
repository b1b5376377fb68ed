/- Contracts of the greater functions on boxes, by the reckoner: the bound of the cardioid. -/
import Derived.Test.YtjbpaejjpamcpaaBoB
namespace Go.Proofs.Ytjbpaejjpamcpaa
set_option linter.unusedSimpArgs false
set_option linter.unusedVariables false
variable {pv : Int → Int → Int}
open Go.RowKit Eng

theorem p22 : (2 : Int) ^ min (Int.toNat 22) IntKind.i64.bits = 4194304 := by decide
/-- The numbers of the cardioid's bound: none is too great. -/
theorem cb_bd {U V C D : Int} (hu : -33792 ≤ U ∧ U ≤ 33792) (hv : -33792 ≤ V ∧ V ≤ 33792) (hc : -32768 ≤ C ∧ C ≤ 32768) (hd : -32768 ≤ D ∧ D ≤ 32768) :
    (0 ≤ sqLo V U ∧ sqLo V U ≤ sqHi V U ∧ sqHi V U ≤ 1141899264) ∧ (0 ≤ sqLo C D ∧ sqLo C D ≤ sqHi C D ∧ sqHi C D ≤ 1073741824) ∧
    (-5317735219200000000 ≤ (sqLo V U + sqLo C D) * (sqHi V U + sqHi C D + U * 4096) ∧ (sqLo V U + sqLo C D) * (sqHi V U + sqHi C D + U * 4096) ≤ 5317735219200000000) ∧
    (-5317735219200000000 ≤ (sqHi V U + sqHi C D) * (sqHi V U + sqHi C D + U * 4096) ∧ (sqHi V U + sqHi C D) * (sqHi V U + sqHi C D + U * 4096) ≤ 5317735219200000000) := by
  have s1 := sq_bd 33792 (l := V) (h := U) (by omega) (by omega) (by omega) (by omega)
  have s2 := sq_bd 32768 (l := C) (h := D) (by omega) (by omega) (by omega) (by omega)
  have m1 := mul_bd (x := sqLo V U + sqLo C D) (y := sqHi V U + sqHi C D + U * 4096) (A := 2215723008) (B := 2400000000) (by omega) (by omega) (by omega) (by omega)
  have m2 := mul_bd (x := sqHi V U + sqHi C D) (y := sqHi V U + sqHi C D + U * 4096) (A := 2215723008) (B := 2400000000) (by omega) (by omega) (by omega) (by omega)
  exact ⟨by omega, by omega, by omega, by omega⟩
/-- They are not turned by the width. -/
theorem cb_wrap {U V C D : Int} (hu : -33792 ≤ U ∧ U ≤ 33792) (hv : -33792 ≤ V ∧ V ≤ 33792) (hc : -32768 ≤ C ∧ C ≤ 32768) (hd : -32768 ≤ D ∧ D ≤ 32768) :
    IntKind.i64.wrap (U * 4096) = U * 4096 ∧ IntKind.i64.wrap (sqHi V U + sqHi C D) = sqHi V U + sqHi C D ∧ IntKind.i64.wrap (sqLo V U + sqLo C D) = sqLo V U + sqLo C D ∧
    IntKind.i64.wrap (sqHi V U + sqHi C D + U * 4096) = sqHi V U + sqHi C D + U * 4096 ∧ IntKind.i64.wrap (sqLo C D * 4194304) = sqLo C D * 4194304 ∧
    IntKind.i64.wrap ((sqLo V U + sqLo C D) * (sqHi V U + sqHi C D + U * 4096)) = (sqLo V U + sqLo C D) * (sqHi V U + sqHi C D + U * 4096) ∧
    IntKind.i64.wrap ((sqHi V U + sqHi C D) * (sqHi V U + sqHi C D + U * 4096)) = (sqHi V U + sqHi C D) * (sqHi V U + sqHi C D + U * 4096) ∧
    IntKind.i64.wrap ((sqLo V U + sqLo C D) * (sqHi V U + sqHi C D + U * 4096) - sqLo C D * 4194304) = (sqLo V U + sqLo C D) * (sqHi V U + sqHi C D + U * 4096) - sqLo C D * 4194304 ∧
    IntKind.i64.wrap ((sqHi V U + sqHi C D) * (sqHi V U + sqHi C D + U * 4096) - sqLo C D * 4194304) = (sqHi V U + sqHi C D) * (sqHi V U + sqHi C D + U * 4096) - sqLo C D * 4194304 := by
  obtain ⟨h1, h2, h3, h4⟩ := cb_bd hu hv hc hd
  refine ⟨wrap_in (by omega) (by omega), wrap_in (by omega) (by omega), wrap_in (by omega) (by omega), wrap_in (by omega) (by omega), wrap_in (by omega) (by omega), wrap_in (by omega) (by omega), wrap_in (by omega) (by omega), wrap_in (by omega) (by omega), wrap_in (by omega) (by omega)⟩
def e_iCardioidBound : CEnt := ⟨22, [4], none, .tup [.one (ai (.app 35 0 (vs 4))), .one (.bool (.app 2 0 (vs 4)))]⟩
def t_iCardioidBound : Tree := (.node (.app 2 0 (.cons (.var 0) (.cons (.var 1) (.cons (.var 2) (.cons (.var 3) .nil))))) (.node (.app 103 0 (.cons (.var 0) (.cons (.var 1) (.cons (.lit 12) .nil)))) (.node (.app 103 0 (.cons (.var 2) (.cons (.var 3) (.cons (.lit 12) .nil)))) (.node (.app 101 0 (.cons (.app 32 0 (.cons (.var 0) (.cons (.lit 12) .nil))) (.cons (.app 32 1 (.cons (.var 1) (.cons (.lit 12) .nil))) (.cons (.lit 1024) (.cons (.lit 1024) .nil))))) (.node (.app 100 0 (.cons (.app 32 0 (.cons (.var 2) (.cons (.lit 12) .nil))) (.cons (.app 32 1 (.cons (.var 3) (.cons (.lit 12) .nil))) .nil))) (.node (.app 100 0 (.cons (.bin .sub .i64 (.app 32 0 (.cons (.var 0) (.cons (.lit 12) .nil))) (.lit 1024)) (.cons (.bin .sub .i64 (.app 32 1 (.cons (.var 1) (.cons (.lit 12) .nil))) (.lit 1024)) .nil))) (.node (.app 101 0 (.cons (.app 31 0 (.cons (.bin .sub .i64 (.app 32 0 (.cons (.var 0) (.cons (.lit 12) .nil))) (.lit 1024)) (.cons (.bin .sub .i64 (.app 32 1 (.cons (.var 1) (.cons (.lit 12) .nil))) (.lit 1024)) .nil))) (.cons (.app 31 1 (.cons (.bin .sub .i64 (.app 32 0 (.cons (.var 0) (.cons (.lit 12) .nil))) (.lit 1024)) (.cons (.bin .sub .i64 (.app 32 1 (.cons (.var 1) (.cons (.lit 12) .nil))) (.lit 1024)) .nil))) (.cons (.app 31 0 (.cons (.app 32 0 (.cons (.var 2) (.cons (.lit 12) .nil))) (.cons (.app 32 1 (.cons (.var 3) (.cons (.lit 12) .nil))) .nil))) (.cons (.app 31 1 (.cons (.app 32 0 (.cons (.var 2) (.cons (.lit 12) .nil))) (.cons (.app 32 1 (.cons (.var 3) (.cons (.lit 12) .nil))) .nil))) .nil))))) (.node (.cmp .lt (.wrap .i64 (.bin .add .i64 (.bin .add .i64 (.app 31 1 (.cons (.bin .sub .i64 (.app 32 0 (.cons (.var 0) (.cons (.lit 12) .nil))) (.lit 1024)) (.cons (.bin .sub .i64 (.app 32 1 (.cons (.var 1) (.cons (.lit 12) .nil))) (.lit 1024)) .nil))) (.app 31 1 (.cons (.app 32 0 (.cons (.var 2) (.cons (.lit 12) .nil))) (.cons (.app 32 1 (.cons (.var 3) (.cons (.lit 12) .nil))) .nil)))) (.wrap .i64 (.bin .mul .i64 (.bin .sub .i64 (.app 32 1 (.cons (.var 1) (.cons (.lit 12) .nil))) (.lit 1024)) (.lit 4096))))) (.lit 0)) (.leaf (.tup [(.one (.int .i64 (.wrap .i64 (.bin .sub .i64 (.wrap .i64 (.bin .mul .i64 (.wrap .i64 (.bin .add .i64 (.bin .add .i64 (.app 31 1 (.cons (.bin .sub .i64 (.app 32 0 (.cons (.var 0) (.cons (.lit 12) .nil))) (.lit 1024)) (.cons (.bin .sub .i64 (.app 32 1 (.cons (.var 1) (.cons (.lit 12) .nil))) (.lit 1024)) .nil))) (.app 31 1 (.cons (.app 32 0 (.cons (.var 2) (.cons (.lit 12) .nil))) (.cons (.app 32 1 (.cons (.var 3) (.cons (.lit 12) .nil))) .nil)))) (.wrap .i64 (.bin .mul .i64 (.bin .sub .i64 (.app 32 1 (.cons (.var 1) (.cons (.lit 12) .nil))) (.lit 1024)) (.lit 4096))))) (.bin .add .i64 (.app 31 0 (.cons (.bin .sub .i64 (.app 32 0 (.cons (.var 0) (.cons (.lit 12) .nil))) (.lit 1024)) (.cons (.bin .sub .i64 (.app 32 1 (.cons (.var 1) (.cons (.lit 12) .nil))) (.lit 1024)) .nil))) (.app 31 0 (.cons (.app 32 0 (.cons (.var 2) (.cons (.lit 12) .nil))) (.cons (.app 32 1 (.cons (.var 3) (.cons (.lit 12) .nil))) .nil)))))) (.wrap .i64 (.bin .shl .i64 (.app 31 0 (.cons (.app 32 0 (.cons (.var 2) (.cons (.lit 12) .nil))) (.cons (.app 32 1 (.cons (.var 3) (.cons (.lit 12) .nil))) .nil))) (.lit 22))))))), (.one (.bool (.lit true)))])) (.leaf (.tup [(.one (.int .i64 (.wrap .i64 (.bin .sub .i64 (.wrap .i64 (.bin .mul .i64 (.wrap .i64 (.bin .add .i64 (.bin .add .i64 (.app 31 1 (.cons (.bin .sub .i64 (.app 32 0 (.cons (.var 0) (.cons (.lit 12) .nil))) (.lit 1024)) (.cons (.bin .sub .i64 (.app 32 1 (.cons (.var 1) (.cons (.lit 12) .nil))) (.lit 1024)) .nil))) (.app 31 1 (.cons (.app 32 0 (.cons (.var 2) (.cons (.lit 12) .nil))) (.cons (.app 32 1 (.cons (.var 3) (.cons (.lit 12) .nil))) .nil)))) (.wrap .i64 (.bin .mul .i64 (.bin .sub .i64 (.app 32 1 (.cons (.var 1) (.cons (.lit 12) .nil))) (.lit 1024)) (.lit 4096))))) (.bin .add .i64 (.app 31 1 (.cons (.bin .sub .i64 (.app 32 0 (.cons (.var 0) (.cons (.lit 12) .nil))) (.lit 1024)) (.cons (.bin .sub .i64 (.app 32 1 (.cons (.var 1) (.cons (.lit 12) .nil))) (.lit 1024)) .nil))) (.app 31 1 (.cons (.app 32 0 (.cons (.var 2) (.cons (.lit 12) .nil))) (.cons (.app 32 1 (.cons (.var 3) (.cons (.lit 12) .nil))) .nil)))))) (.wrap .i64 (.bin .shl .i64 (.app 31 0 (.cons (.app 32 0 (.cons (.var 2) (.cons (.lit 12) .nil))) (.cons (.app 32 1 (.cons (.var 3) (.cons (.lit 12) .nil))) .nil))) (.lit 22))))))), (.one (.bool (.lit true)))]))) (.dead 47)) (.dead 47)) (.dead 47)) (.dead 47)) (.dead 47)) (.dead 47)) (.leaf (.tup [(.one (.int .i64 (.lit 0))), (.one (.bool (.lit false)))])))
theorem t_iCardioidBound_eq : explore X2 300 22 (lettersFrom 0 [4]) 40 [] = t_iCardioidBound := by kernel_rfl
set_option maxHeartbeats 2000000 in
theorem ok_iCardioidBound (w : World) : e_iCardioidBound.ok Try.prog w (FI pv) FB := by
  refine CEnt.by_tree (e := e_iCardioidBound) (fi := FI pv) (fb := FB) (X := X2) (fuel := 300) (d := 40) (enters_of Try.func22 rfl (by kernel_rfl)) (fun w zs => X2_ok w _ rfl rfl) mixed (fun zs hz hp => ?_) w
  obtain ⟨a, b, c, d, rfl⟩ := len4 hz
  show (explore X2 300 22 (lettersFrom 0 [4]) 40 []).den _ = _
  rw [t_iCardioidBound_eq]
  clear hz
  clear hp
  show Tree.den _ t_iCardioidBound = some (.tuple #[.int .i64 (if BV a b c d then CBD a b c d else 0), .bool (BV a b c d)])
  simp only [t_iCardioidBound, Tree.den, SVal.den, CV.den, At.den, SE.den, SB.den, SL.den, IOp.den, COp.den, envOf, List.map_cons, List.map_nil, List.getD_cons_zero, List.getD_cons_succ]
  simp only [g2, f31_0, f31_1, f32_0_12, f32_1_12, p22]
  cases h1 : BV a b c d
  · rfl
  obtain ⟨a1, a2, a3, a4, a5, a6⟩ := (BV_iff _ _ _ _).1 h1
  have q1 := coarse_bd a1 a2 a3
  have q2 := coarse_bd a4 a5 a6
  obtain ⟨s1, s2, -, -⟩ := cb_bd (U := ce b 4096 - 1024) (V := fl a 4096 - 1024) (C := fl c 4096) (D := ce d 4096) (by omega) (by omega) (by omega) (by omega)
  obtain ⟨w1, -, -, w4, w5, w6, w7, w8, w9⟩ := cb_wrap (U := ce b 4096 - 1024) (V := fl a 4096 - 1024) (C := fl c 4096) (D := ce d 4096) (by omega) (by omega) (by omega) (by omega)
  rw [t103 (by omega) (by omega) (by omega), t103 (by omega) (by omega) (by omega), t60_4 (by omega) (by omega) (by omega) (by omega), t30_2 (by omega) (by omega) (by omega) (by omega), t30_2 (by omega) (by omega) (by omega) (by omega), t60_4 (by omega) (by omega) (by omega) (by omega)]
  clear s1 s2 q1 q2 a1 a2 a3 a4 a5 a6 h1
  have w6' : IntKind.i64.wrap ((sqHi (fl a 4096 - 1024) (ce b 4096 - 1024) + sqHi (fl c 4096) (ce d 4096) + (ce b 4096 - 1024) * 4096) * (sqLo (fl a 4096 - 1024) (ce b 4096 - 1024) + sqLo (fl c 4096) (ce d 4096))) = (sqLo (fl a 4096 - 1024) (ce b 4096 - 1024) + sqLo (fl c 4096) (ce d 4096)) * (sqHi (fl a 4096 - 1024) (ce b 4096 - 1024) + sqHi (fl c 4096) (ce d 4096) + (ce b 4096 - 1024) * 4096) := by rw [Int.mul_comm]; exact w6
  have w7' : IntKind.i64.wrap ((sqHi (fl a 4096 - 1024) (ce b 4096 - 1024) + sqHi (fl c 4096) (ce d 4096) + (ce b 4096 - 1024) * 4096) * (sqHi (fl a 4096 - 1024) (ce b 4096 - 1024) + sqHi (fl c 4096) (ce d 4096))) = (sqHi (fl a 4096 - 1024) (ce b 4096 - 1024) + sqHi (fl c 4096) (ce d 4096)) * (sqHi (fl a 4096 - 1024) (ce b 4096 - 1024) + sqHi (fl c 4096) (ce d 4096) + (ce b 4096 - 1024) * 4096) := by rw [Int.mul_comm]; exact w7
  simp only [w1, w4, w5, w6', w7', w8, w9]
  unfold CBD cS cqH cqL cuH cuL cyH cyL
  by_cases hc : sqHi (fl a 4096 - 1024) (ce b 4096 - 1024) + sqHi (fl c 4096) (ce d 4096) + (ce b 4096 - 1024) * 4096 < 0
  · simp only [hc, decide_true, cond_true, if_true]
  · simp only [hc, decide_false, cond_true, cond_false, if_true, if_false]
def e_sCardioidBound : CEnt := ⟨27, [4], none, .tup [.one (ai (.app 35 0 (vs 4))), .one (.bool (.app 2 0 (vs 4)))]⟩
def t_sCardioidBound : Tree := (.node (.app 2 0 (.cons (.var 0) (.cons (.var 1) (.cons (.var 2) (.cons (.var 3) .nil))))) (.node (.app 102 0 (.cons (.var 0) (.cons (.lit 4096) .nil))) (.node (.app 102 0 (.cons (.var 1) (.cons (.lit 4096) .nil))) (.node (.app 102 0 (.cons (.var 2) (.cons (.lit 4096) .nil))) (.node (.app 102 0 (.cons (.var 3) (.cons (.lit 4096) .nil))) (.node (.app 100 0 (.cons (.wrap .i64 (.bin .sub .i64 (.app 33 0 (.cons (.var 0) (.cons (.lit 4096) .nil))) (.lit 1024))) (.cons (.wrap .i64 (.bin .sub .i64 (.app 33 1 (.cons (.var 1) (.cons (.lit 4096) .nil))) (.lit 1024))) .nil))) (.node (.app 100 0 (.cons (.app 33 0 (.cons (.var 2) (.cons (.lit 4096) .nil))) (.cons (.app 33 1 (.cons (.var 3) (.cons (.lit 4096) .nil))) .nil))) (.node (.cmp .lt (.wrap .i64 (.bin .add .i64 (.wrap .i64 (.bin .add .i64 (.app 31 1 (.cons (.wrap .i64 (.bin .sub .i64 (.app 33 0 (.cons (.var 0) (.cons (.lit 4096) .nil))) (.lit 1024))) (.cons (.wrap .i64 (.bin .sub .i64 (.app 33 1 (.cons (.var 1) (.cons (.lit 4096) .nil))) (.lit 1024))) .nil))) (.app 31 1 (.cons (.app 33 0 (.cons (.var 2) (.cons (.lit 4096) .nil))) (.cons (.app 33 1 (.cons (.var 3) (.cons (.lit 4096) .nil))) .nil))))) (.wrap .i64 (.bin .mul .i64 (.wrap .i64 (.bin .sub .i64 (.app 33 1 (.cons (.var 1) (.cons (.lit 4096) .nil))) (.lit 1024))) (.lit 4096))))) (.lit 0)) (.leaf (.tup [(.one (.int .i64 (.wrap .i64 (.bin .sub .i64 (.wrap .i64 (.bin .mul .i64 (.wrap .i64 (.bin .add .i64 (.app 31 0 (.cons (.wrap .i64 (.bin .sub .i64 (.app 33 0 (.cons (.var 0) (.cons (.lit 4096) .nil))) (.lit 1024))) (.cons (.wrap .i64 (.bin .sub .i64 (.app 33 1 (.cons (.var 1) (.cons (.lit 4096) .nil))) (.lit 1024))) .nil))) (.app 31 0 (.cons (.app 33 0 (.cons (.var 2) (.cons (.lit 4096) .nil))) (.cons (.app 33 1 (.cons (.var 3) (.cons (.lit 4096) .nil))) .nil))))) (.wrap .i64 (.bin .add .i64 (.wrap .i64 (.bin .add .i64 (.app 31 1 (.cons (.wrap .i64 (.bin .sub .i64 (.app 33 0 (.cons (.var 0) (.cons (.lit 4096) .nil))) (.lit 1024))) (.cons (.wrap .i64 (.bin .sub .i64 (.app 33 1 (.cons (.var 1) (.cons (.lit 4096) .nil))) (.lit 1024))) .nil))) (.app 31 1 (.cons (.app 33 0 (.cons (.var 2) (.cons (.lit 4096) .nil))) (.cons (.app 33 1 (.cons (.var 3) (.cons (.lit 4096) .nil))) .nil))))) (.wrap .i64 (.bin .mul .i64 (.wrap .i64 (.bin .sub .i64 (.app 33 1 (.cons (.var 1) (.cons (.lit 4096) .nil))) (.lit 1024))) (.lit 4096))))))) (.wrap .i64 (.bin .shl .i64 (.app 31 0 (.cons (.app 33 0 (.cons (.var 2) (.cons (.lit 4096) .nil))) (.cons (.app 33 1 (.cons (.var 3) (.cons (.lit 4096) .nil))) .nil))) (.lit 22))))))), (.one (.bool (.lit true)))])) (.leaf (.tup [(.one (.int .i64 (.wrap .i64 (.bin .sub .i64 (.wrap .i64 (.bin .mul .i64 (.wrap .i64 (.bin .add .i64 (.app 31 1 (.cons (.wrap .i64 (.bin .sub .i64 (.app 33 0 (.cons (.var 0) (.cons (.lit 4096) .nil))) (.lit 1024))) (.cons (.wrap .i64 (.bin .sub .i64 (.app 33 1 (.cons (.var 1) (.cons (.lit 4096) .nil))) (.lit 1024))) .nil))) (.app 31 1 (.cons (.app 33 0 (.cons (.var 2) (.cons (.lit 4096) .nil))) (.cons (.app 33 1 (.cons (.var 3) (.cons (.lit 4096) .nil))) .nil))))) (.wrap .i64 (.bin .add .i64 (.wrap .i64 (.bin .add .i64 (.app 31 1 (.cons (.wrap .i64 (.bin .sub .i64 (.app 33 0 (.cons (.var 0) (.cons (.lit 4096) .nil))) (.lit 1024))) (.cons (.wrap .i64 (.bin .sub .i64 (.app 33 1 (.cons (.var 1) (.cons (.lit 4096) .nil))) (.lit 1024))) .nil))) (.app 31 1 (.cons (.app 33 0 (.cons (.var 2) (.cons (.lit 4096) .nil))) (.cons (.app 33 1 (.cons (.var 3) (.cons (.lit 4096) .nil))) .nil))))) (.wrap .i64 (.bin .mul .i64 (.wrap .i64 (.bin .sub .i64 (.app 33 1 (.cons (.var 1) (.cons (.lit 4096) .nil))) (.lit 1024))) (.lit 4096))))))) (.wrap .i64 (.bin .shl .i64 (.app 31 0 (.cons (.app 33 0 (.cons (.var 2) (.cons (.lit 4096) .nil))) (.cons (.app 33 1 (.cons (.var 3) (.cons (.lit 4096) .nil))) .nil))) (.lit 22))))))), (.one (.bool (.lit true)))]))) (.dead 47)) (.dead 47)) (.dead 47)) (.dead 47)) (.dead 47)) (.dead 47)) (.leaf (.tup [(.one (.int .i64 (.lit 0))), (.one (.bool (.lit false)))])))
theorem t_sCardioidBound_eq : explore X2 300 27 (lettersFrom 0 [4]) 40 [] = t_sCardioidBound := by kernel_rfl
set_option maxHeartbeats 2000000 in
theorem ok_sCardioidBound (w : World) : e_sCardioidBound.ok Try.prog w (FI pv) FB := by
  refine CEnt.by_tree (e := e_sCardioidBound) (fi := FI pv) (fb := FB) (X := X2) (fuel := 300) (d := 40) (enters_of Try.func27 rfl (by kernel_rfl)) (fun w zs => X2_ok w _ rfl rfl) mixed (fun zs hz hp => ?_) w
  obtain ⟨a, b, c, d, rfl⟩ := len4 hz
  show (explore X2 300 27 (lettersFrom 0 [4]) 40 []).den _ = _
  rw [t_sCardioidBound_eq]
  clear hz
  clear hp
  show Tree.den _ t_sCardioidBound = some (.tuple #[.int .i64 (if BV a b c d then CBD a b c d else 0), .bool (BV a b c d)])
  simp only [t_sCardioidBound, Tree.den, SVal.den, CV.den, At.den, SE.den, SB.den, SL.den, IOp.den, COp.den, envOf, List.map_cons, List.map_nil, List.getD_cons_zero, List.getD_cons_succ]
  simp only [g2, f31_0, f31_1, f33_0, f33_1, p22]
  cases h1 : BV a b c d
  · rfl
  obtain ⟨a1, a2, a3, a4, a5, a6⟩ := (BV_iff _ _ _ _).1 h1
  have q1 := coarse_bd a1 a2 a3
  have q2 := coarse_bd a4 a5 a6
  have v1 := wrap_in (x := fl a 4096 - 1024) (by omega) (by omega)
  have v2 := wrap_in (x := ce b 4096 - 1024) (by omega) (by omega)
  obtain ⟨w1, w2, w3, w4, w5, w6, w7, w8, w9⟩ := cb_wrap (U := ce b 4096 - 1024) (V := fl a 4096 - 1024) (C := fl c 4096) (D := ce d 4096) (by omega) (by omega) (by omega) (by omega)
  simp only [v1, v2]
  rw [t102 (by omega) (by omega), t102 (by omega) (by omega), t102 (by omega) (by omega), t102 (by omega) (by omega), t30_2 (by omega) (by omega) (by omega) (by omega), t30_2 (by omega) (by omega) (by omega) (by omega)]
  clear q1 q2 a1 a2 a3 a4 a5 a6 h1 v1 v2
  simp only [w1, w2, w3, w4, w5, w6, w7, w8, w9]
  unfold CBD cS cqH cqL cuH cuL cyH cyL
  by_cases hc : sqHi (fl a 4096 - 1024) (ce b 4096 - 1024) + sqHi (fl c 4096) (ce d 4096) + (ce b 4096 - 1024) * 4096 < 0
  · simp only [hc, decide_true, cond_true, if_true]
  · simp only [hc, decide_false, cond_true, cond_false, if_true, if_false]
end Go.Proofs.Ytjbpaejjpamcpaa
