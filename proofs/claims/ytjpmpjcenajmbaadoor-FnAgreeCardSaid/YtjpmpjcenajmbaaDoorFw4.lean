/- The wide number that an exact one is, both: contracts. -/
import Derived.Test.YtjpmpjcenajmbaaDoorMFw
namespace Go.Proofs.YtjpmpjcenajmbaaDoor
set_option linter.unusedSimpArgs false
set_option linter.unusedVariables false
variable {pv : Int → Int → Int}
open Go.RowKit Eng
def e_iDWide : CEnt := ⟨18, [3], none, outDW⟩
def t_iDWide : Tree := (.node (.app 3 0 (.cons (.var 0) (.cons (.var 1) (.cons (.var 2) .nil)))) (.node (.app 110 0 (.cons (.bin .i2f .u64 (.var 0) (.lit 0)) (.cons (.wrap .i64 (.bin .sub .i64 (.lit 0) (.var 2))) .nil))) (.node (.app 110 0 (.cons (.bin .i2f .u64 (.var 1) (.lit 0)) (.cons (.wrap .i64 (.bin .sub .i64 (.lit 0) (.var 2))) .nil))) (.leaf (.tup [(.one (.cpx .f64 (.app 110 0 (.cons (.bin .i2f .u64 (.var 0) (.lit 0)) (.cons (.wrap .i64 (.bin .sub .i64 (.lit 0) (.var 2))) .nil))) (.app 110 0 (.cons (.bin .i2f .u64 (.var 1) (.lit 0)) (.cons (.wrap .i64 (.bin .sub .i64 (.lit 0) (.var 2))) .nil))))), (.one (.bool (.lit true)))])) (.dead 47)) (.dead 47)) (.leaf (.tup [(.one (.cpx .f64 (.lit 0) (.lit 0))), (.one (.bool (.lit false)))])))
theorem t_iDWide_eq : explore XF3 200 18 (lettersFrom 0 [3]) 40 [] = t_iDWide := by kernel_rfl
theorem ok_iDWide (w : World) : e_iDWide.ok Tryd.prog w (FI pv) FB := by
  refine CEnt.by_tree (e := e_iDWide) (fi := FI pv) (fb := FB) (X := XF3) (fuel := 200) (d := 40) (enters_of Tryd.func18 rfl (by kernel_rfl)) (fun w zs => XF3_ok w _ rfl rfl) mixed (fun zs hz hp => ?_) w
  obtain ⟨a, b, c, rfl⟩ := len3 hz
  show (explore XF3 200 18 (lettersFrom 0 [3]) 40 []).den _ = _
  rw [t_iDWide_eq]
  clear hz
  clear hp
  show Tree.den _ t_iDWide = some (.tuple #[.complex .f64 (FI pv 112 0 [a, b, c]).toNat (FI pv 112 1 [a, b, c]).toNat, .bool (FB 3 0 [a, b, c])])
  simp only [t_iDWide, Tree.den, SVal.den, CV.den, At.den, SE.den, SB.den, SL.den, IOp.den, COp.den, envOf, List.map_cons, List.map_nil, List.getD_cons_zero, List.getD_cons_succ]
  cases h : DV a b c
  · rw [f112a' h, f112b' h, show FB 3 0 [a, b, c] = false from h]; rfl
  · obtain ⟨h1, h2, h3, h4⟩ := dv_rngF h
    have e1 : FB 110 0 [FWi a, -c] = true := b110_of (by omega) (by omega) h3 h4
    have e2 : FB 110 0 [FWi b, -c] = true := b110_of (by omega) (by omega) h3 h4
    have e3 : FI pv 110 0 [FWi a, -c] = DWi a c := LD_FWi (by omega) (by omega) h3 h4
    have e4 : FI pv 110 0 [FWi b, -c] = DWi b c := LD_FWi (by omega) (by omega) h3 h4
    rw [f112a h, f112b h, show FB 3 0 [a, b, c] = true from h, near_eq, near_eq, wrap_in (by omega) (by omega), Int.zero_sub, e1, e2, e3, e4]; rfl
theorem DWi_good {n s : Int} (h1 : -2147483648 ≤ n) (h2 : n ≤ 2147483648) (h3 : 0 ≤ s) (h4 : s ≤ 60) : (DWi n s == 0 || nrm (DWi n s)) = true := by
  by_cases h0 : n = 0
  · subst h0; rfl
  · rw [Bool.or_eq_true]
    refine Or.inr ((nrm_iff _).2 (Fl.DWn_nrm h0 (by omega) (by omega)).1)
theorem b112_self {pv : Int → Int → Int} (r i s : Int) : FB 112 0 [FI pv 112 0 [r, i, s], FI pv 112 0 [r, i, s]] = true ∧ FB 112 0 [FI pv 112 1 [r, i, s], FI pv 112 1 [r, i, s]] = true := by
  have g : ∀ x : Int, FB 112 0 [x, x] = ((x == x) && ((x == 0) || nrm x)) := fun _ => rfl
  rw [g, g]
  cases h : DV r i s
  · rw [f112a' h, f112b' h]; exact ⟨rfl, rfl⟩
  · obtain ⟨h1, h2, h3, h4⟩ := dv_rngF h
    rw [f112a h, f112b h, DWi_good (by omega) (by omega) h3 h4, DWi_good (by omega) (by omega) h3 h4]
    simp
def GF3 : List CEnt := [e_iDWide] ++ GF2
theorem GF3_ok : ∀ e ∈ GF3, ∀ w : World, e.ok Tryd.prog w (FI pv) FB := by
  intro e he w
  rcases List.mem_append.1 he with he | he
  case inr => exact GF2_ok e he w
  simp only [List.mem_cons, List.not_mem_nil, or_false] at he
  rcases he with rfl
  · exact ok_iDWide w
def enF3 : List Nat := [59, 43, 31, 19, 30, 8, 10, 28, 55, 51, 15]
theorem enF3_59 : Enters Tryd.prog 59 := enters_of Tryd.func59 rfl (by kernel_rfl)
theorem enF3_43 : Enters Tryd.prog 43 := enters_of Tryd.func43 rfl (by kernel_rfl)
theorem enF3_31 : Enters Tryd.prog 31 := enters_of Tryd.func31 rfl (by kernel_rfl)
theorem enF3_19 : Enters Tryd.prog 19 := enters_of Tryd.func19 rfl (by kernel_rfl)
theorem enF3_30 : Enters Tryd.prog 30 := enters_of Tryd.func30 rfl (by kernel_rfl)
theorem enF3_8 : Enters Tryd.prog 8 := enters_of Tryd.func8 rfl (by kernel_rfl)
theorem enF3_10 : Enters Tryd.prog 10 := enters_of Tryd.func10 rfl (by kernel_rfl)
theorem enF3_28 : Enters Tryd.prog 28 := enters_of Tryd.func28 rfl (by kernel_rfl)
theorem enF3_55 : Enters Tryd.prog 55 := enters_of Tryd.func55 rfl (by kernel_rfl)
theorem enF3_51 : Enters Tryd.prog 51 := enters_of Tryd.func51 rfl (by kernel_rfl)
theorem enF3_15 : Enters Tryd.prog 15 := enters_of Tryd.func15 rfl (by kernel_rfl)
theorem enF3_ok : ∀ f ∈ enF3, Enters Tryd.prog f := by
  intro f hf
  simp only [enF3, List.mem_cons, List.not_mem_nil, or_false] at hf
  rcases hf with rfl | rfl | rfl | rfl | rfl | rfl | rfl | rfl | rfl | rfl | rfl
  · exact enF3_59
  · exact enF3_43
  · exact enF3_31
  · exact enF3_19
  · exact enF3_30
  · exact enF3_8
  · exact enF3_10
  · exact enF3_28
  · exact enF3_55
  · exact enF3_51
  · exact enF3_15
def XF4c (P : Program) : Cx := { P := P, G := GF3, en := enF3, call := nil0, L := [], R := [], ext := xF }
noncomputable def XF4 : Cx := XF4c Tryd.prog
theorem XF4_ok (w : World) (E : Env) (hi : E.fi = FI pv) (hb : E.fb = FB) : XOk XF4 w E := xokX GF3_ok enF3_ok (fun _ h => by cases h) (fun _ h => by cases h) xF_ok w E hi hb
end Go.Proofs.YtjpmpjcenajmbaaDoor
