import Derived.Test.YtjbpaejjpamcpaaMEu
import Derived.Test.YtjbpaejjpamcpaaRow4
/- The quarters of a box, their states: contracts of the functions that give them as rows. -/
namespace Go.Proofs.Ytjbpaejjpamcpaa
set_option linter.unusedSimpArgs false
set_option linter.unusedVariables false
variable {pv : Int → Int → Int}
open Go.RowKit Eng
def GSp : List CEnt := [e_iCellState, e_sCellState] ++ GE4
theorem GSp_ok : ∀ e ∈ GSp, ∀ w : World, e.ok Try.prog w (FI pv) FB := by
  intro e he w
  rcases List.mem_append.1 he with he | he
  case inr => exact GE4_ok e he w
  simp only [List.mem_cons, List.not_mem_nil, or_false] at he
  rcases he with rfl | rfl
  · exact ok_iCellState w
  · exact ok_sCellState w
def enSp : List Nat := [14]
theorem enSp_14 : Enters Try.prog 14 := enters_of Try.func14 rfl (by kernel_rfl)
theorem enSp_ok : ∀ f ∈ enSp, Enters Try.prog f := by
  intro f hf
  simp only [enSp, List.mem_cons, List.not_mem_nil, or_false] at hf
  rcases hf with rfl
  · exact enSp_14
def XSpc (P : Program) : Cx := { P := P, G := GSp, en := enSp, call := nil0 }
noncomputable def XSp : Cx := XSpc Try.prog
theorem XSp_ok (w : World) (E : Env) (hi : E.fi = FI pv) (hb : E.fb = FB) : XOk XSp w E := xok GSp_ok enSp_ok w E hi hb
end Go.Proofs.Ytjbpaejjpamcpaa
/- The quarters of a box, their states: contracts of the functions that give them as rows. -/
namespace Go.Proofs.Ytjbpaejjpamcpaa
set_option linter.unusedSimpArgs false
set_option linter.unusedVariables false
open Go.RowKit Eng
def r_iCut : REnt := ⟨16, [4], some (.app 2 0 (vs 4)), 27, 88, 4, [.var 0, .var 1, .var 2, .var 3], .lit 4, [.one (.bool (.lit true))]⟩
def kn_iCut1 : Kn := []
def tr_iCut1 : RTree := (.node (.app 2 0 (.cons (.var 0) (.cons (.var 1) (.cons (.var 2) (.cons (.var 3) .nil))))) (.leaf [(.lit 4), (.var 0), (.bin .shr .i64 (.wrap .i64 (.bin .add .i64 (.var 0) (.var 1))) (.lit 1)), (.var 2), (.bin .shr .i64 (.wrap .i64 (.bin .add .i64 (.var 2) (.var 3))) (.lit 1)), (.bin .shr .i64 (.wrap .i64 (.bin .add .i64 (.var 0) (.var 1))) (.lit 1)), (.var 1), (.var 2), (.bin .shr .i64 (.wrap .i64 (.bin .add .i64 (.var 2) (.var 3))) (.lit 1)), (.var 0), (.bin .shr .i64 (.wrap .i64 (.bin .add .i64 (.var 0) (.var 1))) (.lit 1)), (.bin .shr .i64 (.wrap .i64 (.bin .add .i64 (.var 2) (.var 3))) (.lit 1)), (.var 3), (.bin .shr .i64 (.wrap .i64 (.bin .add .i64 (.var 0) (.var 1))) (.lit 1)), (.var 1), (.bin .shr .i64 (.wrap .i64 (.bin .add .i64 (.var 2) (.var 3))) (.lit 1)), (.var 3)] [(.one (.bool (.lit true)))]) (.leaf [(.lit 0)] [(.one (.bool (.lit false)))]))
theorem tr_iCut1_eq : exploreRL XSp 300 r_iCut 40 kn_iCut1 = tr_iCut1 := by kernel_rfl
def r_iCutN : REnt := ⟨16, [4], some (.not (.app 2 0 (vs 4))), 27, 88, 4, [.var 0, .var 1, .var 2, .var 3], .lit 0, [.one (.bool (.lit false))]⟩
def kn_iCut0 : Kn := []
def tr_iCut0 : RTree := (.node (.app 2 0 (.cons (.var 0) (.cons (.var 1) (.cons (.var 2) (.cons (.var 3) .nil))))) (.leaf [(.lit 4), (.var 0), (.bin .shr .i64 (.wrap .i64 (.bin .add .i64 (.var 0) (.var 1))) (.lit 1)), (.var 2), (.bin .shr .i64 (.wrap .i64 (.bin .add .i64 (.var 2) (.var 3))) (.lit 1)), (.bin .shr .i64 (.wrap .i64 (.bin .add .i64 (.var 0) (.var 1))) (.lit 1)), (.var 1), (.var 2), (.bin .shr .i64 (.wrap .i64 (.bin .add .i64 (.var 2) (.var 3))) (.lit 1)), (.var 0), (.bin .shr .i64 (.wrap .i64 (.bin .add .i64 (.var 0) (.var 1))) (.lit 1)), (.bin .shr .i64 (.wrap .i64 (.bin .add .i64 (.var 2) (.var 3))) (.lit 1)), (.var 3), (.bin .shr .i64 (.wrap .i64 (.bin .add .i64 (.var 0) (.var 1))) (.lit 1)), (.var 1), (.bin .shr .i64 (.wrap .i64 (.bin .add .i64 (.var 2) (.var 3))) (.lit 1)), (.var 3)] [(.one (.bool (.lit true)))]) (.leaf [(.lit 0)] [(.one (.bool (.lit false)))]))
theorem tr_iCut0_eq : exploreRL XSp 300 r_iCutN 40 kn_iCut0 = tr_iCut0 := by kernel_rfl
def r_sSpl : REnt := ⟨5, [4, 0], some (.app 2 0 (vs 4)), 3, 89, 1, [.var 0, .var 1, .var 2, .var 3, .var 4], .lit 4, [.one (.bool (.lit true))]⟩
def kn_sSpl1 : Kn := []
def tr_sSpl1 : RTree := (.node (.app 2 0 (.cons (.var 0) (.cons (.var 1) (.cons (.var 2) (.cons (.var 3) .nil))))) (.node (.app 102 0 (.cons (.wrap .i64 (.bin .add .i64 (.var 0) (.var 1))) (.cons (.lit 2) .nil))) (.node (.app 102 0 (.cons (.wrap .i64 (.bin .add .i64 (.var 2) (.var 3))) (.cons (.lit 2) .nil))) (.leaf [(.lit 4), (.app 52 0 (.cons (.var 0) (.cons (.app 33 0 (.cons (.wrap .i64 (.bin .add .i64 (.var 0) (.var 1))) (.cons (.lit 2) .nil))) (.cons (.var 2) (.cons (.app 33 0 (.cons (.wrap .i64 (.bin .add .i64 (.var 2) (.var 3))) (.cons (.lit 2) .nil))) (.cons (.var 4) .nil)))))), (.app 52 0 (.cons (.app 33 0 (.cons (.wrap .i64 (.bin .add .i64 (.var 0) (.var 1))) (.cons (.lit 2) .nil))) (.cons (.var 1) (.cons (.var 2) (.cons (.app 33 0 (.cons (.wrap .i64 (.bin .add .i64 (.var 2) (.var 3))) (.cons (.lit 2) .nil))) (.cons (.var 4) .nil)))))), (.app 52 0 (.cons (.var 0) (.cons (.app 33 0 (.cons (.wrap .i64 (.bin .add .i64 (.var 0) (.var 1))) (.cons (.lit 2) .nil))) (.cons (.app 33 0 (.cons (.wrap .i64 (.bin .add .i64 (.var 2) (.var 3))) (.cons (.lit 2) .nil))) (.cons (.var 3) (.cons (.var 4) .nil)))))), (.app 52 0 (.cons (.app 33 0 (.cons (.wrap .i64 (.bin .add .i64 (.var 0) (.var 1))) (.cons (.lit 2) .nil))) (.cons (.var 1) (.cons (.app 33 0 (.cons (.wrap .i64 (.bin .add .i64 (.var 2) (.var 3))) (.cons (.lit 2) .nil))) (.cons (.var 3) (.cons (.var 4) .nil))))))] [(.one (.bool (.lit true)))]) (.dead 47)) (.dead 47)) (.leaf [(.lit 0)] [(.one (.bool (.lit false)))]))
theorem tr_sSpl1_eq : exploreRL XSp 300 r_sSpl 40 kn_sSpl1 = tr_sSpl1 := by kernel_rfl
def r_sSplN : REnt := ⟨5, [4, 0], some (.not (.app 2 0 (vs 4))), 3, 89, 1, [.var 0, .var 1, .var 2, .var 3, .var 4], .lit 0, [.one (.bool (.lit false))]⟩
def kn_sSpl0 : Kn := []
def tr_sSpl0 : RTree := (.node (.app 2 0 (.cons (.var 0) (.cons (.var 1) (.cons (.var 2) (.cons (.var 3) .nil))))) (.node (.app 102 0 (.cons (.wrap .i64 (.bin .add .i64 (.var 0) (.var 1))) (.cons (.lit 2) .nil))) (.node (.app 102 0 (.cons (.wrap .i64 (.bin .add .i64 (.var 2) (.var 3))) (.cons (.lit 2) .nil))) (.leaf [(.lit 4), (.app 52 0 (.cons (.var 0) (.cons (.app 33 0 (.cons (.wrap .i64 (.bin .add .i64 (.var 0) (.var 1))) (.cons (.lit 2) .nil))) (.cons (.var 2) (.cons (.app 33 0 (.cons (.wrap .i64 (.bin .add .i64 (.var 2) (.var 3))) (.cons (.lit 2) .nil))) (.cons (.var 4) .nil)))))), (.app 52 0 (.cons (.app 33 0 (.cons (.wrap .i64 (.bin .add .i64 (.var 0) (.var 1))) (.cons (.lit 2) .nil))) (.cons (.var 1) (.cons (.var 2) (.cons (.app 33 0 (.cons (.wrap .i64 (.bin .add .i64 (.var 2) (.var 3))) (.cons (.lit 2) .nil))) (.cons (.var 4) .nil)))))), (.app 52 0 (.cons (.var 0) (.cons (.app 33 0 (.cons (.wrap .i64 (.bin .add .i64 (.var 0) (.var 1))) (.cons (.lit 2) .nil))) (.cons (.app 33 0 (.cons (.wrap .i64 (.bin .add .i64 (.var 2) (.var 3))) (.cons (.lit 2) .nil))) (.cons (.var 3) (.cons (.var 4) .nil)))))), (.app 52 0 (.cons (.app 33 0 (.cons (.wrap .i64 (.bin .add .i64 (.var 0) (.var 1))) (.cons (.lit 2) .nil))) (.cons (.var 1) (.cons (.app 33 0 (.cons (.wrap .i64 (.bin .add .i64 (.var 2) (.var 3))) (.cons (.lit 2) .nil))) (.cons (.var 3) (.cons (.var 4) .nil))))))] [(.one (.bool (.lit true)))]) (.dead 47)) (.dead 47)) (.leaf [(.lit 0)] [(.one (.bool (.lit false)))]))
theorem tr_sSpl0_eq : exploreRL XSp 300 r_sSplN 40 kn_sSpl0 = tr_sSpl0 := by kernel_rfl
end Go.Proofs.Ytjbpaejjpamcpaa
/- The quarters of a box, their states: the contracts hold. -/
namespace Go.Proofs.Ytjbpaejjpamcpaa
set_option linter.unusedSimpArgs false
set_option linter.unusedVariables false
variable {pv : Int → Int → Int}
open Go.RowKit Eng
theorem shr1 (x : Int) : x.fdiv (2 ^ min (Int.toNat 1) IntKind.i64.bits) = fl x 2 := by
  show x.fdiv 2 = x / 2
  exact Int.fdiv_eq_ediv_of_nonneg x (by decide)
theorem cut_due (a b c d : Int) : r_iCut.dueL (envOf [a, b, c, d] (FI pv) FB) = ([4, qv 0 a b c d 0, qv 1 a b c d 0, qv 2 a b c d 0, qv 3 a b c d 0, qv 0 a b c d 1, qv 1 a b c d 1, qv 2 a b c d 1, qv 3 a b c d 1, qv 0 a b c d 2, qv 1 a b c d 2, qv 2 a b c d 2, qv 3 a b c d 2, qv 0 a b c d 3, qv 1 a b c d 3, qv 2 a b c d 3, qv 3 a b c d 3], [.bool true]) := rfl
theorem cutN_due (a b c d : Int) : r_iCutN.dueL (envOf [a, b, c, d] (FI pv) FB) = ([0], [.bool false]) := rfl
theorem spl_due (a b c d m : Int) : r_sSpl.dueL (envOf [a, b, c, d, m] (FI pv) FB) = ([4, FI pv 52 0 [qv 0 a b c d 0, qv 1 a b c d 0, qv 2 a b c d 0, qv 3 a b c d 0, m], FI pv 52 0 [qv 0 a b c d 1, qv 1 a b c d 1, qv 2 a b c d 1, qv 3 a b c d 1, m], FI pv 52 0 [qv 0 a b c d 2, qv 1 a b c d 2, qv 2 a b c d 2, qv 3 a b c d 2, m], FI pv 52 0 [qv 0 a b c d 3, qv 1 a b c d 3, qv 2 a b c d 3, qv 3 a b c d 3, m]], [.bool true]) := rfl
theorem splN_due (a b c d m : Int) : r_sSplN.dueL (envOf [a, b, c, d, m] (FI pv) FB) = ([0], [.bool false]) := rfl
theorem qv_at (a b c d : Int) : qv 0 a b c d 0 = a ∧ qv 1 a b c d 0 = fl (a + b) 2 ∧ qv 2 a b c d 0 = c ∧ qv 3 a b c d 0 = fl (c + d) 2 ∧ qv 0 a b c d 1 = fl (a + b) 2 ∧ qv 1 a b c d 1 = b ∧ qv 2 a b c d 1 = c ∧ qv 3 a b c d 1 = fl (c + d) 2 ∧
    qv 0 a b c d 2 = a ∧ qv 1 a b c d 2 = fl (a + b) 2 ∧ qv 2 a b c d 2 = fl (c + d) 2 ∧ qv 3 a b c d 2 = d ∧ qv 0 a b c d 3 = fl (a + b) 2 ∧ qv 1 a b c d 3 = b ∧ qv 2 a b c d 3 = fl (c + d) 2 ∧ qv 3 a b c d 3 = d := ⟨rfl, rfl, rfl, rfl, rfl, rfl, rfl, rfl, rfl, rfl, rfl, rfl, rfl, rfl, rfl, rfl⟩
theorem rok_iCut (w : World) : r_iCut.ok Try.prog w (FI pv) FB := by
  refine ⟨enters_of Try.func16 rfl (by kernel_rfl), fun zs hz hp w' hb => ?_⟩
  obtain ⟨a, b, c, d, rfl⟩ := len4 hz
  have h : BV a b c d = true := hp _ rfl
  have ha : (lettersFrom 0 r_iCut.ins).map (SVal.den (envOf [a, b, c, d] (FI pv) FB) Pl.no) = inDen r_iCut.ins [a, b, c, d] := rfl
  rw [← ha]
  refine exploreRL_ok (fuel := 300) (XSp_ok w' _ rfl rfl) mixed 40 kn_iCut1 (fun p hp => by cases hp) ?_
  rw [tr_iCut1_eq, cut_due]
  have g2 : FB 2 0 [a, b, c, d] = true := h
  obtain ⟨p1, p2, p3, p4, p5, p6⟩ := (BV_iff _ _ _ _).1 h
  simp only [tr_iCut1, RTree.den, denL, SE.den, SB.den, SL.den, IOp.den, COp.den, envOf, List.map_cons, List.map_nil, List.getD_cons_zero, List.getD_cons_succ, g2, cond_true]
  rw [wrap_in (x := a + b) (by omega) (by omega), wrap_in (x := c + d) (by omega) (by omega)]
  simp only [shr1]
  rfl
theorem rok_iCutN (w : World) : r_iCutN.ok Try.prog w (FI pv) FB := by
  refine ⟨enters_of Try.func16 rfl (by kernel_rfl), fun zs hz hp w' hb => ?_⟩
  obtain ⟨a, b, c, d, rfl⟩ := len4 hz
  have h' : (!(BV a b c d)) = true := hp _ rfl
  have h : BV a b c d = false := by cases e : BV a b c d <;> rw [e] at h' <;> first | rfl | cases h'
  have ha : (lettersFrom 0 r_iCutN.ins).map (SVal.den (envOf [a, b, c, d] (FI pv) FB) Pl.no) = inDen r_iCutN.ins [a, b, c, d] := rfl
  rw [← ha]
  refine exploreRL_ok (fuel := 300) (XSp_ok w' _ rfl rfl) mixed 40 kn_iCut0 (fun p hp => by cases hp) ?_
  rw [tr_iCut0_eq, cutN_due]
  have g2 : FB 2 0 [a, b, c, d] = false := h
  simp only [tr_iCut0, RTree.den, denL, SE.den, SB.den, SL.den, IOp.den, COp.den, envOf, List.map_cons, List.map_nil, List.getD_cons_zero, List.getD_cons_succ, g2, cond_false]
  rfl
theorem rok_sSpl (w : World) : r_sSpl.ok Try.prog w (FI pv) FB := by
  refine ⟨enters_of Try.func5 rfl (by kernel_rfl), fun zs hz hp w' hb => ?_⟩
  obtain ⟨a, b, c, d, m, rfl⟩ := len5 hz
  have h : BV a b c d = true := hp _ rfl
  have ha : (lettersFrom 0 r_sSpl.ins).map (SVal.den (envOf [a, b, c, d, m] (FI pv) FB) Pl.no) = inDen r_sSpl.ins [a, b, c, d, m] := rfl
  rw [← ha]
  refine exploreRL_ok (fuel := 300) (XSp_ok w' _ rfl rfl) mixed 40 kn_sSpl1 (fun p hp => by cases hp) ?_
  rw [tr_sSpl1_eq, spl_due]
  have g2 : FB 2 0 [a, b, c, d] = true := h
  obtain ⟨p1, p2, p3, p4, p5, p6⟩ := (BV_iff _ _ _ _).1 h
  have g5 : FB 102 0 [a + b, 2] = true := by
    show (le60 (a + b) && decide ((1 : Int) ≤ 2) && le60 2) = true
    simp only [Bool.and_eq_true, le60_iff, decide_eq_true_eq]; omega
  have g6 : FB 102 0 [c + d, 2] = true := by
    show (le60 (c + d) && decide ((1 : Int) ≤ 2) && le60 2) = true
    simp only [Bool.and_eq_true, le60_iff, decide_eq_true_eq]; omega
  simp only [tr_sSpl1, RTree.den, denL, SE.den, SB.den, SL.den, IOp.den, COp.den, envOf, List.map_cons, List.map_nil, List.getD_cons_zero, List.getD_cons_succ, g2, cond_true]
  rw [wrap_in (x := a + b) (by omega) (by omega), wrap_in (x := c + d) (by omega) (by omega)]
  simp only [g5, g6, cond_true]
  rfl
theorem rok_sSplN (w : World) : r_sSplN.ok Try.prog w (FI pv) FB := by
  refine ⟨enters_of Try.func5 rfl (by kernel_rfl), fun zs hz hp w' hb => ?_⟩
  obtain ⟨a, b, c, d, m, rfl⟩ := len5 hz
  have h' : (!(BV a b c d)) = true := hp _ rfl
  have h : BV a b c d = false := by cases e : BV a b c d <;> rw [e] at h' <;> first | rfl | cases h'
  have ha : (lettersFrom 0 r_sSplN.ins).map (SVal.den (envOf [a, b, c, d, m] (FI pv) FB) Pl.no) = inDen r_sSplN.ins [a, b, c, d, m] := rfl
  rw [← ha]
  refine exploreRL_ok (fuel := 300) (XSp_ok w' _ rfl rfl) mixed 40 kn_sSpl0 (fun p hp => by cases hp) ?_
  rw [tr_sSpl0_eq, splN_due]
  have g2 : FB 2 0 [a, b, c, d] = false := h
  simp only [tr_sSpl0, RTree.den, denL, SE.den, SB.den, SL.den, IOp.den, COp.den, envOf, List.map_cons, List.map_nil, List.getD_cons_zero, List.getD_cons_succ, g2, cond_false]
  rfl
end Go.Proofs.Ytjbpaejjpamcpaa
