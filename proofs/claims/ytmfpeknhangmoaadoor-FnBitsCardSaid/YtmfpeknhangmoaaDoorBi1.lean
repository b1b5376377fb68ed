/- The reference's count of digits: its loops and its contract. -/
import Derived.Test.YtmfpeknhangmoaaDoorBi0
import Derived.Test.YtmfpeknhangmoaaDoorLoop
namespace Go.Proofs.YtmfpeknhangmoaaDoor
set_option linter.unusedSimpArgs false
set_option linter.unusedVariables false
variable {pv : Int → Int → Int}
open Go.RowKit Eng
theorem tdiv2 {n : Int} (h : 0 ≤ n) : n.tdiv 2 = n / 2 := Int.tdiv_eq_ediv_of_nonneg h
def l_sBiA : LEnt := (.mk 10 [false, false, true, true, true] (.mk [(.cv (.one (.int .i64 (.var 0)))), .any, .any, .any, .any, .any, .any, .any, .any, .any, .any, .any, .any, .any, .any, .any, .any, .any, .any, .any] []) 1 94 (some (.and (.cmp .le (.lit 1) (.var 0)) (.cmp .le (.var 0) (.lit 9223372036854775807)))) [((.exit 0), (.mk [(.cv (.one (.int .i64 (.var 0)))), .any, .any, .any, .any, .any, .any, .any, .any, .any, .any, .any, .any, .any, .any, .any, .any, .any, .any, .any] []), 1, [])])
def bt_sBiA : BTree := (.node (.cmp .eq (.bin .tmod .i64 (.var 0) (.lit 2)) (.lit 0)) (.next [(.wrap .i64 (.bin .tdiv .i64 (.var 0) (.lit 2)))]) (.out 0 [(.var 0)]))
theorem bt_sBiA_eq : bodyTree XB0 l_sBiA 200 40 = bt_sBiA := by kernel_rfl
theorem lok_sBiA (w : World) : l_sBiA.ok Tryd.prog w (FI pv) FB := by
  refine LEnt.by_loop (X := XB0) (fun zs => XB0_ok w _ rfl rfl) mixed bt_sBiA_eq (fun zs hz hp => ?_)
  obtain ⟨n, rfl⟩ := len1 hz
  have hp : (decide (1 ≤ n) && decide (n ≤ 9223372036854775807)) = true := hp _ rfl
  simp only [Bool.and_eq_true, decide_eq_true_eq] at hp
  clear hz
  have key : ∀ (N : Nat) (n : Int), 1 ≤ n → n ≤ 9223372036854775807 → n.toNat < N → loopF (FI pv) FB bt_sBiA N [n] = some (0, [n / 2 ^ (tz n).toNat]) := by
    intro N
    induction N with
    | zero => intro n _ _ h; omega
    | succ N ih =>
      intro n h1 h2 h3
      unfold loopF
      simp only [bt_sBiA, BTree.den, SE.den, SB.den, SL.den, COp.den, IOp.den, envOf, List.map_cons, List.map_nil, List.getD_cons_zero, List.getD_cons_succ, tmod_two]
      by_cases h : n % 2 = 0
      · rw [decide_eq_true h]
        simp only [cond_true]
        rw [tdiv2 (by omega), wrap_in (by omega) (by omega)]
        refine (ih (n / 2) (by omega) (by omega) (by omega)).trans ?_
        rw [tz_even h1 (by omega) h]
        have h0 := tz_nonneg (n / 2)
        rw [show (1 + tz (n / 2)).toNat = (tz (n / 2)).toNat + 1 by omega, Int.pow_succ, Int.mul_comm (2 ^ _) 2, Int.ediv_ediv_of_nonneg (by omega)]
      · rw [decide_eq_false h]
        simp only [cond_false]
        rw [tz_odd h1 (by omega)]
        simp
  exact ⟨n.toNat + 1, 0, _, _, _, _, _, key _ n hp.1 hp.2 (by omega), rfl, Or.inl rfl, rfl⟩
def l_sBiB : LEnt := (.mk 10 [false, false, true, true, true, true, true] (.mk [(.cv (.one (.int .i64 (.var 0)))), .any, .any, (.cv (.one (.int .i64 (.var 1)))), .any, .any, .any, .any, .any, .any, .any, .any, .any, .any, .any, .any, .any, .any, .any, .any] []) 2 95 (some (.and (.and (.cmp .le (.lit 0) (.var 0)) (.cmp .le (.var 0) (.lit 9223372036854775807))) (.cmp .eq (.var 1) (.lit 0)))) [((.exit 2), (.mk [.any, .any, .any, (.cv (.one (.int .i64 (.var 0)))), .any, .any, .any, .any, .any, .any, .any, .any, .any, .any, .any, .any, .any, .any, .any, .any] []), 1, [])])
def bt_sBiB : BTree := (.node (.cmp .lt (.lit 0) (.var 0)) (.next [(.wrap .i64 (.bin .tdiv .i64 (.var 0) (.lit 2))), (.wrap .i64 (.bin .add .i64 (.var 1) (.lit 1)))]) (.out 0 [(.var 1)]))
theorem bt_sBiB_eq : bodyTree XB0 l_sBiB 200 40 = bt_sBiB := by kernel_rfl
theorem lok_sBiB (w : World) : l_sBiB.ok Tryd.prog w (FI pv) FB := by
  refine LEnt.by_loop (X := XB0) (fun zs => XB0_ok w _ rfl rfl) mixed bt_sBiB_eq (fun zs hz hp => ?_)
  obtain ⟨n, o, rfl⟩ := len2 hz
  have hp : (decide (0 ≤ n) && decide (n ≤ 9223372036854775807) && (o == 0)) = true := hp _ rfl
  simp only [Bool.and_eq_true, decide_eq_true_eq, beq_iff_eq] at hp
  obtain ⟨⟨hp1, hp2⟩, rfl⟩ := hp
  clear hz
  have key : ∀ (N : Nat) (n o : Int), 0 ≤ n → n ≤ 9223372036854775807 → 0 ≤ o → n.toNat < N → o + bl n ≤ 1000 → loopF (FI pv) FB bt_sBiB N [n, o] = some (0, [o + bl n]) := by
    intro N
    induction N with
    | zero => intro n _ _ h; omega
    | succ N ih =>
      intro n o h1 h2 h3 h4 h5
      unfold loopF
      simp only [bt_sBiB, BTree.den, SE.den, SB.den, SL.den, COp.den, IOp.den, envOf, List.map_cons, List.map_nil, List.getD_cons_zero, List.getD_cons_succ]
      by_cases h : 0 < n
      · rw [decide_eq_true h]
        have hb := bl_half (n := n) (by omega) (by omega)
        have h0 := bl_nonneg (n / 2)
        simp only [cond_true]
        rw [tdiv2 (by omega), wrap_in (by omega) (by omega), wrap_in (by omega) (by omega)]
        refine (ih (n / 2) (o + 1) (by omega) (by omega) (by omega) (by omega) (by omega)).trans ?_
        rw [hb, show o + (1 + bl (n / 2)) = o + 1 + bl (n / 2) by omega]
      · rw [decide_eq_false h]
        obtain rfl : n = 0 := by omega
        simp only [cond_false, bl_zero, Int.add_zero]
  have hb := bl_le (n := n) 64 (by omega) (by omega)
  exact ⟨n.toNat + 1, 0, _, _, _, _, _, key _ n 0 hp1 hp2 (by omega) (by omega) (by omega), rfl, Or.inl rfl, rfl⟩
def LB : List LEnt := [l_sBiA, l_sBiB]
theorem LB_ok : ∀ e ∈ LB, ∀ w, e.ok Tryd.prog w (FI pv) FB := by
  intro e he w
  simp only [LB, List.mem_cons, List.not_mem_nil, or_false] at he
  rcases he with rfl | rfl
  · exact lok_sBiA w
  · exact lok_sBiB w
def XB1c (P : Program) : Cx := { P := P, G := G2, en := enB0, call := nil0, L := LB }
noncomputable def XB1 : Cx := XB1c Tryd.prog
theorem XB1_ok (w : World) (E : Env) (hi : E.fi = FI pv) (hb : E.fb = FB) : XOk XB1 w E := xokL G2_ok enB0_ok LB_ok w E hi hb
end Go.Proofs.YtmfpeknhangmoaaDoor
