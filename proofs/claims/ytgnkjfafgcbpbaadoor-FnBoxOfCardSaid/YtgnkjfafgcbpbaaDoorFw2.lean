/- The reference's halvings: the loop. -/
import Derived.Test.YtgnkjfafgcbpbaaDoorFw1
import Derived.Test.YtgnkjfafgcbpbaaDoorLoop
namespace Go.Proofs.YtgnkjfafgcbpbaaDoor
set_option linter.unusedSimpArgs false
set_option linter.unusedVariables false
variable {pv : Int → Int → Int}
open Go.RowKit Eng
theorem ldok_zero (e : Int) : LDok 0 e = true := rfl
theorem ldok_iff {x : Nat} (h0 : (x : Int) ≠ 0) {e : Int} : LDok x e = true ↔ Fl.Nrm x ∧ 1 ≤ (Fl.fld x : Int) + e ∧ (Fl.fld x : Int) + e ≤ 2046 ∧ -3000 ≤ e ∧ e ≤ 3000 := by
  unfold LDok
  rw [beq_eq_false_iff_ne.2 h0, Bool.false_or]
  simp only [Bool.and_eq_true, decide_eq_true_eq, nrm_iff, Int.toNat_natCast]
  constructor <;> intro h <;> simp_all
theorem ldok_nat {x e : Int} (h : LDok x e = true) : ∃ b : Nat, x = b := by
  by_cases h0 : x = 0
  · exact ⟨0, h0⟩
  · unfold LDok at h
    rw [beq_eq_false_iff_ne.2 h0, Bool.false_or] at h
    simp only [Bool.and_eq_true] at h
    obtain ⟨b, hb, -⟩ := nrm_of h.1.1.1.1
    exact ⟨b, hb⟩
/-- One halving. -/
theorem half_eq {x e : Int} (h : LDok x e = true) (he : e ≤ -1) : ∃ y : Int, oInt (Ieee.double.div x.toNat 4611686018427387904) = y ∧ 0 ≤ y ∧ LDok y (e + 1) = true ∧ LD y (e + 1) = LD x e := by
  obtain ⟨b, rfl⟩ := ldok_nat h
  by_cases h0 : (b : Int) = 0
  · obtain rfl : b = 0 := by omega
    exact ⟨0, by decide, by decide, rfl, rfl⟩
  · obtain ⟨hN, h1, h2, h3, h4⟩ := (ldok_iff h0).1 h
    have hi := hN.hi
    have hge : 4503599627370496 ≤ b := by have := hN.lo; unfold Fl.fld at this; omega
    obtain ⟨n1, n2, -, -⟩ := Fl.nrm_shift (b' := b - 4503599627370496) (k := -1) hN (by omega) (by omega) (by omega)
    refine ⟨((b - 4503599627370496 : Nat) : Int), ?_, by omega, ?_, ?_⟩
    · rw [Int.toNat_natCast, Fl.div_two hN (by omega)]; rfl
    · have hb0 : ((b - 4503599627370496 : Nat) : Int) ≠ 0 := by have := n1.lo; unfold Fl.fld at this; omega
      exact (ldok_iff hb0).2 ⟨n1, by omega, by omega, by omega, by omega⟩
    · have hb0 : ((b - 4503599627370496 : Nat) : Int) ≠ 0 := by have := n1.lo; unfold Fl.fld at this; omega
      unfold LD
      rw [if_neg hb0, if_neg h0]; omega
theorem LD_zero (x : Int) : LD x 0 = x := by unfold LD; split <;> omega
def l_l2f : LEnt := (.mk 48 [false, true, false, true, true] (.mk [(.cv (.one (.int .i64 (.var 0)))), (.cv (.one (.int .i64 (.var 1)))), .any, .any, .any, (.cv (.one (.flt .f64 (.var 2)))), (.cv (.one (.int .i64 (.var 3)))), .any, .any, .any, .any, .any, .any, .any, .any, .any, .any] []) 4 115 (some (ands [.app 110 0 (SL.of [.var 2, .bin .sub .i64 (.var 3) (.var 1)]), .cmp .le (.lit 0) (.var 3), .cmp .le (.var 3) (.var 1), .cmp .le (.var 1) (.lit 60)])) [((.exit 0), (.mk [.any, .any, .any, .any, .any, (.cv (.one (.flt .f64 (.var 0)))), .any, .any, .any, .any, .any, .any, .any, .any, .any, .any, .any] []), 1, [])])
def bt_l2f : BTree := (.node (.cmp .lt (.var 3) (.var 1)) (.node (.cmp .le (.lit 0) (.bin .fdiv .u64 (.var 2) (.lit 4611686018427387904))) (.next [(.var 0), (.var 1), (.bin .fdiv .u64 (.var 2) (.lit 4611686018427387904)), (.wrap .i64 (.bin .add .i64 (.var 3) (.lit 1)))]) (.dead 1009)) (.out 0 [(.var 2)]))
theorem bt_l2f_eq : bodyTree XF1 l_l2f 200 40 = bt_l2f := by kernel_rfl
theorem lok_l2f (w : World) : l_l2f.ok Tryd.prog w (FI pv) FB := by
  refine LEnt.by_loop (X := XF1) (fun zs => XF1_ok w _ rfl rfl) mixed bt_l2f_eq (fun zs hz hp => ?_)
  obtain ⟨n, s, x, i, rfl⟩ := len4 hz
  have hp : (LDok x (i - s) && (decide (0 ≤ i) && (decide (i ≤ s) && decide (s ≤ 60)))) = true := hp _ rfl
  simp only [Bool.and_eq_true, decide_eq_true_eq] at hp
  obtain ⟨h0, h1, h2, h3⟩ := hp
  clear hz
  have key : ∀ (N : Nat) (x i : Int), LDok x (i - s) = true → 0 ≤ i → i ≤ s → (s - i).toNat < N → loopF (FI pv) FB bt_l2f N [n, s, x, i] = some (0, [LD x (i - s)]) := by
    intro N
    induction N with
    | zero => intro x i _ _ _ h; omega
    | succ N ih =>
      intro x i g0 g1 g2 g3
      unfold loopF
      simp only [bt_l2f, BTree.den, SE.den, SB.den, SL.den, COp.den, IOp.den, envOf, List.map_cons, List.map_nil, List.getD_cons_zero, List.getD_cons_succ, show (fkOf IntKind.u64).format = Ieee.double from rfl, show Int.toNat 4611686018427387904 = 4611686018427387904 from rfl]
      by_cases h : i < s
      · obtain ⟨y, e1, e2, e3, e4⟩ := half_eq g0 (by omega)
        rw [decide_eq_true h, e1, decide_eq_true e2, wrap_in (by omega) (by omega)]
        simp only [cond_true]
        rw [show i - s + 1 = i + 1 - s by omega] at e3 e4
        refine (ih y (i + 1) e3 (by omega) (by omega) (by omega)).trans ?_
        rw [e4]
      · rw [decide_eq_false h]
        obtain rfl : i = s := by omega
        simp only [cond_false]
        rw [Int.sub_self, LD_zero]
  exact ⟨(s - i).toNat + 1, 0, _, _, _, _, _, key _ x i h0 h1 h2 (by omega), rfl, Or.inl rfl, rfl⟩
def LF : List LEnt := [l_l2f]
theorem LF_ok : ∀ e ∈ LF, ∀ w : World, e.ok Tryd.prog w (FI pv) FB := by
  intro e he w
  simp only [LF, List.mem_cons, List.not_mem_nil, or_false] at he
  rcases he with rfl
  · exact lok_l2f w
def XF2c (P : Program) : Cx := { P := P, G := GF1, en := enF, call := nil0, L := LF, R := [], ext := xF }
noncomputable def XF2 : Cx := XF2c Tryd.prog
theorem XF2_ok (w : World) (E : Env) (hi : E.fi = FI pv) (hb : E.fb = FB) : XOk XF2 w E := xokX GF1_ok enF_ok LF_ok (fun _ h => by cases h) xF_ok w E hi hb
end Go.Proofs.YtgnkjfafgcbpbaaDoor
