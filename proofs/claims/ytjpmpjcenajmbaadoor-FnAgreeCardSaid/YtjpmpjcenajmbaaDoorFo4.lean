/- What the drawing of wide numbers gives: two words. -/
import Derived.Test.YtjpmpjcenajmbaaDoorMFo
import Derived.Test.YtjpmpjcenajmbaaDoorDraw
namespace Go.Proofs.YtjpmpjcenajmbaaDoor
set_option linter.unusedSimpArgs false
set_option linter.unusedVariables false
open Go.RowKit
theorem nanW_lt (t : Nat) : Fl.nanW t < 18446744073709551616 := by
  unfold Fl.nanW
  have := Nat.mod_lt (t / 2) (show 4503599627370495 > 0 by decide)
  generalize t / 2 % 4503599627370495 = u at this ⊢
  omega
/-- Float arithmetic gives a word, whatever the words; it may ask the tape. -/
theorem arith_run {op : BinOp} (hop : op = .add ∨ op = .sub ∨ op = .mul ∨ op = .quo) (t : Nat) (x y : Nat) (w : World) : ∃ z w', (binOp op t (.float .f64 x) (.float .f64 y)).run Tryd.prog w = .ok (.float .f64 z) w' ∧ (w' = w ∨ w' = w.drew) ∧ z < 18446744073709551616 := by
  have key : ∀ o : Option Nat, (∀ r, o = some r → r < 18446744073709551616) → ∃ z w', (Sem.run Tryd.prog (match o with | some r => pure (.float .f64 r) | none => do pure (.float .f64 (← choose (.nanBits .f64 x y)))) w : Result Value) = .ok (.float .f64 z) w' ∧ (w' = w ∨ w' = w.drew) ∧ z < 18446744073709551616 := by
    intro o ho
    cases o with
    | some r => exact ⟨r, w, rfl, .inl rfl, ho r rfl⟩
    | none => exact ⟨_, w.drew, rfl, .inr rfl, nanW_lt _⟩
  have hw : Ieee.double.width = 64 := by decide
  have two : (2 : Nat) ^ 64 = 18446744073709551616 := by decide
  rcases hop with rfl | rfl | rfl | rfl
  · exact key (Ieee.double.add x y) fun r h => by have := Ieee.Format.add_lt _ h; rwa [hw, two] at this
  · exact key (Ieee.double.sub x y) fun r h => by have := Ieee.Format.sub_lt _ h; rwa [hw, two] at this
  · exact key (Ieee.double.mul x y) fun r h => by have := Ieee.Format.mul_lt _ h; rwa [hw, two] at this
  · exact key (Ieee.double.div x y) fun r h => by have := Ieee.Format.div_lt _ h; rwa [hw, two] at this
/-- A word of a float64; the reader has moved on. -/
def FltR (pv : Int → Int → Int) (v0 : Value) (B : Nat) (p : Int) (w : World) (e : Ending) (w' : World) : Prop := ∃ b : Nat, e = .returned (.float .f64 b) ∧ b < 18446744073709551616 ∧ Picked B w w' ∧ ∃ p', p ≤ p' ∧ p' ≤ p + 3 ∧ Rd pv v0 w' B p'
section
variable {pv : Int → Int → Int} {v0 : Value}
theorem kept_or {B : Nat} {p : Int} {w u u' : World} (hP : Picked B w u) (hR : Rd pv v0 u B p) (h : u' = u ∨ u' = u.drew) : Picked B w u' ∧ Rd pv v0 u' B p := by
  rcases h with rfl | rfl
  · exact ⟨hP, hR⟩
  · exact ⟨hP.drew, hR.drew⟩
theorem l91Part_any (B : Nat) (p : Int) (w : World) (hr : Rd pv v0 w B p) (hp : p ≤ 1000000) :
    Calls Tryd.prog 73 #[.pointer (some ⟨B, 0, none⟩)] w (FltR pv v0 B p w) := by
  have hB := hr.lt
  have hne : ¬ w.heap.size = B := by omega
  have hp0 := hr.nonneg
  have HR := Lib.hid hr; clear hr
  go_enter Tryd.func73, Tryd.ntmps73
  go_wp2_with fail
  refine (pick_any _ B p _ (HR.out) (by omega)).mono ?_
  rintro e u1 ⟨x1, rfl, x1_0, x1_1, -, hp1, hr1, hv1⟩
  replace x1_1 := x1_1 (by omega)
  have HP1 := Lib.hid hp1
  have HR1 := Lib.hid hr1; clear hr1 hp1 hv1
  have hneg : (Op.unary .neg (.float .f64 0)).run Tryd.prog u1 = .ok (.float .f64 9223372036854775808) u1 := rfl
  obtain ⟨z1, v1, m1, k1, l1⟩ := arith_run (op := .mul) (by decide) 58 9223372036854775808 4607182418800017408 u1
  obtain ⟨z2, v2, m2, k2, l2⟩ := arith_run (op := .quo) (by decide) 58 4607182418800017408 0 u1
  obtain ⟨z3, v3, m3, k3, l3⟩ := arith_run (op := .quo) (by decide) 58 0 0 u1
  obtain ⟨z4, v4, m4, k4, l4⟩ := arith_run (op := .quo) (by decide) 58 13830554455654793216 0 u1
  have K1 := Lib.hid k1; have K2 := Lib.hid k2; have K3 := Lib.hid k3; have K4 := Lib.hid k4
  clear k1 k2 k3 k4
  go_wp2_with fail
  all_goals first | (go_returns; first | exact ⟨_, rfl, by decide, HP1.out, p + 1, by omega, by omega, HR1.out⟩ | exact ⟨z1, rfl, l1, (kept_or HP1.out HR1.out K1.out).1, p + 1, by omega, by omega, (kept_or HP1.out HR1.out K1.out).2⟩ | exact ⟨z2, rfl, l2, (kept_or HP1.out HR1.out K2.out).1, p + 1, by omega, by omega, (kept_or HP1.out HR1.out K2.out).2⟩ | exact ⟨z3, rfl, l3, (kept_or HP1.out HR1.out K3.out).1, p + 1, by omega, by omega, (kept_or HP1.out HR1.out K3.out).2⟩ | exact ⟨z4, rfl, l4, (kept_or HP1.out HR1.out K4.out).1, p + 1, by omega, by omega, (kept_or HP1.out HR1.out K4.out).2⟩) | skip
  clear K1 K2 K3 K4 m1 m2 m3 m4 l1 l2 l3 l4 hneg
  refine (pick_any _ B _ _ HR1.out (by omega)).mono ?_
  rintro e u2 ⟨x2, rfl, x2_0, x2_1, -, hp2, hr2, -⟩
  replace x2_1 := x2_1 (by omega)
  have HP2 := Lib.hid (HP1.out.trans hp2)
  have HR2 := Lib.hid hr2; clear hr2 hp2
  go_wp2_with fail
  refine (pick_any _ B _ _ HR2.out (by omega)).mono ?_
  rintro e u3 ⟨x3, rfl, x3_0, x3_1, -, hp3, hr3, -⟩
  replace x3_1 := x3_1 (by omega)
  have HP3 := Lib.hid (HP2.out.trans hp3)
  have HR3 := Lib.hid hr3; clear hr3 hp3
  obtain ⟨z5, v5, m5, k5, l5⟩ := arith_run (op := .quo) (by decide) 58 (floatOfInt .f64 (x2 - 32)) (floatOfInt .f64 (wrap64 (2 ^ x3.toNat))) u3
  have K5 := Lib.hid k5; clear k5
  go_wp2_with fail
  go_returns
  exact ⟨z5, rfl, l5, (kept_or HP3.out HR3.out K5.out).1, p + 1 + 1 + 1, by omega, by omega, (kept_or HP3.out HR3.out K5.out).2⟩
theorem l91Wide_any (B : Nat) (p : Int) (w : World) (hr : Rd pv v0 w B p) (hp : p ≤ 1000) :
    Calls Tryd.prog 66 #[.pointer (some ⟨B, 0, none⟩)] w fun e w' => ∃ a b : Nat, e = .returned (.complex .f64 a b) ∧ a < 18446744073709551616 ∧ b < 18446744073709551616 ∧ Picked B w w' ∧ ∃ p', p ≤ p' ∧ p' ≤ p + 6 ∧ Rd pv v0 w' B p' := by
  have hB := hr.lt
  have HR := Lib.hid hr; clear hr
  go_enter Tryd.func66, Tryd.ntmps66
  go_wp2_with fail
  refine (l91Part_any B p _ HR.out (by omega)).mono ?_
  rintro e u1 ⟨a, rfl, ha, hp1, p1, q1, q2, hr1⟩
  have HP1 := Lib.hid hp1; have HR1 := Lib.hid hr1; clear hp1 hr1
  go_wp2_with fail
  refine (l91Part_any B p1 _ HR1.out (by omega)).mono ?_
  rintro e u2 ⟨b, rfl, hb, hp2, p2, q3, q4, hr2⟩
  have HP2 := Lib.hid (HP1.out.trans hp2); have HR2 := Lib.hid hr2; clear hp2 hr2
  go_wp2_with fail
  go_returns
  exact ⟨a, b, rfl, ha, hb, HP2.out, p2, by omega, by omega, HR2.out⟩
end
end Go.Proofs.YtjpmpjcenajmbaaDoor
