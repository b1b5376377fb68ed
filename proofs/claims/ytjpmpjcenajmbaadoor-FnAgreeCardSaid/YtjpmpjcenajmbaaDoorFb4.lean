/- What the drawing of single numbers gives: two words. -/
import Derived.Test.YtjpmpjcenajmbaaDoorFo4
import Derived.Test.YtjpmpjcenajmbaaDoorEng
namespace Go.Proofs.YtjpmpjcenajmbaaDoor
set_option linter.unusedSimpArgs false
set_option linter.unusedVariables false
open Go.RowKit Eng
/-- The world is the same but for what was asked of the tape. -/
def Drew (w w' : World) : Prop := (∀ B, Below B w w') ∧ (∀ (B : Nat) (a : World), Picked B a w → Picked B a w') ∧ ∀ (pv : Int → Int → Int) (v0 : Value) (B : Nat) (p : Int), Rd pv v0 w B p → Rd pv v0 w' B p
theorem Drew.refl (w : World) : Drew w w := ⟨fun B => Below.refl _ _, fun _ _ h => h, fun _ _ _ _ h => h⟩
theorem Drew.one (w : World) : Drew w w.drew := ⟨fun B => (Below.refl _ _).drew, fun _ _ h => h.drew, fun _ _ _ _ h => h.drew⟩
theorem Drew.trans {a b c : World} (h : Drew a b) (k : Drew b c) : Drew a c := ⟨fun B => (h.1 B).trans (k.1 B), fun B a hh => k.2.1 B a (h.2.1 B a hh), fun pv v0 B p hh => k.2.2 pv v0 B p (h.2.2 pv v0 B p hh)⟩
theorem narrow_part (x : Nat) (w : World) : ∃ y w', (Conv.floatToFloat .f64 x .f32).run Tryd.prog w = .ok (.float .f32 y) w' ∧ Drew w w' := by
  unfold Conv.floatToFloat
  rw [if_neg (by decide)]
  cases FloatKind.decode .f64 x with
  | nan s t => exact ⟨_, w.drew, rfl, Drew.one w⟩
  | infinity s => exact ⟨_, w, rfl, Drew.refl w⟩
  | number s m e =>
    simp only []
    split
    · exact ⟨_, w.drew, rfl, Drew.one w⟩
    · exact ⟨_, w, rfl, Drew.refl w⟩
theorem narrow_run (x y : Nat) (w : World) : ∃ x' y' w', (convert 27 23 (.complex .f64 x y)).run Tryd.prog w = .ok (.complex .f32 x' y') w' ∧ Drew w w' := by
  obtain ⟨a, w1, h1, k1⟩ := narrow_part x w
  obtain ⟨b, w2, h2, k2⟩ := narrow_part y w1
  refine ⟨a, b, w2, ?_, k1.trans k2⟩
  unfold convert
  simp only [Sem.run_bind, run_underlying' Tryd.underlying27, run_underlying' Tryd.underlying23, Result.andThen_ok]
  unfold Conv.complexToComplex
  simp only [Sem.run_bind, h1, h2, Result.andThen_ok]
  rfl
section
variable {pv : Int → Int → Int} {v0 : Value}
theorem l91C_any (B : Nat) (p : Int) (w : World) (hr : Rd pv v0 w B p) (hp : p ≤ 900) :
    Calls Tryd.prog 47 #[.pointer (some ⟨B, 0, none⟩)] w fun e w' => ∃ a b : Nat, e = .returned (.complex .f64 a b) ∧ Picked B w w' ∧ ∃ p', p ≤ p' ∧ p' ≤ p + 10 ∧ Rd pv v0 w' B p' := by
  have hB := hr.lt
  have hne : ¬ w.heap.size = B := by omega
  have HR := Lib.hid hr; clear hr
  go_enter Tryd.func47, Tryd.ntmps47
  go_wp2_with fail
  refine (pick_any _ B p _ (HR.out) (by omega)).mono ?_
  rintro e u1 ⟨x1, rfl, x1_0, x1_1, -, hp1, hr1, -⟩
  replace x1_1 := x1_1 (by omega)
  have hB1 := hr1.lt
  have HP1 := Lib.hid hp1
  have HR1 := Lib.hid hr1; clear hr1 hp1
  go_wp2_with fail
  · refine (l91Wide_any B (p + 1) _ HR1.out (by omega)).mono ?_
    rintro e u2 ⟨a, b, rfl, ha, hb, hp2, p2, q1, q2, hr2⟩
    have HP2 := Lib.hid (HP1.out.trans hp2)
    have HR2 := Lib.hid hr2
    clear hp2 hr2
    go_wp2
    go_returns
    exact ⟨a, b, rfl, HP2.out, p2, by omega, by omega, HR2.out⟩
  · refine (pick_any _ B _ _ (HR1.out.alloc _) (by omega)).mono ?_
    rintro e u2 ⟨x2, rfl, x2_0, x2_1, -, hp2, hr2, -⟩
    replace x2_1 := x2_1 (by omega)
    have HP2 := Lib.hid ((HP1.out.alloc _).trans hp2)
    have HR2 := Lib.hid hr2
    have hc2 := hp2.cell
    have hz2 := hp2.size
    simp at hz2
    have s2 : u1.heap.size < u2.heap.size := by omega
    have n2 : ¬ u1.heap.size = B := by omega
    clear hp2 hr2
    obtain rfl | rfl | rfl | rfl | rfl | rfl | rfl | rfl | rfl | rfl : x2 = 0 ∨ x2 = 1 ∨ x2 = 2 ∨ x2 = 3 ∨ x2 = 4 ∨ x2 = 5 ∨ x2 = 6 ∨ x2 = 7 ∨ x2 = 8 ∨ x2 = 9 := by omega
    all_goals go_wp2
    all_goals go_returns
    all_goals exact ⟨_, _, rfl, HP2.out, p + 1 + 1, by omega, by omega, HR2.out⟩
  · refine (pick_any _ B _ _ HR1.out (by omega)).mono ?_
    rintro e u2 ⟨x2, rfl, x2_0, x2_1, -, hp2, hr2, -⟩
    replace x2_1 := x2_1 (by omega)
    have HP2 := Lib.hid (HP1.out.trans hp2)
    have HR2 := Lib.hid hr2
    clear hp2 hr2
    obtain ⟨z1, v1, m1, k1, l1⟩ := arith_run (op := .quo) (by decide) 58 (floatOfInt .f64 (x2 - 128)) 4634204016564240384 u2
    have HP3 := Lib.hid (kept_or HP2.out HR2.out k1)
    clear k1
    go_wp2_with fail
    refine (pick_any _ B _ _ HP3.out.2 (by omega)).mono ?_
    rintro e u4 ⟨x4, rfl, x4_0, x4_1, -, hp4, hr4, -⟩
    replace x4_1 := x4_1 (by omega)
    have HP4 := Lib.hid (HP3.out.1.trans hp4)
    have HR4 := Lib.hid hr4
    clear hp4 hr4
    obtain ⟨z2, v2, m2, k2, l2⟩ := arith_run (op := .quo) (by decide) 58 (floatOfInt .f64 (x4 - 80)) 4634204016564240384 u4
    have HP5 := Lib.hid (kept_or HP4.out HR4.out k2)
    clear k2
    go_wp2
    go_returns
    exact ⟨_, _, rfl, HP5.out.1, p + 1 + 1 + 1, by omega, by omega, HP5.out.2⟩
end
end Go.Proofs.YtjpmpjcenajmbaaDoor
