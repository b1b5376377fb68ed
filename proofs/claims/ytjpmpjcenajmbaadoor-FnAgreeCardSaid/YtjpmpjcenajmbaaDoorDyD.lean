/- What the drawing of exact numbers gives: numbers that are not great. -/
import Derived.Test.YtjpmpjcenajmbaaDoorDraw
import Derived.Test.YtjpmpjcenajmbaaDoorMDy
import Derived.Test.YtjpmpjcenajmbaaDoorBx
namespace Go.Proofs.YtjpmpjcenajmbaaDoor
set_option linter.unusedSimpArgs false
set_option linter.unusedVariables false
open Go.RowKit

/-- An exact number's three numbers; the reader has moved on. -/
def DyR (pv : Int → Int → Int) (v0 : Value) (B : Nat) (p : Int) (w : World) (e : Ending) (w' : World) : Prop := e = .returned (.agg #[.int .i64 (dyR pv p), .int .i64 (dyI pv p), .int .i64 (dyS pv p)]) ∧ Picked B w w' ∧ Rd pv v0 w' B (p + 4)
section
variable {pv : Int → Int → Int} {v0 : Value}
theorem dyR_of {B : Nat} {p : Int} {w : World} {e : Ending} {w' : World} {a b c : Int} (he : e = .returned (.agg #[.int .i64 a, .int .i64 b, .int .i64 c])) (ha : a = dyR pv p) (hb : b = dyI pv p) (hc : c = dyS pv p) (hp : Picked B w w') (hr : Rd pv v0 w' B (p + 4)) : DyR pv v0 B p w e w' := by
  subst ha; subst hb; subst hc; exact ⟨he, hp, hr⟩
set_option maxHeartbeats 800000 in
theorem l91Dyad_any (B : Nat) (p : Int) (w : World) (hr : Rd pv v0 w B p) (hp : p ≤ 1000000) :
    Calls Tryd.prog 40 #[.pointer (some ⟨B, 0, none⟩)] w (DyR pv v0 B p w) := by
  have hB := hr.lt
  have hne : ¬ w.heap.size = B := by omega
  have hp0 := hr.nonneg
  have HR := Lib.hid hr; clear hr
  go_enter Tryd.func40, Tryd.ntmps40
  go_wp2_with fail
  refine (pick_any _ B p _ (HR.out.alloc _) (by omega)).mono ?_
  rintro e u1 ⟨x1, rfl, x1_0, x1_1, -, hp1, hr1, hv1⟩
  have HV1 := Lib.hid hv1; clear hv1
  replace x1_1 := x1_1 (by omega)
  have HP1 := Lib.hid (((Picked.refl B w).alloc _).trans hp1)
  have hc1 := hp1.cell; have hf1 := hp1.frozen; have hz1 := hp1.size
  simp at hz1
  have HR1 := Lib.hid hr1; clear hr1 hp1
  have s1 : w.heap.size < u1.heap.size := by omega
  go_wp2_with fail
  refine (pick_any _ B _ _ HR1.out (by omega)).mono ?_
  rintro e u2 ⟨x2, rfl, x2_0, x2_1, -, hp2, hr2, hv2⟩
  have HV2 := Lib.hid hv2; clear hv2
  replace x2_1 := x2_1 (by omega)
  have HP2 := Lib.hid (HP1.out.trans hp2)
  have hc2 := hp2.cell; have hf2 := hp2.frozen; have hz2 := hp2.size
  have HR2 := Lib.hid hr2; clear hr2 hp2
  have s2 : w.heap.size < u2.heap.size := by omega
  go_wp2_with fail
  refine (pick_any _ B _ _ HR2.out (by omega)).mono ?_
  rintro e u3 ⟨x3, rfl, x3_0, x3_1, -, hp3, hr3, hv3⟩
  have HV3 := Lib.hid hv3; clear hv3
  replace x3_1 := x3_1 (by omega)
  have HP3 := Lib.hid (HP2.out.trans hp3)
  have hc3 := hp3.cell; have hf3 := hp3.frozen; have hz3 := hp3.size
  have HR3 := Lib.hid hr3; clear hr3 hp3
  have s3 : w.heap.size < u3.heap.size := by omega
  go_wp2_with fail
  obtain ⟨g1, g2, g3⟩ := l_le (x1 - 32) (x2 - 32) x3 x3_0
  have g4 := lS_nonneg (x1 - 32) (x2 - 32) x3
  refine (l2Low_any (x1 - 32) (x2 - 32) x3 _ ⟨by omega, by omega⟩ ⟨by omega, by omega⟩ x3_0 (by omega)).mono ?_
  rintro e u4 ⟨rfl, hb4⟩
  have y1 : -32 ≤ lR (x1 - 32) (x2 - 32) x3 := by omega
  have y2 : lR (x1 - 32) (x2 - 32) x3 ≤ 32 := by omega
  have y3 : -32 ≤ lI (x1 - 32) (x2 - 32) x3 := by omega
  have y4 : lI (x1 - 32) (x2 - 32) x3 ≤ 32 := by omega
  clear g1 g2
  obtain ⟨a, ha⟩ : ∃ y, lR (x1 - 32) (x2 - 32) x3 = y := ⟨_, rfl⟩
  simp only [ha]
  rw [ha] at y1 y2
  obtain ⟨b, hb⟩ : ∃ y, lI (x1 - 32) (x2 - 32) x3 = y := ⟨_, rfl⟩
  simp only [hb]
  rw [hb] at y3 y4
  obtain ⟨c, hc⟩ : ∃ y, lS (x1 - 32) (x2 - 32) x3 = y := ⟨_, rfl⟩
  simp only [hc]
  rw [hc] at g3 g4
  have HA := Lib.hid ha; have HBB := Lib.hid hb; have HC := Lib.hid hc; clear ha hb hc
  have HP4 := Lib.hid (HP3.out.below hb4)
  have HR4 := Lib.hid (HR3.out.below hb4)
  obtain ⟨hc4, hf4⟩ := bcell hb4
  have hz4 := hb4.size
  clear hb4
  have s4 : w.heap.size < u4.heap.size := by omega
  have s4' : ¬ u4.heap.size = B := by omega
  go_wp2_with fail
  refine (pick_any _ B _ _ (HR4.out.alloc _) (by omega)).mono ?_
  rintro e u5 ⟨x5, rfl, x5_0, x5_1, -, hp5, hr5, hv5⟩
  have HV5 := Lib.hid hv5; clear hv5
  have HP5 := Lib.hid ((HP4.out.alloc _).trans hp5)
  have hc5 := hp5.cell; have hf5 := hp5.frozen; have hz5 := hp5.size
  simp at hz5
  have HR5 := Lib.hid hr5; clear hr5 hp5
  have s5 : w.heap.size < u5.heap.size := by omega
  have s6 : u4.heap.size < u5.heap.size := by omega
  have b0 : u5.cell? ⟨w.heap.size, 0, none⟩ = some (.int .i64 0) := by go_simp
  have b1 : u5.cell? ⟨w.heap.size, 1, none⟩ = some (.int .i64 0) := by go_simp
  have b2 : u5.cell? ⟨w.heap.size, 2, none⟩ = some (.int .i64 0) := by go_simp
  have k0 : u5.cell? ⟨u4.heap.size, 0, none⟩ = some (.int .i64 a) := by go_simp
  have k1 : u5.cell? ⟨u4.heap.size, 1, none⟩ = some (.int .i64 b) := by go_simp
  have k2 : u5.cell? ⟨u4.heap.size, 2, none⟩ = some (.int .i64 c) := by go_simp
  have f0 : u5.frozen? ⟨w.heap.size, 0, none⟩ = false := by go_simp
  have f1 : u5.frozen? ⟨w.heap.size, 1, none⟩ = false := by go_simp
  have f2 : u5.frozen? ⟨w.heap.size, 2, none⟩ = false := by go_simp
  clear hc1 hc2 hc3 hc4 hc5 hf1 hf2 hf3 hf4 hf5
  go_wp2
  all_goals
    refine ret_cell Tryd.results40 rfl (load_Dyad _ _ _ _ _ (set3 b0 b1 b2 _ _ _).1 (set3 b0 b1 b2 _ _ _).2.1 (set3 b0 b1 b2 _ _ _).2.2) ?_
    refine dyR_of rfl ?_ ?_ ?_ (((HP5.out.setCell (Or.inl (Nat.le_refl _)) _).setCell (Or.inl (Nat.le_refl _)) _).setCell (Or.inl (Nat.le_refl _)) _) (by rw [show p + 4 = p + 1 + 1 + 1 + 1 by omega]; exact ((HR5.out.setCell hB _).setCell hB _).setCell hB _)
  all_goals (have e1 := HV1.out; have e2 := HV2.out; have e3 := HV3.out; have e5 := HV5.out; have ea := HA.out; have eb := HBB.out; have ec := HC.out; rw [show p + 1 + 1 = p + 2 by omega] at e3; rw [show p + 1 + 1 + 1 = p + 3 by omega] at e5; rw [e1, e2, e3] at ea eb ec; clear HR HR1 HR2 HR3 HR4 HR5 HP1 HP2 HP3 HP4 HP5 hB; first | unfold dyR | unfold dyI | unfold dyS)
  all_goals (try simp only [← e5, ea, eb, ec, ↓reduceIte, if_true, if_false])
  all_goals repeat' split
  all_goals (first | rfl | omega | (rename_i h1; exact (h1 trivial).elim) | (rename_i h1 h2; exact (h1 trivial).elim) | (exfalso; simp only [beq_iff_eq, beq_eq_false_iff_ne, ne_eq] at *; omega) | (simp only [beq_iff_eq, beq_eq_false_iff_ne, ne_eq] at *; omega))
end

end Go.Proofs.YtjpmpjcenajmbaaDoor
