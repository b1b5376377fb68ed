/- What the drawing of angles gives: numbers that are not great. -/
import Derived.Test.YtlochdfemphhfaaDraw
import Derived.Test.YtlochdfemphhfaaAngW
namespace Go.Proofs.Ytlochdfemphhfaa
open Go.RowKit

/-- An angle's two numbers, not great; the reader has moved on. -/
def AngR (B : Nat) (p : Int) (w : World) (e : Ending) (w' : World) : Prop := ∃ n d : Int, e = .returned (.agg #[.int .i64 n, .int .i64 d]) ∧ -1048576 ≤ n ∧ n ≤ 1048576 ∧ -1048576 ≤ d ∧ d ≤ 1048576 ∧ Picked B w w' ∧ Rd w' B (p + 3)

set_option maxHeartbeats 400000 in
theorem l92Angle_any (B : Nat) (p : Int) (w : World) (hr : Rd w B p) (hp : p ≤ 100000) :
    Calls Try.prog 30 #[.pointer (some ⟨B, 0, none⟩)] w (AngR B p w) := by
  have hB := hr.lt
  have hne : ¬ w.heap.size = B := by omega
  have hp0 := hr.nonneg
  have HR := Lib.hid hr; clear hr
  go_enter Try.func30, Try.ntmps30
  go_wp2_with fail
  refine (pick_any _ B p _ (HR.out.alloc _) (by omega)).mono ?_
  rintro e w1 ⟨x, rfl, hx0, hx1, hx2, hP1, hr1⟩
  have hx1 := hx1 (by omega)
  clear hx2
  have HP1 := Lib.hid (((Picked.refl B w).alloc _).trans hP1)
  have hc1 := hP1.cell
  have hf1 := hP1.frozen
  have hz1 := hP1.size
  clear hP1
  have HR1 := Lib.hid hr1; clear hr1
  go_wp2_with fail
  refine (pick_any _ B _ _ HR1.out (by omega)).mono ?_
  rintro e w2 ⟨y, rfl, hy0, hy1, hy2, hP2, hr2⟩
  have hy1 := hy1 (by omega)
  clear hy2
  have HP2 := Lib.hid (HP1.out.trans hP2); clear HP1
  have hc2 := hP2.cell
  have hf2 := hP2.frozen
  have hz2 := hP2.size
  clear hP2
  have HR2 := Lib.hid hr2; clear hr2
  go_wp2_with fail
  refine (l6aGcd_any y (1 + x) _ hy0 (by omega) (by omega) (by omega)).mono ?_
  rintro e w3 ⟨rfl, hb3⟩
  have HP3 := Lib.hid (HP2.out.below hb3); clear HP2
  have HR3 := Lib.hid (HR2.out.below hb3); clear HR2
  obtain ⟨hc3, hf3⟩ := bcell hb3
  have hz3 := hb3.size
  clear hb3
  have g1 : 1 ≤ ((Int.gcd y (1 + x) : Nat) : Int) := by
    have : 0 < Int.gcd y (1 + x) := Int.gcd_pos_of_ne_zero_right _ (by omega)
    omega
  generalize ((Int.gcd y (1 + x) : Nat) : Int) = g at g1
  have q0 : 0 ≤ y / g := Int.ediv_nonneg (by omega) (by omega)
  have q1 : y / g ≤ y := Int.ediv_le_self _ (by omega)
  have q2 : 0 ≤ (1 + x) / g := Int.ediv_nonneg (by omega) (by omega)
  have q3 : (1 + x) / g ≤ 1 + x := Int.ediv_le_self _ (by omega)
  have s1 : w.heap.size < w1.heap.size := by simp at hz1; omega
  have s2 : w.heap.size < w2.heap.size := by omega
  have s3 : w.heap.size < w3.heap.size := by omega
  have s4 : ¬ w3.heap.size = B := by omega
  go_wp2_with fail
  go_region
  go_wp2_with fail
  refine (pick_any _ B _ _ (HR3.out.alloc _).drew (by omega)).mono ?_
  rintro e w4 ⟨z, rfl, hz0, hz1, _, hP4, hr4⟩
  have HP4 := Lib.hid (((HP3.out.alloc _).drew).trans hP4); clear HP3
  have hc4 := hP4.cell
  have hf4 := hP4.frozen
  have hz4 := hP4.size
  clear hP4
  have HR4 := Lib.hid hr4; clear hr4
  have s5 : w.heap.size < w4.heap.size := by simp at hz4; omega
  have b0 : w4.cell? ⟨w.heap.size, 0, none⟩ = some (.int .i64 0) := by go_simp
  have b1 : w4.cell? ⟨w.heap.size, 1, none⟩ = some (.int .i64 0) := by go_simp
  go_wp2
  all_goals
    refine ret_cell Try.results30 rfl (load_Angle _ _ _ _ (set2 b0 b1 _ _).1 (set2 b0 b1 _ _).2) ?_
    refine ⟨_, _, rfl, by omega, by omega, by omega, by omega, (HP4.out.setCell (Or.inl (Nat.le_refl _)) _).setCell (Or.inl (Nat.le_refl _)) _, ?_⟩
    rw [show p + 3 = p + 1 + 1 + 1 by omega]
    exact (HR4.out.setCell hB _).setCell hB _

theorem DrawAngleMake_any (v : Value) (w : World) (hv : BytesOk w w.heap.size v) :
    Calls Try.prog 20 #[v] w fun e w' => ∃ n d : Int, e = .returned (.tuple #[.int .i64 n, .int .i64 d]) ∧ -100 ≤ n ∧ n ≤ 99 ∧ -2 ≤ d ∧ d ≤ 39 ∧ Below w.heap.size w w' := by
  have HV := Lib.hid hv; clear hv
  go_enter Try.func20, Try.ntmps20
  go_wp2_with fail
  refine (l6Open_any _ _ (HV.out)).mono ?_
  rintro e u1 ⟨B, rfl, hlB, hr, hb⟩
  have hB1 : Below w.heap.size w u1 := Below.trans (by go_grown) (hb.mono (by go_size))
  have hz1 := hb.size
  try simp at hz1
  try simp at hlB
  obtain ⟨hc1, hf1⟩ := bcell hb
  clear hb
  have hnB := hr.lt
  have HR1 := Lib.hid hr; clear hr
  try have n0_0 : ¬ w.heap.size = B := by omega
  try have n1_0 : ¬ u1.heap.size = B := by omega
  go_wp2_with fail
  refine (pick_any _ B _ _ (by repeat (first | exact HR1.out | refine Rd.alloc ?_ _ | refine Rd.drew ?_ | refine Rd.drewN ?_ _ | refine Rd.setCell ?_ (by (first | omega | (simp; omega))) _)) (by omega)).mono ?_
  rintro e u2 ⟨x2, rfl, x2_0, x2_1, x2_2, hp, hr⟩
  try replace x2_1 := x2_1 (by omega)
  clear x2_2
  have hB2 : Below w.heap.size w u2 := Below.trans (by go_grown) (hp.to_below (by omega) (by go_size))
  have hz2 := hp.size
  try simp at hz2
  have hc2 := hp.cell
  have hf2 := hp.frozen
  clear hp
  have HR2 := Lib.hid hr; clear hr
  try have n0_0 : ¬ w.heap.size = B := by omega
  try have n2_0 : ¬ u2.heap.size = B := by omega
  try have s1_0_2 : u1.heap.size < u2.heap.size := by omega
  try have l1_0_2 : u1.heap.size ≤ u2.heap.size := by omega
  go_wp2_with fail
  refine (pick_any _ B _ _ (by repeat (first | exact HR2.out | refine Rd.alloc ?_ _ | refine Rd.drew ?_ | refine Rd.drewN ?_ _ | refine Rd.setCell ?_ (by (first | omega | (simp; omega))) _)) (by omega)).mono ?_
  rintro e u3 ⟨x3, rfl, x3_0, x3_1, x3_2, hp, hr⟩
  try replace x3_1 := x3_1 (by omega)
  clear x3_2
  have hB3 : Below w.heap.size w u3 := Below.trans (by go_grown) (hp.to_below (by omega) (by go_size))
  have hz3 := hp.size
  try simp at hz3
  have hc3 := hp.cell
  have hf3 := hp.frozen
  clear hp
  have HR3 := Lib.hid hr; clear hr
  try have n0_0 : ¬ w.heap.size = B := by omega
  try have n3_0 : ¬ u3.heap.size = B := by omega
  try have s1_0_3 : u1.heap.size < u3.heap.size := by omega
  try have l1_0_3 : u1.heap.size ≤ u3.heap.size := by omega
  try have s2_0_3 : u2.heap.size < u3.heap.size := by omega
  try have l2_0_3 : u2.heap.size ≤ u3.heap.size := by omega
  go_wp2_with fail
  refine (pick_any _ B _ _ (by repeat (first | exact HR3.out | refine Rd.alloc ?_ _ | refine Rd.drew ?_ | refine Rd.drewN ?_ _ | refine Rd.setCell ?_ (by (first | omega | (simp; omega))) _)) (by omega)).mono ?_
  rintro e u4 ⟨x4, rfl, x4_0, x4_1, x4_2, hp, hr⟩
  try replace x4_1 := x4_1 (by omega)
  clear x4_2
  have hB4 : Below w.heap.size w u4 := Below.trans (by go_grown) (hp.to_below (by omega) (by go_size))
  have hz4 := hp.size
  try simp at hz4
  have hc4 := hp.cell
  have hf4 := hp.frozen
  clear hp
  have HR4 := Lib.hid hr; clear hr
  try have n0_0 : ¬ w.heap.size = B := by omega
  try have n4_0 : ¬ u4.heap.size = B := by omega
  try have s1_0_4 : u1.heap.size < u4.heap.size := by omega
  try have l1_0_4 : u1.heap.size ≤ u4.heap.size := by omega
  try have s2_0_4 : u2.heap.size < u4.heap.size := by omega
  try have l2_0_4 : u2.heap.size ≤ u4.heap.size := by omega
  try have s3_0_4 : u3.heap.size < u4.heap.size := by omega
  try have l3_0_4 : u3.heap.size ≤ u4.heap.size := by omega
  go_wp2
  go_returns
  exact ⟨_, _, rfl, by omega, by omega, by omega, by omega, hB4⟩

theorem DrawAngleValid_any (v : Value) (w : World) (hv : BytesOk w w.heap.size v) :
    Calls Try.prog 21 #[v] w fun e w' => ∃ n d : Int, e = .returned (.agg #[.int .i64 n, .int .i64 d]) ∧ -1048576 ≤ n ∧ n ≤ 1048576 ∧ -1048576 ≤ d ∧ d ≤ 1048576 ∧ Below w.heap.size w w' := by
  have HV := Lib.hid (hv.kept (w' := w.alloc (.cells #[.int .i64 0, .int .i64 0] 25)) (B' := w.heap.size + 1) (by omega) (fun k hk => Below.heap_alloc _ _ _ hk)); clear hv
  go_enter Try.func21, Try.ntmps21
  go_wp2_with fail
  refine (l6Open_any _ _ (by simpa using HV.out)).mono ?_
  rintro e u1 ⟨B, rfl, hlB, hr, hb⟩
  have hB1 : Below w.heap.size w u1 := Below.trans (by go_grown) (hb.mono (by go_size))
  have hz1 := hb.size
  try simp at hz1
  try simp at hlB
  obtain ⟨hc1, hf1⟩ := bcell hb
  clear hb
  have hnB := hr.lt
  have HR1 := Lib.hid hr; clear hr
  try have n0_0 : ¬ w.heap.size = B := by omega
  try have n1_0 : ¬ u1.heap.size = B := by omega
  try have s0_0_1 : w.heap.size < u1.heap.size := by omega
  try have l0_0_1 : w.heap.size ≤ u1.heap.size := by omega
  go_wp2_with fail
  refine (l92Angle_any B _ _ (by repeat (first | exact HR1.out | refine Rd.alloc ?_ _ | refine Rd.drew ?_ | refine Rd.drewN ?_ _ | refine Rd.setCell ?_ (by (first | omega | (simp; omega))) _)) (by omega)).mono ?_
  rintro e u2 ⟨x2, y2, rfl, x2_0, x2_1, y2_0, y2_1, hp, hr⟩
  have hB2 : Below w.heap.size w u2 := Below.trans (by go_grown) (hp.to_below (by omega) (by go_size))
  have hz2 := hp.size
  try simp at hz2
  have hc2 := hp.cell
  have hf2 := hp.frozen
  clear hp
  have HR2 := Lib.hid hr; clear hr
  try have n0_0 : ¬ w.heap.size = B := by omega
  try have n2_0 : ¬ u2.heap.size = B := by omega
  try have s0_0_2 : w.heap.size < u2.heap.size := by omega
  try have l0_0_2 : w.heap.size ≤ u2.heap.size := by omega
  try have s1_0_2 : u1.heap.size < u2.heap.size := by omega
  try have l1_0_2 : u1.heap.size ≤ u2.heap.size := by omega
  have b0 : u2.cell? ⟨w.heap.size, 0, none⟩ = some (.int .i64 0) := by go_simp
  have b1 : u2.cell? ⟨w.heap.size, 1, none⟩ = some (.int .i64 0) := by go_simp
  go_wp2
  refine ret_cell Try.results21 rfl (load_Angle _ _ _ _ (set2 b0 b1 _ _).1 (set2 b0 b1 _ _).2) ⟨_, _, rfl, x2_0, x2_1, y2_0, y2_1, (hB2.setCell (Nat.le_refl _) _).setCell (Nat.le_refl _) _⟩

theorem DrawAngleDouble_any (v : Value) (w : World) (hv : BytesOk w w.heap.size v) :
    Calls Try.prog 22 #[v] w fun e w' => ∃ n d : Int, e = .returned (.agg #[.int .i64 n, .int .i64 d]) ∧ -1048576 ≤ n ∧ n ≤ 1048576 ∧ -1048576 ≤ d ∧ d ≤ 1048576 ∧ Below w.heap.size w w' := by
  have HV := Lib.hid (hv.kept (w' := w.alloc (.cells #[.int .i64 0, .int .i64 0] 25)) (B' := w.heap.size + 1) (by omega) (fun k hk => Below.heap_alloc _ _ _ hk)); clear hv
  go_enter Try.func22, Try.ntmps22
  go_wp2_with fail
  refine (l6Open_any _ _ (by simpa using HV.out)).mono ?_
  rintro e u1 ⟨B, rfl, hlB, hr, hb⟩
  have hB1 : Below w.heap.size w u1 := Below.trans (by go_grown) (hb.mono (by go_size))
  have hz1 := hb.size
  try simp at hz1
  try simp at hlB
  obtain ⟨hc1, hf1⟩ := bcell hb
  clear hb
  have hnB := hr.lt
  have HR1 := Lib.hid hr; clear hr
  try have n0_0 : ¬ w.heap.size = B := by omega
  try have n1_0 : ¬ u1.heap.size = B := by omega
  try have s0_0_1 : w.heap.size < u1.heap.size := by omega
  try have l0_0_1 : w.heap.size ≤ u1.heap.size := by omega
  go_wp2_with fail
  refine (l92Angle_any B _ _ (by repeat (first | exact HR1.out | refine Rd.alloc ?_ _ | refine Rd.drew ?_ | refine Rd.drewN ?_ _ | refine Rd.setCell ?_ (by (first | omega | (simp; omega))) _)) (by omega)).mono ?_
  rintro e u2 ⟨x2, y2, rfl, x2_0, x2_1, y2_0, y2_1, hp, hr⟩
  have hB2 : Below w.heap.size w u2 := Below.trans (by go_grown) (hp.to_below (by omega) (by go_size))
  have hz2 := hp.size
  try simp at hz2
  have hc2 := hp.cell
  have hf2 := hp.frozen
  clear hp
  have HR2 := Lib.hid hr; clear hr
  try have n0_0 : ¬ w.heap.size = B := by omega
  try have n2_0 : ¬ u2.heap.size = B := by omega
  try have s0_0_2 : w.heap.size < u2.heap.size := by omega
  try have l0_0_2 : w.heap.size ≤ u2.heap.size := by omega
  try have s1_0_2 : u1.heap.size < u2.heap.size := by omega
  try have l1_0_2 : u1.heap.size ≤ u2.heap.size := by omega
  have b0 : u2.cell? ⟨w.heap.size, 0, none⟩ = some (.int .i64 0) := by go_simp
  have b1 : u2.cell? ⟨w.heap.size, 1, none⟩ = some (.int .i64 0) := by go_simp
  go_wp2
  refine ret_cell Try.results22 rfl (load_Angle _ _ _ _ (set2 b0 b1 _ _).1 (set2 b0 b1 _ _).2) ⟨_, _, rfl, x2_0, x2_1, y2_0, y2_1, (hB2.setCell (Nat.le_refl _) _).setCell (Nat.le_refl _) _⟩


end Go.Proofs.Ytlochdfemphhfaa
