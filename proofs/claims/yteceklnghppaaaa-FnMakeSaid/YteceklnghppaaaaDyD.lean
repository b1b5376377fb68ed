/- What the drawing of exact numbers gives: numbers that are not great. -/
import Derived.Test.YteceklnghppaaaaDraw
import Derived.Test.YteceklnghppaaaaDyW1
namespace Go.Proofs.Yteceklnghppaaaa
open Go.RowKit

theorem DrawDyadMake_any (v : Value) (w : World) (hv : BytesOk w w.heap.size v) :
    Calls Try.prog 20 #[v] w fun e w' => ∃ r i s : Int, e = .returned (.tuple #[.int .i64 r, .int .i64 i, .int .i64 s]) ∧ -2305843009213693952 ≤ r ∧ r ≤ 2305843009213693952 ∧ -100 ≤ i ∧ i ≤ 99 ∧ -13 ≤ s ∧ s ≤ 121 ∧ Below w.heap.size w w' := by
  have HV := Lib.hid hv; clear hv
  go_enter Try.func20, Try.ntmps20
  go_wp2_with fail
  refine (l6Open_any _ _ (HV.out)).mono ?_
  rintro e u1 ⟨B, rfl, hlB, hr, hb⟩
  have hB1 : Below w.heap.size w u1 := Below.trans (by go_grown) (hb.mono (by go_size))
  have hz1 := hb.size
  try simp at hz1
  try simp at hlB
  obtain ⟨hc1, hf1⟩ := bcell hb
  clear hb
  have hnB := hr.lt
  have HR1 := Lib.hid hr; clear hr
  try have n0_0 : ¬ w.heap.size = B := by omega
  try have n1_0 : ¬ u1.heap.size = B := by omega
  go_wp2_with fail
  refine (pick_any _ B _ _ (by repeat (first | exact HR1.out | refine Rd.alloc ?_ _ | refine Rd.drew ?_ | refine Rd.drewN ?_ _ | refine Rd.setCell ?_ (by (first | omega | (simp; omega))) _)) (by omega)).mono ?_
  rintro e u2 ⟨x2, rfl, x2_0, x2_1, x2_2, hp, hr⟩
  try replace x2_1 := x2_1 (by omega)
  clear x2_2
  have hB2 : Below w.heap.size w u2 := Below.trans (by go_grown) (hp.to_below (by omega) (by go_size))
  have hz2 := hp.size
  try simp at hz2
  have hc2 := hp.cell
  have hf2 := hp.frozen
  clear hp
  have HR2 := Lib.hid hr; clear hr
  try have n0_0 : ¬ w.heap.size = B := by omega
  try have n2_0 : ¬ u2.heap.size = B := by omega
  try have s1_0_2 : u1.heap.size < u2.heap.size := by omega
  try have l1_0_2 : u1.heap.size ≤ u2.heap.size := by omega
  go_wp2_with fail
  refine (pick_any _ B _ _ (by repeat (first | exact HR2.out | refine Rd.alloc ?_ _ | refine Rd.drew ?_ | refine Rd.drewN ?_ _ | refine Rd.setCell ?_ (by (first | omega | (simp; omega))) _)) (by omega)).mono ?_
  rintro e u3 ⟨x3, rfl, x3_0, x3_1, x3_2, hp, hr⟩
  try replace x3_1 := x3_1 (by omega)
  clear x3_2
  have hB3 : Below w.heap.size w u3 := Below.trans (by go_grown) (hp.to_below (by omega) (by go_size))
  have hz3 := hp.size
  try simp at hz3
  have hc3 := hp.cell
  have hf3 := hp.frozen
  clear hp
  have HR3 := Lib.hid hr; clear hr
  try have n0_0 : ¬ w.heap.size = B := by omega
  try have n3_0 : ¬ u3.heap.size = B := by omega
  try have s1_0_3 : u1.heap.size < u3.heap.size := by omega
  try have l1_0_3 : u1.heap.size ≤ u3.heap.size := by omega
  try have s2_0_3 : u2.heap.size < u3.heap.size := by omega
  try have l2_0_3 : u2.heap.size ≤ u3.heap.size := by omega
  go_wp2_with fail
  refine (pick_any _ B _ _ (by repeat (first | exact HR3.out | refine Rd.alloc ?_ _ | refine Rd.drew ?_ | refine Rd.drewN ?_ _ | refine Rd.setCell ?_ (by (first | omega | (simp; omega))) _)) (by omega)).mono ?_
  rintro e u4 ⟨x4, rfl, x4_0, x4_1, x4_2, hp, hr⟩
  try replace x4_1 := x4_1 (by omega)
  clear x4_2
  have hB4 : Below w.heap.size w u4 := Below.trans (by go_grown) (hp.to_below (by omega) (by go_size))
  have hz4 := hp.size
  try simp at hz4
  have hc4 := hp.cell
  have hf4 := hp.frozen
  clear hp
  have HR4 := Lib.hid hr; clear hr
  try have n0_0 : ¬ w.heap.size = B := by omega
  try have n4_0 : ¬ u4.heap.size = B := by omega
  try have s1_0_4 : u1.heap.size < u4.heap.size := by omega
  try have l1_0_4 : u1.heap.size ≤ u4.heap.size := by omega
  try have s2_0_4 : u2.heap.size < u4.heap.size := by omega
  try have l2_0_4 : u2.heap.size ≤ u4.heap.size := by omega
  try have s3_0_4 : u3.heap.size < u4.heap.size := by omega
  try have l3_0_4 : u3.heap.size ≤ u4.heap.size := by omega
  by_cases h0 : x4 = 0
  · subst h0
    have hw : wrap64 ((x2 - 100) * 18014398509481984) = (x2 - 100) * 18014398509481984 := IntWalk.wrap64_in _ ⟨by omega, by omega⟩
    go_wp2_with fail
    refine (pick_any _ B _ _ (by repeat (first | exact HR4.out | refine Rd.alloc ?_ _ | refine Rd.drew ?_ | refine Rd.drewN ?_ _ | refine Rd.setCell ?_ (by (first | omega | (simp; omega))) _)) (by omega)).mono ?_
    rintro e u5 ⟨x5, rfl, x5_0, x5_1, x5_2, hp, hr⟩
    try replace x5_1 := x5_1 (by omega)
    clear x5_2
    have hB5 : Below w.heap.size w u5 := Below.trans (by go_grown) (hp.to_below (by omega) (by go_size))
    have hz5 := hp.size
    try simp at hz5
    have hc5 := hp.cell
    have hf5 := hp.frozen
    clear hp
    have HR5 := Lib.hid hr; clear hr
    try have n0_0 : ¬ w.heap.size = B := by omega
    try have n5_0 : ¬ u5.heap.size = B := by omega
    try have s1_0_5 : u1.heap.size < u5.heap.size := by omega
    try have l1_0_5 : u1.heap.size ≤ u5.heap.size := by omega
    try have s2_0_5 : u2.heap.size < u5.heap.size := by omega
    try have l2_0_5 : u2.heap.size ≤ u5.heap.size := by omega
    try have s3_0_5 : u3.heap.size < u5.heap.size := by omega
    try have l3_0_5 : u3.heap.size ≤ u5.heap.size := by omega
    try have s4_0_5 : u4.heap.size < u5.heap.size := by omega
    try have l4_0_5 : u4.heap.size ≤ u5.heap.size := by omega
    go_wp2_with fail
    refine (pick_any _ B _ _ (by repeat (first | exact HR5.out | refine Rd.alloc ?_ _ | refine Rd.drew ?_ | refine Rd.drewN ?_ _ | refine Rd.setCell ?_ (by (first | omega | (simp; omega))) _)) (by omega)).mono ?_
    rintro e u6 ⟨x6, rfl, x6_0, x6_1, x6_2, hp, hr⟩
    try replace x6_1 := x6_1 (by omega)
    clear x6_2
    have hB6 : Below w.heap.size w u6 := Below.trans (by go_grown) (hp.to_below (by omega) (by go_size))
    have hz6 := hp.size
    try simp at hz6
    have hc6 := hp.cell
    have hf6 := hp.frozen
    clear hp
    have HR6 := Lib.hid hr; clear hr
    try have n0_0 : ¬ w.heap.size = B := by omega
    try have n6_0 : ¬ u6.heap.size = B := by omega
    try have s1_0_6 : u1.heap.size < u6.heap.size := by omega
    try have l1_0_6 : u1.heap.size ≤ u6.heap.size := by omega
    try have s2_0_6 : u2.heap.size < u6.heap.size := by omega
    try have l2_0_6 : u2.heap.size ≤ u6.heap.size := by omega
    try have s3_0_6 : u3.heap.size < u6.heap.size := by omega
    try have l3_0_6 : u3.heap.size ≤ u6.heap.size := by omega
    try have s4_0_6 : u4.heap.size < u6.heap.size := by omega
    try have l4_0_6 : u4.heap.size ≤ u6.heap.size := by omega
    try have s5_0_6 : u5.heap.size < u6.heap.size := by omega
    try have l5_0_6 : u5.heap.size ≤ u6.heap.size := by omega
    go_wp2_with fail
    refine (pick_any _ B _ _ (by repeat (first | exact HR6.out | refine Rd.alloc ?_ _ | refine Rd.drew ?_ | refine Rd.drewN ?_ _ | refine Rd.setCell ?_ (by (first | omega | (simp; omega))) _)) (by omega)).mono ?_
    rintro e u7 ⟨x7, rfl, x7_0, x7_1, x7_2, hp, hr⟩
    try replace x7_1 := x7_1 (by omega)
    clear x7_2
    have hB7 : Below w.heap.size w u7 := Below.trans (by go_grown) (hp.to_below (by omega) (by go_size))
    have hz7 := hp.size
    try simp at hz7
    have hc7 := hp.cell
    have hf7 := hp.frozen
    clear hp
    have HR7 := Lib.hid hr; clear hr
    try have n0_0 : ¬ w.heap.size = B := by omega
    try have n7_0 : ¬ u7.heap.size = B := by omega
    try have s1_0_7 : u1.heap.size < u7.heap.size := by omega
    try have l1_0_7 : u1.heap.size ≤ u7.heap.size := by omega
    try have s2_0_7 : u2.heap.size < u7.heap.size := by omega
    try have l2_0_7 : u2.heap.size ≤ u7.heap.size := by omega
    try have s3_0_7 : u3.heap.size < u7.heap.size := by omega
    try have l3_0_7 : u3.heap.size ≤ u7.heap.size := by omega
    try have s4_0_7 : u4.heap.size < u7.heap.size := by omega
    try have l4_0_7 : u4.heap.size ≤ u7.heap.size := by omega
    try have s5_0_7 : u5.heap.size < u7.heap.size := by omega
    try have l5_0_7 : u5.heap.size ≤ u7.heap.size := by omega
    try have s6_0_7 : u6.heap.size < u7.heap.size := by omega
    try have l6_0_7 : u6.heap.size ≤ u7.heap.size := by omega
    go_wp2
    go_returns
    exact ⟨_, _, _, rfl, by omega, by omega, by omega, by omega, by omega, by omega, hB7⟩
  · have h0' : (x4 == 0) = false := by rw [beq_eq_false_iff_ne]; exact h0
    go_wp2_with fail
    refine (pick_any _ B _ _ (by repeat (first | exact HR4.out | refine Rd.alloc ?_ _ | refine Rd.drew ?_ | refine Rd.drewN ?_ _ | refine Rd.setCell ?_ (by (first | omega | (simp; omega))) _)) (by omega)).mono ?_
    rintro e u5 ⟨x5, rfl, x5_0, x5_1, x5_2, hp, hr⟩
    try replace x5_1 := x5_1 (by omega)
    clear x5_2
    have hB5 : Below w.heap.size w u5 := Below.trans (by go_grown) (hp.to_below (by omega) (by go_size))
    have hz5 := hp.size
    try simp at hz5
    have hc5 := hp.cell
    have hf5 := hp.frozen
    clear hp
    have HR5 := Lib.hid hr; clear hr
    try have n0_0 : ¬ w.heap.size = B := by omega
    try have n5_0 : ¬ u5.heap.size = B := by omega
    try have s1_0_5 : u1.heap.size < u5.heap.size := by omega
    try have l1_0_5 : u1.heap.size ≤ u5.heap.size := by omega
    try have s2_0_5 : u2.heap.size < u5.heap.size := by omega
    try have l2_0_5 : u2.heap.size ≤ u5.heap.size := by omega
    try have s3_0_5 : u3.heap.size < u5.heap.size := by omega
    try have l3_0_5 : u3.heap.size ≤ u5.heap.size := by omega
    try have s4_0_5 : u4.heap.size < u5.heap.size := by omega
    try have l4_0_5 : u4.heap.size ≤ u5.heap.size := by omega
    go_wp2_with fail
    refine (pick_any _ B _ _ (by repeat (first | exact HR5.out | refine Rd.alloc ?_ _ | refine Rd.drew ?_ | refine Rd.drewN ?_ _ | refine Rd.setCell ?_ (by (first | omega | (simp; omega))) _)) (by omega)).mono ?_
    rintro e u6 ⟨x6, rfl, x6_0, x6_1, x6_2, hp, hr⟩
    try replace x6_1 := x6_1 (by omega)
    clear x6_2
    have hB6 : Below w.heap.size w u6 := Below.trans (by go_grown) (hp.to_below (by omega) (by go_size))
    have hz6 := hp.size
    try simp at hz6
    have hc6 := hp.cell
    have hf6 := hp.frozen
    clear hp
    have HR6 := Lib.hid hr; clear hr
    try have n0_0 : ¬ w.heap.size = B := by omega
    try have n6_0 : ¬ u6.heap.size = B := by omega
    try have s1_0_6 : u1.heap.size < u6.heap.size := by omega
    try have l1_0_6 : u1.heap.size ≤ u6.heap.size := by omega
    try have s2_0_6 : u2.heap.size < u6.heap.size := by omega
    try have l2_0_6 : u2.heap.size ≤ u6.heap.size := by omega
    try have s3_0_6 : u3.heap.size < u6.heap.size := by omega
    try have l3_0_6 : u3.heap.size ≤ u6.heap.size := by omega
    try have s4_0_6 : u4.heap.size < u6.heap.size := by omega
    try have l4_0_6 : u4.heap.size ≤ u6.heap.size := by omega
    try have s5_0_6 : u5.heap.size < u6.heap.size := by omega
    try have l5_0_6 : u5.heap.size ≤ u6.heap.size := by omega
    go_wp2_with fail
    refine (pick_any _ B _ _ (by repeat (first | exact HR6.out | refine Rd.alloc ?_ _ | refine Rd.drew ?_ | refine Rd.drewN ?_ _ | refine Rd.setCell ?_ (by (first | omega | (simp; omega))) _)) (by omega)).mono ?_
    rintro e u7 ⟨x7, rfl, x7_0, x7_1, x7_2, hp, hr⟩
    try replace x7_1 := x7_1 (by omega)
    clear x7_2
    have hB7 : Below w.heap.size w u7 := Below.trans (by go_grown) (hp.to_below (by omega) (by go_size))
    have hz7 := hp.size
    try simp at hz7
    have hc7 := hp.cell
    have hf7 := hp.frozen
    clear hp
    have HR7 := Lib.hid hr; clear hr
    try have n0_0 : ¬ w.heap.size = B := by omega
    try have n7_0 : ¬ u7.heap.size = B := by omega
    try have s1_0_7 : u1.heap.size < u7.heap.size := by omega
    try have l1_0_7 : u1.heap.size ≤ u7.heap.size := by omega
    try have s2_0_7 : u2.heap.size < u7.heap.size := by omega
    try have l2_0_7 : u2.heap.size ≤ u7.heap.size := by omega
    try have s3_0_7 : u3.heap.size < u7.heap.size := by omega
    try have l3_0_7 : u3.heap.size ≤ u7.heap.size := by omega
    try have s4_0_7 : u4.heap.size < u7.heap.size := by omega
    try have l4_0_7 : u4.heap.size ≤ u7.heap.size := by omega
    try have s5_0_7 : u5.heap.size < u7.heap.size := by omega
    try have l5_0_7 : u5.heap.size ≤ u7.heap.size := by omega
    try have s6_0_7 : u6.heap.size < u7.heap.size := by omega
    try have l6_0_7 : u6.heap.size ≤ u7.heap.size := by omega
    go_wp2
    go_returns
    exact ⟨_, _, _, rfl, by omega, by omega, by omega, by omega, by omega, by omega, hB7⟩

/-- An exact number's three numbers, not great; the reader has moved on. -/
def DyR (B : Nat) (p : Int) (w : World) (e : Ending) (w' : World) : Prop := ∃ r i s : Int, e = .returned (.agg #[.int .i64 r, .int .i64 i, .int .i64 s]) ∧ -1073741825 ≤ r ∧ r ≤ 1073741825 ∧ -1073741825 ≤ i ∧ i ≤ 1073741825 ∧ 0 ≤ s ∧ s ≤ 61 ∧ Picked B w w' ∧ Rd w' B (p + 4)
set_option maxHeartbeats 400000 in
theorem l91Dyad_any (B : Nat) (p : Int) (w : World) (hr : Rd w B p) (hp : p ≤ 100000) :
    Calls Try.prog 39 #[.pointer (some ⟨B, 0, none⟩)] w (DyR B p w) := by
  have hB := hr.lt
  have hne : ¬ w.heap.size = B := by omega
  have hp0 := hr.nonneg
  have HR := Lib.hid hr; clear hr
  go_enter Try.func39, Try.ntmps39
  go_wp2_with fail
  refine (pick_any _ B p _ (HR.out.alloc _) (by omega)).mono ?_
  rintro e u1 ⟨x1, rfl, x1_0, x1_1, -, hp1, hr1⟩
  replace x1_1 := x1_1 (by omega)
  have HP1 := Lib.hid (((Picked.refl B w).alloc _).trans hp1)
  have hc1 := hp1.cell; have hf1 := hp1.frozen; have hz1 := hp1.size
  simp at hz1
  have HR1 := Lib.hid hr1; clear hr1 hp1
  have s1 : w.heap.size < u1.heap.size := by omega
  go_wp2_with fail
  refine (pick_any _ B _ _ HR1.out (by omega)).mono ?_
  rintro e u2 ⟨x2, rfl, x2_0, x2_1, -, hp2, hr2⟩
  replace x2_1 := x2_1 (by omega)
  have HP2 := Lib.hid (HP1.out.trans hp2)
  have hc2 := hp2.cell; have hf2 := hp2.frozen; have hz2 := hp2.size
  have HR2 := Lib.hid hr2; clear hr2 hp2
  have s2 : w.heap.size < u2.heap.size := by omega
  go_wp2_with fail
  refine (pick_any _ B _ _ HR2.out (by omega)).mono ?_
  rintro e u3 ⟨x3, rfl, x3_0, x3_1, -, hp3, hr3⟩
  replace x3_1 := x3_1 (by omega)
  have HP3 := Lib.hid (HP2.out.trans hp3)
  have hc3 := hp3.cell; have hf3 := hp3.frozen; have hz3 := hp3.size
  have HR3 := Lib.hid hr3; clear hr3 hp3
  have s3 : w.heap.size < u3.heap.size := by omega
  go_wp2_with fail
  obtain ⟨g1, g2, g3⟩ := l_le (x1 - 32) (x2 - 32) x3 x3_0
  have g4 := lS_nonneg (x1 - 32) (x2 - 32) x3
  refine (l2Low_any (x1 - 32) (x2 - 32) x3 _ ⟨by omega, by omega⟩ ⟨by omega, by omega⟩ x3_0 (by omega)).mono ?_
  rintro e u4 ⟨rfl, hb4⟩
  have y1 : -32 ≤ lR (x1 - 32) (x2 - 32) x3 := by omega
  have y2 : lR (x1 - 32) (x2 - 32) x3 ≤ 32 := by omega
  have y3 : -32 ≤ lI (x1 - 32) (x2 - 32) x3 := by omega
  have y4 : lI (x1 - 32) (x2 - 32) x3 ≤ 32 := by omega
  clear g1 g2
  generalize lR (x1 - 32) (x2 - 32) x3 = a at y1 y2
  generalize lI (x1 - 32) (x2 - 32) x3 = b at y3 y4
  generalize lS (x1 - 32) (x2 - 32) x3 = c at g3 g4
  have HP4 := Lib.hid (HP3.out.below hb4)
  have HR4 := Lib.hid (HR3.out.below hb4)
  obtain ⟨hc4, hf4⟩ := bcell hb4
  have hz4 := hb4.size
  clear hb4
  have s4 : w.heap.size < u4.heap.size := by omega
  have s4' : ¬ u4.heap.size = B := by omega
  go_wp2_with fail
  refine (pick_any _ B _ _ (HR4.out.alloc _) (by omega)).mono ?_
  rintro e u5 ⟨x5, rfl, x5_0, x5_1, -, hp5, hr5⟩
  have HP5 := Lib.hid ((HP4.out.alloc _).trans hp5)
  have hc5 := hp5.cell; have hf5 := hp5.frozen; have hz5 := hp5.size
  simp at hz5
  have HR5 := Lib.hid hr5; clear hr5 hp5
  have s5 : w.heap.size < u5.heap.size := by omega
  have s6 : u4.heap.size < u5.heap.size := by omega
  have b0 : u5.cell? ⟨w.heap.size, 0, none⟩ = some (.int .i64 0) := by go_simp
  have b1 : u5.cell? ⟨w.heap.size, 1, none⟩ = some (.int .i64 0) := by go_simp
  have b2 : u5.cell? ⟨w.heap.size, 2, none⟩ = some (.int .i64 0) := by go_simp
  have k0 : u5.cell? ⟨u4.heap.size, 0, none⟩ = some (.int .i64 a) := by go_simp
  have k1 : u5.cell? ⟨u4.heap.size, 1, none⟩ = some (.int .i64 b) := by go_simp
  have k2 : u5.cell? ⟨u4.heap.size, 2, none⟩ = some (.int .i64 c) := by go_simp
  have f0 : u5.frozen? ⟨w.heap.size, 0, none⟩ = false := by go_simp
  have f1 : u5.frozen? ⟨w.heap.size, 1, none⟩ = false := by go_simp
  have f2 : u5.frozen? ⟨w.heap.size, 2, none⟩ = false := by go_simp
  clear hc1 hc2 hc3 hc4 hc5 hf1 hf2 hf3 hf4 hf5
  go_wp2
  all_goals
    refine ret_cell Try.results39 rfl (load_Dyad _ _ _ _ _ (set3 b0 b1 b2 _ _ _).1 (set3 b0 b1 b2 _ _ _).2.1 (set3 b0 b1 b2 _ _ _).2.2) ?_
    refine ⟨_, _, _, rfl, by omega, by omega, by omega, by omega, by omega, by omega, ((HP5.out.setCell (Or.inl (Nat.le_refl _)) _).setCell (Or.inl (Nat.le_refl _)) _).setCell (Or.inl (Nat.le_refl _)) _, ?_⟩
    rw [show p + 4 = p + 1 + 1 + 1 + 1 by omega]
    exact ((HR5.out.setCell hB _).setCell hB _).setCell hB _

end Go.Proofs.Yteceklnghppaaaa
