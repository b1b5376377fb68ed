/- What the drawing of boxes gives: four numbers of 64 bits. -/
import Derived.Test.YtjbpaejjpamcpaaDraw
import Derived.Test.YtjbpaejjpamcpaaMDy
namespace Go.Proofs.Ytjbpaejjpamcpaa
set_option linter.unusedSimpArgs false
set_option linter.unusedVariables false
open Go.RowKit

/-- A box's four numbers; the reader has moved on. -/
def BxR (pv : Int → Int → Int) (v0 : Value) (B : Nat) (p : Int) (w : World) (e : Ending) (w' : World) : Prop := e = .returned (.agg #[.int .i64 (bxA pv p), .int .i64 (bxB pv p), .int .i64 (bxC pv p), .int .i64 (bxD pv p)]) ∧ Picked B w w' ∧ Rd pv v0 w' B (bxP pv p)
section
variable {pv : Int → Int → Int} {v0 : Value}
theorem bxR_of {B : Nat} {p : Int} {w : World} {e : Ending} {w' : World} {a b c d q : Int} (he : e = .returned (.agg #[.int .i64 a, .int .i64 b, .int .i64 c, .int .i64 d])) (ha : a = bxA pv p) (hb : b = bxB pv p) (hc : c = bxC pv p) (hd : d = bxD pv p) (hq : q = bxP pv p) (hp : Picked B w w') (hr : Rd pv v0 w' B q) : BxR pv v0 B p w e w' := by
  subst ha; subst hb; subst hc; subst hd; subst hq; exact ⟨he, hp, hr⟩
set_option maxHeartbeats 4000000 in
theorem l92Box_any (B : Nat) (p : Int) (w : World) (hr : Rd pv v0 w B p) (hp : p ≤ 1000000) :
    Calls Try.prog 50 #[.pointer (some ⟨B, 0, none⟩)] w (BxR pv v0 B p w) := by
  have hB := hr.lt
  have hne : ¬ w.heap.size = B := by omega
  have hp0 := hr.nonneg
  have HR0 := Lib.hid hr; clear hr
  go_enter Try.func50, Try.ntmps50
  go_wp2_with fail
  refine (pick_any _ B _ _ (HR0.out.alloc _) (by omega)).mono ?_
  rintro e u1 ⟨x1, rfl, x1_0, x1_1, -, hp1, hr1, hv1⟩
  have HV1 := Lib.hid hv1; clear hv1
  replace x1_1 := x1_1 (by omega)
  have HP1 := Lib.hid (((Picked.refl B w).alloc _).trans hp1)
  have hc1 := hp1.cell; have hf1 := hp1.frozen; have hz1 := hp1.size
  (try simp at hz1)
  have HR1 := Lib.hid hr1; clear hr1 hp1
  have s1 : w.heap.size < u1.heap.size := by omega
  go_wp2_with fail
  refine (pick_any _ B _ _ (HR1.out) (by omega)).mono ?_
  rintro e u2 ⟨x2, rfl, x2_0, x2_1, -, hp2, hr2, hv2⟩
  have HV2 := Lib.hid hv2; clear hv2
  replace x2_1 := x2_1 (by omega)
  have HP2 := Lib.hid (HP1.out.trans hp2)
  have hc2 := hp2.cell; have hf2 := hp2.frozen; have hz2 := hp2.size
  (try simp at hz2)
  have HR2 := Lib.hid hr2; clear hr2 hp2
  have s2 : w.heap.size < u2.heap.size := by omega
  have s2' : ¬ u2.heap.size = B := by omega
  go_wp2_with fail
  refine (pick_any _ B _ _ (HR2.out.alloc _) (by omega)).mono ?_
  rintro e u3 ⟨x3, rfl, x3_0, x3_1, -, hp3, hr3, hv3⟩
  have HV3 := Lib.hid hv3; clear hv3
  replace x3_1 := x3_1 (by omega)
  have HP3 := Lib.hid ((HP2.out.alloc _).trans hp3)
  have hc3 := hp3.cell; have hf3 := hp3.frozen; have hz3 := hp3.size
  (try simp at hz3)
  have HR3 := Lib.hid hr3; clear hr3 hp3
  have s3 : w.heap.size < u3.heap.size := by omega
  have s3' : u2.heap.size < u3.heap.size := by omega
  obtain ⟨k3, rfl⟩ := Int.eq_ofNat_of_zero_le x3_0
  obtain ⟨wv, hwv, w0, w1, HW⟩ : ∃ y, u3.cell? ⟨u2.heap.size, k3, none⟩ = some (.int .i64 y) ∧ 0 ≤ y ∧ y ≤ 33554432 ∧ Hid (y = wTab k3) := by
    have h3 : k3 = 0 ∨ k3 = 1 ∨ k3 = 2 ∨ k3 = 3 ∨ k3 = 4 ∨ k3 = 5 ∨ k3 = 6 := by omega
    rcases h3 with rfl | rfl | rfl | rfl | rfl | rfl | rfl
    · exact ⟨0, by go_simp, by omega, by omega, Lib.hid (by decide)⟩
    · exact ⟨1, by go_simp, by omega, by omega, Lib.hid (by decide)⟩
    · exact ⟨65536, by go_simp, by omega, by omega, Lib.hid (by decide)⟩
    · exact ⟨262144, by go_simp, by omega, by omega, Lib.hid (by decide)⟩
    · exact ⟨1048576, by go_simp, by omega, by omega, Lib.hid (by decide)⟩
    · exact ⟨4194304, by go_simp, by omega, by omega, Lib.hid (by decide)⟩
    · exact ⟨33554432, by go_simp, by omega, by omega, Lib.hid (by decide)⟩
  have HC3 := Lib.hid hc3; clear hc3
  go_wp2_with fail
  refine (pick_any _ B _ _ (HR3.out.alloc _) (by omega)).mono ?_
  rintro e u4 ⟨x4, rfl, x4_0, x4_1, -, hp4, hr4, hv4⟩
  have HV4 := Lib.hid hv4; clear hv4
  replace x4_1 := x4_1 (by omega)
  have HP4 := Lib.hid ((HP3.out.alloc _).trans hp4)
  have hc4 := hp4.cell; have hf4 := hp4.frozen; have hz4 := hp4.size
  (try simp at hz4)
  have HR4 := Lib.hid hr4; clear hr4 hp4
  have s4 : w.heap.size < u4.heap.size := by omega
  have s4' : u3.heap.size < u4.heap.size := by omega
  have s4'' : ¬ u3.heap.size = B := by omega
  have s5' : ¬ u3.heap.size = w.heap.size := by omega
  have hc3 := HC3.out
  have b0 : u4.cell? ⟨w.heap.size, 0, none⟩ = some (.int .i64 0) := by go_simp
  have b1 : u4.cell? ⟨w.heap.size, 1, none⟩ = some (.int .i64 0) := by go_simp
  have b2 : u4.cell? ⟨w.heap.size, 2, none⟩ = some (.int .i64 0) := by go_simp
  have b3 : u4.cell? ⟨w.heap.size, 3, none⟩ = some (.int .i64 0) := by go_simp
  have f0 : u4.frozen? ⟨w.heap.size, 0, none⟩ = false := by go_simp
  have f1 : u4.frozen? ⟨w.heap.size, 1, none⟩ = false := by go_simp
  have f2 : u4.frozen? ⟨w.heap.size, 2, none⟩ = false := by go_simp
  have f3 : u4.frozen? ⟨w.heap.size, 3, none⟩ = false := by go_simp
  obtain ⟨y0, k0, l0, m0, HY0⟩ : ∃ y, u4.cell? ⟨u3.heap.size, 0, none⟩ = some (.int .i64 y) ∧ -200000000 ≤ y ∧ y ≤ 200000000 ∧ Hid (y = (x1 - 128) * 262144) := ⟨(x1 - 128) * 262144, by go_simp, by omega, by omega, Lib.hid rfl⟩
  obtain ⟨y1, k1, l1, m1, HY1⟩ : ∃ y, u4.cell? ⟨u3.heap.size, 1, none⟩ = some (.int .i64 y) ∧ -200000000 ≤ y ∧ y ≤ 200000000 ∧ Hid (y = (x1 - 128) * 262144 + wv) := ⟨(x1 - 128) * 262144 + wv, by go_simp, by omega, by omega, Lib.hid rfl⟩
  obtain ⟨y2, k2, l2, m2, HY2⟩ : ∃ y, u4.cell? ⟨u3.heap.size, 2, none⟩ = some (.int .i64 y) ∧ -200000000 ≤ y ∧ y ≤ 200000000 ∧ Hid (y = (x2 - 80) * 262144) := ⟨(x2 - 80) * 262144, by go_simp, by omega, by omega, Lib.hid rfl⟩
  obtain ⟨y3, k3, l3, m3, HY3⟩ : ∃ y, u4.cell? ⟨u3.heap.size, 3, none⟩ = some (.int .i64 y) ∧ -200000000 ≤ y ∧ y ≤ 200000000 ∧ Hid (y = (x2 - 80) * 262144 + wv) := ⟨(x2 - 80) * 262144 + wv, by go_simp, by omega, by omega, Lib.hid rfl⟩
  have g0 : u4.frozen? ⟨u3.heap.size, 0, none⟩ = false := by go_simp
  have g1 : u4.frozen? ⟨u3.heap.size, 1, none⟩ = false := by go_simp
  have g2 : u4.frozen? ⟨u3.heap.size, 2, none⟩ = false := by go_simp
  have g3 : u4.frozen? ⟨u3.heap.size, 3, none⟩ = false := by go_simp
  clear hc1 hc2 hc3 hc4 hf1 hf2 hf3 hf4
  by_cases q0 : x4 = 0
  · subst q0
    go_wp2
    refine ret_cell Try.results50 rfl (load_Box _ _ _ _ _ _ (set4 (by first | exact b0 | (rw [World.cell?_setCell_other _ _ _ _ (by simp <;> omega)]; exact b0)) (by first | exact b1 | (rw [World.cell?_setCell_other _ _ _ _ (by simp <;> omega)]; exact b1)) (by first | exact b2 | (rw [World.cell?_setCell_other _ _ _ _ (by simp <;> omega)]; exact b2)) (by first | exact b3 | (rw [World.cell?_setCell_other _ _ _ _ (by simp <;> omega)]; exact b3)) _ _ _ _).1 (set4 (by first | exact b0 | (rw [World.cell?_setCell_other _ _ _ _ (by simp <;> omega)]; exact b0)) (by first | exact b1 | (rw [World.cell?_setCell_other _ _ _ _ (by simp <;> omega)]; exact b1)) (by first | exact b2 | (rw [World.cell?_setCell_other _ _ _ _ (by simp <;> omega)]; exact b2)) (by first | exact b3 | (rw [World.cell?_setCell_other _ _ _ _ (by simp <;> omega)]; exact b3)) _ _ _ _).2.1 (set4 (by first | exact b0 | (rw [World.cell?_setCell_other _ _ _ _ (by simp <;> omega)]; exact b0)) (by first | exact b1 | (rw [World.cell?_setCell_other _ _ _ _ (by simp <;> omega)]; exact b1)) (by first | exact b2 | (rw [World.cell?_setCell_other _ _ _ _ (by simp <;> omega)]; exact b2)) (by first | exact b3 | (rw [World.cell?_setCell_other _ _ _ _ (by simp <;> omega)]; exact b3)) _ _ _ _).2.2.1 (set4 (by first | exact b0 | (rw [World.cell?_setCell_other _ _ _ _ (by simp <;> omega)]; exact b0)) (by first | exact b1 | (rw [World.cell?_setCell_other _ _ _ _ (by simp <;> omega)]; exact b1)) (by first | exact b2 | (rw [World.cell?_setCell_other _ _ _ _ (by simp <;> omega)]; exact b2)) (by first | exact b3 | (rw [World.cell?_setCell_other _ _ _ _ (by simp <;> omega)]; exact b3)) _ _ _ _).2.2.2) ?_
    refine bxR_of (q := p + 1 + 1 + 1 + 1) rfl ?_ ?_ ?_ ?_ ?_ ?_ ?_
    rotate_left 5
    repeat (first | exact HP4.out | refine Picked.setCell ?_ (Or.inl (by simp <;> omega)) _)
    repeat (first | exact HR4.out | refine Rd.setCell ?_ (by simp <;> omega) _)
    all_goals (have e1 := HV1.out; have e2 := HV2.out; have e3 := HV3.out; have e4 := HV4.out; have ew := HW.out; have g0 := HY0.out; have g1 := HY1.out; have g2 := HY2.out; have g3 := HY3.out; rw [show p + 1 + 1 = p + 2 by omega] at e3; rw [show p + 1 + 1 + 1 = p + 3 by omega] at e4; clear hB HR0; first | unfold bxA | unfold bxB | unfold bxC | unfold bxD | unfold bxP); (all_goals (try simp only [← e1, ← e2, ← e3, ← e4, ↓reduceIte, if_true, if_false])); (all_goals repeat' split); all_goals (first | omega | (rename_i h1 h2; first | exact (h1 trivial).elim | exact (h2 trivial).elim) | (rename_i h1; exact (h1 trivial).elim))
  by_cases q1 : x4 = 1
  · subst q1
    go_wp2
    refine ret_cell Try.results50 rfl (load_Box _ _ _ _ _ _ (set4 (by first | exact b0 | (rw [World.cell?_setCell_other _ _ _ _ (by simp <;> omega)]; exact b0)) (by first | exact b1 | (rw [World.cell?_setCell_other _ _ _ _ (by simp <;> omega)]; exact b1)) (by first | exact b2 | (rw [World.cell?_setCell_other _ _ _ _ (by simp <;> omega)]; exact b2)) (by first | exact b3 | (rw [World.cell?_setCell_other _ _ _ _ (by simp <;> omega)]; exact b3)) _ _ _ _).1 (set4 (by first | exact b0 | (rw [World.cell?_setCell_other _ _ _ _ (by simp <;> omega)]; exact b0)) (by first | exact b1 | (rw [World.cell?_setCell_other _ _ _ _ (by simp <;> omega)]; exact b1)) (by first | exact b2 | (rw [World.cell?_setCell_other _ _ _ _ (by simp <;> omega)]; exact b2)) (by first | exact b3 | (rw [World.cell?_setCell_other _ _ _ _ (by simp <;> omega)]; exact b3)) _ _ _ _).2.1 (set4 (by first | exact b0 | (rw [World.cell?_setCell_other _ _ _ _ (by simp <;> omega)]; exact b0)) (by first | exact b1 | (rw [World.cell?_setCell_other _ _ _ _ (by simp <;> omega)]; exact b1)) (by first | exact b2 | (rw [World.cell?_setCell_other _ _ _ _ (by simp <;> omega)]; exact b2)) (by first | exact b3 | (rw [World.cell?_setCell_other _ _ _ _ (by simp <;> omega)]; exact b3)) _ _ _ _).2.2.1 (set4 (by first | exact b0 | (rw [World.cell?_setCell_other _ _ _ _ (by simp <;> omega)]; exact b0)) (by first | exact b1 | (rw [World.cell?_setCell_other _ _ _ _ (by simp <;> omega)]; exact b1)) (by first | exact b2 | (rw [World.cell?_setCell_other _ _ _ _ (by simp <;> omega)]; exact b2)) (by first | exact b3 | (rw [World.cell?_setCell_other _ _ _ _ (by simp <;> omega)]; exact b3)) _ _ _ _).2.2.2) ?_
    refine bxR_of (q := p + 1 + 1 + 1 + 1) rfl ?_ ?_ ?_ ?_ ?_ ?_ ?_
    rotate_left 5
    repeat (first | exact HP4.out | refine Picked.setCell ?_ (Or.inl (by simp <;> omega)) _)
    repeat (first | exact HR4.out | refine Rd.setCell ?_ (by simp <;> omega) _)
    all_goals (have e1 := HV1.out; have e2 := HV2.out; have e3 := HV3.out; have e4 := HV4.out; have ew := HW.out; have g0 := HY0.out; have g1 := HY1.out; have g2 := HY2.out; have g3 := HY3.out; rw [show p + 1 + 1 = p + 2 by omega] at e3; rw [show p + 1 + 1 + 1 = p + 3 by omega] at e4; clear hB HR0; first | unfold bxA | unfold bxB | unfold bxC | unfold bxD | unfold bxP); (all_goals (try simp only [← e1, ← e2, ← e3, ← e4, ↓reduceIte, if_true, if_false])); (all_goals repeat' split); all_goals (first | omega | (rename_i h1 h2; first | exact (h1 trivial).elim | exact (h2 trivial).elim) | (rename_i h1; exact (h1 trivial).elim))
  by_cases q2 : x4 = 2
  · subst q2
    go_wp2
    refine ret_cell Try.results50 rfl (load_Box _ _ _ _ _ _ (set4 (by first | exact b0 | (rw [World.cell?_setCell_other _ _ _ _ (by simp <;> omega)]; exact b0)) (by first | exact b1 | (rw [World.cell?_setCell_other _ _ _ _ (by simp <;> omega)]; exact b1)) (by first | exact b2 | (rw [World.cell?_setCell_other _ _ _ _ (by simp <;> omega)]; exact b2)) (by first | exact b3 | (rw [World.cell?_setCell_other _ _ _ _ (by simp <;> omega)]; exact b3)) _ _ _ _).1 (set4 (by first | exact b0 | (rw [World.cell?_setCell_other _ _ _ _ (by simp <;> omega)]; exact b0)) (by first | exact b1 | (rw [World.cell?_setCell_other _ _ _ _ (by simp <;> omega)]; exact b1)) (by first | exact b2 | (rw [World.cell?_setCell_other _ _ _ _ (by simp <;> omega)]; exact b2)) (by first | exact b3 | (rw [World.cell?_setCell_other _ _ _ _ (by simp <;> omega)]; exact b3)) _ _ _ _).2.1 (set4 (by first | exact b0 | (rw [World.cell?_setCell_other _ _ _ _ (by simp <;> omega)]; exact b0)) (by first | exact b1 | (rw [World.cell?_setCell_other _ _ _ _ (by simp <;> omega)]; exact b1)) (by first | exact b2 | (rw [World.cell?_setCell_other _ _ _ _ (by simp <;> omega)]; exact b2)) (by first | exact b3 | (rw [World.cell?_setCell_other _ _ _ _ (by simp <;> omega)]; exact b3)) _ _ _ _).2.2.1 (set4 (by first | exact b0 | (rw [World.cell?_setCell_other _ _ _ _ (by simp <;> omega)]; exact b0)) (by first | exact b1 | (rw [World.cell?_setCell_other _ _ _ _ (by simp <;> omega)]; exact b1)) (by first | exact b2 | (rw [World.cell?_setCell_other _ _ _ _ (by simp <;> omega)]; exact b2)) (by first | exact b3 | (rw [World.cell?_setCell_other _ _ _ _ (by simp <;> omega)]; exact b3)) _ _ _ _).2.2.2) ?_
    refine bxR_of (q := p + 1 + 1 + 1 + 1) rfl ?_ ?_ ?_ ?_ ?_ ?_ ?_
    rotate_left 5
    repeat (first | exact HP4.out | refine Picked.setCell ?_ (Or.inl (by simp <;> omega)) _)
    repeat (first | exact HR4.out | refine Rd.setCell ?_ (by simp <;> omega) _)
    all_goals (have e1 := HV1.out; have e2 := HV2.out; have e3 := HV3.out; have e4 := HV4.out; have ew := HW.out; have g0 := HY0.out; have g1 := HY1.out; have g2 := HY2.out; have g3 := HY3.out; rw [show p + 1 + 1 = p + 2 by omega] at e3; rw [show p + 1 + 1 + 1 = p + 3 by omega] at e4; clear hB HR0; first | unfold bxA | unfold bxB | unfold bxC | unfold bxD | unfold bxP); (all_goals (try simp only [← e1, ← e2, ← e3, ← e4, ↓reduceIte, if_true, if_false])); (all_goals repeat' split); all_goals (first | omega | (rename_i h1 h2; first | exact (h1 trivial).elim | exact (h2 trivial).elim) | (rename_i h1; exact (h1 trivial).elim))
  by_cases q3 : x4 = 3
  · subst q3
    go_wp2_with fail
    refine (pick_any _ B _ _ (HR4.out) (by omega)).mono ?_
    rintro e u5 ⟨x5, rfl, x5_0, x5_1, -, hp5, hr5, hv5⟩
    have HV5 := Lib.hid hv5; clear hv5
    replace x5_1 := x5_1 (by omega)
    have HP5 := Lib.hid (HP4.out.trans hp5)
    have hc5 := hp5.cell; have hf5 := hp5.frozen; have hz5 := hp5.size
    (try simp at hz5)
    have HR5 := Lib.hid hr5; clear hr5 hp5
    have s5 : w.heap.size < u5.heap.size := by omega
    have c0 : u5.cell? ⟨w.heap.size, 0, none⟩ = some (.int .i64 0) := by go_simp
    have e0 : u5.cell? ⟨u3.heap.size, 0, none⟩ = some (.int .i64 y0) := by go_simp
    have d0 : u5.frozen? ⟨w.heap.size, 0, none⟩ = false := by go_simp
    have h0 : u5.frozen? ⟨u3.heap.size, 0, none⟩ = false := by go_simp
    have c1 : u5.cell? ⟨w.heap.size, 1, none⟩ = some (.int .i64 0) := by go_simp
    have e1 : u5.cell? ⟨u3.heap.size, 1, none⟩ = some (.int .i64 y1) := by go_simp
    have d1 : u5.frozen? ⟨w.heap.size, 1, none⟩ = false := by go_simp
    have h1 : u5.frozen? ⟨u3.heap.size, 1, none⟩ = false := by go_simp
    have c2 : u5.cell? ⟨w.heap.size, 2, none⟩ = some (.int .i64 0) := by go_simp
    have e2 : u5.cell? ⟨u3.heap.size, 2, none⟩ = some (.int .i64 y2) := by go_simp
    have d2 : u5.frozen? ⟨w.heap.size, 2, none⟩ = false := by go_simp
    have h2 : u5.frozen? ⟨u3.heap.size, 2, none⟩ = false := by go_simp
    have c3 : u5.cell? ⟨w.heap.size, 3, none⟩ = some (.int .i64 0) := by go_simp
    have e3 : u5.cell? ⟨u3.heap.size, 3, none⟩ = some (.int .i64 y3) := by go_simp
    have d3 : u5.frozen? ⟨w.heap.size, 3, none⟩ = false := by go_simp
    have h3 : u5.frozen? ⟨u3.heap.size, 3, none⟩ = false := by go_simp
    clear hc5 hf5
    go_wp2
    refine ret_cell Try.results50 rfl (load_Box _ _ _ _ _ _ (set4 (by first | exact c0 | (rw [World.cell?_setCell_other _ _ _ _ (by simp <;> omega)]; exact c0)) (by first | exact c1 | (rw [World.cell?_setCell_other _ _ _ _ (by simp <;> omega)]; exact c1)) (by first | exact c2 | (rw [World.cell?_setCell_other _ _ _ _ (by simp <;> omega)]; exact c2)) (by first | exact c3 | (rw [World.cell?_setCell_other _ _ _ _ (by simp <;> omega)]; exact c3)) _ _ _ _).1 (set4 (by first | exact c0 | (rw [World.cell?_setCell_other _ _ _ _ (by simp <;> omega)]; exact c0)) (by first | exact c1 | (rw [World.cell?_setCell_other _ _ _ _ (by simp <;> omega)]; exact c1)) (by first | exact c2 | (rw [World.cell?_setCell_other _ _ _ _ (by simp <;> omega)]; exact c2)) (by first | exact c3 | (rw [World.cell?_setCell_other _ _ _ _ (by simp <;> omega)]; exact c3)) _ _ _ _).2.1 (set4 (by first | exact c0 | (rw [World.cell?_setCell_other _ _ _ _ (by simp <;> omega)]; exact c0)) (by first | exact c1 | (rw [World.cell?_setCell_other _ _ _ _ (by simp <;> omega)]; exact c1)) (by first | exact c2 | (rw [World.cell?_setCell_other _ _ _ _ (by simp <;> omega)]; exact c2)) (by first | exact c3 | (rw [World.cell?_setCell_other _ _ _ _ (by simp <;> omega)]; exact c3)) _ _ _ _).2.2.1 (set4 (by first | exact c0 | (rw [World.cell?_setCell_other _ _ _ _ (by simp <;> omega)]; exact c0)) (by first | exact c1 | (rw [World.cell?_setCell_other _ _ _ _ (by simp <;> omega)]; exact c1)) (by first | exact c2 | (rw [World.cell?_setCell_other _ _ _ _ (by simp <;> omega)]; exact c2)) (by first | exact c3 | (rw [World.cell?_setCell_other _ _ _ _ (by simp <;> omega)]; exact c3)) _ _ _ _).2.2.2) ?_
    refine bxR_of (q := p + 1 + 1 + 1 + 1 + 1) rfl ?_ ?_ ?_ ?_ ?_ ?_ ?_
    rotate_left 5
    repeat (first | exact HP5.out | refine Picked.setCell ?_ (Or.inl (by simp <;> omega)) _)
    repeat (first | exact HR5.out | refine Rd.setCell ?_ (by simp <;> omega) _)
    all_goals (have e1 := HV1.out; have e2 := HV2.out; have e3 := HV3.out; have e4 := HV4.out; have ew := HW.out; have g0 := HY0.out; have g1 := HY1.out; have g2 := HY2.out; have g3 := HY3.out; have e5 := HV5.out; rw [show p + 1 + 1 = p + 2 by omega] at e3; rw [show p + 1 + 1 + 1 = p + 3 by omega] at e4; rw [show p + 1 + 1 + 1 + 1 = p + 4 by omega] at e5; clear hB HR0; first | unfold bxA | unfold bxB | unfold bxC | unfold bxD | unfold bxP); (all_goals (try simp only [← e1, ← e2, ← e3, ← e4, ← e5, ↓reduceIte, if_true, if_false])); (all_goals repeat' split); all_goals (first | omega | (rename_i h1 h2; first | exact (h1 trivial).elim | exact (h2 trivial).elim) | (rename_i h1; exact (h1 trivial).elim))
  have r0 : (x4 == 0) = false := by rw [beq_eq_false_iff_ne]; exact q0
  have r1 : (x4 == 1) = false := by rw [beq_eq_false_iff_ne]; exact q1
  have r2 : (x4 == 2) = false := by rw [beq_eq_false_iff_ne]; exact q2
  have r3 : (x4 == 3) = false := by rw [beq_eq_false_iff_ne]; exact q3
  go_wp2
  refine ret_cell Try.results50 rfl (load_Box _ _ _ _ _ _ (set4 (by first | exact b0 | (rw [World.cell?_setCell_other _ _ _ _ (by simp <;> omega)]; exact b0)) (by first | exact b1 | (rw [World.cell?_setCell_other _ _ _ _ (by simp <;> omega)]; exact b1)) (by first | exact b2 | (rw [World.cell?_setCell_other _ _ _ _ (by simp <;> omega)]; exact b2)) (by first | exact b3 | (rw [World.cell?_setCell_other _ _ _ _ (by simp <;> omega)]; exact b3)) _ _ _ _).1 (set4 (by first | exact b0 | (rw [World.cell?_setCell_other _ _ _ _ (by simp <;> omega)]; exact b0)) (by first | exact b1 | (rw [World.cell?_setCell_other _ _ _ _ (by simp <;> omega)]; exact b1)) (by first | exact b2 | (rw [World.cell?_setCell_other _ _ _ _ (by simp <;> omega)]; exact b2)) (by first | exact b3 | (rw [World.cell?_setCell_other _ _ _ _ (by simp <;> omega)]; exact b3)) _ _ _ _).2.1 (set4 (by first | exact b0 | (rw [World.cell?_setCell_other _ _ _ _ (by simp <;> omega)]; exact b0)) (by first | exact b1 | (rw [World.cell?_setCell_other _ _ _ _ (by simp <;> omega)]; exact b1)) (by first | exact b2 | (rw [World.cell?_setCell_other _ _ _ _ (by simp <;> omega)]; exact b2)) (by first | exact b3 | (rw [World.cell?_setCell_other _ _ _ _ (by simp <;> omega)]; exact b3)) _ _ _ _).2.2.1 (set4 (by first | exact b0 | (rw [World.cell?_setCell_other _ _ _ _ (by simp <;> omega)]; exact b0)) (by first | exact b1 | (rw [World.cell?_setCell_other _ _ _ _ (by simp <;> omega)]; exact b1)) (by first | exact b2 | (rw [World.cell?_setCell_other _ _ _ _ (by simp <;> omega)]; exact b2)) (by first | exact b3 | (rw [World.cell?_setCell_other _ _ _ _ (by simp <;> omega)]; exact b3)) _ _ _ _).2.2.2) ?_
  refine bxR_of (q := p + 1 + 1 + 1 + 1) rfl ?_ ?_ ?_ ?_ ?_ ?_ ?_
  rotate_left 5
  repeat (first | exact HP4.out | refine Picked.setCell ?_ (Or.inl (by simp <;> omega)) _)
  repeat (first | exact HR4.out | refine Rd.setCell ?_ (by simp <;> omega) _)
  all_goals (have e1 := HV1.out; have e2 := HV2.out; have e3 := HV3.out; have e4 := HV4.out; have ew := HW.out; have g0 := HY0.out; have g1 := HY1.out; have g2 := HY2.out; have g3 := HY3.out; rw [show p + 1 + 1 = p + 2 by omega] at e3; rw [show p + 1 + 1 + 1 = p + 3 by omega] at e4; clear hB HR0; first | unfold bxA | unfold bxB | unfold bxC | unfold bxD | unfold bxP); (all_goals (try simp only [← e1, ← e2, ← e3, ← e4, ↓reduceIte, if_true, if_false])); (all_goals repeat' split); all_goals (first | omega | (rename_i h1 h2; first | exact (h1 trivial).elim | exact (h2 trivial).elim) | (rename_i h1; exact (h1 trivial).elim))
end

end Go.Proofs.Ytjbpaejjpamcpaa
