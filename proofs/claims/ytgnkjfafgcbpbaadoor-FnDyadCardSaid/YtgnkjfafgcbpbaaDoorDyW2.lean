/- What the program's DyadMake gives: its loop turns a number that lies in memory. -/
import Derived.Test.YtgnkjfafgcbpbaaDoorDyW1
import Derived.Deep.DeepCutAuto
namespace Go.Proofs.YtgnkjfafgcbpbaaDoor
set_option linter.unusedSimpArgs false
set_option linter.unusedVariables false
open Go.RowKit

/-- The number that DyadMake halves lies in block D; the result's block is still zero. -/
structure MkInv (w : World) (r i s : Int) (a b c : Int) (wr : World) : Prop where
  c0 : wr.cell? ⟨w.heap.size + 1, 0, none⟩ = some (.int .i64 a)
  c1 : wr.cell? ⟨w.heap.size + 1, 1, none⟩ = some (.int .i64 b)
  c2 : wr.cell? ⟨w.heap.size + 1, 2, none⟩ = some (.int .i64 c)
  f : ∀ o, wr.frozen? ⟨w.heap.size + 1, o, none⟩ = false
  r0 : wr.cell? ⟨w.heap.size, 0, none⟩ = some (.int .i64 0)
  r1 : wr.cell? ⟨w.heap.size, 1, none⟩ = some (.int .i64 0)
  r2 : wr.cell? ⟨w.heap.size, 2, none⟩ = some (.int .i64 0)
  rf : ∀ o, wr.frozen? ⟨w.heap.size, o, none⟩ = false
  below : Below w.heap.size w wr
  size : w.heap.size + 1 < wr.heap.size
  ba : -4611686018427387904 ≤ a ∧ a ≤ 4611686018427387904
  bb : -4611686018427387904 ≤ b ∧ b ≤ 4611686018427387904
  bc : 0 ≤ c ∧ c ≤ 120
  eR : lR a b c = lR r i s
  eI : lI a b c = lI r i s
  eS : lS a b c = lS r i s

/-- What DyadMake gives for numbers in their ranges. -/
def MkV (r i s : Int) : Value := if DV (lR r i s) (lI r i s) (lS r i s) = true then .tuple #[.agg #[.int .i64 (lR r i s), .int .i64 (lI r i s), .int .i64 (lS r i s)], .bool true] else .tuple #[.agg #[.int .i64 0, .int .i64 0, .int .i64 0], .bool false]
theorem MkV_yes {r i s : Int} (h : DV (lR r i s) (lI r i s) (lS r i s) = true) : MkV r i s = .tuple #[.agg #[.int .i64 (lR r i s), .int .i64 (lI r i s), .int .i64 (lS r i s)], .bool true] := if_pos h
theorem MkV_no {r i s : Int} (h : DV (lR r i s) (lI r i s) (lS r i s) = false) : MkV r i s = .tuple #[.agg #[.int .i64 0, .int .i64 0, .int .i64 0], .bool false] := if_neg (by rw [h]; decide)

theorem impl_DyadMake_any (r i s : Int) (w : World) (h : MKr r i s = true) :
    Calls Tryd.prog 14 #[.int .i64 r, .int .i64 i, .int .i64 s] w (Gives (MkV r i s) w) := by
  obtain ⟨a1, a2, a3, a4, a5, a6⟩ := (MKr_iff r i s).1 h
  clear h
  have t1 : decide (s < 0) = false := by simp; omega
  have t2 : decide (120 < s) = false := by simp; omega
  have t3 : decide (r < -4611686018427387904) = false := by simp; omega
  have t4 : decide (4611686018427387904 < r) = false := by simp; omega
  have t5 : decide (i < -4611686018427387904) = false := by simp; omega
  have t6 : decide (4611686018427387904 < i) = false := by simp; omega
  go_enter Tryd.func14, Tryd.ntmps14
  go_wp2
  go_loopw [41] (fun _ wr => ∃ a b c : Int, MkInv w r i s a b c wr) (fun _ wr => (intOf ((wr.cell? ⟨w.heap.size + 1, 2, none⟩).getD undef)).toNat)
  case atStart =>
    refine ⟨r, i, s, ?_⟩
    exact ⟨by go_simp, by go_simp, by go_simp, fun o => by go_simp, by go_simp, by go_simp, by go_simp, fun o => by go_simp, by go_grown, by simp, ⟨a3, a4⟩, ⟨a5, a6⟩, ⟨a1, a2⟩, rfl, rfl, rfl⟩
  case round =>
    obtain ⟨a, b, c, hI⟩ := hrel
    have HI := Lib.hid hI
    obtain ⟨c0, c1, c2, hf, r0, r1, r2, rf, hB, hz, ⟨ba, ba'⟩, ⟨bb, bb'⟩, ⟨bc, bc'⟩, _, _, _⟩ := hI
    have hz0 : w.heap.size < wr.heap.size := by omega
    have hf0 := hf 0
    have hf1' := hf 1
    have hf2 := hf 2
    have rf0 := rf 0
    have rf1 := rf 1
    have rf2 := rf 2
    clear hf rf
    by_cases hc0 : c = 0
    · subst hc0
      have HS := Lib.hid (l_stop a b 0 (by omega) (Or.inl rfl))
      go_wp2_with fail
      cases hv : DV (lR r i s) (lI r i s) (lS r i s)
      · have HV := Lib.hid hv; have HM := Lib.hid (MkV_no hv); clear hv
        refine (valid_any _ _ _ _).mono ?_
        rw [show DV a b 0 = false by rw [← HV.out, ← HI.out.eR, ← HI.out.eI, ← HI.out.eS, HS.out.1, HS.out.2.1, HS.out.2.2]]
        rintro e u1 ⟨rfl, hb⟩
        have hB1 : Below w.heap.size w u1 := hB.trans (hb.mono (by omega))
        obtain ⟨hc1, hf1⟩ := bcell hb
        clear hb
        go_wp2
        refine ret_cell_tmp Tryd.results14 rfl rfl (load_Dyad _ _ (.int .i64 0) (.int .i64 0) (.int .i64 0) (by go_simp) (by go_simp) (by go_simp)) ⟨by rw [HM.out]; first | done | rfl, by go_grown⟩
      · have HV := Lib.hid hv; have HM := Lib.hid (MkV_yes hv); clear hv
        refine (valid_any _ _ _ _).mono ?_
        rw [show DV a b 0 = true by rw [← HV.out, ← HI.out.eR, ← HI.out.eI, ← HI.out.eS, HS.out.1, HS.out.2.1, HS.out.2.2]]
        rintro e u1 ⟨rfl, hb⟩
        have hB1 : Below w.heap.size w u1 := hB.trans (hb.mono (by omega))
        obtain ⟨hc1, hf1⟩ := bcell hb
        clear hb
        go_wp2
        have b0 : u1.cell? ⟨w.heap.size, 0, none⟩ = some (.int .i64 0) := by go_simp
        have b1 : u1.cell? ⟨w.heap.size, 1, none⟩ = some (.int .i64 0) := by go_simp
        have b2 : u1.cell? ⟨w.heap.size, 2, none⟩ = some (.int .i64 0) := by go_simp
        refine ret_cell_tmp Tryd.results14 rfl rfl (load_Dyad _ _ _ _ _ (set3 b0 b1 b2 _ _ _).1 (set3 b0 b1 b2 _ _ _).2.1 (set3 b0 b1 b2 _ _ _).2.2) ⟨by rw [HM.out, ← HI.out.eR, ← HI.out.eI, ← HI.out.eS, HS.out.1, HS.out.2.1, HS.out.2.2]; first | done | rfl, by go_grown⟩
    have hc1 : 1 ≤ c := by omega
    by_cases pa : a % 2 = 0 ∧ b % 2 = 0
    · obtain ⟨pa, pb⟩ := pa
      have e1 := tdiv_two a pa
      have e2 := tdiv_two b pb
      have ST := Lib.hid (l_step a b c hc1 pa pb)
      go_wp2_with fail
      refine (even_any _ _ _ _).mono ?_
      rw [show (decide (a % 2 = 0) && decide (b % 2 = 0)) = true by simp; omega]
      rintro e u0 ⟨rfl, hb⟩
      have hB0 : Below w.heap.size w u0 := hB.trans (hb.mono (by omega))
      have hzu := hb.size
      have hz2 : w.heap.size + 1 < u0.heap.size := by omega
      have hz3 : w.heap.size < u0.heap.size := by omega
      obtain ⟨hc1, hf1⟩ := bcell hb
      clear hb
      clear pa pb
      go_wp2
      go_roundw
      case rel =>
        refine ⟨a / 2, b / 2, c - 1, ?_⟩
        have st := set3 (show u0.cell? ⟨w.heap.size + 1, 0, none⟩ = some (.int .i64 a) by go_simp) (show u0.cell? ⟨w.heap.size + 1, 1, none⟩ = some (.int .i64 b) by go_simp) (show u0.cell? ⟨w.heap.size + 1, 2, none⟩ = some (.int .i64 c) by go_simp) (.int .i64 (a / 2)) (.int .i64 (b / 2)) (.int .i64 (c - 1))
        exact ⟨st.1, st.2.1, st.2.2, fun o => by simp [hf1 _ o hz, HI.out.f o], by go_simp, by go_simp, by go_simp, fun o => by simp [hf1 _ o hz0, HI.out.rf o], by go_grown, by simpa using hz2, ⟨by omega, by omega⟩, ⟨by omega, by omega⟩, ⟨by omega, by omega⟩, by rw [← ST.out.1, HI.out.eR], by rw [← ST.out.2.1, HI.out.eI], by rw [← ST.out.2.2, HI.out.eS]⟩
      case measure =>
        have st := set3 (show u0.cell? ⟨w.heap.size + 1, 0, none⟩ = some (.int .i64 a) by go_simp) (show u0.cell? ⟨w.heap.size + 1, 1, none⟩ = some (.int .i64 b) by go_simp) (show u0.cell? ⟨w.heap.size + 1, 2, none⟩ = some (.int .i64 c) by go_simp) (.int .i64 (a / 2)) (.int .i64 (b / 2)) (.int .i64 (c - 1))
        rw [st.2.2, HI.out.c2]
        simp [intOf]; omega
    · have HS := Lib.hid (l_stop a b c bc (Or.inr (by omega)))
      go_wp2_with fail
      refine (even_any _ _ _ _).mono ?_
      rw [show (decide (a % 2 = 0) && decide (b % 2 = 0)) = false by simp; omega]
      rintro e u0 ⟨rfl, hb⟩
      have hB0 : Below w.heap.size w u0 := hB.trans (hb.mono (by omega))
      have hzu := hb.size
      have hz2 : w.heap.size + 1 < u0.heap.size := by omega
      have hz3 : w.heap.size < u0.heap.size := by omega
      obtain ⟨hc1, hf1⟩ := bcell hb
      clear hb
      clear pa
      go_wp2_with fail
      cases hv : DV (lR r i s) (lI r i s) (lS r i s)
      · have HV := Lib.hid hv; have HM := Lib.hid (MkV_no hv); clear hv
        refine (valid_any _ _ _ _).mono ?_
        rw [show DV a b c = false by rw [← HV.out, ← HI.out.eR, ← HI.out.eI, ← HI.out.eS, HS.out.1, HS.out.2.1, HS.out.2.2]]
        rintro e u1 ⟨rfl, hb⟩
        have hB1 : Below w.heap.size w u1 := hB0.trans (hb.mono (by omega))
        obtain ⟨hc1, hf1⟩ := bcell hb
        clear hb
        go_wp2
        refine ret_cell_tmp Tryd.results14 rfl rfl (load_Dyad _ _ (.int .i64 0) (.int .i64 0) (.int .i64 0) (by go_simp) (by go_simp) (by go_simp)) ⟨by rw [HM.out]; first | done | rfl, by go_grown⟩
      · have HV := Lib.hid hv; have HM := Lib.hid (MkV_yes hv); clear hv
        refine (valid_any _ _ _ _).mono ?_
        rw [show DV a b c = true by rw [← HV.out, ← HI.out.eR, ← HI.out.eI, ← HI.out.eS, HS.out.1, HS.out.2.1, HS.out.2.2]]
        rintro e u1 ⟨rfl, hb⟩
        have hB1 : Below w.heap.size w u1 := hB0.trans (hb.mono (by omega))
        obtain ⟨hc1, hf1⟩ := bcell hb
        clear hb
        go_wp2
        have b0 : u1.cell? ⟨w.heap.size, 0, none⟩ = some (.int .i64 0) := by go_simp
        have b1 : u1.cell? ⟨w.heap.size, 1, none⟩ = some (.int .i64 0) := by go_simp
        have b2 : u1.cell? ⟨w.heap.size, 2, none⟩ = some (.int .i64 0) := by go_simp
        refine ret_cell_tmp Tryd.results14 rfl rfl (load_Dyad _ _ _ _ _ (set3 b0 b1 b2 _ _ _).1 (set3 b0 b1 b2 _ _ _).2.1 (set3 b0 b1 b2 _ _ _).2.2) ⟨by rw [HM.out, ← HI.out.eR, ← HI.out.eI, ← HI.out.eS, HS.out.1, HS.out.2.1, HS.out.2.2]; first | done | rfl, by go_grown⟩

theorem impl_DyadMake_yes (r i s : Int) (w : World) (h : MK r i s = true) :
    Calls Tryd.prog 14 #[.int .i64 r, .int .i64 i, .int .i64 s] w (Gives (.tuple #[.agg #[.int .i64 (lR r i s), .int .i64 (lI r i s), .int .i64 (lS r i s)], .bool true]) w) := by
  obtain ⟨h1, h2⟩ := Bool.and_eq_true_iff.1 h
  exact (impl_DyadMake_any r i s w h1).mono fun e w' hg => by rw [MkV_yes h2] at hg; exact hg
theorem impl_DyadMake_no (r i s : Int) (w : World) (h : MK r i s = false) :
    Calls Tryd.prog 14 #[.int .i64 r, .int .i64 i, .int .i64 s] w (Gives (.tuple #[.agg #[.int .i64 0, .int .i64 0, .int .i64 0], .bool false]) w) := by
  cases hk : MKr r i s
  · have hn : ¬ (0 ≤ s ∧ s ≤ 120 ∧ -4611686018427387904 ≤ r ∧ r ≤ 4611686018427387904 ∧ -4611686018427387904 ≤ i ∧ i ≤ 4611686018427387904) := fun g => by rw [(MKr_iff r i s).2 g] at hk; cases hk
    clear h hk
    by_cases d : s < 0
    · clear hn
      go_enter Tryd.func14, Tryd.ntmps14
      go_wp2
      refine ret_cell_tmp Tryd.results14 rfl rfl (load_Dyad _ _ (.int .i64 0) (.int .i64 0) (.int .i64 0) (by go_simp) (by go_simp) (by go_simp)) ⟨rfl, by go_grown⟩
    have t0 : decide (s < 0) = false := by simpa using d
    have g0 : ¬ (s < 0) := d
    clear d
    by_cases d : 120 < s
    · clear hn
      go_enter Tryd.func14, Tryd.ntmps14
      go_wp2
      refine ret_cell_tmp Tryd.results14 rfl rfl (load_Dyad _ _ (.int .i64 0) (.int .i64 0) (.int .i64 0) (by go_simp) (by go_simp) (by go_simp)) ⟨rfl, by go_grown⟩
    have t1 : decide (120 < s) = false := by simpa using d
    have g1 : ¬ (120 < s) := d
    clear d
    by_cases d : r < -4611686018427387904
    · clear hn
      go_enter Tryd.func14, Tryd.ntmps14
      go_wp2
      refine ret_cell_tmp Tryd.results14 rfl rfl (load_Dyad _ _ (.int .i64 0) (.int .i64 0) (.int .i64 0) (by go_simp) (by go_simp) (by go_simp)) ⟨rfl, by go_grown⟩
    have t2 : decide (r < -4611686018427387904) = false := by simpa using d
    have g2 : ¬ (r < -4611686018427387904) := d
    clear d
    by_cases d : 4611686018427387904 < r
    · clear hn
      go_enter Tryd.func14, Tryd.ntmps14
      go_wp2
      refine ret_cell_tmp Tryd.results14 rfl rfl (load_Dyad _ _ (.int .i64 0) (.int .i64 0) (.int .i64 0) (by go_simp) (by go_simp) (by go_simp)) ⟨rfl, by go_grown⟩
    have t3 : decide (4611686018427387904 < r) = false := by simpa using d
    have g3 : ¬ (4611686018427387904 < r) := d
    clear d
    by_cases d : i < -4611686018427387904
    · clear hn
      go_enter Tryd.func14, Tryd.ntmps14
      go_wp2
      refine ret_cell_tmp Tryd.results14 rfl rfl (load_Dyad _ _ (.int .i64 0) (.int .i64 0) (.int .i64 0) (by go_simp) (by go_simp) (by go_simp)) ⟨rfl, by go_grown⟩
    have t4 : decide (i < -4611686018427387904) = false := by simpa using d
    have g4 : ¬ (i < -4611686018427387904) := d
    clear d
    have d : 4611686018427387904 < i := by omega
    clear hn
    go_enter Tryd.func14, Tryd.ntmps14
    go_wp2
    refine ret_cell_tmp Tryd.results14 rfl rfl (load_Dyad _ _ (.int .i64 0) (.int .i64 0) (.int .i64 0) (by go_simp) (by go_simp) (by go_simp)) ⟨rfl, by go_grown⟩
  · have h2 : DV (lR r i s) (lI r i s) (lS r i s) = false := by unfold MK at h; rw [hk, Bool.true_and] at h; exact h
    exact (impl_DyadMake_any r i s w hk).mono fun e w' hg => by rw [MkV_no h2] at hg; exact hg

end Go.Proofs.YtgnkjfafgcbpbaaDoor
