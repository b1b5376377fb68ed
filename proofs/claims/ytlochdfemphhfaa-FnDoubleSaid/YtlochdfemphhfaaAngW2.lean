/- What AngleDouble and AngleMirror give, the reference's and the program's. -/
import Derived.Test.YtlochdfemphhfaaAngW
namespace Go.Proofs.Ytlochdfemphhfaa
open Go.RowKit

/-! ### AngleDouble, AngleMirror -/
theorem spec_AngleDouble_yes (n d : Int) (w : World) (h : AV n d = true) :
    Calls Try.prog 16 #[.agg #[.int .i64 n, .int .i64 d]] w (Gives (.tuple #[.agg #[.int .i64 (AN (2 * n) d), .int .i64 (AD (2 * n) d)], .bool true]) w) := by
  obtain ⟨a1, a2, a3, a4, _⟩ := (AV_iff n d).1 h
  have H := Lib.hid h; clear h
  go_enter Try.func16, Try.ntmps16
  go_wp2_with (first | (go_at_call 10; refine (spec_AngleValid_any n d _).mono ?_; rw [H.out]; rintro e w1 ⟨rfl, hb⟩; have hB : Below w.heap.size w w1 := Below.trans (by go_grown) (hb.mono (by go_size)); have hz := hB.size; have hz2 := hb.size; (try simp at hz2); have hs0 : w.heap.size < w1.heap.size := (by omega); have hs1 : w.heap.size + 1 < w1.heap.size := (by omega); obtain ⟨hc, hf⟩ := bcell hb; clear hb) | (go_at_call 26; refine (l6aLow_any _ d _ (by omega) (by omega) (by omega) (by omega)).mono ?_; rintro e w1 ⟨rfl, hb⟩; have hB : Below w.heap.size w w1 := Below.trans (by go_grown) (hb.mono (by go_size)); have hz := hB.size; have hz2 := hb.size; (try simp at hz2); have hs0 : w.heap.size < w1.heap.size := (by omega); have hs1 : w.heap.size + 1 < w1.heap.size := (by omega); obtain ⟨hc, hf⟩ := bcell hb; clear hb))
  have b0 : w1.cell? ⟨w.heap.size + 1, 0, none⟩ = some (.int .i64 0) := by go_simp
  have b1 : w1.cell? ⟨w.heap.size + 1, 1, none⟩ = some (.int .i64 0) := by go_simp
  refine ret_cell_tmp Try.results16 rfl rfl (load_Angle _ _ _ _ (set2 b0 b1 _ _).1 (set2 b0 b1 _ _).2) ⟨rfl, (hB.setCell (by simp) _).setCell (by simp) _⟩
theorem spec_AngleDouble_no (n d : Int) (w : World) (h : AV n d = false) :
    Calls Try.prog 16 #[.agg #[.int .i64 n, .int .i64 d]] w (Gives (.tuple #[.agg #[.int .i64 0, .int .i64 0], .bool false]) w) := by
  have H := Lib.hid h; clear h
  go_enter Try.func16, Try.ntmps16
  go_wp2_with (go_at_call 10; refine (spec_AngleValid_any n d _).mono ?_; rw [H.out]; rintro e w1 ⟨rfl, hb⟩; have hB : Below w.heap.size w w1 := Below.trans (by go_grown) (hb.mono (by go_size)); have hz := hB.size; have hz2 := hb.size; (try simp at hz2); have hs0 : w.heap.size < w1.heap.size := (by omega); have hs1 : w.heap.size + 1 < w1.heap.size := (by omega); obtain ⟨hc, hf⟩ := bcell hb; clear hb)
  have b0 : w1.cell? ⟨w.heap.size + 1, 0, none⟩ = some (.int .i64 0) := by go_simp
  have b1 : w1.cell? ⟨w.heap.size + 1, 1, none⟩ = some (.int .i64 0) := by go_simp
  refine ret_cell_tmp Try.results16 rfl rfl (load_Angle _ _ _ _ (set2 b0 b1 _ _).1 (set2 b0 b1 _ _).2) ⟨rfl, (hB.setCell (by simp) _).setCell (by simp) _⟩
theorem impl_AngleDouble_yes (n d : Int) (w : World) (h : AV n d = true) :
    Calls Try.prog 17 #[.agg #[.int .i64 n, .int .i64 d]] w (Gives (.tuple #[.agg #[.int .i64 (AN (2 * n) d), .int .i64 (AD (2 * n) d)], .bool true]) w) := by
  obtain ⟨a1, a2, a3, a4, _⟩ := (AV_iff n d).1 h
  have hok : AMok (2 * n) d = true := (AMok_iff _ _).2 ⟨by omega, by omega, by omega, by omega⟩
  have HO := Lib.hid hok; clear hok
  have H := Lib.hid h; clear h
  go_enter Try.func17, Try.ntmps17
  go_wp2_with (first | (go_at_call 12; refine (impl_AngleValid_any n d _).mono ?_; rw [H.out]; rintro e w1 ⟨rfl, hb⟩; have hB : Below w.heap.size w w1 := Below.trans (by go_grown) (hb.mono (by go_size)); have hz := hB.size; have hz2 := hb.size; (try simp at hz2); have hs0 : w.heap.size < w1.heap.size := (by omega); have hs1 : w.heap.size + 1 < w1.heap.size := (by omega); obtain ⟨hc, hf⟩ := bcell hb; clear hb) | (go_at_call 14; refine (impl_AngleMake_yes _ _ _ HO.out).mono ?_; rintro e w1 ⟨rfl, hb⟩; have hB : Below w.heap.size w w1 := Below.trans (by go_grown) (hb.mono (by go_size)); have hz := hB.size; have hz2 := hb.size; (try simp at hz2); have hs0 : w.heap.size < w1.heap.size := (by omega); have hs1 : w.heap.size + 1 < w1.heap.size := (by omega); obtain ⟨hc, hf⟩ := bcell hb; clear hb))
  have b0 : w1.cell? ⟨w.heap.size + 1, 0, none⟩ = some (.int .i64 0) := by go_simp
  have b1 : w1.cell? ⟨w.heap.size + 1, 1, none⟩ = some (.int .i64 0) := by go_simp
  refine ret_cell_tmp Try.results17 rfl rfl (load_Angle _ _ _ _ (set2 b0 b1 _ _).1 (set2 b0 b1 _ _).2) ⟨rfl, (hB.setCell (by simp) _).setCell (by simp) _⟩
theorem impl_AngleDouble_no (n d : Int) (w : World) (h : AV n d = false) :
    Calls Try.prog 17 #[.agg #[.int .i64 n, .int .i64 d]] w (Gives (.tuple #[.agg #[.int .i64 0, .int .i64 0], .bool false]) w) := by
  have H := Lib.hid h; clear h
  go_enter Try.func17, Try.ntmps17
  go_wp2_with (go_at_call 12; refine (impl_AngleValid_any n d _).mono ?_; rw [H.out]; rintro e w1 ⟨rfl, hb⟩; have hB : Below w.heap.size w w1 := Below.trans (by go_grown) (hb.mono (by go_size)); have hz := hB.size; have hz2 := hb.size; (try simp at hz2); have hs0 : w.heap.size < w1.heap.size := (by omega); have hs1 : w.heap.size + 1 < w1.heap.size := (by omega); obtain ⟨hc, hf⟩ := bcell hb; clear hb)
  have b0 : w1.cell? ⟨w.heap.size + 1, 0, none⟩ = some (.int .i64 0) := by go_simp
  have b1 : w1.cell? ⟨w.heap.size + 1, 1, none⟩ = some (.int .i64 0) := by go_simp
  refine ret_cell_tmp Try.results17 rfl rfl (load_Angle _ _ _ _ (set2 b0 b1 _ _).1 (set2 b0 b1 _ _).2) ⟨rfl, (hB.setCell (by simp) _).setCell (by simp) _⟩
theorem spec_AngleMirror_yes (n d : Int) (w : World) (h : AV n d = true) :
    Calls Try.prog 18 #[.agg #[.int .i64 n, .int .i64 d]] w (Gives (.tuple #[.agg #[.int .i64 (AN (d - n) d), .int .i64 (AD (d - n) d)], .bool true]) w) := by
  obtain ⟨a1, a2, a3, a4, _⟩ := (AV_iff n d).1 h
  have H := Lib.hid h; clear h
  go_enter Try.func18, Try.ntmps18
  go_wp2_with (first | (go_at_call 10; refine (spec_AngleValid_any n d _).mono ?_; rw [H.out]; rintro e w1 ⟨rfl, hb⟩; have hB : Below w.heap.size w w1 := Below.trans (by go_grown) (hb.mono (by go_size)); have hz := hB.size; have hz2 := hb.size; (try simp at hz2); have hs0 : w.heap.size < w1.heap.size := (by omega); have hs1 : w.heap.size + 1 < w1.heap.size := (by omega); obtain ⟨hc, hf⟩ := bcell hb; clear hb) | (go_at_call 26; refine (l6aLow_any _ d _ (by omega) (by omega) (by omega) (by omega)).mono ?_; rintro e w1 ⟨rfl, hb⟩; have hB : Below w.heap.size w w1 := Below.trans (by go_grown) (hb.mono (by go_size)); have hz := hB.size; have hz2 := hb.size; (try simp at hz2); have hs0 : w.heap.size < w1.heap.size := (by omega); have hs1 : w.heap.size + 1 < w1.heap.size := (by omega); obtain ⟨hc, hf⟩ := bcell hb; clear hb))
  have b0 : w1.cell? ⟨w.heap.size + 1, 0, none⟩ = some (.int .i64 0) := by go_simp
  have b1 : w1.cell? ⟨w.heap.size + 1, 1, none⟩ = some (.int .i64 0) := by go_simp
  refine ret_cell_tmp Try.results18 rfl rfl (load_Angle _ _ _ _ (set2 b0 b1 _ _).1 (set2 b0 b1 _ _).2) ⟨rfl, (hB.setCell (by simp) _).setCell (by simp) _⟩
theorem spec_AngleMirror_no (n d : Int) (w : World) (h : AV n d = false) :
    Calls Try.prog 18 #[.agg #[.int .i64 n, .int .i64 d]] w (Gives (.tuple #[.agg #[.int .i64 0, .int .i64 0], .bool false]) w) := by
  have H := Lib.hid h; clear h
  go_enter Try.func18, Try.ntmps18
  go_wp2_with (go_at_call 10; refine (spec_AngleValid_any n d _).mono ?_; rw [H.out]; rintro e w1 ⟨rfl, hb⟩; have hB : Below w.heap.size w w1 := Below.trans (by go_grown) (hb.mono (by go_size)); have hz := hB.size; have hz2 := hb.size; (try simp at hz2); have hs0 : w.heap.size < w1.heap.size := (by omega); have hs1 : w.heap.size + 1 < w1.heap.size := (by omega); obtain ⟨hc, hf⟩ := bcell hb; clear hb)
  have b0 : w1.cell? ⟨w.heap.size + 1, 0, none⟩ = some (.int .i64 0) := by go_simp
  have b1 : w1.cell? ⟨w.heap.size + 1, 1, none⟩ = some (.int .i64 0) := by go_simp
  refine ret_cell_tmp Try.results18 rfl rfl (load_Angle _ _ _ _ (set2 b0 b1 _ _).1 (set2 b0 b1 _ _).2) ⟨rfl, (hB.setCell (by simp) _).setCell (by simp) _⟩
theorem impl_AngleMirror_yes (n d : Int) (w : World) (h : AV n d = true) :
    Calls Try.prog 19 #[.agg #[.int .i64 n, .int .i64 d]] w (Gives (.tuple #[.agg #[.int .i64 (AN (d - n) d), .int .i64 (AD (d - n) d)], .bool true]) w) := by
  obtain ⟨a1, a2, a3, a4, _⟩ := (AV_iff n d).1 h
  have hok : AMok (d - n) d = true := (AMok_iff _ _).2 ⟨by omega, by omega, by omega, by omega⟩
  have HO := Lib.hid hok; clear hok
  have H := Lib.hid h; clear h
  go_enter Try.func19, Try.ntmps19
  go_wp2_with (first | (go_at_call 12; refine (impl_AngleValid_any n d _).mono ?_; rw [H.out]; rintro e w1 ⟨rfl, hb⟩; have hB : Below w.heap.size w w1 := Below.trans (by go_grown) (hb.mono (by go_size)); have hz := hB.size; have hz2 := hb.size; (try simp at hz2); have hs0 : w.heap.size < w1.heap.size := (by omega); have hs1 : w.heap.size + 1 < w1.heap.size := (by omega); obtain ⟨hc, hf⟩ := bcell hb; clear hb) | (go_at_call 14; refine (impl_AngleMake_yes _ _ _ HO.out).mono ?_; rintro e w1 ⟨rfl, hb⟩; have hB : Below w.heap.size w w1 := Below.trans (by go_grown) (hb.mono (by go_size)); have hz := hB.size; have hz2 := hb.size; (try simp at hz2); have hs0 : w.heap.size < w1.heap.size := (by omega); have hs1 : w.heap.size + 1 < w1.heap.size := (by omega); obtain ⟨hc, hf⟩ := bcell hb; clear hb))
  have b0 : w1.cell? ⟨w.heap.size + 1, 0, none⟩ = some (.int .i64 0) := by go_simp
  have b1 : w1.cell? ⟨w.heap.size + 1, 1, none⟩ = some (.int .i64 0) := by go_simp
  refine ret_cell_tmp Try.results19 rfl rfl (load_Angle _ _ _ _ (set2 b0 b1 _ _).1 (set2 b0 b1 _ _).2) ⟨rfl, (hB.setCell (by simp) _).setCell (by simp) _⟩
theorem impl_AngleMirror_no (n d : Int) (w : World) (h : AV n d = false) :
    Calls Try.prog 19 #[.agg #[.int .i64 n, .int .i64 d]] w (Gives (.tuple #[.agg #[.int .i64 0, .int .i64 0], .bool false]) w) := by
  have H := Lib.hid h; clear h
  go_enter Try.func19, Try.ntmps19
  go_wp2_with (go_at_call 12; refine (impl_AngleValid_any n d _).mono ?_; rw [H.out]; rintro e w1 ⟨rfl, hb⟩; have hB : Below w.heap.size w w1 := Below.trans (by go_grown) (hb.mono (by go_size)); have hz := hB.size; have hz2 := hb.size; (try simp at hz2); have hs0 : w.heap.size < w1.heap.size := (by omega); have hs1 : w.heap.size + 1 < w1.heap.size := (by omega); obtain ⟨hc, hf⟩ := bcell hb; clear hb)
  have b0 : w1.cell? ⟨w.heap.size + 1, 0, none⟩ = some (.int .i64 0) := by go_simp
  have b1 : w1.cell? ⟨w.heap.size + 1, 1, none⟩ = some (.int .i64 0) := by go_simp
  refine ret_cell_tmp Try.results19 rfl rfl (load_Angle _ _ _ _ (set2 b0 b1 _ _).1 (set2 b0 b1 _ _).2) ⟨rfl, (hB.setCell (by simp) _).setCell (by simp) _⟩

end Go.Proofs.Ytlochdfemphhfaa
