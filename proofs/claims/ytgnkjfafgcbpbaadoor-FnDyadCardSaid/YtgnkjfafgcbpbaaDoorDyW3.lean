/- What DyadNorm, DyadSquare and DyadAdd give. -/
import Derived.Test.YtgnkjfafgcbpbaaDoorDyW2
import Derived.Test.YtgnkjfafgcbpbaaDoorDyM2
namespace Go.Proofs.YtgnkjfafgcbpbaaDoor
set_option linter.unusedSimpArgs false
set_option linter.unusedVariables false
open Go.RowKit

theorem F4_bd (s : Int) (h : 0 ≤ s) (h' : s ≤ 30) : 4 ≤ F4 s ∧ F4 s ≤ 4611686018427387904 := by
  unfold F4
  obtain ⟨n, rfl⟩ := Int.eq_ofNat_of_zero_le h
  have e : (2 * (n : Int)).toNat = 2 * n := by omega
  rw [e]
  have h1 : 2 ^ (2 * n) ≤ 2 ^ 60 := Nat.pow_le_pow_right (by omega) (by omega)
  have h2 : 0 < 2 ^ (2 * n) := Nat.two_pow_pos _
  have e2 : ((2 : Int) ^ (2 * n)) = ((2 ^ (2 * n) : Nat) : Int) := by simp
  rw [e2]
  omega
theorem F4_wrap (s : Int) (h : 0 ≤ s) (h' : s ≤ 30) : wrap64 (4 * 2 ^ (2 * s).toNat) = F4 s :=
  IntWalk.wrap64_in _ ⟨by have := F4_bd s h h'; unfold F4 at this; omega, by have := F4_bd s h h'; unfold F4 at this; omega⟩
theorem F4_30 : F4 30 = 4611686018427387904 := by decide

theorem sq_bd30 (r : Int) (h : -1073741824 ≤ r ∧ r ≤ 1073741824) : 0 ≤ r * r ∧ r * r ≤ 1152921504606846976 := by
  have h1 : r * r = (r.natAbs * r.natAbs : Nat) := by rw [Int.natAbs_mul_self]
  have h2 : r.natAbs * r.natAbs ≤ 1073741824 * 1073741824 := Nat.mul_le_mul (by omega) (by omega)
  omega

theorem spec_DyadNorm_no (r i s : Int) (w : World) (hr : I64 r) (hi : I64 i) (h : DV r i s = false) :
    Calls Tryd.prog 28 #[.agg #[.int .i64 r, .int .i64 i, .int .i64 s]] w (Gives (.tuple #[.int .i64 0, .bool false]) w) := by
  have H := Lib.hid h; clear h
  have HR := Lib.hid hr; have HI := Lib.hid hi; clear hr hi
  go_enter Tryd.func28, Tryd.ntmps28
  go_wp2_with fail
  refine (spec_DyadValid_any r i s _ HR.out HI.out).mono ?_
  rw [H.out]
  rintro e u1 ⟨rfl, hb⟩
  have hB1 : Below w.heap.size w u1 := Below.trans (by go_grown) (hb.mono (by go_size))
  have hz1 := hb.size
  try simp at hz1
  have hw1 := hB1.size
  obtain ⟨hc1, hf1⟩ := bcell hb
  clear hb
  try have s0_0_1 : w.heap.size < u1.heap.size := by omega
  try have l0_0_1 : w.heap.size ≤ u1.heap.size := by omega
  go_wp2
  go_returns
  exact ⟨rfl, hB1⟩
theorem spec_DyadNorm_yes (r i s : Int) (w : World) (h : DV r i s = true) :
    Calls Tryd.prog 28 #[.agg #[.int .i64 r, .int .i64 i, .int .i64 s]] w (Gives (.tuple #[.int .i64 (NM r i s), .bool true]) w) := by
  obtain ⟨a1, a2, a3, a4, a5, a6, _⟩ := (DV_iff r i s).1 h
  have H := Lib.hid h; clear h
  obtain ⟨q1, q2⟩ := sq_bd30 r ⟨a1, a2⟩
  obtain ⟨q3, q4⟩ := sq_bd30 i ⟨a3, a4⟩
  by_cases hs : 30 ≤ s
  · have HN : Hid (NM r i s = -1) := if_pos (Or.inl hs)
    go_enter Tryd.func28, Tryd.ntmps28
    go_wp2_with fail
    refine (spec_DyadValid_any r i s _ ⟨by omega, by omega⟩ ⟨by omega, by omega⟩).mono ?_
    rw [H.out]
    rintro e u1 ⟨rfl, hb⟩
    have hB1 : Below w.heap.size w u1 := Below.trans (by go_grown) (hb.mono (by go_size))
    have hz1 := hb.size
    try simp at hz1
    have hw1 := hB1.size
    obtain ⟨hc1, hf1⟩ := bcell hb
    clear hb
    try have s0_0_1 : w.heap.size < u1.heap.size := by omega
    try have l0_0_1 : w.heap.size ≤ u1.heap.size := by omega
    go_wp2
    go_returns
    exact ⟨by rw [HN.out]; first | done | rfl, hB1⟩
  · have hq := F4_wrap s a5 (by omega)
    obtain ⟨q5, q6⟩ := F4_bd s a5 (by omega)
    by_cases c1 : r * r + i * i < F4 s
    · have HN : Hid (NM r i s = -1) := if_pos (Or.inr c1)
      generalize F4 s = q at hq c1 q5 q6
      go_enter Tryd.func28, Tryd.ntmps28
      go_wp2_with fail
      refine (spec_DyadValid_any r i s _ ⟨by omega, by omega⟩ ⟨by omega, by omega⟩).mono ?_
      rw [H.out]
      rintro e u1 ⟨rfl, hb⟩
      have hB1 : Below w.heap.size w u1 := Below.trans (by go_grown) (hb.mono (by go_size))
      have hz1 := hb.size
      try simp at hz1
      have hw1 := hB1.size
      obtain ⟨hc1, hf1⟩ := bcell hb
      clear hb
      try have s0_0_1 : w.heap.size < u1.heap.size := by omega
      try have l0_0_1 : w.heap.size ≤ u1.heap.size := by omega
      go_wp2
      go_returns
      exact ⟨by rw [HN.out]; first | done | rfl, hB1⟩
    · by_cases c2 : r * r + i * i = F4 s
      · have HN : Hid (NM r i s = 0) := by unfold NM Hid; rw [if_neg (by omega), if_pos c2]
        have c3 : ¬ F4 s < r * r + i * i := by omega
        clear c2
        generalize F4 s = q at hq c1 c3 q5 q6
        go_enter Tryd.func28, Tryd.ntmps28
        go_wp2_with fail
        refine (spec_DyadValid_any r i s _ ⟨by omega, by omega⟩ ⟨by omega, by omega⟩).mono ?_
        rw [H.out]
        rintro e u1 ⟨rfl, hb⟩
        have hB1 : Below w.heap.size w u1 := Below.trans (by go_grown) (hb.mono (by go_size))
        have hz1 := hb.size
        try simp at hz1
        have hw1 := hB1.size
        obtain ⟨hc1, hf1⟩ := bcell hb
        clear hb
        try have s0_0_1 : w.heap.size < u1.heap.size := by omega
        try have l0_0_1 : w.heap.size ≤ u1.heap.size := by omega
        go_wp2
        go_returns
        exact ⟨by rw [HN.out]; first | done | rfl, hB1⟩
      · have HN : Hid (NM r i s = 1) := by unfold NM Hid; rw [if_neg (by omega), if_neg c2]
        have c3 : F4 s < r * r + i * i := by omega
        clear c2
        generalize F4 s = q at hq c1 c3 q5 q6
        go_enter Tryd.func28, Tryd.ntmps28
        go_wp2_with fail
        refine (spec_DyadValid_any r i s _ ⟨by omega, by omega⟩ ⟨by omega, by omega⟩).mono ?_
        rw [H.out]
        rintro e u1 ⟨rfl, hb⟩
        have hB1 : Below w.heap.size w u1 := Below.trans (by go_grown) (hb.mono (by go_size))
        have hz1 := hb.size
        try simp at hz1
        have hw1 := hB1.size
        obtain ⟨hc1, hf1⟩ := bcell hb
        clear hb
        try have s0_0_1 : w.heap.size < u1.heap.size := by omega
        try have l0_0_1 : w.heap.size ≤ u1.heap.size := by omega
        go_wp2
        go_returns
        exact ⟨by rw [HN.out]; first | done | rfl, hB1⟩

theorem isNaN_int (x : Int) (w : World) : Calls Tryd.prog 75 #[.int .i64 x] w fun e w' => e = .returned (.bool false) ∧ w = w' := by
  go_enter Tryd.func75, Tryd.ntmps75
  go_wp2
  go_returns
  exact ⟨by simp, rfl⟩
/-- cmp.Compare on integers. -/
def CMP (x y : Int) : Int := if x < y then -1 else if x = y then 0 else 1
theorem Compare_int (x y : Int) (w : World) : Calls Tryd.prog 55 #[.int .i64 x, .int .i64 y] w fun e w' => e = .returned (.int .i64 (CMP x y)) ∧ w = w' := by
  by_cases h1 : x < y
  · have HN : Hid (CMP x y = -1) := if_pos h1
    go_enter Tryd.func55, Tryd.ntmps55
    go_wp2_with (go_at_call 75; refine (isNaN_int _ _).mono ?_; rintro e w1 ⟨rfl, rfl⟩)
    go_returns
    exact ⟨by rw [HN.out]; first | done | rfl, rfl⟩
  · by_cases h2 : y < x
    · have HN : Hid (CMP x y = 1) := by unfold CMP Hid; rw [if_neg h1, if_neg (by omega)]
      go_enter Tryd.func55, Tryd.ntmps55
      go_wp2_with (go_at_call 75; refine (isNaN_int _ _).mono ?_; rintro e w1 ⟨rfl, rfl⟩)
      go_returns
      exact ⟨by rw [HN.out]; first | done | rfl, rfl⟩
    · obtain rfl : x = y := by omega
      have HN : Hid (CMP x x = 0) := by unfold CMP Hid; rw [if_neg h1, if_pos rfl]
      go_enter Tryd.func55, Tryd.ntmps55
      go_wp2_with (go_at_call 75; refine (isNaN_int _ _).mono ?_; rintro e w1 ⟨rfl, rfl⟩)
      go_returns
      exact ⟨by rw [HN.out]; first | done | rfl, rfl⟩

theorem impl_DyadNorm_no (r i s : Int) (w : World) (h : DV r i s = false) :
    Calls Tryd.prog 27 #[.agg #[.int .i64 r, .int .i64 i, .int .i64 s]] w (Gives (.tuple #[.int .i64 0, .bool false]) w) := by
  have H := Lib.hid h; clear h
  go_enter Tryd.func27, Tryd.ntmps27
  go_wp2_with fail
  refine (valid_any r i s _).mono ?_
  rw [H.out]
  rintro e u1 ⟨rfl, hb⟩
  have hB1 : Below w.heap.size w u1 := Below.trans (by go_grown) (hb.mono (by go_size))
  have hz1 := hb.size
  try simp at hz1
  have hw1 := hB1.size
  obtain ⟨hc1, hf1⟩ := bcell hb
  clear hb
  try have s0_0_1 : w.heap.size < u1.heap.size := by omega
  try have l0_0_1 : w.heap.size ≤ u1.heap.size := by omega
  go_wp2
  go_returns
  exact ⟨rfl, hB1⟩
theorem impl_DyadNorm_yes (r i s : Int) (w : World) (h : DV r i s = true) :
    Calls Tryd.prog 27 #[.agg #[.int .i64 r, .int .i64 i, .int .i64 s]] w (Gives (.tuple #[.int .i64 (NM r i s), .bool true]) w) := by
  obtain ⟨a1, a2, a3, a4, a5, a6, _⟩ := (DV_iff r i s).1 h
  have H := Lib.hid h; clear h
  obtain ⟨q1, q2⟩ := sq_bd30 r ⟨a1, a2⟩
  obtain ⟨q3, q4⟩ := sq_bd30 i ⟨a3, a4⟩
  by_cases hs : 30 < s
  · have HN : Hid (NM r i s = -1) := if_pos (Or.inl (by omega))
    go_enter Tryd.func27, Tryd.ntmps27
    go_wp2_with fail
    refine (valid_any r i s _).mono ?_
    rw [H.out]
    rintro e u1 ⟨rfl, hb⟩
    have hB1 : Below w.heap.size w u1 := Below.trans (by go_grown) (hb.mono (by go_size))
    have hz1 := hb.size
    try simp at hz1
    have hw1 := hB1.size
    obtain ⟨hc1, hf1⟩ := bcell hb
    clear hb
    try have s0_0_1 : w.heap.size < u1.heap.size := by omega
    try have l0_0_1 : w.heap.size ≤ u1.heap.size := by omega
    go_wp2
    go_returns
    exact ⟨by rw [HN.out]; first | done | rfl, hB1⟩
  · have hq := F4_wrap s a5 (by omega)
    obtain ⟨q5, q6⟩ := F4_bd s a5 (by omega)
    have HN : Hid (CMP (r * r + i * i) (F4 s) = NM r i s) := by
      unfold CMP NM Hid
      by_cases h30 : s = 30
      · subst h30
        have e : r * r + i * i < F4 30 := by rw [F4_30]; omega
        rw [if_pos e, if_pos (Or.inr e)]
      · by_cases c1 : r * r + i * i < F4 s
        · rw [if_pos c1, if_pos (Or.inr c1)]
        · rw [if_neg c1, if_neg (c := 30 ≤ s ∨ r * r + i * i < F4 s) (by omega)]
    generalize F4 s = q at hq q5 q6 HN
    go_enter Tryd.func27, Tryd.ntmps27
    go_wp2_with fail
    refine (valid_any r i s _).mono ?_
    rw [H.out]
    rintro e u1 ⟨rfl, hb⟩
    have hB1 : Below w.heap.size w u1 := Below.trans (by go_grown) (hb.mono (by go_size))
    have hz1 := hb.size
    try simp at hz1
    have hw1 := hB1.size
    obtain ⟨hc1, hf1⟩ := bcell hb
    clear hb
    try have s0_0_1 : w.heap.size < u1.heap.size := by omega
    try have l0_0_1 : w.heap.size ≤ u1.heap.size := by omega
    go_wp2_with (go_at_call 55; refine (Compare_int _ _ _).mono ?_; rintro e w1 ⟨rfl, rfl⟩)
    go_returns
    exact ⟨by rw [← HN.out]; first | done | rfl, hB1⟩

/-! ### DyadSquare -/
theorem mul_bd30 (r i : Int) (h : -1073741824 ≤ r ∧ r ≤ 1073741824) (h' : -1073741824 ≤ i ∧ i ≤ 1073741824) : -1152921504606846976 ≤ r * i ∧ r * i ≤ 1152921504606846976 := by
  have h1 : (r * i).natAbs ≤ 1073741824 * 1073741824 := by rw [Int.natAbs_mul]; exact Nat.mul_le_mul (by omega) (by omega)
  omega
theorem sq_ok (r i s : Int) (h : DV r i s = true) : MKr (SR r i) (SI r i) (2 * s) = true := by
  obtain ⟨a1, a2, a3, a4, a5, a6, _⟩ := (DV_iff r i s).1 h
  have := sq_bd30 r ⟨a1, a2⟩; have := sq_bd30 i ⟨a3, a4⟩; have := mul_bd30 r i ⟨a1, a2⟩ ⟨a3, a4⟩
  have e : SI r i = 2 * (r * i) := by unfold SI; rw [Int.mul_assoc]
  exact (MKr_iff _ _ _).2 ⟨by omega, by omega, by unfold SR; omega, by unfold SR; omega, by omega, by omega⟩

theorem impl_DyadSquare_yes (r i s : Int) (w : World) (h : SQ r i s = true) :
    Calls Tryd.prog 22 #[.agg #[.int .i64 r, .int .i64 i, .int .i64 s]] w (Gives (.tuple #[.agg #[.int .i64 (lR (SR r i) (SI r i) (2 * s)), .int .i64 (lI (SR r i) (SI r i) (2 * s)), .int .i64 (lS (SR r i) (SI r i) (2 * s))], .bool true]) w) := by
  obtain ⟨h1, h2⟩ := Bool.and_eq_true_iff.1 h
  obtain ⟨a1, a2, a3, a4, a5, a6, _⟩ := (DV_iff r i s).1 h1
  obtain ⟨q1, q2⟩ := sq_bd30 r ⟨a1, a2⟩
  obtain ⟨q3, q4⟩ := sq_bd30 i ⟨a3, a4⟩
  obtain ⟨q5, q6⟩ := mul_bd30 r i ⟨a1, a2⟩ ⟨a3, a4⟩
  have e1 : (2 * r) * i = 2 * (r * i) := Int.mul_assoc _ _ _
  have k1 : -2305843009213693952 ≤ 2 * r * i := by omega
  have k2 : 2 * r * i ≤ 2305843009213693952 := by omega
  have H1 := Lib.hid h1; have H2 := Lib.hid h2; clear h h1 h2 e1
  go_enter Tryd.func22, Tryd.ntmps22
  go_wp2_with fail
  refine (valid_any r i s _).mono ?_
  rw [H1.out]
  rintro e u1 ⟨rfl, hb⟩
  have hB1 : Below w.heap.size w u1 := Below.trans (by go_grown) (hb.mono (by go_size))
  have hz1 := hb.size
  try simp at hz1
  have hw1 := hB1.size
  obtain ⟨hc1, hf1⟩ := bcell hb
  clear hb
  try have s0_0_1 : w.heap.size < u1.heap.size := by omega
  try have l0_0_1 : w.heap.size ≤ u1.heap.size := by omega
  try have s0_1_1 : w.heap.size + 1 < u1.heap.size := by omega
  try have l0_1_1 : w.heap.size + 1 ≤ u1.heap.size := by omega
  go_wp2_with fail
  refine (impl_DyadMake_yes (SR r i) (SI r i) (2 * s) _ H2.out).mono ?_
  rintro e u2 ⟨rfl, hb⟩
  have hB2 : Below w.heap.size w u2 := Below.trans (by go_grown) (hb.mono (by go_size))
  have hz2 := hb.size
  try simp at hz2
  have hw2 := hB2.size
  obtain ⟨hc2, hf2⟩ := bcell hb
  clear hb
  try have s0_0_2 : w.heap.size < u2.heap.size := by omega
  try have l0_0_2 : w.heap.size ≤ u2.heap.size := by omega
  try have s0_1_2 : w.heap.size + 1 < u2.heap.size := by omega
  try have l0_1_2 : w.heap.size + 1 ≤ u2.heap.size := by omega
  try have s1_0_2 : u1.heap.size < u2.heap.size := by omega
  try have l1_0_2 : u1.heap.size ≤ u2.heap.size := by omega
  go_wp2
  have b0 : u2.cell? ⟨w.heap.size + 1, 0, none⟩ = some (.int .i64 0) := by go_simp
  have b1 : u2.cell? ⟨w.heap.size + 1, 1, none⟩ = some (.int .i64 0) := by go_simp
  have b2 : u2.cell? ⟨w.heap.size + 1, 2, none⟩ = some (.int .i64 0) := by go_simp
  refine ret_cell_tmp Tryd.results22 rfl rfl (load_Dyad _ _ _ _ _ (set3 b0 b1 b2 _ _ _).1 (set3 b0 b1 b2 _ _ _).2.1 (set3 b0 b1 b2 _ _ _).2.2) ⟨rfl, by go_grown⟩
theorem impl_DyadSquare_no (r i s : Int) (w : World) (h : SQ r i s = false) :
    Calls Tryd.prog 22 #[.agg #[.int .i64 r, .int .i64 i, .int .i64 s]] w (Gives (.tuple #[.agg #[.int .i64 0, .int .i64 0, .int .i64 0], .bool false]) w) := by
  cases h1 : DV r i s
  · have H1 := Lib.hid h1; clear h h1
    go_enter Tryd.func22, Tryd.ntmps22
    go_wp2_with fail
    refine (valid_any r i s _).mono ?_
    rw [H1.out]
    rintro e u1 ⟨rfl, hb⟩
    have hB1 : Below w.heap.size w u1 := Below.trans (by go_grown) (hb.mono (by go_size))
    have hz1 := hb.size
    try simp at hz1
    have hw1 := hB1.size
    obtain ⟨hc1, hf1⟩ := bcell hb
    clear hb
    try have s0_0_1 : w.heap.size < u1.heap.size := by omega
    try have l0_0_1 : w.heap.size ≤ u1.heap.size := by omega
    try have s0_1_1 : w.heap.size + 1 < u1.heap.size := by omega
    try have l0_1_1 : w.heap.size + 1 ≤ u1.heap.size := by omega
    go_wp2
    have b0 : u1.cell? ⟨w.heap.size + 1, 0, none⟩ = some (.int .i64 0) := by go_simp
    have b1 : u1.cell? ⟨w.heap.size + 1, 1, none⟩ = some (.int .i64 0) := by go_simp
    have b2 : u1.cell? ⟨w.heap.size + 1, 2, none⟩ = some (.int .i64 0) := by go_simp
    refine ret_cell_tmp Tryd.results22 rfl rfl (load_Dyad _ _ _ _ _ (set3 b0 b1 b2 _ _ _).1 (set3 b0 b1 b2 _ _ _).2.1 (set3 b0 b1 b2 _ _ _).2.2) ⟨rfl, by go_grown⟩
  · have h2 : MK (SR r i) (SI r i) (2 * s) = false := by unfold SQ at h; rw [h1, Bool.true_and] at h; exact h
    obtain ⟨a1, a2, a3, a4, a5, a6, _⟩ := (DV_iff r i s).1 h1
    obtain ⟨q1, q2⟩ := sq_bd30 r ⟨a1, a2⟩
    obtain ⟨q3, q4⟩ := sq_bd30 i ⟨a3, a4⟩
    obtain ⟨q5, q6⟩ := mul_bd30 r i ⟨a1, a2⟩ ⟨a3, a4⟩
    have e1 : (2 * r) * i = 2 * (r * i) := Int.mul_assoc _ _ _
    have k1 : -2305843009213693952 ≤ 2 * r * i := by omega
    have k2 : 2 * r * i ≤ 2305843009213693952 := by omega
    have H1 := Lib.hid h1; have H2 := Lib.hid h2; clear h h1 h2 e1
    go_enter Tryd.func22, Tryd.ntmps22
    go_wp2_with fail
    refine (valid_any r i s _).mono ?_
    rw [H1.out]
    rintro e u1 ⟨rfl, hb⟩
    have hB1 : Below w.heap.size w u1 := Below.trans (by go_grown) (hb.mono (by go_size))
    have hz1 := hb.size
    try simp at hz1
    have hw1 := hB1.size
    obtain ⟨hc1, hf1⟩ := bcell hb
    clear hb
    try have s0_0_1 : w.heap.size < u1.heap.size := by omega
    try have l0_0_1 : w.heap.size ≤ u1.heap.size := by omega
    try have s0_1_1 : w.heap.size + 1 < u1.heap.size := by omega
    try have l0_1_1 : w.heap.size + 1 ≤ u1.heap.size := by omega
    go_wp2_with fail
    refine (impl_DyadMake_no (SR r i) (SI r i) (2 * s) _ H2.out).mono ?_
    rintro e u2 ⟨rfl, hb⟩
    have hB2 : Below w.heap.size w u2 := Below.trans (by go_grown) (hb.mono (by go_size))
    have hz2 := hb.size
    try simp at hz2
    have hw2 := hB2.size
    obtain ⟨hc2, hf2⟩ := bcell hb
    clear hb
    try have s0_0_2 : w.heap.size < u2.heap.size := by omega
    try have l0_0_2 : w.heap.size ≤ u2.heap.size := by omega
    try have s0_1_2 : w.heap.size + 1 < u2.heap.size := by omega
    try have l0_1_2 : w.heap.size + 1 ≤ u2.heap.size := by omega
    try have s1_0_2 : u1.heap.size < u2.heap.size := by omega
    try have l1_0_2 : u1.heap.size ≤ u2.heap.size := by omega
    go_wp2
    have b0 : u2.cell? ⟨w.heap.size + 1, 0, none⟩ = some (.int .i64 0) := by go_simp
    have b1 : u2.cell? ⟨w.heap.size + 1, 1, none⟩ = some (.int .i64 0) := by go_simp
    have b2 : u2.cell? ⟨w.heap.size + 1, 2, none⟩ = some (.int .i64 0) := by go_simp
    refine ret_cell_tmp Tryd.results22 rfl rfl (load_Dyad _ _ _ _ _ (set3 b0 b1 b2 _ _ _).1 (set3 b0 b1 b2 _ _ _).2.1 (set3 b0 b1 b2 _ _ _).2.2) ⟨rfl, by go_grown⟩

theorem spec_DyadSquare_yes (r i s : Int) (w : World) (h : SQ r i s = true) :
    Calls Tryd.prog 23 #[.agg #[.int .i64 r, .int .i64 i, .int .i64 s]] w (Gives (.tuple #[.agg #[.int .i64 (lR (SR r i) (SI r i) (2 * s)), .int .i64 (lI (SR r i) (SI r i) (2 * s)), .int .i64 (lS (SR r i) (SI r i) (2 * s))], .bool true]) w) := by
  obtain ⟨h1, h2⟩ := Bool.and_eq_true_iff.1 h
  obtain ⟨a1, a2, a3, a4, a5, a6, _⟩ := (DV_iff r i s).1 h1
  obtain ⟨q1, q2⟩ := sq_bd30 r ⟨a1, a2⟩
  obtain ⟨q3, q4⟩ := sq_bd30 i ⟨a3, a4⟩
  obtain ⟨q5, q6⟩ := mul_bd30 r i ⟨a1, a2⟩ ⟨a3, a4⟩
  have e1 : (2 * r) * i = 2 * (r * i) := Int.mul_assoc _ _ _
  have k1 : -2305843009213693952 ≤ 2 * r * i := by omega
  have k2 : 2 * r * i ≤ 2305843009213693952 := by omega
  obtain ⟨k3, k4, k5, k6, k7, k8⟩ := (MKr_iff _ _ _).1 (sq_ok r i s h1)
  obtain ⟨g1, g2, _⟩ := l_le (SR r i) (SI r i) (2 * s) k3
  have HR := Lib.hid (I64_of_le g1 ⟨k5, k6⟩); have HI := Lib.hid (I64_of_le g2 ⟨k7, k8⟩)
  have HSR : Hid (I64 (SR r i)) := ⟨by omega, by omega⟩
  have HSI : Hid (I64 (SI r i)) := ⟨by omega, by omega⟩
  clear g1 g2 k3 k4 k5 k6 k7 k8
  have H1 := Lib.hid h1; have H2 := Lib.hid (Bool.and_eq_true_iff.1 h2).2; clear h h1 h2 e1
  go_enter Tryd.func23, Tryd.ntmps23
  go_wp2_with fail
  refine (spec_DyadValid_any r i s _ ⟨by omega, by omega⟩ ⟨by omega, by omega⟩).mono ?_
  rw [H1.out]
  rintro e u1 ⟨rfl, hb⟩
  have hB1 : Below w.heap.size w u1 := Below.trans (by go_grown) (hb.mono (by go_size))
  have hz1 := hb.size
  try simp at hz1
  have hw1 := hB1.size
  obtain ⟨hc1, hf1⟩ := bcell hb
  clear hb
  try have s0_0_1 : w.heap.size < u1.heap.size := by omega
  try have l0_0_1 : w.heap.size ≤ u1.heap.size := by omega
  try have s0_1_1 : w.heap.size + 1 < u1.heap.size := by omega
  try have l0_1_1 : w.heap.size + 1 ≤ u1.heap.size := by omega
  go_wp2_with fail
  refine (l2Low_any (SR r i) (SI r i) (2 * s) _ HSR.out HSI.out (by omega) (by omega)).mono ?_
  rintro e u2 ⟨rfl, hb⟩
  have hB2 : Below w.heap.size w u2 := Below.trans (by go_grown) (hb.mono (by go_size))
  have hz2 := hb.size
  try simp at hz2
  have hw2 := hB2.size
  obtain ⟨hc2, hf2⟩ := bcell hb
  clear hb
  try have s0_0_2 : w.heap.size < u2.heap.size := by omega
  try have l0_0_2 : w.heap.size ≤ u2.heap.size := by omega
  try have s0_1_2 : w.heap.size + 1 < u2.heap.size := by omega
  try have l0_1_2 : w.heap.size + 1 ≤ u2.heap.size := by omega
  try have s1_0_2 : u1.heap.size < u2.heap.size := by omega
  try have l1_0_2 : u1.heap.size ≤ u2.heap.size := by omega
  go_wp2_with fail
  refine (l2Done_yes _ _ _ _ HR.out HI.out H2.out).mono ?_
  rintro e u3 ⟨rfl, hb⟩
  have hB3 : Below w.heap.size w u3 := Below.trans (by go_grown) (hb.mono (by go_size))
  have hz3 := hb.size
  try simp at hz3
  have hw3 := hB3.size
  obtain ⟨hc3, hf3⟩ := bcell hb
  clear hb
  try have s0_0_3 : w.heap.size < u3.heap.size := by omega
  try have l0_0_3 : w.heap.size ≤ u3.heap.size := by omega
  try have s0_1_3 : w.heap.size + 1 < u3.heap.size := by omega
  try have l0_1_3 : w.heap.size + 1 ≤ u3.heap.size := by omega
  try have s1_0_3 : u1.heap.size < u3.heap.size := by omega
  try have l1_0_3 : u1.heap.size ≤ u3.heap.size := by omega
  try have s2_0_3 : u2.heap.size < u3.heap.size := by omega
  try have l2_0_3 : u2.heap.size ≤ u3.heap.size := by omega
  go_wp2
  have b0 : u3.cell? ⟨w.heap.size + 1, 0, none⟩ = some (.int .i64 0) := by go_simp
  have b1 : u3.cell? ⟨w.heap.size + 1, 1, none⟩ = some (.int .i64 0) := by go_simp
  have b2 : u3.cell? ⟨w.heap.size + 1, 2, none⟩ = some (.int .i64 0) := by go_simp
  refine ret_cell_tmp Tryd.results23 rfl rfl (load_Dyad _ _ _ _ _ (set3 b0 b1 b2 _ _ _).1 (set3 b0 b1 b2 _ _ _).2.1 (set3 b0 b1 b2 _ _ _).2.2) ⟨rfl, by go_grown⟩
theorem spec_DyadSquare_no (r i s : Int) (w : World) (hr : I64 r) (hi : I64 i) (h : SQ r i s = false) :
    Calls Tryd.prog 23 #[.agg #[.int .i64 r, .int .i64 i, .int .i64 s]] w (Gives (.tuple #[.agg #[.int .i64 0, .int .i64 0, .int .i64 0], .bool false]) w) := by
  cases h1 : DV r i s
  · have H1 := Lib.hid h1; clear h h1
    have HR := Lib.hid hr; have HI := Lib.hid hi; clear hr hi
    go_enter Tryd.func23, Tryd.ntmps23
    go_wp2_with fail
    refine (spec_DyadValid_any r i s _ HR.out HI.out).mono ?_
    rw [H1.out]
    rintro e u1 ⟨rfl, hb⟩
    have hB1 : Below w.heap.size w u1 := Below.trans (by go_grown) (hb.mono (by go_size))
    have hz1 := hb.size
    try simp at hz1
    have hw1 := hB1.size
    obtain ⟨hc1, hf1⟩ := bcell hb
    clear hb
    try have s0_0_1 : w.heap.size < u1.heap.size := by omega
    try have l0_0_1 : w.heap.size ≤ u1.heap.size := by omega
    try have s0_1_1 : w.heap.size + 1 < u1.heap.size := by omega
    try have l0_1_1 : w.heap.size + 1 ≤ u1.heap.size := by omega
    go_wp2
    have b0 : u1.cell? ⟨w.heap.size + 1, 0, none⟩ = some (.int .i64 0) := by go_simp
    have b1 : u1.cell? ⟨w.heap.size + 1, 1, none⟩ = some (.int .i64 0) := by go_simp
    have b2 : u1.cell? ⟨w.heap.size + 1, 2, none⟩ = some (.int .i64 0) := by go_simp
    refine ret_cell_tmp Tryd.results23 rfl rfl (load_Dyad _ _ _ _ _ (set3 b0 b1 b2 _ _ _).1 (set3 b0 b1 b2 _ _ _).2.1 (set3 b0 b1 b2 _ _ _).2.2) ⟨rfl, by go_grown⟩
  · have h2 : MK (SR r i) (SI r i) (2 * s) = false := by unfold SQ at h; rw [h1, Bool.true_and] at h; exact h
    have h3 : DV (lR (SR r i) (SI r i) (2 * s)) (lI (SR r i) (SI r i) (2 * s)) (lS (SR r i) (SI r i) (2 * s)) = false := by unfold MK at h2; rw [sq_ok r i s h1, Bool.true_and] at h2; exact h2
    clear hr hi
    obtain ⟨a1, a2, a3, a4, a5, a6, _⟩ := (DV_iff r i s).1 h1
    obtain ⟨q1, q2⟩ := sq_bd30 r ⟨a1, a2⟩
    obtain ⟨q3, q4⟩ := sq_bd30 i ⟨a3, a4⟩
    obtain ⟨q5, q6⟩ := mul_bd30 r i ⟨a1, a2⟩ ⟨a3, a4⟩
    have e1 : (2 * r) * i = 2 * (r * i) := Int.mul_assoc _ _ _
    have k1 : -2305843009213693952 ≤ 2 * r * i := by omega
    have k2 : 2 * r * i ≤ 2305843009213693952 := by omega
    obtain ⟨k3, k4, k5, k6, k7, k8⟩ := (MKr_iff _ _ _).1 (sq_ok r i s h1)
    obtain ⟨g1, g2, _⟩ := l_le (SR r i) (SI r i) (2 * s) k3
    have HR := Lib.hid (I64_of_le g1 ⟨k5, k6⟩); have HI := Lib.hid (I64_of_le g2 ⟨k7, k8⟩)
    have HSR : Hid (I64 (SR r i)) := ⟨by omega, by omega⟩
    have HSI : Hid (I64 (SI r i)) := ⟨by omega, by omega⟩
    clear g1 g2 k3 k4 k5 k6 k7 k8
    have H1 := Lib.hid h1; have H2 := Lib.hid h3; clear h h1 h2 h3 e1
    go_enter Tryd.func23, Tryd.ntmps23
    go_wp2_with fail
    refine (spec_DyadValid_any r i s _ ⟨by omega, by omega⟩ ⟨by omega, by omega⟩).mono ?_
    rw [H1.out]
    rintro e u1 ⟨rfl, hb⟩
    have hB1 : Below w.heap.size w u1 := Below.trans (by go_grown) (hb.mono (by go_size))
    have hz1 := hb.size
    try simp at hz1
    have hw1 := hB1.size
    obtain ⟨hc1, hf1⟩ := bcell hb
    clear hb
    try have s0_0_1 : w.heap.size < u1.heap.size := by omega
    try have l0_0_1 : w.heap.size ≤ u1.heap.size := by omega
    try have s0_1_1 : w.heap.size + 1 < u1.heap.size := by omega
    try have l0_1_1 : w.heap.size + 1 ≤ u1.heap.size := by omega
    go_wp2_with fail
    refine (l2Low_any (SR r i) (SI r i) (2 * s) _ HSR.out HSI.out (by omega) (by omega)).mono ?_
    rintro e u2 ⟨rfl, hb⟩
    have hB2 : Below w.heap.size w u2 := Below.trans (by go_grown) (hb.mono (by go_size))
    have hz2 := hb.size
    try simp at hz2
    have hw2 := hB2.size
    obtain ⟨hc2, hf2⟩ := bcell hb
    clear hb
    try have s0_0_2 : w.heap.size < u2.heap.size := by omega
    try have l0_0_2 : w.heap.size ≤ u2.heap.size := by omega
    try have s0_1_2 : w.heap.size + 1 < u2.heap.size := by omega
    try have l0_1_2 : w.heap.size + 1 ≤ u2.heap.size := by omega
    try have s1_0_2 : u1.heap.size < u2.heap.size := by omega
    try have l1_0_2 : u1.heap.size ≤ u2.heap.size := by omega
    go_wp2_with fail
    refine (l2Done_no _ _ _ _ HR.out HI.out H2.out).mono ?_
    rintro e u3 ⟨rfl, hb⟩
    have hB3 : Below w.heap.size w u3 := Below.trans (by go_grown) (hb.mono (by go_size))
    have hz3 := hb.size
    try simp at hz3
    have hw3 := hB3.size
    obtain ⟨hc3, hf3⟩ := bcell hb
    clear hb
    try have s0_0_3 : w.heap.size < u3.heap.size := by omega
    try have l0_0_3 : w.heap.size ≤ u3.heap.size := by omega
    try have s0_1_3 : w.heap.size + 1 < u3.heap.size := by omega
    try have l0_1_3 : w.heap.size + 1 ≤ u3.heap.size := by omega
    try have s1_0_3 : u1.heap.size < u3.heap.size := by omega
    try have l1_0_3 : u1.heap.size ≤ u3.heap.size := by omega
    try have s2_0_3 : u2.heap.size < u3.heap.size := by omega
    try have l2_0_3 : u2.heap.size ≤ u3.heap.size := by omega
    go_wp2
    have b0 : u3.cell? ⟨w.heap.size + 1, 0, none⟩ = some (.int .i64 0) := by go_simp
    have b1 : u3.cell? ⟨w.heap.size + 1, 1, none⟩ = some (.int .i64 0) := by go_simp
    have b2 : u3.cell? ⟨w.heap.size + 1, 2, none⟩ = some (.int .i64 0) := by go_simp
    refine ret_cell_tmp Tryd.results23 rfl rfl (load_Dyad _ _ _ _ _ (set3 b0 b1 b2 _ _ _).1 (set3 b0 b1 b2 _ _ _).2.1 (set3 b0 b1 b2 _ _ _).2.2) ⟨rfl, by go_grown⟩

end Go.Proofs.YtgnkjfafgcbpbaaDoor
