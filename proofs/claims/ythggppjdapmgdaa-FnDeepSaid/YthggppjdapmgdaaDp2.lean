/- Cutting deeper: a step of the induction of the contracts of the functions that count. -/
import Derived.Test.YthggppjdapmgdaaDp1
import Derived.Test.YthggppjdapmgdaaDpM
import Derived.Test.YthggppjdapmgdaaBoM3
namespace Go.Proofs.Ythggppjdapmgdaa
set_option linter.unusedSimpArgs false
set_option linter.unusedVariables false
variable {pv : Int → Int → Int}
open Go.RowKit Eng
theorem cst_rng (a b c d m : Int) : CST a b c d m = 1 ∨ CST a b c d m = -1 ∨ CST a b c d m = 0 := by
  unfold CST; split
  · exact Or.inl rfl
  · split
    · exact Or.inr (Or.inl rfl)
    · exact Or.inr (Or.inr rfl)
theorem gAdd4 (c : Int) {x y z t : Int} (hx : 0 ≤ x) (hy : 0 ≤ y) (hz : 0 ≤ z) (ht : 0 ≤ t) : gAdd (gAdd (gAdd (gAdd c x) y) z) t = gAdd c (x + y + z + t) := by
  rw [gAdd_add c hx hy, gAdd_add c (by omega) hz, gAdd_add c (by omega) ht]
theorem f52 {a b c d m : Int} (h : BV a b c d = true) : FI pv 52 0 [a, b, c, d, m] = CST a b c d m := show FI0 52 0 [a, b, c, d, m] = _ from if_pos h
theorem f86 (j : Nat) (a b c d m n : Int) : FI pv 86 j [a, b, c, d, m, n] = cdv j n.toNat a b c d m := rfl
theorem f87 (c z : Int) : FI pv 87 0 [c, z] = gAdd c z := rfl
theorem f1000 (x y : Int) : FI pv 1000 0 [x, y] = pv x y := rfl
theorem f33 (x y : Int) : FI pv 33 0 [x, y] = fl x y := rfl
theorem fb2 (a b c d : Int) : FB 2 0 [a, b, c, d] = BV a b c d := rfl
theorem wI_le (hN : pv 0 0 ≤ 4) (hW : (wI .lt).ok Try.prog (FI pv) FB) : (wI .le).ok Try.prog (FI pv) FB := by
  refine by_pathW (X := XDpI) (fuel := 400) (enters_of Try.func92 rfl (by kernel_rfl)) rfl (fun w0 zs => xokW GD_ok enDp_ok (fun e he => by rw [List.mem_singleton.1 he]; exact hW) w0 _ rfl rfl) mixed (fun cs zs hc hz hp => ?_)
  obtain ⟨u, v, w, rfl⟩ := len3 hc
  obtain ⟨a, b, c, d, m, n, rfl⟩ := len6 hz
  replace hp : (BV a b c d && (decide (0 ≤ n) && decide (n ≤ pv 0 0))) = true := hp _ rfl
  simp only [Bool.and_eq_true, decide_eq_true_eq] at hp
  obtain ⟨hbv, h0, hn⟩ := hp
  clear hW hc hz
  obtain ⟨p1, p2, p3, p4, p5, p6⟩ := (BV_iff _ _ _ _).1 hbv
  obtain ⟨x, hx⟩ : ∃ x, fl (a + b) 2 = x := ⟨_, rfl⟩
  obtain ⟨y, hy⟩ : ∃ y, fl (c + d) 2 = y := ⟨_, rfl⟩
  have hx' : (a + b) / 2 = x := hx
  have hy' : (c + d) / 2 = y := hy
  have g1 : IntKind.i64.wrap (a + b) = a + b := wrap_in (by omega) (by omega)
  have g2 : IntKind.i64.wrap (c + d) = c + d := wrap_in (by omega) (by omega)
  have g3 : (a + b).fdiv (2 ^ min (Int.toNat 1) IntKind.i64.bits) = x := by rw [shr_eq _ _ (by decide) (by decide)]; exact hx
  have g4 : (c + d).fdiv (2 ^ min (Int.toNat 1) IntKind.i64.bits) = y := by rw [shr_eq _ _ (by decide) (by decide)]; exact hy
  have l1 : FB 102 0 [a + b, 2] = true := by rw [← g1]; exact le2 (by omega)
  have l2 : FB 102 0 [c + d, 2] = true := by rw [← g2]; exact le2 (by omega)
  have q0 : BV a x c y = true := (BV_iff _ _ _ _).2 (by omega)
  have q1 : BV x b c y = true := (BV_iff _ _ _ _).2 (by omega)
  have q2 : BV a x y d = true := (BV_iff _ _ _ _).2 (by omega)
  have q3 : BV x b y d = true := (BV_iff _ _ _ _).2 (by omega)
  have f0 : FI pv 52 0 [a, b, c, d, m] = CST a b c d m := f52 hbv
  have w1 : IntKind.i64.wrap (2 * n) = 2 * n := wrap_in (by omega) (by omega)
  have w2 : IntKind.i64.wrap (n - 1) = n - 1 := wrap_in (by omega) (by omega)
  have fA : IntKind.i64.wrap (1 * 2 ^ min (2 * n).toNat IntKind.i64.bits) = 4 ^ n.toNat := by have := all_eq h0 (by omega); rwa [w1] at this
  have hpos := pow4_pos n.toNat
  have d1 : decide (2 * n < 0) = false := decide_eq_false (by omega)
  have z1 : IntKind.i64.wrap 0 = 0 := rfl
  rcases cst_rng a b c d m with h | h | h
  ·
    refine ⟨kn_dpIa, es_dpIa, run_dpIa, ?_, ?_⟩
    · show ∀ q ∈ kn_dpIa, _
      simp only [kn_dpIa, List.forall_mem_cons, SB.den, SE.den, SL.den, COp.den, IOp.den, envOf, List.cons_append, List.nil_append, List.getD_cons_zero, List.getD_cons_succ, f86, f87, f1000, f33, fb2, f0, hx, hy, g1, g2, g3, g4, l1, l2, q0, q1, q2, q3, w1, w2, fA, d1, hbv, h]
      simp
      try first | omega | decide
    · simp only [es_dpIa, List.forall_mem_cons, SB.den, SE.den, SL.den, COp.den, IOp.den, envOf, List.cons_append, List.nil_append, List.getD_cons_zero, List.getD_cons_succ, f86, f87, f1000, f33, fb2, f0, hx, hy, g1, g2, g3, g4, l1, l2, q0, q1, q2, q3, w1, w2, fA, d1, hbv, dpOut, dpBox, wI, List.range, List.range.loop, List.map_cons, List.map_nil, SL.of, h]
      simp only [cdv_in h, ↓reduceIte, gAdd_zero, show ¬ ((1 : Nat) = 0) from by decide, show ¬ ((2 : Nat) = 0) from by decide]
      rw [gAdd_pos u (show (4 : Int) ^ n.toNat ≠ 0 by omega)]
  ·
    refine ⟨kn_dpIb, es_dpIb, run_dpIb, ?_, ?_⟩
    · show ∀ q ∈ kn_dpIb, _
      simp only [kn_dpIb, List.forall_mem_cons, SB.den, SE.den, SL.den, COp.den, IOp.den, envOf, List.cons_append, List.nil_append, List.getD_cons_zero, List.getD_cons_succ, f86, f87, f1000, f33, fb2, f0, hx, hy, g1, g2, g3, g4, l1, l2, q0, q1, q2, q3, w1, w2, fA, d1, hbv, h]
      simp
      try first | omega | decide
    · simp only [es_dpIb, List.forall_mem_cons, SB.den, SE.den, SL.den, COp.den, IOp.den, envOf, List.cons_append, List.nil_append, List.getD_cons_zero, List.getD_cons_succ, f86, f87, f1000, f33, fb2, f0, hx, hy, g1, g2, g3, g4, l1, l2, q0, q1, q2, q3, w1, w2, fA, d1, hbv, dpOut, dpBox, wI, List.range, List.range.loop, List.map_cons, List.map_nil, SL.of, h]
      simp only [cdv_out h, ↓reduceIte, gAdd_zero, show ¬ ((0 : Nat) = 1) from by decide, show ¬ ((2 : Nat) = 1) from by decide]
      rw [gAdd_pos v (show (4 : Int) ^ n.toNat ≠ 0 by omega)]
  · by_cases hn0 : n = 0
    · subst hn0
      have t1 := cdv_open0 (a := a) (b := b) (c := c) (d := d) (m := m) (by omega) (by omega)
      refine ⟨kn_dpIc, es_dpIc, run_dpIc, ?_, ?_⟩
      · show ∀ q ∈ kn_dpIc, _
        simp only [kn_dpIc, List.forall_mem_cons, SB.den, SE.den, SL.den, COp.den, IOp.den, envOf, List.cons_append, List.nil_append, List.getD_cons_zero, List.getD_cons_succ, f86, f87, f1000, f33, fb2, f0, hx, hy, g1, g2, g3, g4, l1, l2, q0, q1, q2, q3, w1, w2, fA, d1, hbv, h]
        simp
        try first | omega | decide
      · simp only [es_dpIc, List.forall_mem_cons, SB.den, SE.den, SL.den, COp.den, IOp.den, envOf, List.cons_append, List.nil_append, List.getD_cons_zero, List.getD_cons_succ, f86, f87, f1000, f33, fb2, f0, hx, hy, g1, g2, g3, g4, l1, l2, q0, q1, q2, q3, w1, w2, fA, d1, hbv, dpOut, dpBox, wI, List.range, List.range.loop, List.map_cons, List.map_nil, SL.of, h]
        simp only [Int.toNat_zero, t1, gAdd_zero, ↓reduceIte, show ¬ ((0 : Nat) = 2) from by decide, show ¬ ((1 : Nat) = 2) from by decide]
        rw [gAdd_pos w (by decide)]
        try rfl
    · obtain ⟨t, ht⟩ : ∃ t : Nat, n = t + 1 := ⟨(n - 1).toNat, by omega⟩
      have e1 : (n - 1).toNat = t := by omega
      have e2 : n.toNat = t + 1 := by omega
      have c0 : (n == 0) = false := by simpa using hn0
      have c1 : decide (0 ≤ n - 1) = true := decide_eq_true (by omega)
      have c2 : decide (n - 1 < pv 0 0) = true := decide_eq_true (by omega)
      have t1 := fun j => cdv_open (a := a) (b := b) (c := c) (d := d) (m := m) (by omega) (by omega) j t
      have t2 := fun j a b c d => cdv_nonneg j t a b c d m
      simp only [hx, hy] at t1
      refine ⟨kn_dpId, es_dpId, run_dpId, ?_, ?_⟩
      · show ∀ q ∈ kn_dpId, _
        simp only [kn_dpId, List.forall_mem_cons, SB.den, SE.den, SL.den, COp.den, IOp.den, envOf, List.cons_append, List.nil_append, List.getD_cons_zero, List.getD_cons_succ, f86, f87, f1000, f33, fb2, f0, hx, hy, g1, g2, g3, g4, l1, l2, q0, q1, q2, q3, w1, w2, fA, d1, hbv, h, c0, c1, c2, e1]
        simp
        try first | omega | decide
      · simp only [es_dpId, List.forall_mem_cons, SB.den, SE.den, SL.den, COp.den, IOp.den, envOf, List.cons_append, List.nil_append, List.getD_cons_zero, List.getD_cons_succ, f86, f87, f1000, f33, fb2, f0, hx, hy, g1, g2, g3, g4, l1, l2, q0, q1, q2, q3, w1, w2, fA, d1, hbv, dpOut, dpBox, wI, List.range, List.range.loop, List.map_cons, List.map_nil, SL.of, h, c0, c1, c2, e1]
        rw [e2, t1 0, t1 1, t1 2]
        rw [gAdd4 u (t2 0 a x c y) (t2 0 x b c y) (t2 0 a x y d) (t2 0 x b y d), gAdd4 v (t2 1 a x c y) (t2 1 x b c y) (t2 1 a x y d) (t2 1 x b y d), gAdd4 w (t2 2 a x c y) (t2 2 x b c y) (t2 2 a x y d) (t2 2 x b y d)]
theorem wS_le (hN : pv 0 0 ≤ 4) (hW : (wS .lt).ok Try.prog (FI pv) FB) : (wS .le).ok Try.prog (FI pv) FB := by
  refine by_pathW (X := XDpS) (fuel := 400) (enters_of Try.func91 rfl (by kernel_rfl)) rfl (fun w0 zs => xokW GD_ok enDp_ok (fun e he => by rw [List.mem_singleton.1 he]; exact hW) w0 _ rfl rfl) mixed (fun cs zs hc hz hp => ?_)
  obtain ⟨u, v, w, rfl⟩ := len3 hc
  obtain ⟨a, b, c, d, m, n, rfl⟩ := len6 hz
  replace hp : (BV a b c d && (decide (0 ≤ n) && decide (n ≤ pv 0 0))) = true := hp _ rfl
  simp only [Bool.and_eq_true, decide_eq_true_eq] at hp
  obtain ⟨hbv, h0, hn⟩ := hp
  clear hW hc hz
  obtain ⟨p1, p2, p3, p4, p5, p6⟩ := (BV_iff _ _ _ _).1 hbv
  obtain ⟨x, hx⟩ : ∃ x, fl (a + b) 2 = x := ⟨_, rfl⟩
  obtain ⟨y, hy⟩ : ∃ y, fl (c + d) 2 = y := ⟨_, rfl⟩
  have hx' : (a + b) / 2 = x := hx
  have hy' : (c + d) / 2 = y := hy
  have g1 : IntKind.i64.wrap (a + b) = a + b := wrap_in (by omega) (by omega)
  have g2 : IntKind.i64.wrap (c + d) = c + d := wrap_in (by omega) (by omega)
  have g3 : (a + b).fdiv (2 ^ min (Int.toNat 1) IntKind.i64.bits) = x := by rw [shr_eq _ _ (by decide) (by decide)]; exact hx
  have g4 : (c + d).fdiv (2 ^ min (Int.toNat 1) IntKind.i64.bits) = y := by rw [shr_eq _ _ (by decide) (by decide)]; exact hy
  have l1 : FB 102 0 [a + b, 2] = true := by rw [← g1]; exact le2 (by omega)
  have l2 : FB 102 0 [c + d, 2] = true := by rw [← g2]; exact le2 (by omega)
  have q0 : BV a x c y = true := (BV_iff _ _ _ _).2 (by omega)
  have q1 : BV x b c y = true := (BV_iff _ _ _ _).2 (by omega)
  have q2 : BV a x y d = true := (BV_iff _ _ _ _).2 (by omega)
  have q3 : BV x b y d = true := (BV_iff _ _ _ _).2 (by omega)
  have f0 : FI pv 52 0 [a, b, c, d, m] = CST a b c d m := f52 hbv
  have w1 : IntKind.i64.wrap (2 * n) = 2 * n := wrap_in (by omega) (by omega)
  have w2 : IntKind.i64.wrap (n - 1) = n - 1 := wrap_in (by omega) (by omega)
  have fA : IntKind.i64.wrap (1 * 2 ^ min (2 * n).toNat IntKind.i64.bits) = 4 ^ n.toNat := by have := all_eq h0 (by omega); rwa [w1] at this
  have hpos := pow4_pos n.toNat
  have d1 : decide (2 * n < 0) = false := decide_eq_false (by omega)
  have z1 : IntKind.i64.wrap 0 = 0 := rfl
  rcases cst_rng a b c d m with h | h | h
  ·
    refine ⟨kn_dpSa, es_dpSa, run_dpSa, ?_, ?_⟩
    · show ∀ q ∈ kn_dpSa, _
      simp only [kn_dpSa, List.forall_mem_cons, SB.den, SE.den, SL.den, COp.den, IOp.den, envOf, List.cons_append, List.nil_append, List.getD_cons_zero, List.getD_cons_succ, f86, f87, f1000, f33, fb2, f0, hx, hy, g1, g2, g3, g4, l1, l2, q0, q1, q2, q3, w1, w2, fA, d1, hbv, h]
      simp
      try first | omega | decide
    · simp only [es_dpSa, List.forall_mem_cons, SB.den, SE.den, SL.den, COp.den, IOp.den, envOf, List.cons_append, List.nil_append, List.getD_cons_zero, List.getD_cons_succ, f86, f87, f1000, f33, fb2, f0, hx, hy, g1, g2, g3, g4, l1, l2, q0, q1, q2, q3, w1, w2, fA, d1, hbv, dpOut, dpBox, wS, List.range, List.range.loop, List.map_cons, List.map_nil, SL.of, h]
      simp only [cdv_in h, ↓reduceIte, gAdd_zero, show ¬ ((1 : Nat) = 0) from by decide, show ¬ ((2 : Nat) = 0) from by decide]
      rw [gAdd_pos u (show (4 : Int) ^ n.toNat ≠ 0 by omega)]
  ·
    refine ⟨kn_dpSb, es_dpSb, run_dpSb, ?_, ?_⟩
    · show ∀ q ∈ kn_dpSb, _
      simp only [kn_dpSb, List.forall_mem_cons, SB.den, SE.den, SL.den, COp.den, IOp.den, envOf, List.cons_append, List.nil_append, List.getD_cons_zero, List.getD_cons_succ, f86, f87, f1000, f33, fb2, f0, hx, hy, g1, g2, g3, g4, l1, l2, q0, q1, q2, q3, w1, w2, fA, d1, hbv, h]
      simp
      try first | omega | decide
    · simp only [es_dpSb, List.forall_mem_cons, SB.den, SE.den, SL.den, COp.den, IOp.den, envOf, List.cons_append, List.nil_append, List.getD_cons_zero, List.getD_cons_succ, f86, f87, f1000, f33, fb2, f0, hx, hy, g1, g2, g3, g4, l1, l2, q0, q1, q2, q3, w1, w2, fA, d1, hbv, dpOut, dpBox, wS, List.range, List.range.loop, List.map_cons, List.map_nil, SL.of, h]
      simp only [cdv_out h, ↓reduceIte, gAdd_zero, show ¬ ((0 : Nat) = 1) from by decide, show ¬ ((2 : Nat) = 1) from by decide]
      rw [gAdd_pos v (show (4 : Int) ^ n.toNat ≠ 0 by omega)]
  · by_cases hn0 : n = 0
    · subst hn0
      have t1 := cdv_open0 (a := a) (b := b) (c := c) (d := d) (m := m) (by omega) (by omega)
      refine ⟨kn_dpSc, es_dpSc, run_dpSc, ?_, ?_⟩
      · show ∀ q ∈ kn_dpSc, _
        simp only [kn_dpSc, List.forall_mem_cons, SB.den, SE.den, SL.den, COp.den, IOp.den, envOf, List.cons_append, List.nil_append, List.getD_cons_zero, List.getD_cons_succ, f86, f87, f1000, f33, fb2, f0, hx, hy, g1, g2, g3, g4, l1, l2, q0, q1, q2, q3, w1, w2, fA, d1, hbv, h]
        simp
        try first | omega | decide
      · simp only [es_dpSc, List.forall_mem_cons, SB.den, SE.den, SL.den, COp.den, IOp.den, envOf, List.cons_append, List.nil_append, List.getD_cons_zero, List.getD_cons_succ, f86, f87, f1000, f33, fb2, f0, hx, hy, g1, g2, g3, g4, l1, l2, q0, q1, q2, q3, w1, w2, fA, d1, hbv, dpOut, dpBox, wS, List.range, List.range.loop, List.map_cons, List.map_nil, SL.of, h]
        simp only [Int.toNat_zero, t1, gAdd_zero, ↓reduceIte, show ¬ ((0 : Nat) = 2) from by decide, show ¬ ((1 : Nat) = 2) from by decide]
        rw [gAdd_pos w (by decide)]
        try rfl
    · obtain ⟨t, ht⟩ : ∃ t : Nat, n = t + 1 := ⟨(n - 1).toNat, by omega⟩
      have e1 : (n - 1).toNat = t := by omega
      have e2 : n.toNat = t + 1 := by omega
      have c0 : (n == 0) = false := by simpa using hn0
      have c1 : decide (0 ≤ n - 1) = true := decide_eq_true (by omega)
      have c2 : decide (n - 1 < pv 0 0) = true := decide_eq_true (by omega)
      have t1 := fun j => cdv_open (a := a) (b := b) (c := c) (d := d) (m := m) (by omega) (by omega) j t
      have t2 := fun j a b c d => cdv_nonneg j t a b c d m
      simp only [hx, hy] at t1
      refine ⟨kn_dpSd, es_dpSd, run_dpSd, ?_, ?_⟩
      · show ∀ q ∈ kn_dpSd, _
        simp only [kn_dpSd, List.forall_mem_cons, SB.den, SE.den, SL.den, COp.den, IOp.den, envOf, List.cons_append, List.nil_append, List.getD_cons_zero, List.getD_cons_succ, f86, f87, f1000, f33, fb2, f0, hx, hy, g1, g2, g3, g4, l1, l2, q0, q1, q2, q3, w1, w2, fA, d1, hbv, h, c0, c1, c2, e1]
        simp
        try first | omega | decide
      · simp only [es_dpSd, List.forall_mem_cons, SB.den, SE.den, SL.den, COp.den, IOp.den, envOf, List.cons_append, List.nil_append, List.getD_cons_zero, List.getD_cons_succ, f86, f87, f1000, f33, fb2, f0, hx, hy, g1, g2, g3, g4, l1, l2, q0, q1, q2, q3, w1, w2, fA, d1, hbv, dpOut, dpBox, wS, List.range, List.range.loop, List.map_cons, List.map_nil, SL.of, h, c0, c1, c2, e1]
        rw [e2, t1 0, t1 1, t1 2]
        rw [gAdd4 u (t2 0 a x c y) (t2 0 x b c y) (t2 0 a x y d) (t2 0 x b y d), gAdd4 v (t2 1 a x c y) (t2 1 x b c y) (t2 1 a x y d) (t2 1 x b y d), gAdd4 w (t2 2 a x c y) (t2 2 x b c y) (t2 2 a x y d) (t2 2 x b y d)]
end Go.Proofs.Ythggppjdapmgdaa
