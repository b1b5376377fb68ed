/- The law FnDeep: cutting deeper closes more: its walk and row. -/
import Derived.Test.YthggppjdapmgdaaDp4
import Derived.Test.YthggppjdapmgdaaRowB
namespace Go.Proofs.Ythggppjdapmgdaa
set_option linter.unusedSimpArgs false
set_option linter.unusedVariables false
variable {pv : Int → Int → Int}
open Go.ChangeShapes Go.WideShapes Go.ChangeAt Go.RowKit Go.Joins Eng
theorem fnDeep_walk (v : Value) (w : World) (hv : BytesOk w w.heap.size v) : Calls Try.prog 13 #[v] w (Gives (.bool true) w) := by
  refine dlawP' (X := XDq) rfl (fun pv w E h1 h2 => XDq_ok w E h1 h2) (fuel := 400) (L := 13) (fun pv p len cap hpv => ?_) v w hv
  clear hv
  have den : ∀ kn : Kn, (∀ q ∈ kn, q.1.den (envD pv p len cap) = q.2) → kn.ok (envD pv p len cap) := fun _ h => h
  by_cases hl : 1048576 < (len : Int)
  · refine ⟨kn_dpBig, _, run_dpBig, den _ ?_, rfl⟩
    simp only [kn_dpBig, List.forall_mem_cons, SB.den, SE.den, COp.den, envD, ↓reduceIte]
    simp [hl]
  have hl' : decide (1048576 < (len : Int)) = false := decide_eq_false hl
  have f1 : ∀ q, FI pv 1001 0 [q] = bxA pv q := fun _ => rfl
  have f2 : ∀ q, FI pv 1001 1 [q] = bxB pv q := fun _ => rfl
  have f3 : ∀ q, FI pv 1001 2 [q] = bxC pv q := fun _ => rfl
  have f4 : ∀ q, FI pv 1001 3 [q] = bxD pv q := fun _ => rfl
  have f5 : ∀ q, FI pv 1001 100 [q] = bxP pv q := fun _ => rfl
  have f6 : ∀ q, FI pv 1000 100 [q] = q + 1 := fun _ => rfl
  obtain ⟨a, ha⟩ : ∃ a, bxA pv 0 = a := ⟨_, rfl⟩
  obtain ⟨b, hb⟩ : ∃ b, bxB pv 0 = b := ⟨_, rfl⟩
  obtain ⟨c, hc⟩ : ∃ c, bxC pv 0 = c := ⟨_, rfl⟩
  obtain ⟨d, hd⟩ : ∃ d, bxD pv 0 = d := ⟨_, rfl⟩
  obtain ⟨P, hP⟩ : ∃ P, bxP pv 0 = P := ⟨_, rfl⟩
  cases h : BV a b c d
  · refine ⟨kn_dpInv, _, run_dpInv, den _ ?_, rfl⟩
    simp only [kn_dpInv, List.forall_mem_cons, SB.den, SE.den, SL.den, COp.den, IOp.den, envD, ↓reduceIte, f1, f2, f3, f4, fb2, ha, hb, hc, hd, h, hl']
    simp
  obtain ⟨M, hM⟩ : ∃ M, pv P 20 = M := ⟨_, rfl⟩
  obtain ⟨k, hk⟩ : ∃ k, pv (P + 1) 4 = k := ⟨_, rfl⟩
  obtain ⟨t, ht⟩ : ∃ t, pv (P + 1 + 1) 20 = t := ⟨_, rfl⟩
  have hq : 0 ≤ P ∧ P ≤ 5 := by rw [← hP]; unfold bxP; split <;> omega
  have hk1 : 0 ≤ k ∧ k < 4 := by rw [← hk]; exact hpv _ _ (by omega) (by omega) (by decide)
  have ht1 : 0 ≤ t ∧ t < 20 := by rw [← ht]; exact hpv _ _ (by omega) (by omega) (by decide)
  have t1 : t.tdiv 19 = t / 19 := Int.tdiv_eq_ediv_of_nonneg (by omega)
  obtain ⟨u, hu⟩ : ∃ u, t / 19 = u := ⟨_, rfl⟩
  have hu1 : 0 ≤ u ∧ u ≤ 1 := by omega
  have t2 : IntKind.i64.wrap u = u := wrap_in (by omega) (by omega)
  have t3 : IntKind.i64.wrap (u * 4) = u * 4 := wrap_in (by omega) (by omega)
  have t4 : IntKind.i64.wrap (k - u * 4) = k - u * 4 := wrap_in (by omega) (by omega)
  obtain ⟨D, hD⟩ : ∃ D, k - u * 4 = D := ⟨_, rfl⟩
  have hD1 : -4 ≤ D ∧ D ≤ 3 := by omega
  have t5 : IntKind.i64.wrap D = D := wrap_in (by omega) (by omega)
  by_cases hneg : D < 0
  · have d1 : decide (0 ≤ D) = false := decide_eq_false (by omega)
    refine ⟨kn_dpNeg, _, run_dpNeg, den _ ?_, rfl⟩
    simp only [kn_dpNeg, List.forall_mem_cons, SB.den, SE.den, SL.den, COp.den, IOp.den, envD, ↓reduceIte, f1, f2, f3, f4, f5, f6, f1000, fb2, ha, hb, hc, hd, hP, hM, hk, ht, t1, hu, t2, t3, t4, hD, t5, h, hl', d1]
    simp [hneg]
  · have w1 : IntKind.i64.wrap (D + 1) = D + 1 := wrap_in (by omega) (by omega)
    have w2 : IntKind.i64.wrap (2 * D) = 2 * D := wrap_in (by omega) (by omega)
    have fA : IntKind.i64.wrap (1 * 2 ^ min (2 * D).toNat IntKind.i64.bits) = 4 ^ D.toNat := by have := all_eq (n := D) (by omega) (by omega); rwa [w2] at this
    have e1 : (D + 1).toNat = D.toNat + 1 := by omega
    obtain ⟨n, hn⟩ : ∃ n, D.toNat = n := ⟨_, rfl⟩
    have hn1 : n ≤ 3 := by omega
    have m0 := cdv_more (j := 0) (by decide) n a b c d M
    have m1 := cdv_more (j := 1) (by decide) n a b c d M
    have s := cdv_sum n a b c d M
    have p0 := cdv_nonneg 0 n a b c d M
    have p1 := cdv_nonneg 1 n a b c d M
    have p2 := cdv_nonneg 2 n a b c d M
    have u0 := cdv_le (j := 0) (by decide) (n := n) (by omega) a b c d M
    have u1 := cdv_le (j := 1) (by decide) (n := n) (by omega) a b c d M
    have u2 := cdv_le (j := 2) (by decide) (n := n) (by omega) a b c d M
    have v0 := cdv_le (j := 0) (by decide) (n := n + 1) (by omega) a b c d M
    have v1 := cdv_le (j := 1) (by decide) (n := n + 1) (by omega) a b c d M
    have r0 := cdv_nonneg 0 (n + 1) a b c d M
    have r1 := cdv_nonneg 1 (n + 1) a b c d M
    obtain ⟨A0, hA0⟩ : ∃ x, cdv 0 n a b c d M = x := ⟨_, rfl⟩
    obtain ⟨A1, hA1⟩ : ∃ x, cdv 1 n a b c d M = x := ⟨_, rfl⟩
    obtain ⟨A2, hA2⟩ : ∃ x, cdv 2 n a b c d M = x := ⟨_, rfl⟩
    obtain ⟨B0, hB0⟩ : ∃ x, cdv 0 (n + 1) a b c d M = x := ⟨_, rfl⟩
    obtain ⟨B1, hB1⟩ : ∃ x, cdv 1 (n + 1) a b c d M = x := ⟨_, rfl⟩
    rw [hA0] at m0 s p0 u0
    rw [hA1] at m1 s p1 u1
    rw [hA2] at s p2 u2
    rw [hB0] at m0 v0 r0
    rw [hB1] at m1 v1 r1
    have a0 : gAdd 0 A0 = A0 := gAdd0 (by omega) (by omega)
    have a1 : gAdd 0 A1 = A1 := gAdd0 (by omega) (by omega)
    have a2 : gAdd 0 A2 = A2 := gAdd0 (by omega) (by omega)
    have b0 : gAdd 0 B0 = B0 := gAdd0 (by omega) (by omega)
    have b1 : gAdd 0 B1 = B1 := gAdd0 (by omega) (by omega)
    have z0 : IntKind.i64.wrap (4 * A0) = 4 * A0 := wrap_in (by omega) (by omega)
    have z1 : IntKind.i64.wrap (4 * A1) = 4 * A1 := wrap_in (by omega) (by omega)
    have z2 : IntKind.i64.wrap A0 = A0 := wrap_in (by omega) (by omega)
    have z3 : IntKind.i64.wrap (A0 + A1) = A0 + A1 := wrap_in (by omega) (by omega)
    have z4 : IntKind.i64.wrap (A0 + A1 + A2) = 4 ^ n := by rw [← s]; exact wrap_in (by omega) (by omega)
    have c1 : decide (0 ≤ D) = true := decide_eq_true (by omega)
    have c2 : decide (D ≤ 4) = true := decide_eq_true (by omega)
    have c3 : decide (D < 0) = false := decide_eq_false hneg
    have c4 : decide (4 < D) = false := decide_eq_false (by omega)
    have c5 : decide (0 ≤ D + 1) = true := decide_eq_true (by omega)
    have c6 : decide (D + 1 ≤ 4) = true := decide_eq_true (by omega)
    have c7 : decide (D + 1 < 0) = false := decide_eq_false (by omega)
    have c8 : decide (4 < D + 1) = false := decide_eq_false (by omega)
    have c9 : decide (2 * D < 0) = false := decide_eq_false (by omega)
    refine ⟨kn_dpOk, _, run_dpOk, den _ ?_, ?_⟩ <;> simp only [kn_dpOk, SVal.den, CV.den, At.den, List.forall_mem_cons, SB.den, SE.den, SL.den, COp.den, IOp.den, envD, ↓reduceIte, f1, f2, f3, f4, f5, f6, f86, f87, f1000, fb2, ha, hb, hc, hd, hP, hM, hk, ht, t1, hu, t2, t3, t4, hD, t5, h, hl', w1, w2, fA, e1, hn, hA0, hA1, hA2, hB0, hB1, a0, a1, a2, b0, b1, z0, z1, Int.zero_add, z2, z3, z4, c1, c2, c3, c4, c5, c6, c7, c8, c9]
    · simp [m0]
    · simp [m1]
set_option maxRecDepth 100000 in
theorem fnDeep_lifted (os : Os) (started : os.Started) (H : Type) (enc : TypeId × Value → H) :
    ReturnsInHanded {} Try.checked os 13 .any (Rows.fnDeepSpec.pre6 enc Try.prog Try.f13 Rows.fnDeepRow.domain false) (Rows.fnDeepSpec.post enc Try.prog Try.f13 false true false false) := by
  refine returnsInHanded_of_change (C := Try.checked) Try.own started (by kernel_rfl) Try.func13
    (ChangeSpec.witness6 (enc := enc) (C := Try.checked) false ⟨#[], #[.slice none 0 0], []⟩ 8 (by kernel_rfl) (by kernel_rfl) (by kernel_rfl) (by kernel_rfl)) ?_
  intro W base args ds gs before hval0 hW hcnd _
  have hval : ∀ (j : Nat) t v, Try.f13.params[j]? = some t → args[j]? = some v → Value.okWide Try.prog W .any base t v := hval0
  have hW' := hW
  obtain ⟨p, q, hA0, hV, rfl, hfz, hnd⟩ := hW
  have hA : DataW.TrodAll enc Try.prog W 0 (fun _ => true) true Try.f13.params.toList args.toList ds p := hA0
  rw [Try.params13] at hA hval
  obtain ⟨v0, vs0, d0, ds0, p0, q0, hargs, rfl, rfl, h0, r0⟩ := trodAll_cons hA
  obtain ⟨rfl, rfl, rfl⟩ := trodAll_nil r0
  obtain rfl : args = #[v0] := by cases args; simp_all
  obtain ⟨rfl, rfl⟩ := trodVars_none hV
  have k0 := h0
  have lt0 : ∀ x ∈ p0, x.block < W.heap.size := by obtain ⟨m, hm⟩ := k0; exact DataW.trod_lt m _ _ _ hm
  obtain ⟨a0, len0, cap0, rfl⟩ := okWide_slice Try.underlying22 (hval 0 22 v0 rfl rfl)
  have hb0 : BytesOk W W.heap.size (.slice a0 len0 cap0) := by
    obtain ⟨fuel, hf⟩ := h0
    exact bytes_of_ints (open_ints Try.underlying22 Try.underlying5 (by kernel_rfl) hf)
  clear hA0 hval0
  refine (fnDeep_walk (.slice a0 len0 cap0) W hb0).mono fun e W' ⟨he, bel⟩ => ?_
  subst he
  exact ⟨_, rfl, _, _, _, [], _, [], hW', trodAll_mk1 (shut_bool Try.underlying4 _), (trodAll_cons_mk (Below.trod Try.laidOut (by kernel_rfl) (of_decide_eq_true (by kernel_rfl)) k0 bel lt0) trodAll_mk0), rfl, bel.frame _, fun h => by cases h⟩

theorem fnDeep_holds : Rows.FnDeepSaid :=
  OpenClaim.holds_of_wide 13 Try.f13 rfl rfl rfl rfl rfl rfl rfl ⟨rfl, rfl, rfl, rfl, rfl⟩ rfl rfl rfl rfl rfl (by kernel_rfl) Try.func13 (by kernel_rfl)
    (of_decide_eq_true (by kernel_rfl)) (by unfold Func.isWrapper; first | (rw [if_pos (by decide +kernel)]; kernel_rfl) | (rw [if_neg (by decide +kernel)]; exact ⟨rfl, rfl⟩))
    (fun os started H enc _ => fnDeep_lifted os started H enc)
end Go.Proofs.Ythggppjdapmgdaa
