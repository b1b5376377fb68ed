/- The law FnBoxCut: quarters together are the whole: its walk and row. -/
import Derived.Test.YthggppjdapmgdaaBoR1
import Derived.Test.YthggppjdapmgdaaBoM3
import Derived.Test.YthggppjdapmgdaaRowB
namespace Go.Proofs.Ythggppjdapmgdaa
set_option linter.unusedSimpArgs false
set_option linter.unusedVariables false
variable {pv : Int → Int → Int}
open Go.ChangeShapes Go.WideShapes Go.ChangeAt Go.RowKit Go.Joins Eng
theorem BHv {a b c d x y : Int} (h : BV a b c d = true) (hx : -134217728 ≤ x ∧ x ≤ 134217728) (hy : -134217728 ≤ y ∧ y ≤ 134217728) : MK x y 24 = true ∧ BH a b c d (FI pv 4 0 [x, y, 24]) (FI pv 4 1 [x, y, 24]) (FI pv 4 2 [x, y, 24]) = (SW x x a b && SW y y c d) := by
  obtain ⟨m, e1, e2, e3, e4⟩ := l_spec x y 24 (by decide)
  obtain ⟨g1, g2, g3⟩ := l_le x y 24 (by decide)
  have g4 := lS_nonneg x y 24
  have hd : DV (lR x y 24) (lI x y 24) (lS x y 24) = true := (DV_iff _ _ _).2 ⟨by omega, by omega, by omega, by omega, by omega, by omega, e4⟩
  have hm : MK x y 24 = true := Bool.and_eq_true_iff.2 ⟨(MKr_iff _ _ _).2 (by omega), hd⟩
  refine ⟨hm, ?_⟩
  have f0 : FI pv 4 0 [x, y, 24] = lR x y 24 := if_pos hm
  have f1 : FI pv 4 1 [x, y, 24] = lI x y 24 := if_pos hm
  have f2 : FI pv 4 2 [x, y, 24] = lS x y 24 := if_pos hm
  have hs : (24 - lS x y 24).toNat = m := by omega
  rw [f0, f1, f2]
  unfold BH
  rw [h, hd, FL_le _ (by omega) (by omega), CE_le _ (by omega) (by omega), FL_le _ (by omega) (by omega), CE_le _ (by omega) (by omega), hs, ← e2, ← e3]
  rfl
theorem SW1 {x a b : Int} : SW x x a b = (decide (a ≤ x) && decide (x ≤ b)) := rfl
theorem fnBoxCut_walk (v : Value) (w : World) (hv : BytesOk w w.heap.size v) : Calls Try.prog 4 #[v] w (Gives (.bool true) w) := by
  refine dlawP (X := X6) rfl (fun pv w E h1 h2 => X6_ok w E h1 h2) (fuel := 400) (L := 4) (fun pv p len cap hpv => ?_) v w hv
  clear hv
  have hb := bx_bd hpv (p := 0) (by omega) (by omega)
  have den : ∀ kn : Kn, (∀ q ∈ kn, q.1.den (envD pv p len cap) = q.2) → kn.ok (envD pv p len cap) := fun _ h => h
  by_cases hl : 1048576 < (len : Int)
  · refine ⟨kn_bcBig, run_bcBig, den _ ?_⟩
    simp only [kn_bcBig, List.forall_mem_cons, SB.den, SE.den, COp.den, envD, ↓reduceIte]
    simp [hl]
  have f1 : ∀ q, FI pv 1001 0 [q] = bxA pv q := fun _ => rfl
  have f2 : ∀ q, FI pv 1001 1 [q] = bxB pv q := fun _ => rfl
  have f3 : ∀ q, FI pv 1001 2 [q] = bxC pv q := fun _ => rfl
  have f4 : ∀ q, FI pv 1001 3 [q] = bxD pv q := fun _ => rfl
  have f5 : ∀ n d, FI pv 33 0 [n, d] = fl n d := fun _ _ => rfl
  have f6 : ∀ a b c d, FB 2 0 [a, b, c, d] = BV a b c d := fun _ _ _ _ => rfl
  have f7 : ∀ a b c, FB 4 0 [a, b, c] = MK a b c := fun _ _ _ => rfl
  have f8 : ∀ a b c d r i s, FB 8 0 [a, b, c, d, r, i, s] = BH a b c d r i s := fun _ _ _ _ _ _ _ => rfl
  have f9 : ∀ a b c d x y z w, FB 9 0 [a, b, c, d, x, y, z, w] = BW a b c d x y z w := fun _ _ _ _ _ _ _ _ => rfl
  obtain ⟨a, ha⟩ : ∃ a, bxA pv 0 = a := ⟨_, rfl⟩
  obtain ⟨b, hb'⟩ : ∃ b, bxB pv 0 = b := ⟨_, rfl⟩
  obtain ⟨c, hc⟩ : ∃ c, bxC pv 0 = c := ⟨_, rfl⟩
  obtain ⟨d, hd⟩ : ∃ d, bxD pv 0 = d := ⟨_, rfl⟩
  rw [ha, hb', hc, hd] at hb
  obtain ⟨a0, a1, b0, b1, c0, c1, d0, d1⟩ := hb
  have hl' : decide (1048576 < (len : Int)) = false := decide_eq_false hl
  cases h : BV a b c d
  · refine ⟨kn_bcInv, run_bcInv, den _ ?_⟩
    simp only [kn_bcInv, List.forall_mem_cons, SB.den, SE.den, SL.den, COp.den, IOp.den, envD, ↓reduceIte, f1, f2, f3, f4, f6, ha, hb', hc, hd, h, hl']
    simp
  obtain ⟨p1, p2, p3, p4, p5, p6⟩ := (BV_iff _ _ _ _).1 h
  obtain ⟨m, hm⟩ : ∃ m, (a + b) / 2 = m := ⟨_, rfl⟩
  obtain ⟨n, hn⟩ : ∃ n, (c + d) / 2 = n := ⟨_, rfl⟩
  have g1 : IntKind.i64.wrap (a + b) = a + b := wrap_in (by omega) (by omega)
  have g2 : IntKind.i64.wrap (c + d) = c + d := wrap_in (by omega) (by omega)
  have g3 : (a + b).fdiv (2 ^ min (Int.toNat 1) IntKind.i64.bits) = m := by rw [shr_eq _ _ (by decide) (by decide)]; exact hm
  have g4 : (c + d).fdiv (2 ^ min (Int.toNat 1) IntKind.i64.bits) = n := by rw [shr_eq _ _ (by decide) (by decide)]; exact hn
  have g5 : fl (a + b) 2 = m := hm
  have g6 : fl (c + d) 2 = n := hn
  have e1 : FB 102 0 [a + b, 2] = true := by rw [← g1]; exact le2 (by omega)
  have e2 : FB 102 0 [c + d, 2] = true := by rw [← g2]; exact le2 (by omega)
  have w1 : IntKind.i64.wrap (b - a) = b - a := wrap_in (by omega) (by omega)
  have w2 : IntKind.i64.wrap (d - c) = d - c := wrap_in (by omega) (by omega)
  have w3 : (b - a).tdiv 3 = (b - a) / 3 := Int.tdiv_eq_ediv_of_nonneg (by omega)
  have w4 : (d - c).tdiv 3 = (d - c) / 3 := Int.tdiv_eq_ediv_of_nonneg (by omega)
  have w5 : IntKind.i64.wrap ((b - a) / 3) = (b - a) / 3 := wrap_in (by omega) (by omega)
  have w6 : IntKind.i64.wrap ((d - c) / 3) = (d - c) / 3 := wrap_in (by omega) (by omega)
  obtain ⟨u, hu, u1, u2, u3⟩ : ∃ u, a + (b - a) / 3 = u ∧ a ≤ u ∧ u ≤ b ∧ u ≤ m := ⟨_, rfl, by omega, by omega, by omega⟩
  obtain ⟨v, hv, v1, v2, v3⟩ : ∃ v, c + (d - c) / 3 = v ∧ c ≤ v ∧ v ≤ d ∧ v ≤ n := ⟨_, rfl, by omega, by omega, by omega⟩
  have w7 : IntKind.i64.wrap u = u := wrap_in (by omega) (by omega)
  have w8 : IntKind.i64.wrap v = v := wrap_in (by omega) (by omega)
  have m1 : a ≤ m := by omega
  have m2 : m ≤ b := by omega
  have n1 : c ≤ n := by omega
  have n2 : n ≤ d := by omega
  have q0 : BV a m c n = true := (BV_iff _ _ _ _).2 (by omega)
  have q1 : BV m b c n = true := (BV_iff _ _ _ _).2 (by omega)
  have q2 : BV a m n d = true := (BV_iff _ _ _ _).2 (by omega)
  have q3 : BV m b n d = true := (BV_iff _ _ _ _).2 (by omega)
  have s0 : BW a m c n a b c d = true := by unfold BW; rw [q0, h]; simp [SW, m2, n2]
  have s1 : BW m b c n a b c d = true := by unfold BW; rw [q1, h]; simp [SW, m1, n2]
  have s2 : BW a m n d a b c d = true := by unfold BW; rw [q2, h]; simp [SW, m2, n1]
  have s3 : BW m b n d a b c d = true := by unfold BW; rw [q3, h]; simp [SW, m1, n1]
  have xa : -134217728 ≤ a ∧ a ≤ 134217728 := by omega
  have xb : -134217728 ≤ b ∧ b ≤ 134217728 := by omega
  have xu : -134217728 ≤ u ∧ u ≤ 134217728 := by omega
  have yc : -134217728 ≤ c ∧ c ≤ 134217728 := by omega
  have yd : -134217728 ≤ d ∧ d ≤ 134217728 := by omega
  have yv : -134217728 ≤ v ∧ v ≤ 134217728 := by omega
  have k0 := BHv (pv := pv) q0 xa yc
  have k1 := BHv (pv := pv) q0 xa yd
  have k2 := BHv (pv := pv) q0 xa yv
  have k3 := BHv (pv := pv) q0 xb yc
  have k4 := BHv (pv := pv) q0 xb yd
  have k5 := BHv (pv := pv) q0 xb yv
  have k6 := BHv (pv := pv) q0 xu yc
  have k7 := BHv (pv := pv) q0 xu yd
  have k8 := BHv (pv := pv) q0 xu yv
  have z1 : ∀ {x y : Int} (_ : -134217728 ≤ x ∧ x ≤ 134217728) (_ : -134217728 ≤ y ∧ y ≤ 134217728), BH m b c n (FI pv 4 0 [x, y, 24]) (FI pv 4 1 [x, y, 24]) (FI pv 4 2 [x, y, 24]) = (SW x x m b && SW y y c n) := fun hx hy => (BHv q1 hx hy).2
  have z2 : ∀ {x y : Int} (_ : -134217728 ≤ x ∧ x ≤ 134217728) (_ : -134217728 ≤ y ∧ y ≤ 134217728), BH a m n d (FI pv 4 0 [x, y, 24]) (FI pv 4 1 [x, y, 24]) (FI pv 4 2 [x, y, 24]) = (SW x x a m && SW y y n d) := fun hx hy => (BHv q2 hx hy).2
  have z3 : ∀ {x y : Int} (_ : -134217728 ≤ x ∧ x ≤ 134217728) (_ : -134217728 ≤ y ∧ y ≤ 134217728), BH m b n d (FI pv 4 0 [x, y, 24]) (FI pv 4 1 [x, y, 24]) (FI pv 4 2 [x, y, 24]) = (SW x x m b && SW y y n d) := fun hx hy => (BHv q3 hx hy).2
  have t1 : SW a a a m = true := by simp [SW1, m1]
  have t2 : SW u u a m = true := by simp [SW1, u1, u3]
  have t3 : SW b b m b = true := by simp [SW1, m2]
  have t4 : SW c c c n = true := by simp [SW1, n1]
  have t5 : SW v v c n = true := by simp [SW1, v1, v3]
  have t6 : SW d d n d = true := by simp [SW1, n2]
  by_cases hab : a = b <;> by_cases hcd : c = d
  · have t7 : SW b b a m = true := by simp [SW1]; omega
    have t8 : SW d d c n = true := by simp [SW1]; omega
    refine ⟨kn_bcTT, run_bcTT, den _ ?_⟩
    simp only [kn_bcTT, List.forall_mem_cons, SB.den, SE.den, SL.den, COp.den, IOp.den, envD, ↓reduceIte, f1, f2, f3, f4, f5, f6, f7, f8, f9, ha, hb', hc, hd, h, hl', g1, g2, g3, g4, g5, g6, e1, e2, w1, w2, w3, w4, w5, w6, w7, w8, hu, hv, k0.1, k1.1, k2.1, k3.1, k4.1, k5.1, k6.1, k7.1, k8.1, k0.2, k1.2, k2.2, k3.2, k4.2, k5.2, k6.2, k7.2, k8.2, s0, s1, s2, s3, t1, t2, t3, t4, t5, t6, t7, t8]
    simp
  · have t7 : SW b b a m = true := by simp [SW1]; omega
    have t8 : SW d d c n = false := by simp [SW1]; omega
    refine ⟨kn_bcTF, run_bcTF, den _ ?_⟩
    simp only [kn_bcTF, List.forall_mem_cons, SB.den, SE.den, SL.den, COp.den, IOp.den, envD, ↓reduceIte, f1, f2, f3, f4, f5, f6, f7, f8, f9, ha, hb', hc, hd, h, hl', g1, g2, g3, g4, g5, g6, e1, e2, w1, w2, w3, w4, w5, w6, w7, w8, hu, hv, k0.1, k1.1, k2.1, k3.1, k4.1, k5.1, k6.1, k7.1, k8.1, k0.2, k1.2, k2.2, k3.2, k4.2, k5.2, k6.2, k7.2, k8.2, z1 xa yd, z1 xb yd, z1 xu yd, z2 xa yd, z2 xb yd, z2 xu yd, s0, s1, s2, s3, t1, t2, t3, t4, t5, t6, t7, t8]
    simp
  · have t7 : SW b b a m = false := by simp [SW1]; omega
    have t8 : SW d d c n = true := by simp [SW1]; omega
    refine ⟨kn_bcFT, run_bcFT, den _ ?_⟩
    simp only [kn_bcFT, List.forall_mem_cons, SB.den, SE.den, SL.den, COp.den, IOp.den, envD, ↓reduceIte, f1, f2, f3, f4, f5, f6, f7, f8, f9, ha, hb', hc, hd, h, hl', g1, g2, g3, g4, g5, g6, e1, e2, w1, w2, w3, w4, w5, w6, w7, w8, hu, hv, k0.1, k1.1, k2.1, k3.1, k4.1, k5.1, k6.1, k7.1, k8.1, k0.2, k1.2, k2.2, k3.2, k4.2, k5.2, k6.2, k7.2, k8.2, z1 xb yc, z1 xb yd, z1 xb yv, s0, s1, s2, s3, t1, t2, t3, t4, t5, t6, t7, t8]
    simp
  · have t7 : SW b b a m = false := by simp [SW1]; omega
    have t8 : SW d d c n = false := by simp [SW1]; omega
    refine ⟨kn_bcFF, run_bcFF, den _ ?_⟩
    simp only [kn_bcFF, List.forall_mem_cons, SB.den, SE.den, SL.den, COp.den, IOp.den, envD, ↓reduceIte, f1, f2, f3, f4, f5, f6, f7, f8, f9, ha, hb', hc, hd, h, hl', g1, g2, g3, g4, g5, g6, e1, e2, w1, w2, w3, w4, w5, w6, w7, w8, hu, hv, k0.1, k1.1, k2.1, k3.1, k4.1, k5.1, k6.1, k7.1, k8.1, k0.2, k1.2, k2.2, k3.2, k4.2, k5.2, k6.2, k7.2, k8.2, z1 xa yd, z1 xb yc, z1 xb yd, z1 xb yv, z1 xu yd, z2 xa yd, z2 xb yd, z2 xu yd, z3 xb yd, s0, s1, s2, s3, t1, t2, t3, t4, t5, t6, t7, t8]
    simp
set_option maxRecDepth 100000 in
theorem fnBoxCut_lifted (os : Os) (started : os.Started) (H : Type) (enc : TypeId × Value → H) :
    ReturnsInHanded {} Try.checked os 4 .any (Rows.fnBoxCutSpec.pre6 enc Try.prog Try.f4 Rows.fnBoxCutRow.domain false) (Rows.fnBoxCutSpec.post enc Try.prog Try.f4 false true false false) := by
  refine returnsInHanded_of_change (C := Try.checked) Try.own started (by kernel_rfl) Try.func4
    (ChangeSpec.witness6 (enc := enc) (C := Try.checked) false ⟨#[], #[.slice none 0 0], []⟩ 8 (by kernel_rfl) (by kernel_rfl) (by kernel_rfl) (by kernel_rfl)) ?_
  intro W base args ds gs before hval0 hW hcnd _
  have hval : ∀ (j : Nat) t v, Try.f4.params[j]? = some t → args[j]? = some v → Value.okWide Try.prog W .any base t v := hval0
  have hW' := hW
  obtain ⟨p, q, hA0, hV, rfl, hfz, hnd⟩ := hW
  have hA : DataW.TrodAll enc Try.prog W 0 (fun _ => true) true Try.f4.params.toList args.toList ds p := hA0
  rw [Try.params4] at hA hval
  obtain ⟨v0, vs0, d0, ds0, p0, q0, hargs, rfl, rfl, h0, r0⟩ := trodAll_cons hA
  obtain ⟨rfl, rfl, rfl⟩ := trodAll_nil r0
  obtain rfl : args = #[v0] := by cases args; simp_all
  obtain ⟨rfl, rfl⟩ := trodVars_none hV
  have k0 := h0
  have lt0 : ∀ x ∈ p0, x.block < W.heap.size := by obtain ⟨m, hm⟩ := k0; exact DataW.trod_lt m _ _ _ hm
  obtain ⟨a0, len0, cap0, rfl⟩ := okWide_slice Try.underlying22 (hval 0 22 v0 rfl rfl)
  have hb0 : BytesOk W W.heap.size (.slice a0 len0 cap0) := by
    obtain ⟨fuel, hf⟩ := h0
    exact bytes_of_ints (open_ints Try.underlying22 Try.underlying5 (by kernel_rfl) hf)
  clear hA0 hval0
  refine (fnBoxCut_walk (.slice a0 len0 cap0) W hb0).mono fun e W' ⟨he, bel⟩ => ?_
  subst he
  exact ⟨_, rfl, _, _, _, [], _, [], hW', trodAll_mk1 (shut_bool Try.underlying4 _), (trodAll_cons_mk (Below.trod Try.laidOut (by kernel_rfl) (of_decide_eq_true (by kernel_rfl)) k0 bel lt0) trodAll_mk0), rfl, bel.frame _, fun h => by cases h⟩

theorem fnBoxCut_holds : Rows.FnBoxCutSaid :=
  OpenClaim.holds_of_wide 4 Try.f4 rfl rfl rfl rfl rfl rfl rfl ⟨rfl, rfl, rfl, rfl, rfl⟩ rfl rfl rfl rfl rfl (by kernel_rfl) Try.func4 (by kernel_rfl)
    (of_decide_eq_true (by kernel_rfl)) (by unfold Func.isWrapper; first | (rw [if_pos (by decide +kernel)]; kernel_rfl) | (rw [if_neg (by decide +kernel)]; exact ⟨rfl, rfl⟩))
    (fun os started H enc _ => fnBoxCut_lifted os started H enc)
end Go.Proofs.Ythggppjdapmgdaa
