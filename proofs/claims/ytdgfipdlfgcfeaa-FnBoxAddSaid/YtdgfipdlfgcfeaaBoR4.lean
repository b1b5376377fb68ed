/- The law FnBoxAdd: sums are in sums of boxes: its walk and row. -/
import Derived.Test.YtdgfipdlfgcfeaaBoR3
import Derived.Test.YtdgfipdlfgcfeaaBoM5
import Derived.Test.YtdgfipdlfgcfeaaRowB
namespace Go.Proofs.Ytdgfipdlfgcfeaa
set_option linter.unusedSimpArgs false
set_option linter.unusedVariables false
variable {pv : Int → Int → Int}
open Go.ChangeShapes Go.WideShapes Go.ChangeAt Go.RowKit Go.Joins Eng
theorem made4 {x y : Int} (hx : -134217728 ≤ x ∧ x ≤ 134217728) (hy : -134217728 ≤ y ∧ y ≤ 134217728) : MK x y 24 = true ∧ FI pv 4 0 [x, y, 24] = lR x y 24 ∧ FI pv 4 1 [x, y, 24] = lI x y 24 ∧ FI pv 4 2 [x, y, 24] = lS x y 24 := by
  have hm : MK x y 24 = true := Bool.and_eq_true_iff.2 ⟨(MKr_iff _ _ _).2 (by omega), made_dv hx hy⟩
  exact ⟨hm, if_pos hm, if_pos hm, if_pos hm⟩
theorem ADB_comm (a b c d x y z u : Int) : ADB x y z u a b c d = ADB a b c d x y z u := by
  unfold ADB; rw [Bool.and_comm (BV x y z u), Int.add_comm x, Int.add_comm y, Int.add_comm z, Int.add_comm u]
theorem add7 {a b c d x y z u : Int} (h : ADB a b c d x y z u = true) : FI pv 7 0 [a, b, c, d, x, y, z, u] = a + x ∧ FI pv 7 1 [a, b, c, d, x, y, z, u] = b + y ∧ FI pv 7 2 [a, b, c, d, x, y, z, u] = c + z ∧ FI pv 7 3 [a, b, c, d, x, y, z, u] = d + u := ⟨if_pos h, if_pos h, if_pos h, if_pos h⟩
set_option maxHeartbeats 1000000 in
theorem fnBoxAdd_walk (v : Value) (w : World) (hv : BytesOk w w.heap.size v) : Calls Try.prog 14 #[v] w (Gives (.bool true) w) := by
  refine dlawP' (X := X7) rfl (fun pv w E h1 h2 => X7_ok w E h1 h2) (fuel := 400) (L := 14) (fun pv p len cap hpv => ?_) v w hv
  clear hv
  have hq : 0 ≤ bxP pv 0 ∧ bxP pv 0 ≤ 5 := by unfold bxP; split <;> omega
  have hb := bx_bd hpv (p := 0) (by omega) (by omega)
  have hb2 := bx_bd hpv (p := bxP pv 0) (by omega) (by omega)
  have den : ∀ kn : Kn, (∀ q ∈ kn, q.1.den (envD pv p len cap) = q.2) → kn.ok (envD pv p len cap) := fun _ h => h
  by_cases hl : 1048576 < (len : Int)
  · refine ⟨kn_baBig, _, run_baBig, den _ ?_, rfl⟩
    simp only [kn_baBig, List.forall_mem_cons, SB.den, SE.den, COp.den, envD, ↓reduceIte]
    simp [hl]
  have f1 : ∀ q, FI pv 1001 0 [q] = bxA pv q := fun _ => rfl
  have f2 : ∀ q, FI pv 1001 1 [q] = bxB pv q := fun _ => rfl
  have f3 : ∀ q, FI pv 1001 2 [q] = bxC pv q := fun _ => rfl
  have f4 : ∀ q, FI pv 1001 3 [q] = bxD pv q := fun _ => rfl
  have f5 : ∀ q, FI pv 1001 100 [q] = bxP pv q := fun _ => rfl
  have f6 : ∀ a b c d, FB 2 0 [a, b, c, d] = BV a b c d := fun _ _ _ _ => rfl
  have f7 : ∀ a b c, FB 4 0 [a, b, c] = MK a b c := fun _ _ _ => rfl
  have f8 : ∀ a b c d r i s, FB 8 0 [a, b, c, d, r, i, s] = BH a b c d r i s := fun _ _ _ _ _ _ _ => rfl
  have f9 : ∀ a b c d e f, FB 5 0 [a, b, c, d, e, f] = ADD a b c d e f := fun _ _ _ _ _ _ => rfl
  have f10 : ∀ a b c d x y z w, FB 7 0 [a, b, c, d, x, y, z, w] = ADB a b c d x y z w := fun _ _ _ _ _ _ _ _ => rfl
  obtain ⟨a, ha⟩ : ∃ y, bxA pv 0 = y := ⟨_, rfl⟩
  obtain ⟨b, hbb⟩ : ∃ y, bxB pv 0 = y := ⟨_, rfl⟩
  obtain ⟨c, hc⟩ : ∃ y, bxC pv 0 = y := ⟨_, rfl⟩
  obtain ⟨d, hd⟩ : ∃ y, bxD pv 0 = y := ⟨_, rfl⟩
  obtain ⟨a', ha'⟩ : ∃ y, bxA pv (bxP pv 0) = y := ⟨_, rfl⟩
  obtain ⟨b', hb'⟩ : ∃ y, bxB pv (bxP pv 0) = y := ⟨_, rfl⟩
  obtain ⟨c', hc'⟩ : ∃ y, bxC pv (bxP pv 0) = y := ⟨_, rfl⟩
  obtain ⟨d', hd'⟩ : ∃ y, bxD pv (bxP pv 0) = y := ⟨_, rfl⟩
  rw [ha, hbb, hc, hd] at hb
  rw [ha', hb', hc', hd'] at hb2
  obtain ⟨a0, a1, b0, b1, c0, c1, d0, d1⟩ := hb
  obtain ⟨a0', a1', b0', b1', c0', c1', d0', d1'⟩ := hb2
  have hl' : decide (1048576 < (len : Int)) = false := decide_eq_false hl
  cases h : ADB a b c d a' b' c' d'
  · refine ⟨kn_baInv, _, run_baInv, den _ ?_, rfl⟩
    simp only [kn_baInv, List.forall_mem_cons, SB.den, SE.den, SL.den, COp.den, IOp.den, envD, ↓reduceIte, f1, f2, f3, f4, f5, f10, ha, hbb, hc, hd, ha', hb', hc', hd', h, hl']
    simp
  have hs := (ADB_comm a b c d a' b' c' d').trans h
  obtain ⟨o0, o1, o2, o3⟩ := add7 (pv := pv) h
  obtain ⟨i0, i1, i2, i3⟩ := add7 (pv := pv) hs
  have hv1 : BV a b c d = true := (Bool.and_eq_true_iff.1 (Bool.and_eq_true_iff.1 h).1).1
  have hv2 : BV a' b' c' d' = true := (Bool.and_eq_true_iff.1 (Bool.and_eq_true_iff.1 h).1).2
  have hv3 : BV (a + a') (b + b') (c + c') (d + d') = true := (Bool.and_eq_true_iff.1 h).2
  obtain ⟨p1, p2, p3, p4, p5, p6⟩ := (BV_iff _ _ _ _).1 hv1
  obtain ⟨q1, q2, q3, q4, q5, q6⟩ := (BV_iff _ _ _ _).1 hv2
  have w1a : IntKind.i64.wrap (b - a) = b - a := wrap_in (by omega) (by omega)
  have w2a : (b - a).tdiv 3 = (b - a) / 3 := Int.tdiv_eq_ediv_of_nonneg (by omega)
  have w3a : IntKind.i64.wrap ((b - a) / 3) = (b - a) / 3 := wrap_in (by omega) (by omega)
  obtain ⟨u, hu, u1, u2⟩ : ∃ y, a + (b - a) / 3 = y ∧ a ≤ y ∧ y ≤ b := ⟨_, rfl, by omega, by omega⟩
  have w4a : IntKind.i64.wrap u = u := wrap_in (by omega) (by omega)
  have w1c : IntKind.i64.wrap (d - c) = d - c := wrap_in (by omega) (by omega)
  have w2c : (d - c).tdiv 3 = (d - c) / 3 := Int.tdiv_eq_ediv_of_nonneg (by omega)
  have w3c : IntKind.i64.wrap ((d - c) / 3) = (d - c) / 3 := wrap_in (by omega) (by omega)
  obtain ⟨v, hv, v1, v2⟩ : ∃ y, c + (d - c) / 3 = y ∧ c ≤ y ∧ y ≤ d := ⟨_, rfl, by omega, by omega⟩
  have w4c : IntKind.i64.wrap v = v := wrap_in (by omega) (by omega)
  have w1ap : IntKind.i64.wrap (b' - a') = b' - a' := wrap_in (by omega) (by omega)
  have w2ap : (b' - a').tdiv 3 = (b' - a') / 3 := Int.tdiv_eq_ediv_of_nonneg (by omega)
  have w3ap : IntKind.i64.wrap ((b' - a') / 3) = (b' - a') / 3 := wrap_in (by omega) (by omega)
  obtain ⟨u', hu', u'1, u'2⟩ : ∃ y, a' + (b' - a') / 3 = y ∧ a' ≤ y ∧ y ≤ b' := ⟨_, rfl, by omega, by omega⟩
  have w4ap : IntKind.i64.wrap u' = u' := wrap_in (by omega) (by omega)
  have w1cp : IntKind.i64.wrap (d' - c') = d' - c' := wrap_in (by omega) (by omega)
  have w2cp : (d' - c').tdiv 3 = (d' - c') / 3 := Int.tdiv_eq_ediv_of_nonneg (by omega)
  have w3cp : IntKind.i64.wrap ((d' - c') / 3) = (d' - c') / 3 := wrap_in (by omega) (by omega)
  obtain ⟨v', hv', v'1, v'2⟩ : ∃ y, c' + (d' - c') / 3 = y ∧ c' ≤ y ∧ y ≤ d' := ⟨_, rfl, by omega, by omega⟩
  have w4cp : IntKind.i64.wrap v' = v' := wrap_in (by omega) (by omega)
  have Ba : -134217728 ≤ a ∧ a ≤ 134217728 := by omega
  have Bb : -134217728 ≤ b ∧ b ≤ 134217728 := by omega
  have Bu : -134217728 ≤ u ∧ u ≤ 134217728 := by omega
  have Bc : -134217728 ≤ c ∧ c ≤ 134217728 := by omega
  have Bd : -134217728 ≤ d ∧ d ≤ 134217728 := by omega
  have Bv : -134217728 ≤ v ∧ v ≤ 134217728 := by omega
  have Ba' : -134217728 ≤ a' ∧ a' ≤ 134217728 := by omega
  have Bb' : -134217728 ≤ b' ∧ b' ≤ 134217728 := by omega
  have Bu' : -134217728 ≤ u' ∧ u' ≤ 134217728 := by omega
  have Bc' : -134217728 ≤ c' ∧ c' ≤ 134217728 := by omega
  have Bd' : -134217728 ≤ d' ∧ d' ≤ 134217728 := by omega
  have Bv' : -134217728 ≤ v' ∧ v' ≤ 134217728 := by omega
  obtain ⟨M0, N0, O0, P0⟩ := made4 (pv := pv) Ba Bc
  obtain ⟨M1, N1, O1, P1⟩ := made4 (pv := pv) Ba Bd
  obtain ⟨M2, N2, O2, P2⟩ := made4 (pv := pv) Ba Bv
  obtain ⟨M3, N3, O3, P3⟩ := made4 (pv := pv) Bb Bc
  obtain ⟨M4, N4, O4, P4⟩ := made4 (pv := pv) Bb Bd
  obtain ⟨M5, N5, O5, P5⟩ := made4 (pv := pv) Bb Bv
  obtain ⟨M6, N6, O6, P6⟩ := made4 (pv := pv) Bu Bc
  obtain ⟨M7, N7, O7, P7⟩ := made4 (pv := pv) Bu Bd
  obtain ⟨M8, N8, O8, P8⟩ := made4 (pv := pv) Bu Bv
  obtain ⟨M9, N9, O9, P9⟩ := made4 (pv := pv) Ba' Bc'
  obtain ⟨M10, N10, O10, P10⟩ := made4 (pv := pv) Ba' Bd'
  obtain ⟨M11, N11, O11, P11⟩ := made4 (pv := pv) Ba' Bv'
  obtain ⟨M12, N12, O12, P12⟩ := made4 (pv := pv) Bb' Bc'
  obtain ⟨M13, N13, O13, P13⟩ := made4 (pv := pv) Bb' Bd'
  obtain ⟨M14, N14, O14, P14⟩ := made4 (pv := pv) Bb' Bv'
  obtain ⟨M15, N15, O15, P15⟩ := made4 (pv := pv) Bu' Bc'
  obtain ⟨M16, N16, O16, P16⟩ := made4 (pv := pv) Bu' Bd'
  obtain ⟨M17, N17, O17, P17⟩ := made4 (pv := pv) Bu' Bv'
  obtain ⟨A0, C0⟩ := add_made (pv := pv) Ba Bc Ba' Bc'
  have D0 := C0 _ _ _ _ hv3
  obtain ⟨A1, C1⟩ := add_made (pv := pv) Ba Bd Ba' Bd'
  have D1 := C1 _ _ _ _ hv3
  obtain ⟨A2, C2⟩ := add_made (pv := pv) Ba Bv Ba' Bv'
  have D2 := C2 _ _ _ _ hv3
  obtain ⟨A3, C3⟩ := add_made (pv := pv) Bb Bc Bb' Bc'
  have D3 := C3 _ _ _ _ hv3
  obtain ⟨A4, C4⟩ := add_made (pv := pv) Bb Bd Bb' Bd'
  have D4 := C4 _ _ _ _ hv3
  obtain ⟨A5, C5⟩ := add_made (pv := pv) Bb Bv Bb' Bv'
  have D5 := C5 _ _ _ _ hv3
  obtain ⟨A6, C6⟩ := add_made (pv := pv) Bu Bc Bu' Bc'
  have D6 := C6 _ _ _ _ hv3
  obtain ⟨A7, C7⟩ := add_made (pv := pv) Bu Bd Bu' Bd'
  have D7 := C7 _ _ _ _ hv3
  obtain ⟨A8, C8⟩ := add_made (pv := pv) Bu Bv Bu' Bv'
  have D8 := C8 _ _ _ _ hv3
  have S0 : SW (a + a') (a + a') (a + a') (b + b') = true := (SW_iff _ _ _ _).2 (by omega)
  have T0 : SW (c + c') (c + c') (c + c') (d + d') = true := (SW_iff _ _ _ _).2 (by omega)
  have S1 : SW (b + b') (b + b') (a + a') (b + b') = true := (SW_iff _ _ _ _).2 (by omega)
  have T1 : SW (d + d') (d + d') (c + c') (d + d') = true := (SW_iff _ _ _ _).2 (by omega)
  have S2 : SW (u + u') (u + u') (a + a') (b + b') = true := (SW_iff _ _ _ _).2 (by omega)
  have T2 : SW (v + v') (v + v') (c + c') (d + d') = true := (SW_iff _ _ _ _).2 (by omega)
  refine ⟨kn_baYes, _, run_baYes, den _ ?_, ?_⟩
  rotate_left
  · simp only [SVal.den, CV.den, At.den, SB.den, SE.den, SL.den, COp.den, envD, f1, f2, f3, f4, f5, ha, hbb, hc, hd, ha', hb', hc', hd', o0, o1, o2, o3, i0, i1, i2, i3]
    simp [Int.add_comm]
  simp only [kn_baYes, List.forall_mem_cons, SB.den, SE.den, SL.den, COp.den, IOp.den, envD, ↓reduceIte, f1, f2, f3, f4, f5, f6, f7, f8, f9, f10, ha, hbb, hc, hd, ha', hb', hc', hd', h, hs, hl', o0, o1, o2, o3, i0, i1, i2, i3, hv1, hv2, hv3, w1a, w2a, w3a, hu, w4a, w1c, w2c, w3c, hv, w4c, w1ap, w2ap, w3ap, hu', w4ap, w1cp, w2cp, w3cp, hv', w4cp, M0, N0, O0, P0, M1, N1, O1, P1, M2, N2, O2, P2, M3, N3, O3, P3, M4, N4, O4, P4, M5, N5, O5, P5, M6, N6, O6, P6, M7, N7, O7, P7, M8, N8, O8, P8, M9, N9, O9, P9, M10, N10, O10, P10, M11, N11, O11, P11, M12, N12, O12, P12, M13, N13, O13, P13, M14, N14, O14, P14, M15, N15, O15, P15, M16, N16, O16, P16, M17, N17, O17, P17, A0, D0, A1, D1, A2, D2, A3, D3, A4, D4, A5, D5, A6, D6, A7, D7, A8, D8, S0, T0, S1, T1, S2, T2]
  simp [Int.add_comm]
set_option maxRecDepth 100000 in
theorem fnBoxAdd_lifted (os : Os) (started : os.Started) (H : Type) (enc : TypeId × Value → H) :
    ReturnsInHanded {} Try.checked os 14 .any (Rows.fnBoxAddSpec.pre6 enc Try.prog Try.f14 Rows.fnBoxAddRow.domain false) (Rows.fnBoxAddSpec.post enc Try.prog Try.f14 false true false false) := by
  refine returnsInHanded_of_change (C := Try.checked) Try.own started (by kernel_rfl) Try.func14
    (ChangeSpec.witness6 (enc := enc) (C := Try.checked) false ⟨#[], #[.slice none 0 0], []⟩ 8 (by kernel_rfl) (by kernel_rfl) (by kernel_rfl) (by kernel_rfl)) ?_
  intro W base args ds gs before hval0 hW hcnd _
  have hval : ∀ (j : Nat) t v, Try.f14.params[j]? = some t → args[j]? = some v → Value.okWide Try.prog W .any base t v := hval0
  have hW' := hW
  obtain ⟨p, q, hA0, hV, rfl, hfz, hnd⟩ := hW
  have hA : DataW.TrodAll enc Try.prog W 0 (fun _ => true) true Try.f14.params.toList args.toList ds p := hA0
  rw [Try.params14] at hA hval
  obtain ⟨v0, vs0, d0, ds0, p0, q0, hargs, rfl, rfl, h0, r0⟩ := trodAll_cons hA
  obtain ⟨rfl, rfl, rfl⟩ := trodAll_nil r0
  obtain rfl : args = #[v0] := by cases args; simp_all
  obtain ⟨rfl, rfl⟩ := trodVars_none hV
  have k0 := h0
  have lt0 : ∀ x ∈ p0, x.block < W.heap.size := by obtain ⟨m, hm⟩ := k0; exact DataW.trod_lt m _ _ _ hm
  obtain ⟨a0, len0, cap0, rfl⟩ := okWide_slice Try.underlying35 (hval 0 35 v0 rfl rfl)
  have hb0 : BytesOk W W.heap.size (.slice a0 len0 cap0) := by
    obtain ⟨fuel, hf⟩ := h0
    exact bytes_of_ints (open_ints Try.underlying35 Try.underlying5 (by kernel_rfl) hf)
  clear hA0 hval0
  refine (fnBoxAdd_walk (.slice a0 len0 cap0) W hb0).mono fun e W' ⟨he, bel⟩ => ?_
  subst he
  exact ⟨_, rfl, _, _, _, [], _, [], hW', trodAll_mk1 (shut_bool Try.underlying4 _), (trodAll_cons_mk (Below.trod Try.laidOut (by kernel_rfl) (of_decide_eq_true (by kernel_rfl)) k0 bel lt0) trodAll_mk0), rfl, bel.frame _, fun h => by cases h⟩

theorem fnBoxAdd_holds : Rows.FnBoxAddSaid :=
  OpenClaim.holds_of_wide 14 Try.f14 rfl rfl rfl rfl rfl rfl rfl ⟨rfl, rfl, rfl, rfl, rfl⟩ rfl rfl rfl rfl rfl (by kernel_rfl) Try.func14 (by kernel_rfl)
    (of_decide_eq_true (by kernel_rfl)) (by unfold Func.isWrapper; first | (rw [if_pos (by decide +kernel)]; kernel_rfl) | (rw [if_neg (by decide +kernel)]; exact ⟨rfl, rfl⟩))
    (fun os started H enc _ => fnBoxAdd_lifted os started H enc)
end Go.Proofs.Ytdgfipdlfgcfeaa
