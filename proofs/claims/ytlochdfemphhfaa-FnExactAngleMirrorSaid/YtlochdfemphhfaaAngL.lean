/- The laws on angles that compare the program with the reference: their walks and rows. -/
import Derived.Test.YtlochdfemphhfaaAngW2
import Derived.Test.YtlochdfemphhfaaRow
namespace Go.Proofs.Ytlochdfemphhfaa
open Go.ChangeShapes Go.WideShapes Go.ChangeAt Go.RowKit Go.Joins

theorem fnExactAngleValid_walk (n d : Int) (w : World) (_hn : I64 n) (_hd : I64 d) :
    Calls Try.prog 3 #[.agg #[.int .i64 n, .int .i64 d]] w (Gives (.bool true) w) := by
  go_enter Try.func3, Try.ntmps3
  go_wp2_with (first | (go_at_call 11; refine (toAngle_any n d _).mono ?_; rintro e w1 ⟨rfl, hb⟩; have hB : Below w.heap.size w w1 := Below.trans (by go_grown) (hb.mono (by go_size)); have hz := hB.size; have hz2 := hb.size; (try simp at hz2); have hs0 : w.heap.size < w1.heap.size := (by omega); obtain ⟨hc, hf⟩ := bcell hb; clear hb) | (go_at_call 10; refine (spec_AngleValid_any n d _).mono ?_; rintro e w1 ⟨rfl, hb⟩; have hB : Below w.heap.size w w1 := Below.trans (by go_grown) (hb.mono (by go_size)); have hz := hB.size; have hz2 := hb.size; (try simp at hz2); have hs0 : w.heap.size < w1.heap.size := (by omega); obtain ⟨hc, hf⟩ := bcell hb; clear hb) | (go_at_call 12; refine (impl_AngleValid_any n d _).mono ?_; rintro e w1 ⟨rfl, hb⟩; have hB : Below w.heap.size w w1 := Below.trans (by go_grown) (hb.mono (by go_size)); have hz := hB.size; have hz2 := hb.size; (try simp at hz2); have hs0 : w.heap.size < w1.heap.size := (by omega); obtain ⟨hc, hf⟩ := bcell hb; clear hb))
  go_returns
  exact ⟨rfl, hB⟩
set_option maxRecDepth 100000 in
theorem fnExactAngleValid_lifted (os : Os) (started : os.Started) (H : Type) (enc : TypeId × Value → H) :
    ReturnsInHanded {} Try.checked os 3 .any (Rows.fnExactAngleValidSpec.pre6 enc Try.prog Try.f3 Rows.fnExactAngleValidRow.domain false) (Rows.fnExactAngleValidSpec.post enc Try.prog Try.f3 false true false false) := by
  refine returnsInHanded_of_change (C := Try.checked) Try.own started (by kernel_rfl) Try.func3
    (ChangeSpec.witness6 (enc := enc) (C := Try.checked) false ⟨#[], #[.agg #[.int .i64 0, .int .i64 0]], []⟩ 8 (by kernel_rfl) (by kernel_rfl) (by kernel_rfl) (by kernel_rfl)) ?_
  intro W base args ds gs before hval0 hW hcnd _
  have hval : ∀ (j : Nat) t v, Try.f3.params[j]? = some t → args[j]? = some v → Value.okWide Try.prog W .any base t v := hval0
  have hW' := hW
  obtain ⟨p, q, hA0, hV, rfl, hfz, hnd⟩ := hW
  have hA : DataW.TrodAll enc Try.prog W 0 (fun _ => true) true Try.f3.params.toList args.toList ds p := hA0
  rw [Try.params3] at hA hval
  obtain ⟨v0, vs0, d0, ds0, p0, q0, hargs, rfl, rfl, h0, r0⟩ := trodAll_cons hA
  obtain ⟨rfl, rfl, rfl⟩ := trodAll_nil r0
  obtain rfl : args = #[v0] := by cases args; simp_all
  obtain ⟨rfl, rfl⟩ := trodVars_none hV
  have k0 := h0
  have lt0 : ∀ x ∈ p0, x.block < W.heap.size := by obtain ⟨m, hm⟩ := k0; exact DataW.trod_lt m _ _ _ hm
  obtain ⟨c0_0, c0_1, y0_0, y0_1, m0, rfl, rfl, rfl, hy0_0, hy0_1⟩ := open_agg2 Try.underlying23 (by kernel_rfl) (show Try.prog.cellsOf 23 = 2 by kernel_rfl) (hval 0 23 v0 rfl rfl) h0
  obtain ⟨x0_0, ex0_0, rfl, wx0_0⟩ := DataW.trod_int Try.underlying3 hy0_0
  simp at ex0_0
  subst ex0_0
  obtain ⟨x0_1, ex0_1, rfl, wx0_1⟩ := DataW.trod_int Try.underlying3 hy0_1
  simp at ex0_1
  subst ex0_1
  clear hA0 hval0
  refine (fnExactAngleValid_walk x0_0 x0_1 W (i64_of_wf wx0_0) (i64_of_wf wx0_1)).mono fun e W' ⟨he, bel⟩ => ?_
  subst he
  exact ⟨_, rfl, _, _, _, [], _, [], hW', trodAll_mk1 (shut_bool Try.underlying4 _), (trodAll_cons_mk (Below.trod Try.laidOut (by kernel_rfl) (of_decide_eq_true (by kernel_rfl)) k0 bel lt0) trodAll_mk0), rfl, bel.frame _, fun h => by cases h⟩

theorem fnExactAngleValid_holds : Rows.FnExactAngleValidSaid :=
  OpenClaim.holds_of_wide 3 Try.f3 rfl rfl rfl rfl rfl rfl rfl ⟨rfl, rfl, rfl, rfl, rfl⟩ rfl rfl rfl rfl rfl (by kernel_rfl) Try.func3 (by kernel_rfl)
    (of_decide_eq_true (by kernel_rfl)) (by unfold Func.isWrapper; first | (rw [if_pos (by decide +kernel)]; kernel_rfl) | (rw [if_neg (by decide +kernel)]; exact ⟨rfl, rfl⟩))
    (fun os started H enc _ => fnExactAngleValid_lifted os started H enc)

theorem fnExactAngleMake_walk (n d : Int) (w : World) (_hn : I64 n) (_hd : I64 d) :
    Calls Try.prog 4 #[.int .i64 n, .int .i64 d] w (Gives (.bool true) w) := by
  cases h : AMok n d
  · have H := Lib.hid h; clear h
    go_enter Try.func4, Try.ntmps4
    go_wp2_with fail
    refine (spec_AngleMake_no n d _ H.out).mono ?_
    rintro e u1 ⟨rfl, hb⟩
    have hB1 : Below w.heap.size w u1 := Below.trans (by go_grown) (hb.mono (by go_size))
    have hz1 := hb.size
    try simp at hz1
    obtain ⟨hc1, hf1⟩ := bcell hb
    clear hb
    go_wp2_with fail
    refine (impl_AngleMake_no n d _ H.out).mono ?_
    rintro e u2 ⟨rfl, hb⟩
    have hB2 : Below w.heap.size w u2 := Below.trans (by go_grown) (hb.mono (by go_size))
    have hz2 := hb.size
    try simp at hz2
    obtain ⟨hc2, hf2⟩ := bcell hb
    clear hb
    try have s1_0_2 : u1.heap.size < u2.heap.size := by omega
    try have l1_0_2 : u1.heap.size ≤ u2.heap.size := by omega
    go_wp2_with fail
    refine (eqAngle_any _ _ _ _ _).mono ?_
    rintro e u3 ⟨rfl, hb⟩
    have hB3 : Below w.heap.size w u3 := Below.trans (by go_grown) (hb.mono (by go_size))
    have hz3 := hb.size
    try simp at hz3
    obtain ⟨hc3, hf3⟩ := bcell hb
    clear hb
    try have s1_0_3 : u1.heap.size < u3.heap.size := by omega
    try have l1_0_3 : u1.heap.size ≤ u3.heap.size := by omega
    try have s2_0_3 : u2.heap.size < u3.heap.size := by omega
    try have l2_0_3 : u2.heap.size ≤ u3.heap.size := by omega
    go_wp2
    go_returns
    exact ⟨rfl, hB3⟩
  · have H := Lib.hid h; clear h
    go_enter Try.func4, Try.ntmps4
    go_wp2_with fail
    refine (spec_AngleMake_yes n d _ H.out).mono ?_
    rintro e u1 ⟨rfl, hb⟩
    have hB1 : Below w.heap.size w u1 := Below.trans (by go_grown) (hb.mono (by go_size))
    have hz1 := hb.size
    try simp at hz1
    obtain ⟨hc1, hf1⟩ := bcell hb
    clear hb
    go_wp2_with fail
    refine (impl_AngleMake_yes n d _ H.out).mono ?_
    rintro e u2 ⟨rfl, hb⟩
    have hB2 : Below w.heap.size w u2 := Below.trans (by go_grown) (hb.mono (by go_size))
    have hz2 := hb.size
    try simp at hz2
    obtain ⟨hc2, hf2⟩ := bcell hb
    clear hb
    try have s1_0_2 : u1.heap.size < u2.heap.size := by omega
    try have l1_0_2 : u1.heap.size ≤ u2.heap.size := by omega
    go_wp2_with fail
    refine (eqAngle_any _ _ _ _ _).mono ?_
    rintro e u3 ⟨rfl, hb⟩
    have hB3 : Below w.heap.size w u3 := Below.trans (by go_grown) (hb.mono (by go_size))
    have hz3 := hb.size
    try simp at hz3
    obtain ⟨hc3, hf3⟩ := bcell hb
    clear hb
    try have s1_0_3 : u1.heap.size < u3.heap.size := by omega
    try have l1_0_3 : u1.heap.size ≤ u3.heap.size := by omega
    try have s2_0_3 : u2.heap.size < u3.heap.size := by omega
    try have l2_0_3 : u2.heap.size ≤ u3.heap.size := by omega
    go_wp2
    go_returns
    exact ⟨rfl, hB3⟩
set_option maxRecDepth 100000 in
theorem fnExactAngleMake_lifted (os : Os) (started : os.Started) (H : Type) (enc : TypeId × Value → H) :
    ReturnsInHanded {} Try.checked os 4 .any (Rows.fnExactAngleMakeSpec.pre6 enc Try.prog Try.f4 Rows.fnExactAngleMakeRow.domain false) (Rows.fnExactAngleMakeSpec.post enc Try.prog Try.f4 false true false false) := by
  refine returnsInHanded_of_change (C := Try.checked) Try.own started (by kernel_rfl) Try.func4
    (ChangeSpec.witness6 (enc := enc) (C := Try.checked) false ⟨#[], #[.int .i64 0, .int .i64 0], []⟩ 8 (by kernel_rfl) (by kernel_rfl) (by kernel_rfl) (by kernel_rfl)) ?_
  intro W base args ds gs before hval0 hW hcnd _
  have hval : ∀ (j : Nat) t v, Try.f4.params[j]? = some t → args[j]? = some v → Value.okWide Try.prog W .any base t v := hval0
  have hW' := hW
  obtain ⟨p, q, hA0, hV, rfl, hfz, hnd⟩ := hW
  have hA : DataW.TrodAll enc Try.prog W 0 (fun _ => true) true Try.f4.params.toList args.toList ds p := hA0
  rw [Try.params4] at hA hval
  obtain ⟨v0, vs0, d0, ds0, p0, q0, hargs, rfl, rfl, h0, r0⟩ := trodAll_cons hA
  obtain ⟨v1, vs1, d1, ds1, p1, q1, rfl, rfl, rfl, h1, r1⟩ := trodAll_cons r0
  obtain ⟨rfl, rfl, rfl⟩ := trodAll_nil r1
  obtain rfl : args = #[v0, v1] := by cases args; simp_all
  obtain ⟨rfl, rfl⟩ := trodVars_none hV
  have k0 := h0
  have lt0 : ∀ x ∈ p0, x.block < W.heap.size := by obtain ⟨m, hm⟩ := k0; exact DataW.trod_lt m _ _ _ hm
  have k1 := h1
  have lt1 : ∀ x ∈ p1, x.block < W.heap.size := by obtain ⟨m, hm⟩ := k1; exact DataW.trod_lt m _ _ _ hm
  obtain ⟨x0, rfl, rfl, rfl, wx0⟩ := open_int Try.underlying3 (hval 0 3 v0 rfl rfl) h0
  obtain ⟨x1, rfl, rfl, rfl, wx1⟩ := open_int Try.underlying3 (hval 1 3 v1 rfl rfl) h1
  clear hA0 hval0
  refine (fnExactAngleMake_walk x0 x1 W (i64_of_wf wx0) (i64_of_wf wx1)).mono fun e W' ⟨he, bel⟩ => ?_
  subst he
  exact ⟨_, rfl, _, _, _, [], _, [], hW', trodAll_mk1 (shut_bool Try.underlying4 _), (trodAll_cons_mk (Below.trod Try.laidOut (by kernel_rfl) (of_decide_eq_true (by kernel_rfl)) k0 bel lt0) (trodAll_cons_mk (Below.trod Try.laidOut (by kernel_rfl) (of_decide_eq_true (by kernel_rfl)) k1 bel lt1) trodAll_mk0)), rfl, bel.frame _, fun h => by cases h⟩

theorem fnExactAngleMake_holds : Rows.FnExactAngleMakeSaid :=
  OpenClaim.holds_of_wide 4 Try.f4 rfl rfl rfl rfl rfl rfl rfl ⟨rfl, rfl, rfl, rfl, rfl⟩ rfl rfl rfl rfl rfl (by kernel_rfl) Try.func4 (by kernel_rfl)
    (of_decide_eq_true (by kernel_rfl)) (by unfold Func.isWrapper; first | (rw [if_pos (by decide +kernel)]; kernel_rfl) | (rw [if_neg (by decide +kernel)]; exact ⟨rfl, rfl⟩))
    (fun os started H enc _ => fnExactAngleMake_lifted os started H enc)

theorem fnExactAngleDouble_walk (n d : Int) (w : World) (_hn : I64 n) (_hd : I64 d) :
    Calls Try.prog 5 #[.agg #[.int .i64 n, .int .i64 d]] w (Gives (.bool true) w) := by
  cases h : AV n d
  · have H := Lib.hid h; clear h
    go_enter Try.func5, Try.ntmps5
    go_wp2_with fail
    refine (toAngle_any n d _).mono ?_
    rintro e u1 ⟨rfl, hb⟩
    have hB1 : Below w.heap.size w u1 := Below.trans (by go_grown) (hb.mono (by go_size))
    have hz1 := hb.size
    try simp at hz1
    obtain ⟨hc1, hf1⟩ := bcell hb
    clear hb
    try have s0_0_1 : w.heap.size < u1.heap.size := by omega
    try have l0_0_1 : w.heap.size ≤ u1.heap.size := by omega
    go_wp2_with fail
    refine (spec_AngleDouble_no n d _ H.out).mono ?_
    rintro e u2 ⟨rfl, hb⟩
    have hB2 : Below w.heap.size w u2 := Below.trans (by go_grown) (hb.mono (by go_size))
    have hz2 := hb.size
    try simp at hz2
    obtain ⟨hc2, hf2⟩ := bcell hb
    clear hb
    try have s0_0_2 : w.heap.size < u2.heap.size := by omega
    try have l0_0_2 : w.heap.size ≤ u2.heap.size := by omega
    try have s1_0_2 : u1.heap.size < u2.heap.size := by omega
    try have l1_0_2 : u1.heap.size ≤ u2.heap.size := by omega
    go_wp2_with fail
    refine (toAngle_any n d _).mono ?_
    rintro e u3 ⟨rfl, hb⟩
    have hB3 : Below w.heap.size w u3 := Below.trans (by go_grown) (hb.mono (by go_size))
    have hz3 := hb.size
    try simp at hz3
    obtain ⟨hc3, hf3⟩ := bcell hb
    clear hb
    try have s0_0_3 : w.heap.size < u3.heap.size := by omega
    try have l0_0_3 : w.heap.size ≤ u3.heap.size := by omega
    try have s1_0_3 : u1.heap.size < u3.heap.size := by omega
    try have l1_0_3 : u1.heap.size ≤ u3.heap.size := by omega
    try have s2_0_3 : u2.heap.size < u3.heap.size := by omega
    try have l2_0_3 : u2.heap.size ≤ u3.heap.size := by omega
    go_wp2_with fail
    refine (impl_AngleDouble_no n d _ H.out).mono ?_
    rintro e u4 ⟨rfl, hb⟩
    have hB4 : Below w.heap.size w u4 := Below.trans (by go_grown) (hb.mono (by go_size))
    have hz4 := hb.size
    try simp at hz4
    obtain ⟨hc4, hf4⟩ := bcell hb
    clear hb
    try have s0_0_4 : w.heap.size < u4.heap.size := by omega
    try have l0_0_4 : w.heap.size ≤ u4.heap.size := by omega
    try have s1_0_4 : u1.heap.size < u4.heap.size := by omega
    try have l1_0_4 : u1.heap.size ≤ u4.heap.size := by omega
    try have s2_0_4 : u2.heap.size < u4.heap.size := by omega
    try have l2_0_4 : u2.heap.size ≤ u4.heap.size := by omega
    try have s3_0_4 : u3.heap.size < u4.heap.size := by omega
    try have l3_0_4 : u3.heap.size ≤ u4.heap.size := by omega
    go_wp2_with fail
    refine (eqAngle_any _ _ _ _ _).mono ?_
    rintro e u5 ⟨rfl, hb⟩
    have hB5 : Below w.heap.size w u5 := Below.trans (by go_grown) (hb.mono (by go_size))
    have hz5 := hb.size
    try simp at hz5
    obtain ⟨hc5, hf5⟩ := bcell hb
    clear hb
    try have s0_0_5 : w.heap.size < u5.heap.size := by omega
    try have l0_0_5 : w.heap.size ≤ u5.heap.size := by omega
    try have s1_0_5 : u1.heap.size < u5.heap.size := by omega
    try have l1_0_5 : u1.heap.size ≤ u5.heap.size := by omega
    try have s2_0_5 : u2.heap.size < u5.heap.size := by omega
    try have l2_0_5 : u2.heap.size ≤ u5.heap.size := by omega
    try have s3_0_5 : u3.heap.size < u5.heap.size := by omega
    try have l3_0_5 : u3.heap.size ≤ u5.heap.size := by omega
    try have s4_0_5 : u4.heap.size < u5.heap.size := by omega
    try have l4_0_5 : u4.heap.size ≤ u5.heap.size := by omega
    go_wp2
    go_returns
    exact ⟨rfl, hB5⟩
  · have H := Lib.hid h; clear h
    go_enter Try.func5, Try.ntmps5
    go_wp2_with fail
    refine (toAngle_any n d _).mono ?_
    rintro e u1 ⟨rfl, hb⟩
    have hB1 : Below w.heap.size w u1 := Below.trans (by go_grown) (hb.mono (by go_size))
    have hz1 := hb.size
    try simp at hz1
    obtain ⟨hc1, hf1⟩ := bcell hb
    clear hb
    try have s0_0_1 : w.heap.size < u1.heap.size := by omega
    try have l0_0_1 : w.heap.size ≤ u1.heap.size := by omega
    go_wp2_with fail
    refine (spec_AngleDouble_yes n d _ H.out).mono ?_
    rintro e u2 ⟨rfl, hb⟩
    have hB2 : Below w.heap.size w u2 := Below.trans (by go_grown) (hb.mono (by go_size))
    have hz2 := hb.size
    try simp at hz2
    obtain ⟨hc2, hf2⟩ := bcell hb
    clear hb
    try have s0_0_2 : w.heap.size < u2.heap.size := by omega
    try have l0_0_2 : w.heap.size ≤ u2.heap.size := by omega
    try have s1_0_2 : u1.heap.size < u2.heap.size := by omega
    try have l1_0_2 : u1.heap.size ≤ u2.heap.size := by omega
    go_wp2_with fail
    refine (toAngle_any n d _).mono ?_
    rintro e u3 ⟨rfl, hb⟩
    have hB3 : Below w.heap.size w u3 := Below.trans (by go_grown) (hb.mono (by go_size))
    have hz3 := hb.size
    try simp at hz3
    obtain ⟨hc3, hf3⟩ := bcell hb
    clear hb
    try have s0_0_3 : w.heap.size < u3.heap.size := by omega
    try have l0_0_3 : w.heap.size ≤ u3.heap.size := by omega
    try have s1_0_3 : u1.heap.size < u3.heap.size := by omega
    try have l1_0_3 : u1.heap.size ≤ u3.heap.size := by omega
    try have s2_0_3 : u2.heap.size < u3.heap.size := by omega
    try have l2_0_3 : u2.heap.size ≤ u3.heap.size := by omega
    go_wp2_with fail
    refine (impl_AngleDouble_yes n d _ H.out).mono ?_
    rintro e u4 ⟨rfl, hb⟩
    have hB4 : Below w.heap.size w u4 := Below.trans (by go_grown) (hb.mono (by go_size))
    have hz4 := hb.size
    try simp at hz4
    obtain ⟨hc4, hf4⟩ := bcell hb
    clear hb
    try have s0_0_4 : w.heap.size < u4.heap.size := by omega
    try have l0_0_4 : w.heap.size ≤ u4.heap.size := by omega
    try have s1_0_4 : u1.heap.size < u4.heap.size := by omega
    try have l1_0_4 : u1.heap.size ≤ u4.heap.size := by omega
    try have s2_0_4 : u2.heap.size < u4.heap.size := by omega
    try have l2_0_4 : u2.heap.size ≤ u4.heap.size := by omega
    try have s3_0_4 : u3.heap.size < u4.heap.size := by omega
    try have l3_0_4 : u3.heap.size ≤ u4.heap.size := by omega
    go_wp2_with fail
    refine (eqAngle_any _ _ _ _ _).mono ?_
    rintro e u5 ⟨rfl, hb⟩
    have hB5 : Below w.heap.size w u5 := Below.trans (by go_grown) (hb.mono (by go_size))
    have hz5 := hb.size
    try simp at hz5
    obtain ⟨hc5, hf5⟩ := bcell hb
    clear hb
    try have s0_0_5 : w.heap.size < u5.heap.size := by omega
    try have l0_0_5 : w.heap.size ≤ u5.heap.size := by omega
    try have s1_0_5 : u1.heap.size < u5.heap.size := by omega
    try have l1_0_5 : u1.heap.size ≤ u5.heap.size := by omega
    try have s2_0_5 : u2.heap.size < u5.heap.size := by omega
    try have l2_0_5 : u2.heap.size ≤ u5.heap.size := by omega
    try have s3_0_5 : u3.heap.size < u5.heap.size := by omega
    try have l3_0_5 : u3.heap.size ≤ u5.heap.size := by omega
    try have s4_0_5 : u4.heap.size < u5.heap.size := by omega
    try have l4_0_5 : u4.heap.size ≤ u5.heap.size := by omega
    go_wp2
    go_returns
    exact ⟨rfl, hB5⟩
set_option maxRecDepth 100000 in
theorem fnExactAngleDouble_lifted (os : Os) (started : os.Started) (H : Type) (enc : TypeId × Value → H) :
    ReturnsInHanded {} Try.checked os 5 .any (Rows.fnExactAngleDoubleSpec.pre6 enc Try.prog Try.f5 Rows.fnExactAngleDoubleRow.domain false) (Rows.fnExactAngleDoubleSpec.post enc Try.prog Try.f5 false true false false) := by
  refine returnsInHanded_of_change (C := Try.checked) Try.own started (by kernel_rfl) Try.func5
    (ChangeSpec.witness6 (enc := enc) (C := Try.checked) false ⟨#[], #[.agg #[.int .i64 0, .int .i64 0]], []⟩ 8 (by kernel_rfl) (by kernel_rfl) (by kernel_rfl) (by kernel_rfl)) ?_
  intro W base args ds gs before hval0 hW hcnd _
  have hval : ∀ (j : Nat) t v, Try.f5.params[j]? = some t → args[j]? = some v → Value.okWide Try.prog W .any base t v := hval0
  have hW' := hW
  obtain ⟨p, q, hA0, hV, rfl, hfz, hnd⟩ := hW
  have hA : DataW.TrodAll enc Try.prog W 0 (fun _ => true) true Try.f5.params.toList args.toList ds p := hA0
  rw [Try.params5] at hA hval
  obtain ⟨v0, vs0, d0, ds0, p0, q0, hargs, rfl, rfl, h0, r0⟩ := trodAll_cons hA
  obtain ⟨rfl, rfl, rfl⟩ := trodAll_nil r0
  obtain rfl : args = #[v0] := by cases args; simp_all
  obtain ⟨rfl, rfl⟩ := trodVars_none hV
  have k0 := h0
  have lt0 : ∀ x ∈ p0, x.block < W.heap.size := by obtain ⟨m, hm⟩ := k0; exact DataW.trod_lt m _ _ _ hm
  obtain ⟨c0_0, c0_1, y0_0, y0_1, m0, rfl, rfl, rfl, hy0_0, hy0_1⟩ := open_agg2 Try.underlying23 (by kernel_rfl) (show Try.prog.cellsOf 23 = 2 by kernel_rfl) (hval 0 23 v0 rfl rfl) h0
  obtain ⟨x0_0, ex0_0, rfl, wx0_0⟩ := DataW.trod_int Try.underlying3 hy0_0
  simp at ex0_0
  subst ex0_0
  obtain ⟨x0_1, ex0_1, rfl, wx0_1⟩ := DataW.trod_int Try.underlying3 hy0_1
  simp at ex0_1
  subst ex0_1
  clear hA0 hval0
  refine (fnExactAngleDouble_walk x0_0 x0_1 W (i64_of_wf wx0_0) (i64_of_wf wx0_1)).mono fun e W' ⟨he, bel⟩ => ?_
  subst he
  exact ⟨_, rfl, _, _, _, [], _, [], hW', trodAll_mk1 (shut_bool Try.underlying4 _), (trodAll_cons_mk (Below.trod Try.laidOut (by kernel_rfl) (of_decide_eq_true (by kernel_rfl)) k0 bel lt0) trodAll_mk0), rfl, bel.frame _, fun h => by cases h⟩

theorem fnExactAngleDouble_holds : Rows.FnExactAngleDoubleSaid :=
  OpenClaim.holds_of_wide 5 Try.f5 rfl rfl rfl rfl rfl rfl rfl ⟨rfl, rfl, rfl, rfl, rfl⟩ rfl rfl rfl rfl rfl (by kernel_rfl) Try.func5 (by kernel_rfl)
    (of_decide_eq_true (by kernel_rfl)) (by unfold Func.isWrapper; first | (rw [if_pos (by decide +kernel)]; kernel_rfl) | (rw [if_neg (by decide +kernel)]; exact ⟨rfl, rfl⟩))
    (fun os started H enc _ => fnExactAngleDouble_lifted os started H enc)

theorem fnExactAngleMirror_walk (n d : Int) (w : World) (_hn : I64 n) (_hd : I64 d) :
    Calls Try.prog 6 #[.agg #[.int .i64 n, .int .i64 d]] w (Gives (.bool true) w) := by
  cases h : AV n d
  · have H := Lib.hid h; clear h
    go_enter Try.func6, Try.ntmps6
    go_wp2_with fail
    refine (toAngle_any n d _).mono ?_
    rintro e u1 ⟨rfl, hb⟩
    have hB1 : Below w.heap.size w u1 := Below.trans (by go_grown) (hb.mono (by go_size))
    have hz1 := hb.size
    try simp at hz1
    obtain ⟨hc1, hf1⟩ := bcell hb
    clear hb
    try have s0_0_1 : w.heap.size < u1.heap.size := by omega
    try have l0_0_1 : w.heap.size ≤ u1.heap.size := by omega
    go_wp2_with fail
    refine (spec_AngleMirror_no n d _ H.out).mono ?_
    rintro e u2 ⟨rfl, hb⟩
    have hB2 : Below w.heap.size w u2 := Below.trans (by go_grown) (hb.mono (by go_size))
    have hz2 := hb.size
    try simp at hz2
    obtain ⟨hc2, hf2⟩ := bcell hb
    clear hb
    try have s0_0_2 : w.heap.size < u2.heap.size := by omega
    try have l0_0_2 : w.heap.size ≤ u2.heap.size := by omega
    try have s1_0_2 : u1.heap.size < u2.heap.size := by omega
    try have l1_0_2 : u1.heap.size ≤ u2.heap.size := by omega
    go_wp2_with fail
    refine (toAngle_any n d _).mono ?_
    rintro e u3 ⟨rfl, hb⟩
    have hB3 : Below w.heap.size w u3 := Below.trans (by go_grown) (hb.mono (by go_size))
    have hz3 := hb.size
    try simp at hz3
    obtain ⟨hc3, hf3⟩ := bcell hb
    clear hb
    try have s0_0_3 : w.heap.size < u3.heap.size := by omega
    try have l0_0_3 : w.heap.size ≤ u3.heap.size := by omega
    try have s1_0_3 : u1.heap.size < u3.heap.size := by omega
    try have l1_0_3 : u1.heap.size ≤ u3.heap.size := by omega
    try have s2_0_3 : u2.heap.size < u3.heap.size := by omega
    try have l2_0_3 : u2.heap.size ≤ u3.heap.size := by omega
    go_wp2_with fail
    refine (impl_AngleMirror_no n d _ H.out).mono ?_
    rintro e u4 ⟨rfl, hb⟩
    have hB4 : Below w.heap.size w u4 := Below.trans (by go_grown) (hb.mono (by go_size))
    have hz4 := hb.size
    try simp at hz4
    obtain ⟨hc4, hf4⟩ := bcell hb
    clear hb
    try have s0_0_4 : w.heap.size < u4.heap.size := by omega
    try have l0_0_4 : w.heap.size ≤ u4.heap.size := by omega
    try have s1_0_4 : u1.heap.size < u4.heap.size := by omega
    try have l1_0_4 : u1.heap.size ≤ u4.heap.size := by omega
    try have s2_0_4 : u2.heap.size < u4.heap.size := by omega
    try have l2_0_4 : u2.heap.size ≤ u4.heap.size := by omega
    try have s3_0_4 : u3.heap.size < u4.heap.size := by omega
    try have l3_0_4 : u3.heap.size ≤ u4.heap.size := by omega
    go_wp2_with fail
    refine (eqAngle_any _ _ _ _ _).mono ?_
    rintro e u5 ⟨rfl, hb⟩
    have hB5 : Below w.heap.size w u5 := Below.trans (by go_grown) (hb.mono (by go_size))
    have hz5 := hb.size
    try simp at hz5
    obtain ⟨hc5, hf5⟩ := bcell hb
    clear hb
    try have s0_0_5 : w.heap.size < u5.heap.size := by omega
    try have l0_0_5 : w.heap.size ≤ u5.heap.size := by omega
    try have s1_0_5 : u1.heap.size < u5.heap.size := by omega
    try have l1_0_5 : u1.heap.size ≤ u5.heap.size := by omega
    try have s2_0_5 : u2.heap.size < u5.heap.size := by omega
    try have l2_0_5 : u2.heap.size ≤ u5.heap.size := by omega
    try have s3_0_5 : u3.heap.size < u5.heap.size := by omega
    try have l3_0_5 : u3.heap.size ≤ u5.heap.size := by omega
    try have s4_0_5 : u4.heap.size < u5.heap.size := by omega
    try have l4_0_5 : u4.heap.size ≤ u5.heap.size := by omega
    go_wp2
    go_returns
    exact ⟨rfl, hB5⟩
  · have H := Lib.hid h; clear h
    go_enter Try.func6, Try.ntmps6
    go_wp2_with fail
    refine (toAngle_any n d _).mono ?_
    rintro e u1 ⟨rfl, hb⟩
    have hB1 : Below w.heap.size w u1 := Below.trans (by go_grown) (hb.mono (by go_size))
    have hz1 := hb.size
    try simp at hz1
    obtain ⟨hc1, hf1⟩ := bcell hb
    clear hb
    try have s0_0_1 : w.heap.size < u1.heap.size := by omega
    try have l0_0_1 : w.heap.size ≤ u1.heap.size := by omega
    go_wp2_with fail
    refine (spec_AngleMirror_yes n d _ H.out).mono ?_
    rintro e u2 ⟨rfl, hb⟩
    have hB2 : Below w.heap.size w u2 := Below.trans (by go_grown) (hb.mono (by go_size))
    have hz2 := hb.size
    try simp at hz2
    obtain ⟨hc2, hf2⟩ := bcell hb
    clear hb
    try have s0_0_2 : w.heap.size < u2.heap.size := by omega
    try have l0_0_2 : w.heap.size ≤ u2.heap.size := by omega
    try have s1_0_2 : u1.heap.size < u2.heap.size := by omega
    try have l1_0_2 : u1.heap.size ≤ u2.heap.size := by omega
    go_wp2_with fail
    refine (toAngle_any n d _).mono ?_
    rintro e u3 ⟨rfl, hb⟩
    have hB3 : Below w.heap.size w u3 := Below.trans (by go_grown) (hb.mono (by go_size))
    have hz3 := hb.size
    try simp at hz3
    obtain ⟨hc3, hf3⟩ := bcell hb
    clear hb
    try have s0_0_3 : w.heap.size < u3.heap.size := by omega
    try have l0_0_3 : w.heap.size ≤ u3.heap.size := by omega
    try have s1_0_3 : u1.heap.size < u3.heap.size := by omega
    try have l1_0_3 : u1.heap.size ≤ u3.heap.size := by omega
    try have s2_0_3 : u2.heap.size < u3.heap.size := by omega
    try have l2_0_3 : u2.heap.size ≤ u3.heap.size := by omega
    go_wp2_with fail
    refine (impl_AngleMirror_yes n d _ H.out).mono ?_
    rintro e u4 ⟨rfl, hb⟩
    have hB4 : Below w.heap.size w u4 := Below.trans (by go_grown) (hb.mono (by go_size))
    have hz4 := hb.size
    try simp at hz4
    obtain ⟨hc4, hf4⟩ := bcell hb
    clear hb
    try have s0_0_4 : w.heap.size < u4.heap.size := by omega
    try have l0_0_4 : w.heap.size ≤ u4.heap.size := by omega
    try have s1_0_4 : u1.heap.size < u4.heap.size := by omega
    try have l1_0_4 : u1.heap.size ≤ u4.heap.size := by omega
    try have s2_0_4 : u2.heap.size < u4.heap.size := by omega
    try have l2_0_4 : u2.heap.size ≤ u4.heap.size := by omega
    try have s3_0_4 : u3.heap.size < u4.heap.size := by omega
    try have l3_0_4 : u3.heap.size ≤ u4.heap.size := by omega
    go_wp2_with fail
    refine (eqAngle_any _ _ _ _ _).mono ?_
    rintro e u5 ⟨rfl, hb⟩
    have hB5 : Below w.heap.size w u5 := Below.trans (by go_grown) (hb.mono (by go_size))
    have hz5 := hb.size
    try simp at hz5
    obtain ⟨hc5, hf5⟩ := bcell hb
    clear hb
    try have s0_0_5 : w.heap.size < u5.heap.size := by omega
    try have l0_0_5 : w.heap.size ≤ u5.heap.size := by omega
    try have s1_0_5 : u1.heap.size < u5.heap.size := by omega
    try have l1_0_5 : u1.heap.size ≤ u5.heap.size := by omega
    try have s2_0_5 : u2.heap.size < u5.heap.size := by omega
    try have l2_0_5 : u2.heap.size ≤ u5.heap.size := by omega
    try have s3_0_5 : u3.heap.size < u5.heap.size := by omega
    try have l3_0_5 : u3.heap.size ≤ u5.heap.size := by omega
    try have s4_0_5 : u4.heap.size < u5.heap.size := by omega
    try have l4_0_5 : u4.heap.size ≤ u5.heap.size := by omega
    go_wp2
    go_returns
    exact ⟨rfl, hB5⟩
set_option maxRecDepth 100000 in
theorem fnExactAngleMirror_lifted (os : Os) (started : os.Started) (H : Type) (enc : TypeId × Value → H) :
    ReturnsInHanded {} Try.checked os 6 .any (Rows.fnExactAngleMirrorSpec.pre6 enc Try.prog Try.f6 Rows.fnExactAngleMirrorRow.domain false) (Rows.fnExactAngleMirrorSpec.post enc Try.prog Try.f6 false true false false) := by
  refine returnsInHanded_of_change (C := Try.checked) Try.own started (by kernel_rfl) Try.func6
    (ChangeSpec.witness6 (enc := enc) (C := Try.checked) false ⟨#[], #[.agg #[.int .i64 0, .int .i64 0]], []⟩ 8 (by kernel_rfl) (by kernel_rfl) (by kernel_rfl) (by kernel_rfl)) ?_
  intro W base args ds gs before hval0 hW hcnd _
  have hval : ∀ (j : Nat) t v, Try.f6.params[j]? = some t → args[j]? = some v → Value.okWide Try.prog W .any base t v := hval0
  have hW' := hW
  obtain ⟨p, q, hA0, hV, rfl, hfz, hnd⟩ := hW
  have hA : DataW.TrodAll enc Try.prog W 0 (fun _ => true) true Try.f6.params.toList args.toList ds p := hA0
  rw [Try.params6] at hA hval
  obtain ⟨v0, vs0, d0, ds0, p0, q0, hargs, rfl, rfl, h0, r0⟩ := trodAll_cons hA
  obtain ⟨rfl, rfl, rfl⟩ := trodAll_nil r0
  obtain rfl : args = #[v0] := by cases args; simp_all
  obtain ⟨rfl, rfl⟩ := trodVars_none hV
  have k0 := h0
  have lt0 : ∀ x ∈ p0, x.block < W.heap.size := by obtain ⟨m, hm⟩ := k0; exact DataW.trod_lt m _ _ _ hm
  obtain ⟨c0_0, c0_1, y0_0, y0_1, m0, rfl, rfl, rfl, hy0_0, hy0_1⟩ := open_agg2 Try.underlying23 (by kernel_rfl) (show Try.prog.cellsOf 23 = 2 by kernel_rfl) (hval 0 23 v0 rfl rfl) h0
  obtain ⟨x0_0, ex0_0, rfl, wx0_0⟩ := DataW.trod_int Try.underlying3 hy0_0
  simp at ex0_0
  subst ex0_0
  obtain ⟨x0_1, ex0_1, rfl, wx0_1⟩ := DataW.trod_int Try.underlying3 hy0_1
  simp at ex0_1
  subst ex0_1
  clear hA0 hval0
  refine (fnExactAngleMirror_walk x0_0 x0_1 W (i64_of_wf wx0_0) (i64_of_wf wx0_1)).mono fun e W' ⟨he, bel⟩ => ?_
  subst he
  exact ⟨_, rfl, _, _, _, [], _, [], hW', trodAll_mk1 (shut_bool Try.underlying4 _), (trodAll_cons_mk (Below.trod Try.laidOut (by kernel_rfl) (of_decide_eq_true (by kernel_rfl)) k0 bel lt0) trodAll_mk0), rfl, bel.frame _, fun h => by cases h⟩

theorem fnExactAngleMirror_holds : Rows.FnExactAngleMirrorSaid :=
  OpenClaim.holds_of_wide 6 Try.f6 rfl rfl rfl rfl rfl rfl rfl ⟨rfl, rfl, rfl, rfl, rfl⟩ rfl rfl rfl rfl rfl (by kernel_rfl) Try.func6 (by kernel_rfl)
    (of_decide_eq_true (by kernel_rfl)) (by unfold Func.isWrapper; first | (rw [if_pos (by decide +kernel)]; kernel_rfl) | (rw [if_neg (by decide +kernel)]; exact ⟨rfl, rfl⟩))
    (fun os started H enc _ => fnExactAngleMirror_lifted os started H enc)

end Go.Proofs.Ytlochdfemphhfaa
