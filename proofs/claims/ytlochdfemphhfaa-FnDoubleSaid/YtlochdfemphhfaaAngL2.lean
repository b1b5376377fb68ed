/- The laws on drawn angles: their walks and rows. -/
import Derived.Test.YtlochdfemphhfaaAngW2
import Derived.Test.YtlochdfemphhfaaAngD
import Derived.Test.YtlochdfemphhfaaRowB
namespace Go.Proofs.Ytlochdfemphhfaa
open Go.ChangeShapes Go.WideShapes Go.ChangeAt Go.RowKit Go.Joins

theorem fnMakeAngle_walk (v : Value) (w : World) (hv : BytesOk w w.heap.size v) :
    Calls Try.prog 7 #[v] w (Gives (.bool true) w) := by
  have HV := Lib.hid hv
  obtain ⟨a, len, cap, rfl, hlen⟩ : ∃ (a : Option Addr) (len cap : Nat), v = .slice a len cap ∧ len ≤ 9223372036854775807 := by
    rcases hv with ⟨a, c, rfl⟩ | ⟨b, off, len, cap, f, rfl, h1, h2, _⟩
    · exact ⟨a, 0, c, rfl, by omega⟩
    · exact ⟨_, len, cap, rfl, by omega⟩
  clear hv
  by_cases hl : 1048576 < len
  · go_enter Try.func7, Try.ntmps7
    go_wp2
    go_returns
    exact ⟨rfl, Below.refl _ _⟩
  · go_enter Try.func7, Try.ntmps7
    go_wp2_with fail
    refine (DrawAngleMake_any _ _ HV.out).mono ?_
    rintro e u1 ⟨n, d, rfl, a1, a2, a3, a4, hB1⟩
    have hw1 := hB1.size
    obtain ⟨hc1, hf1⟩ := bcell hB1
    cases h : AMok n d
    · have H := Lib.hid h; clear h
      go_wp2_with fail
      refine (impl_AngleMake_no n d _ H.out).mono ?_
      rintro e u2 ⟨rfl, hb⟩
      have hB2 : Below w.heap.size w u2 := Below.trans (by go_grown) (hb.mono (by go_size))
      have hz2 := hb.size
      try simp at hz2
      have hw2 := hB2.size
      obtain ⟨hc2, hf2⟩ := bcell hb
      clear hb
      try have s1_0_2 : u1.heap.size < u2.heap.size := by omega
      try have l1_0_2 : u1.heap.size ≤ u2.heap.size := by omega
      go_wp2_with fail
      refine (spec_AngleMake_no n d _ H.out).mono ?_
      rintro e u3 ⟨rfl, hb⟩
      have hB3 : Below w.heap.size w u3 := Below.trans (by go_grown) (hb.mono (by go_size))
      have hz3 := hb.size
      try simp at hz3
      have hw3 := hB3.size
      obtain ⟨hc3, hf3⟩ := bcell hb
      clear hb
      try have s1_0_3 : u1.heap.size < u3.heap.size := by omega
      try have l1_0_3 : u1.heap.size ≤ u3.heap.size := by omega
      try have s2_0_3 : u2.heap.size < u3.heap.size := by omega
      try have l2_0_3 : u2.heap.size ≤ u3.heap.size := by omega
      go_wp2
      go_returns
      exact ⟨rfl, hB3.alloc (by omega) _⟩
    · obtain ⟨k1, k2, k3, k4⟩ := (AMok_iff n d).1 h
      have H := Lib.hid h; clear h
      have H2 : Hid (AMok (n - d) d = true) := (AMok_iff _ _).2 ⟨by omega, by omega, by omega, by omega⟩
      have HE := Lib.hid (AN_sub n d)
      have HV := Lib.hid (AV_AN n d k1 k2)
      go_wp2_with fail
      refine (impl_AngleMake_yes n d _ H.out).mono ?_
      rintro e u2 ⟨rfl, hb⟩
      have hB2 : Below w.heap.size w u2 := Below.trans (by go_grown) (hb.mono (by go_size))
      have hz2 := hb.size
      try simp at hz2
      have hw2 := hB2.size
      obtain ⟨hc2, hf2⟩ := bcell hb
      clear hb
      try have s1_0_2 : u1.heap.size < u2.heap.size := by omega
      try have l1_0_2 : u1.heap.size ≤ u2.heap.size := by omega
      go_wp2_with fail
      refine (spec_AngleMake_yes n d _ H.out).mono ?_
      rintro e u3 ⟨rfl, hb⟩
      have hB3 : Below w.heap.size w u3 := Below.trans (by go_grown) (hb.mono (by go_size))
      have hz3 := hb.size
      try simp at hz3
      have hw3 := hB3.size
      obtain ⟨hc3, hf3⟩ := bcell hb
      clear hb
      try have s1_0_3 : u1.heap.size < u3.heap.size := by omega
      try have l1_0_3 : u1.heap.size ≤ u3.heap.size := by omega
      try have s2_0_3 : u2.heap.size < u3.heap.size := by omega
      try have l2_0_3 : u2.heap.size ≤ u3.heap.size := by omega
      go_wp2_with fail
      refine (impl_AngleMake_yes (n - d) d _ H2.out).mono ?_
      rw [HE.out.1, HE.out.2]
      rintro e u4 ⟨rfl, hb⟩
      have hB4 : Below w.heap.size w u4 := Below.trans (by go_grown) (hb.mono (by go_size))
      have hz4 := hb.size
      try simp at hz4
      have hw4 := hB4.size
      obtain ⟨hc4, hf4⟩ := bcell hb
      clear hb
      try have s1_0_4 : u1.heap.size < u4.heap.size := by omega
      try have l1_0_4 : u1.heap.size ≤ u4.heap.size := by omega
      try have s2_0_4 : u2.heap.size < u4.heap.size := by omega
      try have l2_0_4 : u2.heap.size ≤ u4.heap.size := by omega
      try have s3_0_4 : u3.heap.size < u4.heap.size := by omega
      try have l3_0_4 : u3.heap.size ≤ u4.heap.size := by omega
      go_wp2_with fail
      refine (impl_AngleValid_any _ _ _).mono ?_
      rw [HV.out]
      rintro e u5 ⟨rfl, hb⟩
      have hB5 : Below w.heap.size w u5 := Below.trans (by go_grown) (hb.mono (by go_size))
      have hz5 := hb.size
      try simp at hz5
      have hw5 := hB5.size
      obtain ⟨hc5, hf5⟩ := bcell hb
      clear hb
      try have s1_0_5 : u1.heap.size < u5.heap.size := by omega
      try have l1_0_5 : u1.heap.size ≤ u5.heap.size := by omega
      try have s2_0_5 : u2.heap.size < u5.heap.size := by omega
      try have l2_0_5 : u2.heap.size ≤ u5.heap.size := by omega
      try have s3_0_5 : u3.heap.size < u5.heap.size := by omega
      try have l3_0_5 : u3.heap.size ≤ u5.heap.size := by omega
      try have s4_0_5 : u4.heap.size < u5.heap.size := by omega
      try have l4_0_5 : u4.heap.size ≤ u5.heap.size := by omega
      go_wp2
      go_returns
      exact ⟨rfl, by go_grown⟩
set_option maxRecDepth 100000 in
theorem fnMakeAngle_lifted (os : Os) (started : os.Started) (H : Type) (enc : TypeId × Value → H) :
    ReturnsInHanded {} Try.checked os 7 .any (Rows.fnMakeAngleSpec.pre6 enc Try.prog Try.f7 Rows.fnMakeAngleRow.domain false) (Rows.fnMakeAngleSpec.post enc Try.prog Try.f7 false true false false) := by
  refine returnsInHanded_of_change (C := Try.checked) Try.own started (by kernel_rfl) Try.func7
    (ChangeSpec.witness6 (enc := enc) (C := Try.checked) false ⟨#[], #[.slice none 0 0], []⟩ 8 (by kernel_rfl) (by kernel_rfl) (by kernel_rfl) (by kernel_rfl)) ?_
  intro W base args ds gs before hval0 hW hcnd _
  have hval : ∀ (j : Nat) t v, Try.f7.params[j]? = some t → args[j]? = some v → Value.okWide Try.prog W .any base t v := hval0
  have hW' := hW
  obtain ⟨p, q, hA0, hV, rfl, hfz, hnd⟩ := hW
  have hA : DataW.TrodAll enc Try.prog W 0 (fun _ => true) true Try.f7.params.toList args.toList ds p := hA0
  rw [Try.params7] at hA hval
  obtain ⟨v0, vs0, d0, ds0, p0, q0, hargs, rfl, rfl, h0, r0⟩ := trodAll_cons hA
  obtain ⟨rfl, rfl, rfl⟩ := trodAll_nil r0
  obtain rfl : args = #[v0] := by cases args; simp_all
  obtain ⟨rfl, rfl⟩ := trodVars_none hV
  have k0 := h0
  have lt0 : ∀ x ∈ p0, x.block < W.heap.size := by obtain ⟨m, hm⟩ := k0; exact DataW.trod_lt m _ _ _ hm
  obtain ⟨a0, len0, cap0, rfl⟩ := okWide_slice Try.underlying33 (hval 0 33 v0 rfl rfl)
  have hb0 : BytesOk W W.heap.size (.slice a0 len0 cap0) := by
    obtain ⟨fuel, hf⟩ := h0
    exact bytes_of_ints (open_ints Try.underlying33 Try.underlying5 (by kernel_rfl) hf)
  clear hA0 hval0
  refine (fnMakeAngle_walk (.slice a0 len0 cap0) W hb0).mono fun e W' ⟨he, bel⟩ => ?_
  subst he
  exact ⟨_, rfl, _, _, _, [], _, [], hW', trodAll_mk1 (shut_bool Try.underlying4 _), (trodAll_cons_mk (Below.trod Try.laidOut (by kernel_rfl) (of_decide_eq_true (by kernel_rfl)) k0 bel lt0) trodAll_mk0), rfl, bel.frame _, fun h => by cases h⟩

theorem fnMakeAngle_holds : Rows.FnMakeAngleSaid :=
  OpenClaim.holds_of_wide 7 Try.f7 rfl rfl rfl rfl rfl rfl rfl ⟨rfl, rfl, rfl, rfl, rfl⟩ rfl rfl rfl rfl rfl (by kernel_rfl) Try.func7 (by kernel_rfl)
    (of_decide_eq_true (by kernel_rfl)) (by unfold Func.isWrapper; first | (rw [if_pos (by decide +kernel)]; kernel_rfl) | (rw [if_neg (by decide +kernel)]; exact ⟨rfl, rfl⟩))
    (fun os started H enc _ => fnMakeAngle_lifted os started H enc)

theorem fnAngle_walk (v : Value) (w : World) (hv : BytesOk w w.heap.size v) :
    Calls Try.prog 8 #[v] w (Gives (.bool true) w) := by
  have HV := Lib.hid hv
  obtain ⟨a, len, cap, rfl, hlen⟩ : ∃ (a : Option Addr) (len cap : Nat), v = .slice a len cap ∧ len ≤ 9223372036854775807 := by
    rcases hv with ⟨a, c, rfl⟩ | ⟨b, off, len, cap, f, rfl, h1, h2, _⟩
    · exact ⟨a, 0, c, rfl, by omega⟩
    · exact ⟨_, len, cap, rfl, by omega⟩
  clear hv
  by_cases hl : 1048576 < len
  · go_enter Try.func8, Try.ntmps8
    go_wp2
    go_returns
    exact ⟨rfl, Below.refl _ _⟩
  · go_enter Try.func8, Try.ntmps8
    go_wp2_with fail
    refine (DrawAngleValid_any _ _ HV.out).mono ?_
    rintro e u1 ⟨n, d, rfl, a1, a2, a3, a4, hB1⟩
    have hw1 := hB1.size
    obtain ⟨hc1, hf1⟩ := bcell hB1
    cases h : AV n d
    · have H := Lib.hid h; clear h
      go_wp2_with fail
      refine (impl_AngleValid_any n d _).mono ?_
      rw [H.out]
      rintro e u2 ⟨rfl, hb⟩
      have hB2 : Below w.heap.size w u2 := Below.trans (by go_grown) (hb.mono (by go_size))
      have hz2 := hb.size
      try simp at hz2
      have hw2 := hB2.size
      obtain ⟨hc2, hf2⟩ := bcell hb
      clear hb
      try have s1_0_2 : u1.heap.size < u2.heap.size := by omega
      try have l1_0_2 : u1.heap.size ≤ u2.heap.size := by omega
      go_wp2_with fail
      refine (spec_AngleValid_any n d _).mono ?_
      rw [H.out]
      rintro e u3 ⟨rfl, hb⟩
      have hB3 : Below w.heap.size w u3 := Below.trans (by go_grown) (hb.mono (by go_size))
      have hz3 := hb.size
      try simp at hz3
      have hw3 := hB3.size
      obtain ⟨hc3, hf3⟩ := bcell hb
      clear hb
      try have s1_0_3 : u1.heap.size < u3.heap.size := by omega
      try have l1_0_3 : u1.heap.size ≤ u3.heap.size := by omega
      try have s2_0_3 : u2.heap.size < u3.heap.size := by omega
      try have l2_0_3 : u2.heap.size ≤ u3.heap.size := by omega
      go_wp2
      go_returns
      exact ⟨rfl, by go_grown⟩
    · obtain ⟨k1, k2, k3, k4, _⟩ := (AV_iff n d).1 h
      have HS := Lib.hid (AN_self n d h)
      have HE := Lib.hid (AN_add n d)
      have H := Lib.hid h; clear h
      have H1 : Hid (AMok n d = true) := (AMok_iff _ _).2 ⟨by omega, by omega, by omega, by omega⟩
      have H2 : Hid (AMok (n + d) d = true) := (AMok_iff _ _).2 ⟨by omega, by omega, by omega, by omega⟩
      go_wp2_with fail
      refine (impl_AngleValid_any n d _).mono ?_
      rw [H.out]
      rintro e u2 ⟨rfl, hb⟩
      have hB2 : Below w.heap.size w u2 := Below.trans (by go_grown) (hb.mono (by go_size))
      have hz2 := hb.size
      try simp at hz2
      have hw2 := hB2.size
      obtain ⟨hc2, hf2⟩ := bcell hb
      clear hb
      try have s1_0_2 : u1.heap.size < u2.heap.size := by omega
      try have l1_0_2 : u1.heap.size ≤ u2.heap.size := by omega
      go_wp2_with fail
      refine (spec_AngleValid_any n d _).mono ?_
      rw [H.out]
      rintro e u3 ⟨rfl, hb⟩
      have hB3 : Below w.heap.size w u3 := Below.trans (by go_grown) (hb.mono (by go_size))
      have hz3 := hb.size
      try simp at hz3
      have hw3 := hB3.size
      obtain ⟨hc3, hf3⟩ := bcell hb
      clear hb
      try have s1_0_3 : u1.heap.size < u3.heap.size := by omega
      try have l1_0_3 : u1.heap.size ≤ u3.heap.size := by omega
      try have s2_0_3 : u2.heap.size < u3.heap.size := by omega
      try have l2_0_3 : u2.heap.size ≤ u3.heap.size := by omega
      go_wp2_with fail
      refine (impl_AngleMake_yes n d _ H1.out).mono ?_
      rw [HS.out.1, HS.out.2]
      rintro e u4 ⟨rfl, hb⟩
      have hB4 : Below w.heap.size w u4 := Below.trans (by go_grown) (hb.mono (by go_size))
      have hz4 := hb.size
      try simp at hz4
      have hw4 := hB4.size
      obtain ⟨hc4, hf4⟩ := bcell hb
      clear hb
      try have s1_0_4 : u1.heap.size < u4.heap.size := by omega
      try have l1_0_4 : u1.heap.size ≤ u4.heap.size := by omega
      try have s2_0_4 : u2.heap.size < u4.heap.size := by omega
      try have l2_0_4 : u2.heap.size ≤ u4.heap.size := by omega
      try have s3_0_4 : u3.heap.size < u4.heap.size := by omega
      try have l3_0_4 : u3.heap.size ≤ u4.heap.size := by omega
      go_wp2_with fail
      refine (impl_AngleMake_yes (n + d) d _ H2.out).mono ?_
      rw [HE.out.1, HE.out.2, HS.out.1, HS.out.2]
      rintro e u5 ⟨rfl, hb⟩
      have hB5 : Below w.heap.size w u5 := Below.trans (by go_grown) (hb.mono (by go_size))
      have hz5 := hb.size
      try simp at hz5
      have hw5 := hB5.size
      obtain ⟨hc5, hf5⟩ := bcell hb
      clear hb
      try have s1_0_5 : u1.heap.size < u5.heap.size := by omega
      try have l1_0_5 : u1.heap.size ≤ u5.heap.size := by omega
      try have s2_0_5 : u2.heap.size < u5.heap.size := by omega
      try have l2_0_5 : u2.heap.size ≤ u5.heap.size := by omega
      try have s3_0_5 : u3.heap.size < u5.heap.size := by omega
      try have l3_0_5 : u3.heap.size ≤ u5.heap.size := by omega
      try have s4_0_5 : u4.heap.size < u5.heap.size := by omega
      try have l4_0_5 : u4.heap.size ≤ u5.heap.size := by omega
      go_wp2
      go_returns
      exact ⟨rfl, by go_grown⟩
set_option maxRecDepth 100000 in
theorem fnAngle_lifted (os : Os) (started : os.Started) (H : Type) (enc : TypeId × Value → H) :
    ReturnsInHanded {} Try.checked os 8 .any (Rows.fnAngleSpec.pre6 enc Try.prog Try.f8 Rows.fnAngleRow.domain false) (Rows.fnAngleSpec.post enc Try.prog Try.f8 false true false false) := by
  refine returnsInHanded_of_change (C := Try.checked) Try.own started (by kernel_rfl) Try.func8
    (ChangeSpec.witness6 (enc := enc) (C := Try.checked) false ⟨#[], #[.slice none 0 0], []⟩ 8 (by kernel_rfl) (by kernel_rfl) (by kernel_rfl) (by kernel_rfl)) ?_
  intro W base args ds gs before hval0 hW hcnd _
  have hval : ∀ (j : Nat) t v, Try.f8.params[j]? = some t → args[j]? = some v → Value.okWide Try.prog W .any base t v := hval0
  have hW' := hW
  obtain ⟨p, q, hA0, hV, rfl, hfz, hnd⟩ := hW
  have hA : DataW.TrodAll enc Try.prog W 0 (fun _ => true) true Try.f8.params.toList args.toList ds p := hA0
  rw [Try.params8] at hA hval
  obtain ⟨v0, vs0, d0, ds0, p0, q0, hargs, rfl, rfl, h0, r0⟩ := trodAll_cons hA
  obtain ⟨rfl, rfl, rfl⟩ := trodAll_nil r0
  obtain rfl : args = #[v0] := by cases args; simp_all
  obtain ⟨rfl, rfl⟩ := trodVars_none hV
  have k0 := h0
  have lt0 : ∀ x ∈ p0, x.block < W.heap.size := by obtain ⟨m, hm⟩ := k0; exact DataW.trod_lt m _ _ _ hm
  obtain ⟨a0, len0, cap0, rfl⟩ := okWide_slice Try.underlying33 (hval 0 33 v0 rfl rfl)
  have hb0 : BytesOk W W.heap.size (.slice a0 len0 cap0) := by
    obtain ⟨fuel, hf⟩ := h0
    exact bytes_of_ints (open_ints Try.underlying33 Try.underlying5 (by kernel_rfl) hf)
  clear hA0 hval0
  refine (fnAngle_walk (.slice a0 len0 cap0) W hb0).mono fun e W' ⟨he, bel⟩ => ?_
  subst he
  exact ⟨_, rfl, _, _, _, [], _, [], hW', trodAll_mk1 (shut_bool Try.underlying4 _), (trodAll_cons_mk (Below.trod Try.laidOut (by kernel_rfl) (of_decide_eq_true (by kernel_rfl)) k0 bel lt0) trodAll_mk0), rfl, bel.frame _, fun h => by cases h⟩

theorem fnAngle_holds : Rows.FnAngleSaid :=
  OpenClaim.holds_of_wide 8 Try.f8 rfl rfl rfl rfl rfl rfl rfl ⟨rfl, rfl, rfl, rfl, rfl⟩ rfl rfl rfl rfl rfl (by kernel_rfl) Try.func8 (by kernel_rfl)
    (of_decide_eq_true (by kernel_rfl)) (by unfold Func.isWrapper; first | (rw [if_pos (by decide +kernel)]; kernel_rfl) | (rw [if_neg (by decide +kernel)]; exact ⟨rfl, rfl⟩))
    (fun os started H enc _ => fnAngle_lifted os started H enc)

theorem fnDouble_walk (v : Value) (w : World) (hv : BytesOk w w.heap.size v) :
    Calls Try.prog 9 #[v] w (Gives (.bool true) w) := by
  have HV := Lib.hid hv
  obtain ⟨a, len, cap, rfl, hlen⟩ : ∃ (a : Option Addr) (len cap : Nat), v = .slice a len cap ∧ len ≤ 9223372036854775807 := by
    rcases hv with ⟨a, c, rfl⟩ | ⟨b, off, len, cap, f, rfl, h1, h2, _⟩
    · exact ⟨a, 0, c, rfl, by omega⟩
    · exact ⟨_, len, cap, rfl, by omega⟩
  clear hv
  by_cases hl : 1048576 < len
  · go_enter Try.func9, Try.ntmps9
    go_wp2
    go_returns
    exact ⟨rfl, Below.refl _ _⟩
  · go_enter Try.func9, Try.ntmps9
    go_wp2_with fail
    refine (DrawAngleDouble_any _ _ HV.out).mono ?_
    rintro e u1 ⟨n, d, rfl, a1, a2, a3, a4, hB1⟩
    have hw1 := hB1.size
    obtain ⟨hc1, hf1⟩ := bcell hB1
    cases h : AV n d
    · have H := Lib.hid h; clear h
      go_wp2_with fail
      refine (impl_AngleDouble_no n d _ H.out).mono ?_
      rintro e u2 ⟨rfl, hb⟩
      have hB2 : Below w.heap.size w u2 := Below.trans (by go_grown) (hb.mono (by go_size))
      have hz2 := hb.size
      try simp at hz2
      have hw2 := hB2.size
      obtain ⟨hc2, hf2⟩ := bcell hb
      clear hb
      try have s1_0_2 : u1.heap.size < u2.heap.size := by omega
      try have l1_0_2 : u1.heap.size ≤ u2.heap.size := by omega
      go_wp2_with fail
      refine (spec_AngleDouble_no n d _ H.out).mono ?_
      rintro e u3 ⟨rfl, hb⟩
      have hB3 : Below w.heap.size w u3 := Below.trans (by go_grown) (hb.mono (by go_size))
      have hz3 := hb.size
      try simp at hz3
      have hw3 := hB3.size
      obtain ⟨hc3, hf3⟩ := bcell hb
      clear hb
      try have s1_0_3 : u1.heap.size < u3.heap.size := by omega
      try have l1_0_3 : u1.heap.size ≤ u3.heap.size := by omega
      try have s2_0_3 : u2.heap.size < u3.heap.size := by omega
      try have l2_0_3 : u2.heap.size ≤ u3.heap.size := by omega
      go_wp2
      go_returns
      exact ⟨rfl, by go_grown⟩
    · obtain ⟨k1, k2, k3, k4, _⟩ := (AV_iff n d).1 h
      have H := Lib.hid h; clear h
      have HE := Lib.hid (AN_half n d k1)
      have HV := Lib.hid (AV_AN (2 * n) d k1 k2)
      cases h : AMok (2 * n + d) (2 * d)
      · have H2 := Lib.hid h; clear h
        go_wp2_with fail
        refine (impl_AngleDouble_yes n d _ H.out).mono ?_
        rintro e u2 ⟨rfl, hb⟩
        have hB2 : Below w.heap.size w u2 := Below.trans (by go_grown) (hb.mono (by go_size))
        have hz2 := hb.size
        try simp at hz2
        have hw2 := hB2.size
        obtain ⟨hc2, hf2⟩ := bcell hb
        clear hb
        try have s1_0_2 : u1.heap.size < u2.heap.size := by omega
        try have l1_0_2 : u1.heap.size ≤ u2.heap.size := by omega
        go_wp2_with fail
        refine (spec_AngleDouble_yes n d _ H.out).mono ?_
        rintro e u3 ⟨rfl, hb⟩
        have hB3 : Below w.heap.size w u3 := Below.trans (by go_grown) (hb.mono (by go_size))
        have hz3 := hb.size
        try simp at hz3
        have hw3 := hB3.size
        obtain ⟨hc3, hf3⟩ := bcell hb
        clear hb
        try have s1_0_3 : u1.heap.size < u3.heap.size := by omega
        try have l1_0_3 : u1.heap.size ≤ u3.heap.size := by omega
        try have s2_0_3 : u2.heap.size < u3.heap.size := by omega
        try have l2_0_3 : u2.heap.size ≤ u3.heap.size := by omega
        go_wp2_with fail
        refine (impl_AngleMake_no (2 * n + d) (2 * d) _ H2.out).mono ?_
        rintro e u4 ⟨rfl, hb⟩
        have hB4 : Below w.heap.size w u4 := Below.trans (by go_grown) (hb.mono (by go_size))
        have hz4 := hb.size
        try simp at hz4
        have hw4 := hB4.size
        obtain ⟨hc4, hf4⟩ := bcell hb
        clear hb
        try have s1_0_4 : u1.heap.size < u4.heap.size := by omega
        try have l1_0_4 : u1.heap.size ≤ u4.heap.size := by omega
        try have s2_0_4 : u2.heap.size < u4.heap.size := by omega
        try have l2_0_4 : u2.heap.size ≤ u4.heap.size := by omega
        try have s3_0_4 : u3.heap.size < u4.heap.size := by omega
        try have l3_0_4 : u3.heap.size ≤ u4.heap.size := by omega
        have HZ : Hid (AV 0 0 = false) := rfl
        go_wp2_with fail
        refine (impl_AngleDouble_no 0 0 _ HZ.out).mono ?_
        rintro e u5 ⟨rfl, hb⟩
        have hB5 : Below w.heap.size w u5 := Below.trans (by go_grown) (hb.mono (by go_size))
        have hz5 := hb.size
        try simp at hz5
        have hw5 := hB5.size
        obtain ⟨hc5, hf5⟩ := bcell hb
        clear hb
        try have s1_0_5 : u1.heap.size < u5.heap.size := by omega
        try have l1_0_5 : u1.heap.size ≤ u5.heap.size := by omega
        try have s2_0_5 : u2.heap.size < u5.heap.size := by omega
        try have l2_0_5 : u2.heap.size ≤ u5.heap.size := by omega
        try have s3_0_5 : u3.heap.size < u5.heap.size := by omega
        try have l3_0_5 : u3.heap.size ≤ u5.heap.size := by omega
        try have s4_0_5 : u4.heap.size < u5.heap.size := by omega
        try have l4_0_5 : u4.heap.size ≤ u5.heap.size := by omega
        go_wp2_with fail
        refine (impl_AngleValid_any _ _ _).mono ?_
        rw [HV.out]
        rintro e u6 ⟨rfl, hb⟩
        have hB6 : Below w.heap.size w u6 := Below.trans (by go_grown) (hb.mono (by go_size))
        have hz6 := hb.size
        try simp at hz6
        have hw6 := hB6.size
        obtain ⟨hc6, hf6⟩ := bcell hb
        clear hb
        try have s1_0_6 : u1.heap.size < u6.heap.size := by omega
        try have l1_0_6 : u1.heap.size ≤ u6.heap.size := by omega
        try have s2_0_6 : u2.heap.size < u6.heap.size := by omega
        try have l2_0_6 : u2.heap.size ≤ u6.heap.size := by omega
        try have s3_0_6 : u3.heap.size < u6.heap.size := by omega
        try have l3_0_6 : u3.heap.size ≤ u6.heap.size := by omega
        try have s4_0_6 : u4.heap.size < u6.heap.size := by omega
        try have l4_0_6 : u4.heap.size ≤ u6.heap.size := by omega
        try have s5_0_6 : u5.heap.size < u6.heap.size := by omega
        try have l5_0_6 : u5.heap.size ≤ u6.heap.size := by omega
        go_wp2
        go_returns
        exact ⟨rfl, by go_grown⟩
      · obtain ⟨_, k5, _, _⟩ := (AMok_iff _ _).1 h
        have H2 := Lib.hid h; clear h
        have H3 := Lib.hid (AV_AN (2 * n + d) (2 * d) (by omega) k5)
        go_wp2_with fail
        refine (impl_AngleDouble_yes n d _ H.out).mono ?_
        rintro e u2 ⟨rfl, hb⟩
        have hB2 : Below w.heap.size w u2 := Below.trans (by go_grown) (hb.mono (by go_size))
        have hz2 := hb.size
        try simp at hz2
        have hw2 := hB2.size
        obtain ⟨hc2, hf2⟩ := bcell hb
        clear hb
        try have s1_0_2 : u1.heap.size < u2.heap.size := by omega
        try have l1_0_2 : u1.heap.size ≤ u2.heap.size := by omega
        go_wp2_with fail
        refine (spec_AngleDouble_yes n d _ H.out).mono ?_
        rintro e u3 ⟨rfl, hb⟩
        have hB3 : Below w.heap.size w u3 := Below.trans (by go_grown) (hb.mono (by go_size))
        have hz3 := hb.size
        try simp at hz3
        have hw3 := hB3.size
        obtain ⟨hc3, hf3⟩ := bcell hb
        clear hb
        try have s1_0_3 : u1.heap.size < u3.heap.size := by omega
        try have l1_0_3 : u1.heap.size ≤ u3.heap.size := by omega
        try have s2_0_3 : u2.heap.size < u3.heap.size := by omega
        try have l2_0_3 : u2.heap.size ≤ u3.heap.size := by omega
        go_wp2_with fail
        refine (impl_AngleMake_yes (2 * n + d) (2 * d) _ H2.out).mono ?_
        rintro e u4 ⟨rfl, hb⟩
        have hB4 : Below w.heap.size w u4 := Below.trans (by go_grown) (hb.mono (by go_size))
        have hz4 := hb.size
        try simp at hz4
        have hw4 := hB4.size
        obtain ⟨hc4, hf4⟩ := bcell hb
        clear hb
        try have s1_0_4 : u1.heap.size < u4.heap.size := by omega
        try have l1_0_4 : u1.heap.size ≤ u4.heap.size := by omega
        try have s2_0_4 : u2.heap.size < u4.heap.size := by omega
        try have l2_0_4 : u2.heap.size ≤ u4.heap.size := by omega
        try have s3_0_4 : u3.heap.size < u4.heap.size := by omega
        try have l3_0_4 : u3.heap.size ≤ u4.heap.size := by omega
        go_wp2_with fail
        refine (impl_AngleDouble_yes _ _ _ H3.out).mono ?_
        rw [HE.out.1, HE.out.2]
        rintro e u5 ⟨rfl, hb⟩
        have hB5 : Below w.heap.size w u5 := Below.trans (by go_grown) (hb.mono (by go_size))
        have hz5 := hb.size
        try simp at hz5
        have hw5 := hB5.size
        obtain ⟨hc5, hf5⟩ := bcell hb
        clear hb
        try have s1_0_5 : u1.heap.size < u5.heap.size := by omega
        try have l1_0_5 : u1.heap.size ≤ u5.heap.size := by omega
        try have s2_0_5 : u2.heap.size < u5.heap.size := by omega
        try have l2_0_5 : u2.heap.size ≤ u5.heap.size := by omega
        try have s3_0_5 : u3.heap.size < u5.heap.size := by omega
        try have l3_0_5 : u3.heap.size ≤ u5.heap.size := by omega
        try have s4_0_5 : u4.heap.size < u5.heap.size := by omega
        try have l4_0_5 : u4.heap.size ≤ u5.heap.size := by omega
        go_wp2_with fail
        refine (impl_AngleValid_any _ _ _).mono ?_
        rw [HV.out]
        rintro e u6 ⟨rfl, hb⟩
        have hB6 : Below w.heap.size w u6 := Below.trans (by go_grown) (hb.mono (by go_size))
        have hz6 := hb.size
        try simp at hz6
        have hw6 := hB6.size
        obtain ⟨hc6, hf6⟩ := bcell hb
        clear hb
        try have s1_0_6 : u1.heap.size < u6.heap.size := by omega
        try have l1_0_6 : u1.heap.size ≤ u6.heap.size := by omega
        try have s2_0_6 : u2.heap.size < u6.heap.size := by omega
        try have l2_0_6 : u2.heap.size ≤ u6.heap.size := by omega
        try have s3_0_6 : u3.heap.size < u6.heap.size := by omega
        try have l3_0_6 : u3.heap.size ≤ u6.heap.size := by omega
        try have s4_0_6 : u4.heap.size < u6.heap.size := by omega
        try have l4_0_6 : u4.heap.size ≤ u6.heap.size := by omega
        try have s5_0_6 : u5.heap.size < u6.heap.size := by omega
        try have l5_0_6 : u5.heap.size ≤ u6.heap.size := by omega
        go_wp2
        go_returns
        exact ⟨rfl, by go_grown⟩
set_option maxRecDepth 100000 in
theorem fnDouble_lifted (os : Os) (started : os.Started) (H : Type) (enc : TypeId × Value → H) :
    ReturnsInHanded {} Try.checked os 9 .any (Rows.fnDoubleSpec.pre6 enc Try.prog Try.f9 Rows.fnDoubleRow.domain false) (Rows.fnDoubleSpec.post enc Try.prog Try.f9 false true false false) := by
  refine returnsInHanded_of_change (C := Try.checked) Try.own started (by kernel_rfl) Try.func9
    (ChangeSpec.witness6 (enc := enc) (C := Try.checked) false ⟨#[], #[.slice none 0 0], []⟩ 8 (by kernel_rfl) (by kernel_rfl) (by kernel_rfl) (by kernel_rfl)) ?_
  intro W base args ds gs before hval0 hW hcnd _
  have hval : ∀ (j : Nat) t v, Try.f9.params[j]? = some t → args[j]? = some v → Value.okWide Try.prog W .any base t v := hval0
  have hW' := hW
  obtain ⟨p, q, hA0, hV, rfl, hfz, hnd⟩ := hW
  have hA : DataW.TrodAll enc Try.prog W 0 (fun _ => true) true Try.f9.params.toList args.toList ds p := hA0
  rw [Try.params9] at hA hval
  obtain ⟨v0, vs0, d0, ds0, p0, q0, hargs, rfl, rfl, h0, r0⟩ := trodAll_cons hA
  obtain ⟨rfl, rfl, rfl⟩ := trodAll_nil r0
  obtain rfl : args = #[v0] := by cases args; simp_all
  obtain ⟨rfl, rfl⟩ := trodVars_none hV
  have k0 := h0
  have lt0 : ∀ x ∈ p0, x.block < W.heap.size := by obtain ⟨m, hm⟩ := k0; exact DataW.trod_lt m _ _ _ hm
  obtain ⟨a0, len0, cap0, rfl⟩ := okWide_slice Try.underlying33 (hval 0 33 v0 rfl rfl)
  have hb0 : BytesOk W W.heap.size (.slice a0 len0 cap0) := by
    obtain ⟨fuel, hf⟩ := h0
    exact bytes_of_ints (open_ints Try.underlying33 Try.underlying5 (by kernel_rfl) hf)
  clear hA0 hval0
  refine (fnDouble_walk (.slice a0 len0 cap0) W hb0).mono fun e W' ⟨he, bel⟩ => ?_
  subst he
  exact ⟨_, rfl, _, _, _, [], _, [], hW', trodAll_mk1 (shut_bool Try.underlying4 _), (trodAll_cons_mk (Below.trod Try.laidOut (by kernel_rfl) (of_decide_eq_true (by kernel_rfl)) k0 bel lt0) trodAll_mk0), rfl, bel.frame _, fun h => by cases h⟩

theorem fnDouble_holds : Rows.FnDoubleSaid :=
  OpenClaim.holds_of_wide 9 Try.f9 rfl rfl rfl rfl rfl rfl rfl ⟨rfl, rfl, rfl, rfl, rfl⟩ rfl rfl rfl rfl rfl (by kernel_rfl) Try.func9 (by kernel_rfl)
    (of_decide_eq_true (by kernel_rfl)) (by unfold Func.isWrapper; first | (rw [if_pos (by decide +kernel)]; kernel_rfl) | (rw [if_neg (by decide +kernel)]; exact ⟨rfl, rfl⟩))
    (fun os started H enc _ => fnDouble_lifted os started H enc)

end Go.Proofs.Ytlochdfemphhfaa
