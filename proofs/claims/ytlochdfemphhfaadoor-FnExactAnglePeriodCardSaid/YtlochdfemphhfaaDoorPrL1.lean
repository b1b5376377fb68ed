/- The law FnExactAnglePeriod: the program's function gives what the reference's gives, for all arguments, where the library's tables lie as their text lays them: its walk and row; and its card. -/
import Derived.Test.YtlochdfemphhfaaDoorPr2
import Derived.Test.YtlochdfemphhfaaDoorRowP
namespace Go.Proofs.YtlochdfemphhfaaDoor
set_option linter.unusedSimpArgs false
set_option linter.unusedVariables false
open Go.ChangeShapes Go.WideShapes Go.ChangeAt Go.RowKit Go.Joins
theorem spec_AnglePeriod_no (n d : Int) (w : World) (h : AV n d = false ∨ 5000 < d) :
    Calls Tryd.prog 4 #[.agg #[.int .i64 n, .int .i64 d]] w (Gives (.tuple #[.int .i64 0, .int .i64 0, .bool false]) w) := by
  cases hv : AV n d
  · have H := Lib.hid hv; clear hv h
    go_enter Tryd.func4, Tryd.ntmps4
    go_wp2_with (first | (go_at_call 7; refine (spec_AngleValid_any n d _).mono ?_; rw [H.out]; rintro e w1 ⟨rfl, hb⟩; have hB : Below w.heap.size w w1 := Below.trans (by go_grown) (hb.mono (by go_size)); have hz := hB.size; have hz2 := hb.size; (try simp at hz2); have hs0 : w.heap.size < w1.heap.size := (by omega); obtain ⟨hc, hf⟩ := bcell hb; clear hb))
    go_returns
    exact ⟨rfl, hB⟩
  · have H := Lib.hid hv
    have h5 : 5000 < d := by rcases h with h | h; exact absurd (hv.symm.trans h) (by decide); exact h
    clear hv h
    go_enter Tryd.func4, Tryd.ntmps4
    go_wp2_with (first | (go_at_call 7; refine (spec_AngleValid_any n d _).mono ?_; rw [H.out]; rintro e w1 ⟨rfl, hb⟩; have hB : Below w.heap.size w w1 := Below.trans (by go_grown) (hb.mono (by go_size)); have hz := hB.size; have hz2 := hb.size; (try simp at hz2); have hs0 : w.heap.size < w1.heap.size := (by omega); obtain ⟨hc, hf⟩ := bcell hb; clear hb))
    go_returns
    exact ⟨rfl, hB⟩
theorem impl_AnglePeriod_no (n d : Int) (w : World) (h : AV n d = false ∨ 5000 < d) :
    Calls Tryd.prog 6 #[.agg #[.int .i64 n, .int .i64 d]] w (Gives (.tuple #[.int .i64 0, .int .i64 0, .bool false]) w) := by
  cases hv : AV n d
  · have H := Lib.hid hv; clear hv h
    go_enter Tryd.func6, Tryd.ntmps6
    go_wp2_with (first | (go_at_call 8; refine (impl_AngleValid_any n d _).mono ?_; rw [H.out]; rintro e w1 ⟨rfl, hb⟩; have hB : Below w.heap.size w w1 := Below.trans (by go_grown) (hb.mono (by go_size)); have hz := hB.size; have hz2 := hb.size; (try simp at hz2); have hs0 : w.heap.size < w1.heap.size := (by omega); obtain ⟨hc, hf⟩ := bcell hb; clear hb))
    go_returns
    exact ⟨rfl, hB⟩
  · have H := Lib.hid hv
    have h5 : 5000 < d := by rcases h with h | h; exact absurd (hv.symm.trans h) (by decide); exact h
    clear hv h
    go_enter Tryd.func6, Tryd.ntmps6
    go_wp2_with (first | (go_at_call 8; refine (impl_AngleValid_any n d _).mono ?_; rw [H.out]; rintro e w1 ⟨rfl, hb⟩; have hB : Below w.heap.size w w1 := Below.trans (by go_grown) (hb.mono (by go_size)); have hz := hB.size; have hz2 := hb.size; (try simp at hz2); have hs0 : w.heap.size < w1.heap.size := (by omega); obtain ⟨hc, hf⟩ := bcell hb; clear hb))
    go_returns
    exact ⟨rfl, hB⟩
/-- An angle's parts, for the period. -/
theorem angle_parts {n d : Int} (h : AV n d = true) (h5 : d ≤ 5000) : ∃ a x p q m : Nat, n = a ∧ d = x ∧ Lib.ctz 64 x = p ∧ x / 2 ^ p = q ∧ p ≤ 13 ∧ 1 ≤ q ∧ q ≤ 5000 ∧ 1 ≤ m ∧ m ≤ q ∧ 2 ^ m % q = 1 % q ∧ (∀ k, 1 ≤ k → k < m → 2 ^ k % q ≠ 1 % q) ∧
    (∀ i j, i ≤ p + m → j < i → dbl a x i = dbl a x j → i = p + m ∧ j = p) ∧ dbl a x (p + m) = dbl a x p := by
  obtain ⟨h1, _, h2, h3, h4⟩ := (AV_iff n d).1 h
  obtain ⟨x, rfl⟩ : ∃ x : Nat, d = x := ⟨d.toNat, by omega⟩
  obtain ⟨a, rfl⟩ : ∃ a : Nat, n = a := ⟨n.toNat, by omega⟩
  have hx0 : 0 < x := by omega
  obtain ⟨t, ht, hp⟩ := Lib.ctzFrom_spec 64 x hx0 (by omega)
  obtain ⟨p, hpe⟩ : ∃ p, Lib.ctzFrom 64 x = p := ⟨_, rfl⟩
  rw [hpe] at ht hp
  have hq : (2 * t + 1) % 2 = 1 := by omega
  have hpos := Nat.two_pow_pos p
  have hle : 2 ^ p * 1 ≤ 2 ^ p * (2 * t + 1) := Nat.mul_le_mul_left _ (by omega)
  have hle2 : 1 * (2 * t + 1) ≤ 2 ^ p * (2 * t + 1) := Nat.mul_le_mul_right _ hpos
  have hp13 : p ≤ 13 := by
    by_cases hc : p ≤ 13
    · exact hc
    · have : 2 ^ 14 ≤ 2 ^ p := Nat.pow_le_pow_right (by decide) (by omega)
      omega
  obtain ⟨m, m1, m2, m3, m4⟩ := ord2 hq
  have hc : Nat.Coprime a (2 ^ p * (2 * t + 1)) := by
    rw [← ht]; exact h4
  refine ⟨a, x, p, 2 * t + 1, m, rfl, rfl, ?_, ?_, hp13, by omega, by omega, m1, m2, m3, m4, ?_, ?_⟩
  · unfold Lib.ctz; rw [if_neg (by omega)]; exact hpe
  · conv => lhs; rw [ht]
    exact Nat.mul_div_cancel_left _ hpos
  · rw [ht]; exact fun i j => first_back hq hc m4
  · rw [ht]; exact comes_back hq hc m1 m3
theorem fnExactAnglePeriod_walk (n d : Int) (w : World) (_hn : I64 n) (_hd : I64 d) (hT : Tb w) :
    Calls Tryd.prog 3 #[.agg #[.int .i64 n, .int .i64 d]] w (Gives (.bool true) w) := by
  by_cases h : AV n d = true ∧ d ≤ 5000
  · obtain ⟨hv, h5⟩ := h
    obtain ⟨a, x, p, q, m, rfl, rfl, e1, e2, e3, e4, e5, e6, e7, e8, e9, e10, e11⟩ := angle_parts hv h5
    have S := Lib.hid (fun w => spec_AnglePeriod_yes a x p m w hv (by omega) e6 (by omega) e10 e11)
    have I := Lib.hid (fun w hT => impl_AnglePeriod_yes a x p q m w hT hv (by omega) e1 e2 e3 e4 e5 e6 e7 e8 e9)
    have HT := Lib.hid hT
    clear hT e1 e2 e3 e4 e5 e6 e7 e8 e9 e10 e11 hv h5
    go_enter Tryd.func3, Tryd.ntmps3
    go_wp2_with fail
    refine (toAngle_any _ _ _).mono ?_
    rintro e u1 ⟨rfl, hb⟩
    have hB1 : Below w.heap.size w u1 := Below.trans (by go_grown) (hb.mono (by go_size))
    have hz1 := hb.size
    try simp at hz1
    have hw1 := hB1.size
    obtain ⟨hc1, hf1⟩ := bcell hb
    clear hb
    try have s0_0_1 : w.heap.size < u1.heap.size := by omega
    try have l0_0_1 : w.heap.size ≤ u1.heap.size := by omega
    go_wp2_with fail
    refine (S.out _).mono ?_
    rintro e u2 ⟨rfl, hb⟩
    have hB2 : Below w.heap.size w u2 := Below.trans (by go_grown) (hb.mono (by go_size))
    have hz2 := hb.size
    try simp at hz2
    have hw2 := hB2.size
    obtain ⟨hc2, hf2⟩ := bcell hb
    clear hb
    try have s0_0_2 : w.heap.size < u2.heap.size := by omega
    try have l0_0_2 : w.heap.size ≤ u2.heap.size := by omega
    try have s1_0_2 : u1.heap.size < u2.heap.size := by omega
    try have l1_0_2 : u1.heap.size ≤ u2.heap.size := by omega
    go_wp2_with fail
    refine (toAngle_any _ _ _).mono ?_
    rintro e u3 ⟨rfl, hb⟩
    have hB3 : Below w.heap.size w u3 := Below.trans (by go_grown) (hb.mono (by go_size))
    have hz3 := hb.size
    try simp at hz3
    have hw3 := hB3.size
    obtain ⟨hc3, hf3⟩ := bcell hb
    clear hb
    try have s0_0_3 : w.heap.size < u3.heap.size := by omega
    try have l0_0_3 : w.heap.size ≤ u3.heap.size := by omega
    try have s1_0_3 : u1.heap.size < u3.heap.size := by omega
    try have l1_0_3 : u1.heap.size ≤ u3.heap.size := by omega
    try have s2_0_3 : u2.heap.size < u3.heap.size := by omega
    try have l2_0_3 : u2.heap.size ≤ u3.heap.size := by omega
    go_wp2_with fail
    refine (I.out _ (HT.out.below hB3)).mono ?_
    rintro e u4 ⟨rfl, hb⟩
    have hB4 : Below w.heap.size w u4 := Below.trans (by go_grown) (hb.mono (by go_size))
    have hz4 := hb.size
    try simp at hz4
    have hw4 := hB4.size
    obtain ⟨hc4, hf4⟩ := bcell hb
    clear hb
    try have s0_0_4 : w.heap.size < u4.heap.size := by omega
    try have l0_0_4 : w.heap.size ≤ u4.heap.size := by omega
    try have s1_0_4 : u1.heap.size < u4.heap.size := by omega
    try have l1_0_4 : u1.heap.size ≤ u4.heap.size := by omega
    try have s2_0_4 : u2.heap.size < u4.heap.size := by omega
    try have l2_0_4 : u2.heap.size ≤ u4.heap.size := by omega
    try have s3_0_4 : u3.heap.size < u4.heap.size := by omega
    try have l3_0_4 : u3.heap.size ≤ u4.heap.size := by omega
    go_wp2
    go_returns
    exact ⟨rfl, hB4⟩
  · have h' : AV n d = false ∨ 5000 < d := by
      cases hv : AV n d
      · exact Or.inl rfl
      · by_cases h5 : d ≤ 5000
        · exact absurd ⟨hv, h5⟩ h
        · exact Or.inr (by omega)
    have S := Lib.hid (fun w => spec_AnglePeriod_no n d w h')
    have I := Lib.hid (fun w => impl_AnglePeriod_no n d w h')
    clear h h' hT
    go_enter Tryd.func3, Tryd.ntmps3
    go_wp2_with fail
    refine (toAngle_any _ _ _).mono ?_
    rintro e u1 ⟨rfl, hb⟩
    have hB1 : Below w.heap.size w u1 := Below.trans (by go_grown) (hb.mono (by go_size))
    have hz1 := hb.size
    try simp at hz1
    have hw1 := hB1.size
    obtain ⟨hc1, hf1⟩ := bcell hb
    clear hb
    try have s0_0_1 : w.heap.size < u1.heap.size := by omega
    try have l0_0_1 : w.heap.size ≤ u1.heap.size := by omega
    go_wp2_with fail
    refine (S.out _).mono ?_
    rintro e u2 ⟨rfl, hb⟩
    have hB2 : Below w.heap.size w u2 := Below.trans (by go_grown) (hb.mono (by go_size))
    have hz2 := hb.size
    try simp at hz2
    have hw2 := hB2.size
    obtain ⟨hc2, hf2⟩ := bcell hb
    clear hb
    try have s0_0_2 : w.heap.size < u2.heap.size := by omega
    try have l0_0_2 : w.heap.size ≤ u2.heap.size := by omega
    try have s1_0_2 : u1.heap.size < u2.heap.size := by omega
    try have l1_0_2 : u1.heap.size ≤ u2.heap.size := by omega
    go_wp2_with fail
    refine (toAngle_any _ _ _).mono ?_
    rintro e u3 ⟨rfl, hb⟩
    have hB3 : Below w.heap.size w u3 := Below.trans (by go_grown) (hb.mono (by go_size))
    have hz3 := hb.size
    try simp at hz3
    have hw3 := hB3.size
    obtain ⟨hc3, hf3⟩ := bcell hb
    clear hb
    try have s0_0_3 : w.heap.size < u3.heap.size := by omega
    try have l0_0_3 : w.heap.size ≤ u3.heap.size := by omega
    try have s1_0_3 : u1.heap.size < u3.heap.size := by omega
    try have l1_0_3 : u1.heap.size ≤ u3.heap.size := by omega
    try have s2_0_3 : u2.heap.size < u3.heap.size := by omega
    try have l2_0_3 : u2.heap.size ≤ u3.heap.size := by omega
    go_wp2_with fail
    refine (I.out _).mono ?_
    rintro e u4 ⟨rfl, hb⟩
    have hB4 : Below w.heap.size w u4 := Below.trans (by go_grown) (hb.mono (by go_size))
    have hz4 := hb.size
    try simp at hz4
    have hw4 := hB4.size
    obtain ⟨hc4, hf4⟩ := bcell hb
    clear hb
    try have s0_0_4 : w.heap.size < u4.heap.size := by omega
    try have l0_0_4 : w.heap.size ≤ u4.heap.size := by omega
    try have s1_0_4 : u1.heap.size < u4.heap.size := by omega
    try have l1_0_4 : u1.heap.size ≤ u4.heap.size := by omega
    try have s2_0_4 : u2.heap.size < u4.heap.size := by omega
    try have l2_0_4 : u2.heap.size ≤ u4.heap.size := by omega
    try have s3_0_4 : u3.heap.size < u4.heap.size := by omega
    try have l3_0_4 : u3.heap.size ≤ u4.heap.size := by omega
    go_wp2
    go_returns
    exact ⟨rfl, hB4⟩
theorem fnExactAnglePeriod_laid (os : Os) : laidMet Tryd.prog Rows.fnExactAnglePeriodRow.laid ((laidWorld os).forCall (fun _ _ => 0) ⟨#[], #[.agg #[.int .i64 0, .int .i64 0]], []⟩).memory := laidMet_of_run' 8 (by kernel_rfl) (by kernel_rfl)
theorem fnExactAnglePeriod_reads (os : Os) {H : Type} (enc : TypeId × Value → H) : ∃ places, DataW.whole enc Tryd.prog ((laidWorld os).forCall (fun _ _ => 0) ⟨#[], #[.agg #[.int .i64 0, .int .i64 0]], []⟩).memory Tryd.f3.params.toList Rows.fnExactAnglePeriodSpec.vars false #[Value.agg #[.int .i64 0, .int .i64 0]].toList 8 = some ([.agg [.lit (.int .i64 0), .lit (.int .i64 0)]], [], places) := ⟨[], by kernel_rfl⟩
set_option maxRecDepth 100000 in
theorem fnExactAnglePeriod_lifted (os : Os) (started : os.Started) (H : Type) (enc : TypeId × Value → H) (F : Stop.Interp) :
    ReturnsInHanded {} Tryd.checked os 3 .any ((OpenSpec.ofChange Rows.fnExactAnglePeriodSpec).preRow enc Tryd.prog Tryd.f3 Rows.fnExactAnglePeriodRow.domain false Rows.fnExactAnglePeriodRow.laid) (((OpenSpec.ofChange Rows.fnExactAnglePeriodSpec).at F).post enc Tryd.prog Tryd.f3 false true false false) := by
  obtain ⟨places, hx⟩ := fnExactAnglePeriod_reads os enc
  refine returnsInHanded_of_row (C := Tryd.checked) (s := OpenSpec.ofChange Rows.fnExactAnglePeriodSpec) Tryd.own started (by kernel_rfl) Tryd.func3
    (witness_row_at (enc := enc) (C := Tryd.checked) false (laidWorld os) #[.agg #[.int .i64 0, .int .i64 0]] rfl (by kernel_rfl) (by kernel_rfl) (by kernel_rfl)
      (OpenSpec.preRow_of_cond 8 hx (by kernel_rfl) (fun k hk => by cases hk) (by kernel_rfl) (fnExactAnglePeriod_laid os))) ?_
  intro W base args ds gs before hval0 hW _ _ _ hL _ _
  have hT : Tb W := tb_of hL
  have hval : ∀ (j : Nat) t v, Tryd.f3.params[j]? = some t → args[j]? = some v → Value.okWide Tryd.prog W .any base t v := hval0
  have hW' := hW
  obtain ⟨p, q, hA0, hV, rfl, hfz, hnd⟩ := hW
  have hA : DataW.TrodAll enc Tryd.prog W 0 (fun _ => true) true Tryd.f3.params.toList args.toList ds p := hA0
  rw [Tryd.params3] at hA hval
  obtain ⟨v0, vs0, d0, ds0, p0, q0, hargs, rfl, rfl, h0, r0⟩ := trodAll_cons hA
  obtain ⟨rfl, rfl, rfl⟩ := trodAll_nil r0
  obtain rfl : args = #[v0] := by cases args; simp_all
  obtain ⟨rfl, rfl⟩ := trodVars_none hV
  have k0 := h0
  have lt0 : ∀ x ∈ p0, x.block < W.heap.size := by obtain ⟨m, hm⟩ := k0; exact DataW.trod_lt m _ _ _ hm
  obtain ⟨c0_0, c0_1, y0_0, y0_1, m0, rfl, rfl, rfl, hy0_0, hy0_1⟩ := open_agg2 Tryd.underlying23 (by kernel_rfl) (show Tryd.prog.cellsOf 23 = 2 by kernel_rfl) (hval 0 23 v0 rfl rfl) h0
  obtain ⟨x0_0, ex0_0, rfl, wx0_0⟩ := DataW.trod_int Tryd.underlying3 hy0_0
  simp at ex0_0
  subst ex0_0
  obtain ⟨x0_1, ex0_1, rfl, wx0_1⟩ := DataW.trod_int Tryd.underlying3 hy0_1
  simp at ex0_1
  subst ex0_1
  clear hA0 hval0
  refine (fnExactAnglePeriod_walk x0_0 x0_1 W (i64_of_wf wx0_0) (i64_of_wf wx0_1) hT).mono fun e W' ⟨he, bel⟩ => ?_
  subst he
  exact ⟨_, rfl, _, _, _, [], _, [], hW', trodAll_mk1 (shut_bool Tryd.underlying4 _), (trodAll_cons_mk (Below.trod Tryd.laidOut (by kernel_rfl) (of_decide_eq_true (by kernel_rfl)) k0 bel lt0) trodAll_mk0), rfl, bel.frame _, fun h => by cases h⟩

theorem fnExactAnglePeriod_holds : Rows.FnExactAnglePeriodSaid :=
  OpenClaim.holds_of_cond 3 Tryd.f3 rfl rfl rfl rfl rfl rfl rfl ⟨rfl, rfl, rfl, rfl, rfl⟩ rfl rfl rfl rfl rfl (by kernel_rfl) Tryd.func3 (by kernel_rfl)
    (of_decide_eq_true (by kernel_rfl)) (by unfold Func.isWrapper; first | (rw [if_pos (by decide +kernel)]; kernel_rfl) | (rw [if_neg (by decide +kernel)]; exact ⟨rfl, rfl⟩))
    (fun os started H enc _ F => by rw [OpenClaim.pre_eq_preRow]; exact fnExactAnglePeriod_lifted os started H enc F)
theorem fnExactAnglePeriod_plain (f : FuncId) (fn : Func) (hf : Tryd.pinned.checked.prog.funcNamed Rows.fnExactAnglePeriodRow.func = some f) (hfn : Tryd.pinned.checked.prog.funcs[f]? = some fn) :
    false = Tryd.pinned.checked.prog.looks [] ∧ ∀ (j : Nat) t, fn.params[j]? = some t → Tryd.pinned.checked.prog.wantsStandIn t = false := by
  obtain rfl : f = 3 := Option.some.inj ((show Tryd.prog.funcNamed Rows.fnExactAnglePeriodRow.func = some 3 by kernel_rfl).symm.trans hf) |>.symm
  obtain rfl : fn = Tryd.f3 := (Option.some.inj (Tryd.func3.symm.trans hfn)).symm
  refine ⟨by kernel_rfl, fun j t ht => ?_⟩
  rw [Tryd.params3] at ht
  have hm : t ∈ [23] := by simpa using Array.mem_of_getElem? ht
  have hall : ([23].all fun u => !Tryd.prog.wantsStandIn u) = true := by kernel_rfl
  exact (show Tryd.prog.wantsStandIn t = false by simpa using List.all_eq_true.1 hall t hm)
/-- The card. -/
theorem fnExactAnglePeriod_card : Rows.FnExactAnglePeriodCardSaid :=
  Claim7.holds_tied_plain_at .later [] _ _ _ _ fnExactAnglePeriod_holds (fun _ h => by cases h) (by kernel_rfl) (fun _ h => by cases h) fnExactAnglePeriod_row_tie rfl ⟨rfl, rfl⟩ (by kernel_rfl) rfl fnExactAnglePeriod_plain (by kernel_rfl)
#print axioms fnExactAnglePeriod_card
end Go.Proofs.YtlochdfemphhfaaDoor
