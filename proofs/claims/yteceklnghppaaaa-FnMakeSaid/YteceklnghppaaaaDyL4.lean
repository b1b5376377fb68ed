/- The law that lowest terms have the same value: its walk and row. -/
import Derived.Test.YteceklnghppaaaaDyW2
import Derived.Test.YteceklnghppaaaaDyD
import Derived.Test.YteceklnghppaaaaRowB
namespace Go.Proofs.Yteceklnghppaaaa
open Go.ChangeShapes Go.WideShapes Go.ChangeAt Go.RowKit Go.Joins

/-- The doublings so far. -/
def MkLoop (R I S : Int) (m : Nat) (a b i : Value) : Prop := ∃ j : Nat, ∃ x y : Int, j ≤ m ∧ a = .int .i64 x ∧ b = .int .i64 y ∧ i = .int .i64 (S + j) ∧ x = R * 2 ^ j ∧ y = I * 2 ^ j
theorem dbl_bd {R : Int} {m j : Nat} (h : (R * 2 ^ m).natAbs ≤ 4611686018427387904) (hj : j ≤ m) : (R * 2 ^ j).natAbs ≤ 4611686018427387904 := by
  rw [abs_mul_pow] at h ⊢
  have : 2 ^ j ≤ 2 ^ m := Nat.pow_le_pow_right (by omega) hj
  have := Nat.mul_le_mul_left R.natAbs this
  omega

set_option maxRecDepth 100000 in
set_option maxHeartbeats 400000 in
theorem fnMake_walk (v : Value) (w : World) (hv : BytesOk w w.heap.size v) :
    Calls Try.prog 7 #[v] w (Gives (.bool true) w) := by
  have HV := Lib.hid hv
  obtain ⟨a, len, cap, rfl, hlen⟩ : ∃ (a : Option Addr) (len cap : Nat), v = .slice a len cap ∧ len ≤ 9223372036854775807 := by
    rcases hv with ⟨a, c, rfl⟩ | ⟨b, off, len, cap, f, rfl, h1, h2, _⟩
    · exact ⟨a, 0, c, rfl, by omega⟩
    · exact ⟨_, len, cap, rfl, by omega⟩
  clear hv
  by_cases hl : 1048576 < len
  · go_enter Try.func7, Try.ntmps7
    go_wp2
    go_returns
    exact ⟨rfl, Below.refl _ _⟩
  · go_enter Try.func7, Try.ntmps7
    go_wp2_with fail
    refine (DrawDyadMake_any _ _ HV.out).mono ?_
    rintro e u1 ⟨r, i, s, rfl, a1, a2, a3, a4, a5, a6, hB1⟩
    have hw1 := hB1.size
    obtain ⟨hc1, hf1⟩ := bcell hB1
    cases h : MK r i s
    · have H := Lib.hid h; clear h
      go_wp2_with fail
      refine (impl_DyadMake_no r i s _ H.out).mono ?_
      rintro e u2 ⟨rfl, hb⟩
      have hB2 : Below w.heap.size w u2 := Below.trans (by go_grown) (hb.mono (by go_size))
      have hz2 := hb.size
      try simp at hz2
      have hw2 := hB2.size
      obtain ⟨hc2, hf2⟩ := bcell hb
      clear hb
      try have s1_0_2 : u1.heap.size < u2.heap.size := by omega
      try have l1_0_2 : u1.heap.size ≤ u2.heap.size := by omega
      go_wp2_with fail
      refine (spec_DyadMake_no r i s _ H.out).mono ?_
      rintro e u3 ⟨rfl, hb⟩
      have hB3 : Below w.heap.size w u3 := Below.trans (by go_grown) (hb.mono (by go_size))
      have hz3 := hb.size
      try simp at hz3
      have hw3 := hB3.size
      obtain ⟨hc3, hf3⟩ := bcell hb
      clear hb
      try have s1_0_3 : u1.heap.size < u3.heap.size := by omega
      try have l1_0_3 : u1.heap.size ≤ u3.heap.size := by omega
      try have s2_0_3 : u2.heap.size < u3.heap.size := by omega
      try have l2_0_3 : u2.heap.size ≤ u3.heap.size := by omega
      go_wp2
      go_returns
      exact ⟨rfl, by go_grown⟩
    · obtain ⟨k0, k1⟩ := Bool.and_eq_true_iff.1 h
      obtain ⟨s0, s1, -⟩ := (MKr_iff r i s).1 k0
      obtain ⟨m, e1, e2, e3, -⟩ := l_spec r i s s0
      obtain ⟨-, -, -, -, v5, v6, -⟩ := (DV_iff _ _ _).1 k1
      have H := Lib.hid h; have K1 := Lib.hid k1; clear h k0 k1
      have F1 := Lib.hid e1; have F2 := Lib.hid e2; have F3 := Lib.hid e3; clear e1 e2 e3
      go_wp2_with fail
      refine (impl_DyadMake_yes r i s _ H.out).mono ?_
      rintro e u2 ⟨rfl, hb⟩
      have hB2 : Below w.heap.size w u2 := Below.trans (by go_grown) (hb.mono (by go_size))
      have hz2 := hb.size
      try simp at hz2
      have hw2 := hB2.size
      obtain ⟨hc2, hf2⟩ := bcell hb
      clear hb
      try have s1_0_2 : u1.heap.size < u2.heap.size := by omega
      try have l1_0_2 : u1.heap.size ≤ u2.heap.size := by omega
      go_wp2_with fail
      refine (spec_DyadMake_yes r i s _ H.out).mono ?_
      rintro e u3 ⟨rfl, hb⟩
      have hB3 : Below w.heap.size w u3 := Below.trans (by go_grown) (hb.mono (by go_size))
      have hz3 := hb.size
      try simp at hz3
      have hw3 := hB3.size
      obtain ⟨hc3, hf3⟩ := bcell hb
      clear hb
      try have s1_0_3 : u1.heap.size < u3.heap.size := by omega
      try have l1_0_3 : u1.heap.size ≤ u3.heap.size := by omega
      try have s2_0_3 : u2.heap.size < u3.heap.size := by omega
      try have l2_0_3 : u2.heap.size ≤ u3.heap.size := by omega
      have c0 : u3.cell? ⟨u2.heap.size, 0, none⟩ = some (.int .i64 (lR r i s)) := by go_simp
      have c1 : u3.cell? ⟨u2.heap.size, 1, none⟩ = some (.int .i64 (lI r i s)) := by go_simp
      have c2 : u3.cell? ⟨u2.heap.size, 2, none⟩ = some (.int .i64 (lS r i s)) := by go_simp
      clear hc1 hf1 hc2 hf2 hc3 hf3
      have e1 := F1.out; have e2 := F2.out; have e3 := F3.out
      clear F1 F2 F3
      generalize lR r i s = R at c0 c1 c2 e1 e2 e3 v5 v6 K1
      generalize lI r i s = I at c0 c1 c2 e1 e2 e3 v5 v6 K1
      generalize lS r i s = S at c0 c1 c2 e1 e2 e3 v5 v6 K1
      have b1 : (R * 2 ^ m).natAbs ≤ 4611686018427387904 := by rw [← e2]; omega
      have b2 : (I * 2 ^ m).natAbs ≤ 4611686018427387904 := by rw [← e3]; omega
      have E2 := Lib.hid e2; have E3 := Lib.hid e3; have E1 := Lib.hid e1
      have q1 : S + m ≤ s := by omega
      have q2 : s ≤ S + m := by omega
      clear e1 e2 e3
      have B1 := Lib.hid b1; have B2 := Lib.hid b2; clear b1 b2
      go_wp2
      go_loop [10, 11, 12] (fun a b i => MkLoop R I S m a b i) (fun _ _ i => (s - intOf i).toNat)
      case atStart => exact ⟨0, R, I, by omega, rfl, rfl, by simp, by simp, by simp⟩
      case round =>
        obtain ⟨j, x, y, hj, rfl, rfl, rfl, hx, hy⟩ := hrel
        have X := Lib.hid hx; have Y := Lib.hid hy
        have d1 := dbl_bd B1.out hj; have d2 := dbl_bd B2.out hj
        rw [← hx] at d1; rw [← hy] at d2
        clear hx hy
        have d1a : -4611686018427387904 ≤ x := by omega
        have d1b : x ≤ 4611686018427387904 := by omega
        have d2a : -4611686018427387904 ≤ y := by omega
        have d2b : y ≤ 4611686018427387904 := by omega
        clear d1 d2
        by_cases hlt : j < m
        · have hlt' : S + j < s := by omega
          have d3 := dbl_bd B1.out (show j + 1 ≤ m by omega)
          have d4 := dbl_bd B2.out (show j + 1 ≤ m by omega)
          have g1 : R * 2 ^ (j + 1) = 2 * x := by rw [X.out, Int.pow_succ, Int.mul_comm 2, Int.mul_assoc]
          have g2 : I * 2 ^ (j + 1) = 2 * y := by rw [Y.out, Int.pow_succ, Int.mul_comm 2, Int.mul_assoc]
          rw [g1] at d3; rw [g2] at d4
          have G1 := Lib.hid g1; have G2 := Lib.hid g2; clear g1 g2
          have d5 : -2305843009213693952 ≤ x := by omega
          have d6 : x ≤ 2305843009213693952 := by omega
          have d7 : -2305843009213693952 ≤ y := by omega
          have d8 : y ≤ 2305843009213693952 := by omega
          clear d3 d4
          go_wp2
          go_round
          case rel => exact ⟨j + 1, 2 * x, 2 * y, by omega, rfl, rfl, by congr 1; omega, G1.out.symm, G2.out.symm⟩
          case measure => simp [intOf]; omega
        · obtain rfl : j = m := by omega
          have hge : ¬ S + j < s := by omega
          have x1 : x = r := by rw [X.out, E2.out]
          have y1 : y = i := by rw [Y.out, E3.out]
          subst x1 y1
          have q3 : S ≤ s := by omega
          go_wp2_with (go_at_call 21; refine (impl_DyadValid_any R I S _).mono ?_; rw [K1.out]; rintro e u4 ⟨rfl, hb⟩; have hB4 : Below w.heap.size w u4 := Below.trans (by go_grown) (hb.mono (by go_size)); obtain ⟨hc4, hf4⟩ := bcell hb; clear hb)
          go_returns
          exact ⟨rfl, hB4⟩
set_option maxRecDepth 100000 in
theorem fnMake_lifted (os : Os) (started : os.Started) (H : Type) (enc : TypeId × Value → H) :
    ReturnsInHanded {} Try.checked os 7 .any (Rows.fnMakeSpec.pre6 enc Try.prog Try.f7 Rows.fnMakeRow.domain false) (Rows.fnMakeSpec.post enc Try.prog Try.f7 false true false false) := by
  refine returnsInHanded_of_change (C := Try.checked) Try.own started (by kernel_rfl) Try.func7
    (ChangeSpec.witness6 (enc := enc) (C := Try.checked) false ⟨#[], #[.slice none 0 0], []⟩ 8 (by kernel_rfl) (by kernel_rfl) (by kernel_rfl) (by kernel_rfl)) ?_
  intro W base args ds gs before hval0 hW hcnd _
  have hval : ∀ (j : Nat) t v, Try.f7.params[j]? = some t → args[j]? = some v → Value.okWide Try.prog W .any base t v := hval0
  have hW' := hW
  obtain ⟨p, q, hA0, hV, rfl, hfz, hnd⟩ := hW
  have hA : DataW.TrodAll enc Try.prog W 0 (fun _ => true) true Try.f7.params.toList args.toList ds p := hA0
  rw [Try.params7] at hA hval
  obtain ⟨v0, vs0, d0, ds0, p0, q0, hargs, rfl, rfl, h0, r0⟩ := trodAll_cons hA
  obtain ⟨rfl, rfl, rfl⟩ := trodAll_nil r0
  obtain rfl : args = #[v0] := by cases args; simp_all
  obtain ⟨rfl, rfl⟩ := trodVars_none hV
  have k0 := h0
  have lt0 : ∀ x ∈ p0, x.block < W.heap.size := by obtain ⟨m, hm⟩ := k0; exact DataW.trod_lt m _ _ _ hm
  obtain ⟨a0, len0, cap0, rfl⟩ := okWide_slice Try.underlying36 (hval 0 36 v0 rfl rfl)
  have hb0 : BytesOk W W.heap.size (.slice a0 len0 cap0) := by
    obtain ⟨fuel, hf⟩ := h0
    exact bytes_of_ints (open_ints Try.underlying36 Try.underlying5 (by kernel_rfl) hf)
  clear hA0 hval0
  refine (fnMake_walk (.slice a0 len0 cap0) W hb0).mono fun e W' ⟨he, bel⟩ => ?_
  subst he
  exact ⟨_, rfl, _, _, _, [], _, [], hW', trodAll_mk1 (shut_bool Try.underlying4 _), (trodAll_cons_mk (Below.trod Try.laidOut (by kernel_rfl) (of_decide_eq_true (by kernel_rfl)) k0 bel lt0) trodAll_mk0), rfl, bel.frame _, fun h => by cases h⟩

theorem fnMake_holds : Rows.FnMakeSaid :=
  OpenClaim.holds_of_wide 7 Try.f7 rfl rfl rfl rfl rfl rfl rfl ⟨rfl, rfl, rfl, rfl, rfl⟩ rfl rfl rfl rfl rfl (by kernel_rfl) Try.func7 (by kernel_rfl)
    (of_decide_eq_true (by kernel_rfl)) (by unfold Func.isWrapper; first | (rw [if_pos (by decide +kernel)]; kernel_rfl) | (rw [if_neg (by decide +kernel)]; exact ⟨rfl, rfl⟩))
    (fun os started H enc _ => fnMake_lifted os started H enc)

end Go.Proofs.Yteceklnghppaaaa
