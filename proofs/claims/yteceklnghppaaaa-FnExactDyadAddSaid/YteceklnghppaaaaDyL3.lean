/- The law that compares the program's DyadAdd with the reference's: its walk and row. -/
import Derived.Test.YteceklnghppaaaaDyW6
import Derived.Test.YteceklnghppaaaaRow
namespace Go.Proofs.Yteceklnghppaaaa
open Go.ChangeShapes Go.WideShapes Go.ChangeAt Go.RowKit Go.Joins

theorem fnExactDyadAdd_walk (r i s x y t : Int) (w : World) (_hr : I64 r) (_hi : I64 i) (_hs : I64 s) (_hx : I64 x) (_hy : I64 y) (_ht : I64 t) :
    Calls Try.prog 6 #[.agg #[.int .i64 r, .int .i64 i, .int .i64 s], .agg #[.int .i64 x, .int .i64 y, .int .i64 t]] w (Gives (.bool true) w) := by
  have HR := Lib.hid _hr; have HI := Lib.hid _hi; have HX := Lib.hid _hx; have HY := Lib.hid _hy; clear _hr _hi _hs _hx _hy _ht
  cases h : ADD r i s x y t
  · have HV := Lib.hid (ADV_no h); clear h
    go_enter Try.func6, Try.ntmps6
    go_wp2_with fail
    refine (toDyad_any r i s _).mono ?_
    rintro e u1 ⟨rfl, hb⟩
    have hB1 : Below w.heap.size w u1 := Below.trans (by go_grown) (hb.mono (by go_size))
    have hz1 := hb.size
    try simp at hz1
    have hw1 := hB1.size
    obtain ⟨hc1, hf1⟩ := bcell hb
    clear hb
    try have s0_0_1 : w.heap.size < u1.heap.size := by omega
    try have l0_0_1 : w.heap.size ≤ u1.heap.size := by omega
    try have s0_1_1 : w.heap.size + 1 < u1.heap.size := by omega
    try have l0_1_1 : w.heap.size + 1 ≤ u1.heap.size := by omega
    go_wp2_with fail
    refine (toDyad_any x y t _).mono ?_
    rintro e u2 ⟨rfl, hb⟩
    have hB2 : Below w.heap.size w u2 := Below.trans (by go_grown) (hb.mono (by go_size))
    have hz2 := hb.size
    try simp at hz2
    have hw2 := hB2.size
    obtain ⟨hc2, hf2⟩ := bcell hb
    clear hb
    try have s0_0_2 : w.heap.size < u2.heap.size := by omega
    try have l0_0_2 : w.heap.size ≤ u2.heap.size := by omega
    try have s0_1_2 : w.heap.size + 1 < u2.heap.size := by omega
    try have l0_1_2 : w.heap.size + 1 ≤ u2.heap.size := by omega
    try have s1_0_2 : u1.heap.size < u2.heap.size := by omega
    try have l1_0_2 : u1.heap.size ≤ u2.heap.size := by omega
    go_wp2_with fail
    refine (spec_DyadAdd_any r i s x y t _ HR.out HI.out HX.out HY.out).mono ?_
    rw [HV.out]
    rintro e u3 ⟨rfl, hb⟩
    have hB3 : Below w.heap.size w u3 := Below.trans (by go_grown) (hb.mono (by go_size))
    have hz3 := hb.size
    try simp at hz3
    have hw3 := hB3.size
    obtain ⟨hc3, hf3⟩ := bcell hb
    clear hb
    try have s0_0_3 : w.heap.size < u3.heap.size := by omega
    try have l0_0_3 : w.heap.size ≤ u3.heap.size := by omega
    try have s0_1_3 : w.heap.size + 1 < u3.heap.size := by omega
    try have l0_1_3 : w.heap.size + 1 ≤ u3.heap.size := by omega
    try have s1_0_3 : u1.heap.size < u3.heap.size := by omega
    try have l1_0_3 : u1.heap.size ≤ u3.heap.size := by omega
    try have s2_0_3 : u2.heap.size < u3.heap.size := by omega
    try have l2_0_3 : u2.heap.size ≤ u3.heap.size := by omega
    go_wp2_with fail
    refine (toDyad_any r i s _).mono ?_
    rintro e u4 ⟨rfl, hb⟩
    have hB4 : Below w.heap.size w u4 := Below.trans (by go_grown) (hb.mono (by go_size))
    have hz4 := hb.size
    try simp at hz4
    have hw4 := hB4.size
    obtain ⟨hc4, hf4⟩ := bcell hb
    clear hb
    try have s0_0_4 : w.heap.size < u4.heap.size := by omega
    try have l0_0_4 : w.heap.size ≤ u4.heap.size := by omega
    try have s0_1_4 : w.heap.size + 1 < u4.heap.size := by omega
    try have l0_1_4 : w.heap.size + 1 ≤ u4.heap.size := by omega
    try have s1_0_4 : u1.heap.size < u4.heap.size := by omega
    try have l1_0_4 : u1.heap.size ≤ u4.heap.size := by omega
    try have s2_0_4 : u2.heap.size < u4.heap.size := by omega
    try have l2_0_4 : u2.heap.size ≤ u4.heap.size := by omega
    try have s3_0_4 : u3.heap.size < u4.heap.size := by omega
    try have l3_0_4 : u3.heap.size ≤ u4.heap.size := by omega
    go_wp2_with fail
    refine (toDyad_any x y t _).mono ?_
    rintro e u5 ⟨rfl, hb⟩
    have hB5 : Below w.heap.size w u5 := Below.trans (by go_grown) (hb.mono (by go_size))
    have hz5 := hb.size
    try simp at hz5
    have hw5 := hB5.size
    obtain ⟨hc5, hf5⟩ := bcell hb
    clear hb
    try have s0_0_5 : w.heap.size < u5.heap.size := by omega
    try have l0_0_5 : w.heap.size ≤ u5.heap.size := by omega
    try have s0_1_5 : w.heap.size + 1 < u5.heap.size := by omega
    try have l0_1_5 : w.heap.size + 1 ≤ u5.heap.size := by omega
    try have s1_0_5 : u1.heap.size < u5.heap.size := by omega
    try have l1_0_5 : u1.heap.size ≤ u5.heap.size := by omega
    try have s2_0_5 : u2.heap.size < u5.heap.size := by omega
    try have l2_0_5 : u2.heap.size ≤ u5.heap.size := by omega
    try have s3_0_5 : u3.heap.size < u5.heap.size := by omega
    try have l3_0_5 : u3.heap.size ≤ u5.heap.size := by omega
    try have s4_0_5 : u4.heap.size < u5.heap.size := by omega
    try have l4_0_5 : u4.heap.size ≤ u5.heap.size := by omega
    go_wp2_with fail
    refine (impl_DyadAdd_any r i s x y t _).mono ?_
    rw [HV.out]
    rintro e u6 ⟨rfl, hb⟩
    have hB6 : Below w.heap.size w u6 := Below.trans (by go_grown) (hb.mono (by go_size))
    have hz6 := hb.size
    try simp at hz6
    have hw6 := hB6.size
    obtain ⟨hc6, hf6⟩ := bcell hb
    clear hb
    try have s0_0_6 : w.heap.size < u6.heap.size := by omega
    try have l0_0_6 : w.heap.size ≤ u6.heap.size := by omega
    try have s0_1_6 : w.heap.size + 1 < u6.heap.size := by omega
    try have l0_1_6 : w.heap.size + 1 ≤ u6.heap.size := by omega
    try have s1_0_6 : u1.heap.size < u6.heap.size := by omega
    try have l1_0_6 : u1.heap.size ≤ u6.heap.size := by omega
    try have s2_0_6 : u2.heap.size < u6.heap.size := by omega
    try have l2_0_6 : u2.heap.size ≤ u6.heap.size := by omega
    try have s3_0_6 : u3.heap.size < u6.heap.size := by omega
    try have l3_0_6 : u3.heap.size ≤ u6.heap.size := by omega
    try have s4_0_6 : u4.heap.size < u6.heap.size := by omega
    try have l4_0_6 : u4.heap.size ≤ u6.heap.size := by omega
    try have s5_0_6 : u5.heap.size < u6.heap.size := by omega
    try have l5_0_6 : u5.heap.size ≤ u6.heap.size := by omega
    go_wp2_with fail
    refine (eqDyad_any _ _ _ _ _ _ _).mono ?_
    rintro e u7 ⟨rfl, hb⟩
    have hB7 : Below w.heap.size w u7 := Below.trans (by go_grown) (hb.mono (by go_size))
    have hz7 := hb.size
    try simp at hz7
    have hw7 := hB7.size
    obtain ⟨hc7, hf7⟩ := bcell hb
    clear hb
    try have s0_0_7 : w.heap.size < u7.heap.size := by omega
    try have l0_0_7 : w.heap.size ≤ u7.heap.size := by omega
    try have s0_1_7 : w.heap.size + 1 < u7.heap.size := by omega
    try have l0_1_7 : w.heap.size + 1 ≤ u7.heap.size := by omega
    try have s1_0_7 : u1.heap.size < u7.heap.size := by omega
    try have l1_0_7 : u1.heap.size ≤ u7.heap.size := by omega
    try have s2_0_7 : u2.heap.size < u7.heap.size := by omega
    try have l2_0_7 : u2.heap.size ≤ u7.heap.size := by omega
    try have s3_0_7 : u3.heap.size < u7.heap.size := by omega
    try have l3_0_7 : u3.heap.size ≤ u7.heap.size := by omega
    try have s4_0_7 : u4.heap.size < u7.heap.size := by omega
    try have l4_0_7 : u4.heap.size ≤ u7.heap.size := by omega
    try have s5_0_7 : u5.heap.size < u7.heap.size := by omega
    try have l5_0_7 : u5.heap.size ≤ u7.heap.size := by omega
    try have s6_0_7 : u6.heap.size < u7.heap.size := by omega
    try have l6_0_7 : u6.heap.size ≤ u7.heap.size := by omega
    go_wp2
    go_returns
    exact ⟨rfl, hB7⟩
  · have HV := Lib.hid (ADV_yes h); clear h
    go_enter Try.func6, Try.ntmps6
    go_wp2_with fail
    refine (toDyad_any r i s _).mono ?_
    rintro e u1 ⟨rfl, hb⟩
    have hB1 : Below w.heap.size w u1 := Below.trans (by go_grown) (hb.mono (by go_size))
    have hz1 := hb.size
    try simp at hz1
    have hw1 := hB1.size
    obtain ⟨hc1, hf1⟩ := bcell hb
    clear hb
    try have s0_0_1 : w.heap.size < u1.heap.size := by omega
    try have l0_0_1 : w.heap.size ≤ u1.heap.size := by omega
    try have s0_1_1 : w.heap.size + 1 < u1.heap.size := by omega
    try have l0_1_1 : w.heap.size + 1 ≤ u1.heap.size := by omega
    go_wp2_with fail
    refine (toDyad_any x y t _).mono ?_
    rintro e u2 ⟨rfl, hb⟩
    have hB2 : Below w.heap.size w u2 := Below.trans (by go_grown) (hb.mono (by go_size))
    have hz2 := hb.size
    try simp at hz2
    have hw2 := hB2.size
    obtain ⟨hc2, hf2⟩ := bcell hb
    clear hb
    try have s0_0_2 : w.heap.size < u2.heap.size := by omega
    try have l0_0_2 : w.heap.size ≤ u2.heap.size := by omega
    try have s0_1_2 : w.heap.size + 1 < u2.heap.size := by omega
    try have l0_1_2 : w.heap.size + 1 ≤ u2.heap.size := by omega
    try have s1_0_2 : u1.heap.size < u2.heap.size := by omega
    try have l1_0_2 : u1.heap.size ≤ u2.heap.size := by omega
    go_wp2_with fail
    refine (spec_DyadAdd_any r i s x y t _ HR.out HI.out HX.out HY.out).mono ?_
    rw [HV.out]
    rintro e u3 ⟨rfl, hb⟩
    have hB3 : Below w.heap.size w u3 := Below.trans (by go_grown) (hb.mono (by go_size))
    have hz3 := hb.size
    try simp at hz3
    have hw3 := hB3.size
    obtain ⟨hc3, hf3⟩ := bcell hb
    clear hb
    try have s0_0_3 : w.heap.size < u3.heap.size := by omega
    try have l0_0_3 : w.heap.size ≤ u3.heap.size := by omega
    try have s0_1_3 : w.heap.size + 1 < u3.heap.size := by omega
    try have l0_1_3 : w.heap.size + 1 ≤ u3.heap.size := by omega
    try have s1_0_3 : u1.heap.size < u3.heap.size := by omega
    try have l1_0_3 : u1.heap.size ≤ u3.heap.size := by omega
    try have s2_0_3 : u2.heap.size < u3.heap.size := by omega
    try have l2_0_3 : u2.heap.size ≤ u3.heap.size := by omega
    go_wp2_with fail
    refine (toDyad_any r i s _).mono ?_
    rintro e u4 ⟨rfl, hb⟩
    have hB4 : Below w.heap.size w u4 := Below.trans (by go_grown) (hb.mono (by go_size))
    have hz4 := hb.size
    try simp at hz4
    have hw4 := hB4.size
    obtain ⟨hc4, hf4⟩ := bcell hb
    clear hb
    try have s0_0_4 : w.heap.size < u4.heap.size := by omega
    try have l0_0_4 : w.heap.size ≤ u4.heap.size := by omega
    try have s0_1_4 : w.heap.size + 1 < u4.heap.size := by omega
    try have l0_1_4 : w.heap.size + 1 ≤ u4.heap.size := by omega
    try have s1_0_4 : u1.heap.size < u4.heap.size := by omega
    try have l1_0_4 : u1.heap.size ≤ u4.heap.size := by omega
    try have s2_0_4 : u2.heap.size < u4.heap.size := by omega
    try have l2_0_4 : u2.heap.size ≤ u4.heap.size := by omega
    try have s3_0_4 : u3.heap.size < u4.heap.size := by omega
    try have l3_0_4 : u3.heap.size ≤ u4.heap.size := by omega
    go_wp2_with fail
    refine (toDyad_any x y t _).mono ?_
    rintro e u5 ⟨rfl, hb⟩
    have hB5 : Below w.heap.size w u5 := Below.trans (by go_grown) (hb.mono (by go_size))
    have hz5 := hb.size
    try simp at hz5
    have hw5 := hB5.size
    obtain ⟨hc5, hf5⟩ := bcell hb
    clear hb
    try have s0_0_5 : w.heap.size < u5.heap.size := by omega
    try have l0_0_5 : w.heap.size ≤ u5.heap.size := by omega
    try have s0_1_5 : w.heap.size + 1 < u5.heap.size := by omega
    try have l0_1_5 : w.heap.size + 1 ≤ u5.heap.size := by omega
    try have s1_0_5 : u1.heap.size < u5.heap.size := by omega
    try have l1_0_5 : u1.heap.size ≤ u5.heap.size := by omega
    try have s2_0_5 : u2.heap.size < u5.heap.size := by omega
    try have l2_0_5 : u2.heap.size ≤ u5.heap.size := by omega
    try have s3_0_5 : u3.heap.size < u5.heap.size := by omega
    try have l3_0_5 : u3.heap.size ≤ u5.heap.size := by omega
    try have s4_0_5 : u4.heap.size < u5.heap.size := by omega
    try have l4_0_5 : u4.heap.size ≤ u5.heap.size := by omega
    go_wp2_with fail
    refine (impl_DyadAdd_any r i s x y t _).mono ?_
    rw [HV.out]
    rintro e u6 ⟨rfl, hb⟩
    have hB6 : Below w.heap.size w u6 := Below.trans (by go_grown) (hb.mono (by go_size))
    have hz6 := hb.size
    try simp at hz6
    have hw6 := hB6.size
    obtain ⟨hc6, hf6⟩ := bcell hb
    clear hb
    try have s0_0_6 : w.heap.size < u6.heap.size := by omega
    try have l0_0_6 : w.heap.size ≤ u6.heap.size := by omega
    try have s0_1_6 : w.heap.size + 1 < u6.heap.size := by omega
    try have l0_1_6 : w.heap.size + 1 ≤ u6.heap.size := by omega
    try have s1_0_6 : u1.heap.size < u6.heap.size := by omega
    try have l1_0_6 : u1.heap.size ≤ u6.heap.size := by omega
    try have s2_0_6 : u2.heap.size < u6.heap.size := by omega
    try have l2_0_6 : u2.heap.size ≤ u6.heap.size := by omega
    try have s3_0_6 : u3.heap.size < u6.heap.size := by omega
    try have l3_0_6 : u3.heap.size ≤ u6.heap.size := by omega
    try have s4_0_6 : u4.heap.size < u6.heap.size := by omega
    try have l4_0_6 : u4.heap.size ≤ u6.heap.size := by omega
    try have s5_0_6 : u5.heap.size < u6.heap.size := by omega
    try have l5_0_6 : u5.heap.size ≤ u6.heap.size := by omega
    go_wp2_with fail
    refine (eqDyad_any _ _ _ _ _ _ _).mono ?_
    rintro e u7 ⟨rfl, hb⟩
    have hB7 : Below w.heap.size w u7 := Below.trans (by go_grown) (hb.mono (by go_size))
    have hz7 := hb.size
    try simp at hz7
    have hw7 := hB7.size
    obtain ⟨hc7, hf7⟩ := bcell hb
    clear hb
    try have s0_0_7 : w.heap.size < u7.heap.size := by omega
    try have l0_0_7 : w.heap.size ≤ u7.heap.size := by omega
    try have s0_1_7 : w.heap.size + 1 < u7.heap.size := by omega
    try have l0_1_7 : w.heap.size + 1 ≤ u7.heap.size := by omega
    try have s1_0_7 : u1.heap.size < u7.heap.size := by omega
    try have l1_0_7 : u1.heap.size ≤ u7.heap.size := by omega
    try have s2_0_7 : u2.heap.size < u7.heap.size := by omega
    try have l2_0_7 : u2.heap.size ≤ u7.heap.size := by omega
    try have s3_0_7 : u3.heap.size < u7.heap.size := by omega
    try have l3_0_7 : u3.heap.size ≤ u7.heap.size := by omega
    try have s4_0_7 : u4.heap.size < u7.heap.size := by omega
    try have l4_0_7 : u4.heap.size ≤ u7.heap.size := by omega
    try have s5_0_7 : u5.heap.size < u7.heap.size := by omega
    try have l5_0_7 : u5.heap.size ≤ u7.heap.size := by omega
    try have s6_0_7 : u6.heap.size < u7.heap.size := by omega
    try have l6_0_7 : u6.heap.size ≤ u7.heap.size := by omega
    go_wp2
    go_returns
    exact ⟨rfl, hB7⟩
set_option maxRecDepth 100000 in
theorem fnExactDyadAdd_lifted (os : Os) (started : os.Started) (H : Type) (enc : TypeId × Value → H) :
    ReturnsInHanded {} Try.checked os 6 .any (Rows.fnExactDyadAddSpec.pre6 enc Try.prog Try.f6 Rows.fnExactDyadAddRow.domain false) (Rows.fnExactDyadAddSpec.post enc Try.prog Try.f6 false true false false) := by
  refine returnsInHanded_of_change (C := Try.checked) Try.own started (by kernel_rfl) Try.func6
    (ChangeSpec.witness6 (enc := enc) (C := Try.checked) false ⟨#[], #[.agg #[.int .i64 0, .int .i64 0, .int .i64 0], .agg #[.int .i64 0, .int .i64 0, .int .i64 0]], []⟩ 8 (by kernel_rfl) (by kernel_rfl) (by kernel_rfl) (by kernel_rfl)) ?_
  intro W base args ds gs before hval0 hW hcnd _
  have hval : ∀ (j : Nat) t v, Try.f6.params[j]? = some t → args[j]? = some v → Value.okWide Try.prog W .any base t v := hval0
  have hW' := hW
  obtain ⟨p, q, hA0, hV, rfl, hfz, hnd⟩ := hW
  have hA : DataW.TrodAll enc Try.prog W 0 (fun _ => true) true Try.f6.params.toList args.toList ds p := hA0
  rw [Try.params6] at hA hval
  obtain ⟨v0, vs0, d0, ds0, p0, q0, hargs, rfl, rfl, h0, r0⟩ := trodAll_cons hA
  obtain ⟨v1, vs1, d1, ds1, p1, q1, rfl, rfl, rfl, h1, r1⟩ := trodAll_cons r0
  obtain ⟨rfl, rfl, rfl⟩ := trodAll_nil r1
  obtain rfl : args = #[v0, v1] := by cases args; simp_all
  obtain ⟨rfl, rfl⟩ := trodVars_none hV
  have k0 := h0
  have lt0 : ∀ x ∈ p0, x.block < W.heap.size := by obtain ⟨m, hm⟩ := k0; exact DataW.trod_lt m _ _ _ hm
  have k1 := h1
  have lt1 : ∀ x ∈ p1, x.block < W.heap.size := by obtain ⟨m, hm⟩ := k1; exact DataW.trod_lt m _ _ _ hm
  obtain ⟨c0_0, c0_1, c0_2, y0_0, y0_1, y0_2, m0, rfl, rfl, rfl, hy0_0, hy0_1, hy0_2⟩ := open_agg3 Try.underlying28 (by kernel_rfl) (show Try.prog.cellsOf 28 = 3 by kernel_rfl) (hval 0 28 v0 rfl rfl) h0
  obtain ⟨x0_0, ex0_0, rfl, wx0_0⟩ := DataW.trod_int Try.underlying3 hy0_0
  simp at ex0_0
  subst ex0_0
  obtain ⟨x0_1, ex0_1, rfl, wx0_1⟩ := DataW.trod_int Try.underlying3 hy0_1
  simp at ex0_1
  subst ex0_1
  obtain ⟨x0_2, ex0_2, rfl, wx0_2⟩ := DataW.trod_int Try.underlying3 hy0_2
  simp at ex0_2
  subst ex0_2
  obtain ⟨c1_0, c1_1, c1_2, y1_0, y1_1, y1_2, m1, rfl, rfl, rfl, hy1_0, hy1_1, hy1_2⟩ := open_agg3 Try.underlying28 (by kernel_rfl) (show Try.prog.cellsOf 28 = 3 by kernel_rfl) (hval 1 28 v1 rfl rfl) h1
  obtain ⟨x1_0, ex1_0, rfl, wx1_0⟩ := DataW.trod_int Try.underlying3 hy1_0
  simp at ex1_0
  subst ex1_0
  obtain ⟨x1_1, ex1_1, rfl, wx1_1⟩ := DataW.trod_int Try.underlying3 hy1_1
  simp at ex1_1
  subst ex1_1
  obtain ⟨x1_2, ex1_2, rfl, wx1_2⟩ := DataW.trod_int Try.underlying3 hy1_2
  simp at ex1_2
  subst ex1_2
  clear hA0 hval0
  refine (fnExactDyadAdd_walk x0_0 x0_1 x0_2 x1_0 x1_1 x1_2 W (i64_of_wf wx0_0) (i64_of_wf wx0_1) (i64_of_wf wx0_2) (i64_of_wf wx1_0) (i64_of_wf wx1_1) (i64_of_wf wx1_2)).mono fun e W' ⟨he, bel⟩ => ?_
  subst he
  exact ⟨_, rfl, _, _, _, [], _, [], hW', trodAll_mk1 (shut_bool Try.underlying4 _), (trodAll_cons_mk (Below.trod Try.laidOut (by kernel_rfl) (of_decide_eq_true (by kernel_rfl)) k0 bel lt0) (trodAll_cons_mk (Below.trod Try.laidOut (by kernel_rfl) (of_decide_eq_true (by kernel_rfl)) k1 bel lt1) trodAll_mk0)), rfl, bel.frame _, fun h => by cases h⟩

theorem fnExactDyadAdd_holds : Rows.FnExactDyadAddSaid :=
  OpenClaim.holds_of_wide 6 Try.f6 rfl rfl rfl rfl rfl rfl rfl ⟨rfl, rfl, rfl, rfl, rfl⟩ rfl rfl rfl rfl rfl (by kernel_rfl) Try.func6 (by kernel_rfl)
    (of_decide_eq_true (by kernel_rfl)) (by unfold Func.isWrapper; first | (rw [if_pos (by decide +kernel)]; kernel_rfl) | (rw [if_neg (by decide +kernel)]; exact ⟨rfl, rfl⟩))
    (fun os started H enc _ => fnExactDyadAdd_lifted os started H enc)

end Go.Proofs.Yteceklnghppaaaa
