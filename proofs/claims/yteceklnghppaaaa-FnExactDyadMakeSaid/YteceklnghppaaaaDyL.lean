/- The law that compares the program's DyadMake with the reference's: its walk and row. -/
import Derived.Test.YteceklnghppaaaaDyW2
import Derived.Test.YteceklnghppaaaaRow
namespace Go.Proofs.Yteceklnghppaaaa
open Go.ChangeShapes Go.WideShapes Go.ChangeAt Go.RowKit Go.Joins

theorem fnExactDyadMake_walk (r i s : Int) (w : World) (_hr : I64 r) (_hi : I64 i) (_hs : I64 s) :
    Calls Try.prog 3 #[.int .i64 r, .int .i64 i, .int .i64 s] w (Gives (.bool true) w) := by
  cases h : MK r i s
  · have H := Lib.hid h; clear h
    go_enter Try.func3, Try.ntmps3
    go_wp2_with fail
    refine (spec_DyadMake_no r i s _ H.out).mono ?_
    rintro e u1 ⟨rfl, hb⟩
    have hB1 : Below w.heap.size w u1 := Below.trans (by go_grown) (hb.mono (by go_size))
    have hz1 := hb.size
    try simp at hz1
    have hw1 := hB1.size
    obtain ⟨hc1, hf1⟩ := bcell hb
    clear hb
    go_wp2_with fail
    refine (impl_DyadMake_no r i s _ H.out).mono ?_
    rintro e u2 ⟨rfl, hb⟩
    have hB2 : Below w.heap.size w u2 := Below.trans (by go_grown) (hb.mono (by go_size))
    have hz2 := hb.size
    try simp at hz2
    have hw2 := hB2.size
    obtain ⟨hc2, hf2⟩ := bcell hb
    clear hb
    try have s1_0_2 : u1.heap.size < u2.heap.size := by omega
    try have l1_0_2 : u1.heap.size ≤ u2.heap.size := by omega
    go_wp2_with fail
    refine (eqDyad_any _ _ _ _ _ _ _).mono ?_
    rintro e u3 ⟨rfl, hb⟩
    have hB3 : Below w.heap.size w u3 := Below.trans (by go_grown) (hb.mono (by go_size))
    have hz3 := hb.size
    try simp at hz3
    have hw3 := hB3.size
    obtain ⟨hc3, hf3⟩ := bcell hb
    clear hb
    try have s1_0_3 : u1.heap.size < u3.heap.size := by omega
    try have l1_0_3 : u1.heap.size ≤ u3.heap.size := by omega
    try have s2_0_3 : u2.heap.size < u3.heap.size := by omega
    try have l2_0_3 : u2.heap.size ≤ u3.heap.size := by omega
    go_wp2
    go_returns
    exact ⟨rfl, hB3⟩
  · have H := Lib.hid h; clear h
    go_enter Try.func3, Try.ntmps3
    go_wp2_with fail
    refine (spec_DyadMake_yes r i s _ H.out).mono ?_
    rintro e u1 ⟨rfl, hb⟩
    have hB1 : Below w.heap.size w u1 := Below.trans (by go_grown) (hb.mono (by go_size))
    have hz1 := hb.size
    try simp at hz1
    have hw1 := hB1.size
    obtain ⟨hc1, hf1⟩ := bcell hb
    clear hb
    go_wp2_with fail
    refine (impl_DyadMake_yes r i s _ H.out).mono ?_
    rintro e u2 ⟨rfl, hb⟩
    have hB2 : Below w.heap.size w u2 := Below.trans (by go_grown) (hb.mono (by go_size))
    have hz2 := hb.size
    try simp at hz2
    have hw2 := hB2.size
    obtain ⟨hc2, hf2⟩ := bcell hb
    clear hb
    try have s1_0_2 : u1.heap.size < u2.heap.size := by omega
    try have l1_0_2 : u1.heap.size ≤ u2.heap.size := by omega
    go_wp2_with fail
    refine (eqDyad_any _ _ _ _ _ _ _).mono ?_
    rintro e u3 ⟨rfl, hb⟩
    have hB3 : Below w.heap.size w u3 := Below.trans (by go_grown) (hb.mono (by go_size))
    have hz3 := hb.size
    try simp at hz3
    have hw3 := hB3.size
    obtain ⟨hc3, hf3⟩ := bcell hb
    clear hb
    try have s1_0_3 : u1.heap.size < u3.heap.size := by omega
    try have l1_0_3 : u1.heap.size ≤ u3.heap.size := by omega
    try have s2_0_3 : u2.heap.size < u3.heap.size := by omega
    try have l2_0_3 : u2.heap.size ≤ u3.heap.size := by omega
    go_wp2
    go_returns
    exact ⟨rfl, hB3⟩
set_option maxRecDepth 100000 in
theorem fnExactDyadMake_lifted (os : Os) (started : os.Started) (H : Type) (enc : TypeId × Value → H) :
    ReturnsInHanded {} Try.checked os 3 .any (Rows.fnExactDyadMakeSpec.pre6 enc Try.prog Try.f3 Rows.fnExactDyadMakeRow.domain false) (Rows.fnExactDyadMakeSpec.post enc Try.prog Try.f3 false true false false) := by
  refine returnsInHanded_of_change (C := Try.checked) Try.own started (by kernel_rfl) Try.func3
    (ChangeSpec.witness6 (enc := enc) (C := Try.checked) false ⟨#[], #[.int .i64 0, .int .i64 0, .int .i64 0], []⟩ 8 (by kernel_rfl) (by kernel_rfl) (by kernel_rfl) (by kernel_rfl)) ?_
  intro W base args ds gs before hval0 hW hcnd _
  have hval : ∀ (j : Nat) t v, Try.f3.params[j]? = some t → args[j]? = some v → Value.okWide Try.prog W .any base t v := hval0
  have hW' := hW
  obtain ⟨p, q, hA0, hV, rfl, hfz, hnd⟩ := hW
  have hA : DataW.TrodAll enc Try.prog W 0 (fun _ => true) true Try.f3.params.toList args.toList ds p := hA0
  rw [Try.params3] at hA hval
  obtain ⟨v0, vs0, d0, ds0, p0, q0, hargs, rfl, rfl, h0, r0⟩ := trodAll_cons hA
  obtain ⟨v1, vs1, d1, ds1, p1, q1, rfl, rfl, rfl, h1, r1⟩ := trodAll_cons r0
  obtain ⟨v2, vs2, d2, ds2, p2, q2, rfl, rfl, rfl, h2, r2⟩ := trodAll_cons r1
  obtain ⟨rfl, rfl, rfl⟩ := trodAll_nil r2
  obtain rfl : args = #[v0, v1, v2] := by cases args; simp_all
  obtain ⟨rfl, rfl⟩ := trodVars_none hV
  have k0 := h0
  have lt0 : ∀ x ∈ p0, x.block < W.heap.size := by obtain ⟨m, hm⟩ := k0; exact DataW.trod_lt m _ _ _ hm
  have k1 := h1
  have lt1 : ∀ x ∈ p1, x.block < W.heap.size := by obtain ⟨m, hm⟩ := k1; exact DataW.trod_lt m _ _ _ hm
  have k2 := h2
  have lt2 : ∀ x ∈ p2, x.block < W.heap.size := by obtain ⟨m, hm⟩ := k2; exact DataW.trod_lt m _ _ _ hm
  obtain ⟨x0, rfl, rfl, rfl, wx0⟩ := open_int Try.underlying3 (hval 0 3 v0 rfl rfl) h0
  obtain ⟨x1, rfl, rfl, rfl, wx1⟩ := open_int Try.underlying3 (hval 1 3 v1 rfl rfl) h1
  obtain ⟨x2, rfl, rfl, rfl, wx2⟩ := open_int Try.underlying3 (hval 2 3 v2 rfl rfl) h2
  clear hA0 hval0
  refine (fnExactDyadMake_walk x0 x1 x2 W (i64_of_wf wx0) (i64_of_wf wx1) (i64_of_wf wx2)).mono fun e W' ⟨he, bel⟩ => ?_
  subst he
  exact ⟨_, rfl, _, _, _, [], _, [], hW', trodAll_mk1 (shut_bool Try.underlying4 _), (trodAll_cons_mk (Below.trod Try.laidOut (by kernel_rfl) (of_decide_eq_true (by kernel_rfl)) k0 bel lt0) (trodAll_cons_mk (Below.trod Try.laidOut (by kernel_rfl) (of_decide_eq_true (by kernel_rfl)) k1 bel lt1) (trodAll_cons_mk (Below.trod Try.laidOut (by kernel_rfl) (of_decide_eq_true (by kernel_rfl)) k2 bel lt2) trodAll_mk0))), rfl, bel.frame _, fun h => by cases h⟩

theorem fnExactDyadMake_holds : Rows.FnExactDyadMakeSaid :=
  OpenClaim.holds_of_wide 3 Try.f3 rfl rfl rfl rfl rfl rfl rfl ⟨rfl, rfl, rfl, rfl, rfl⟩ rfl rfl rfl rfl rfl (by kernel_rfl) Try.func3 (by kernel_rfl)
    (of_decide_eq_true (by kernel_rfl)) (by unfold Func.isWrapper; first | (rw [if_pos (by decide +kernel)]; kernel_rfl) | (rw [if_neg (by decide +kernel)]; exact ⟨rfl, rfl⟩))
    (fun os started H enc _ => fnExactDyadMake_lifted os started H enc)

end Go.Proofs.Yteceklnghppaaaa
