/- The law FnWithin: what is within stays within: its walk and row. -/
import Derived.Test.YtdgfipdlfgcfeaaBoQ1
import Derived.Test.YtdgfipdlfgcfeaaBoM4
import Derived.Test.YtdgfipdlfgcfeaaRowB
namespace Go.Proofs.Ytdgfipdlfgcfeaa
set_option linter.unusedSimpArgs false
set_option linter.unusedVariables false
variable {pv : Int → Int → Int}
open Go.ChangeShapes Go.WideShapes Go.ChangeAt Go.RowKit Go.Joins Eng

theorem wit (a b c d e f g h : Int) : (bif FB 9 0 [a, b, c, d, e, f, g, h] then (bif FB 2 0 [a, b, c, d] then (bif FB 6 0 [e, f, g, h] then (bif FB 6 0 [a, b, c, d] then
      (bif FB 9 0 [FI pv 6 0 [a, b, c, d], FI pv 6 1 [a, b, c, d], FI pv 6 2 [a, b, c, d], FI pv 6 3 [a, b, c, d], FI pv 6 0 [e, f, g, h], FI pv 6 1 [e, f, g, h], FI pv 6 2 [e, f, g, h], FI pv 6 3 [e, f, g, h]] then
        (bif decide (FI pv 34 0 [e, f, g, h] ≤ FI pv 34 0 [a, b, c, d]) then (bif decide (FI pv 34 0 [a, b, c, d] ≤ FI pv 34 1 [a, b, c, d]) then some (Value.bool (decide (FI pv 34 1 [a, b, c, d] ≤ FI pv 34 1 [e, f, g, h]))) else none) else none)
      else none) else none) else
        (bif decide (FI pv 34 0 [e, f, g, h] ≤ FI pv 34 0 [a, b, c, d]) then (bif decide (FI pv 34 0 [a, b, c, d] ≤ FI pv 34 1 [a, b, c, d]) then some (Value.bool (decide (FI pv 34 1 [a, b, c, d] ≤ FI pv 34 1 [e, f, g, h]))) else none) else none))
      else none) else some (Value.bool true)) = some (Value.bool true) := by
  simp only [show ∀ a b c d, FB 2 0 [a, b, c, d] = BV a b c d from fun _ _ _ _ => rfl, show ∀ a b c d, FB 6 0 [a, b, c, d] = SQB a b c d from fun _ _ _ _ => rfl, show ∀ a b c d x y z w, FB 9 0 [a, b, c, d, x, y, z, w] = BW a b c d x y z w from fun _ _ _ _ _ _ _ _ => rfl]
  cases hw : BW a b c d e f g h
  · rfl
  obtain ⟨v1, v2, w1, w2, w3, w4⟩ := (BW_iff _ _ _ _ _ _ _ _).1 hw
  obtain ⟨p1, p2, p3, p4, p5, p6⟩ := (BV_iff _ _ _ _).1 v1
  obtain ⟨n1, n2⟩ := N_mono w1 p2 w2 w3 p5 w4
  have n3 := NLo_le a b c d
  rw [v1, f34a v1, f34b v1, f34a v2, f34b v2]
  cases hq : SQB e f g h
  · simp [n1, n2, n3]
  · obtain ⟨q1, q2⟩ := sq_within hw hq
    obtain ⟨i0, i1, i2, i3⟩ := f6 (pv := pv) q1
    obtain ⟨o0, o1, o2, o3⟩ := f6 (pv := pv) hq
    rw [i0, i1, i2, i3, o0, o1, o2, o3]
    simp [q1, q2, n1, n2, n3]
theorem fnWithin_walk (v : Value) (w : World) (hv : BytesOk w w.heap.size v) : Calls Try.prog 12 #[v] w (Gives (.bool true) w) := by
  refine dlawR (X := X5) rfl (fun pv w E h1 h2 => X5_ok w E h1 h2) (fuel := 300) (L := 12) t_FnWithin_runs (fun pv p len cap hpv => ?_) v w hv
  clear hv
  simp only [t_FnWithin, t_FnWithin_c0, t_FnWithin_c1, t_FnWithin_c2, t_FnWithin_c3, t_FnWithin_c4, t_FnWithin_c5, t_FnWithin_c6, t_FnWithin_c7, t_FnWithin_c8, t_FnWithin_c9, t_FnWithin_c10, t_FnWithin_c11, t_FnWithin_c12, t_FnWithin_c13, t_FnWithin_c14, t_FnWithin_c15, t_FnWithin_c16, t_FnWithin_c17, t_FnWithin_c18, t_FnWithin_c19, t_FnWithin_c20, t_FnWithin_c21, t_FnWithin_c22, t_FnWithin_c23, t_FnWithin_c24, t_FnWithin_c25, t_FnWithin_c26, t_FnWithin_c27, t_FnWithin_c28, t_FnWithin_c29, t_FnWithin_c30, t_FnWithin_c31, t_FnWithin_c32, t_FnWithin_c33, t_FnWithin_c34, t_FnWithin_c35, t_FnWithin_c36, t_FnWithin_c37, t_FnWithin_c38, t_FnWithin_c39, t_FnWithin_c40, t_FnWithin_c41, Tree.den, SVal.den, CV.den, At.den, SE.den, SB.den, SL.den, IOp.den, COp.den, envD, List.map_cons, List.map_nil, List.getD_cons_zero, List.getD_cons_succ, ↓reduceIte, show ∀ q, FI pv 1001 0 [q] = bxA pv q from fun _ => rfl, show ∀ q, FI pv 1001 1 [q] = bxB pv q from fun _ => rfl, show ∀ q, FI pv 1001 2 [q] = bxC pv q from fun _ => rfl, show ∀ q, FI pv 1001 3 [q] = bxD pv q from fun _ => rfl, show ∀ q, FI pv 1001 100 [q] = bxP pv q from fun _ => rfl, show ∀ q, FI pv 1002 0 [q] = dyR pv q from fun _ => rfl, show ∀ q, FI pv 1002 1 [q] = dyI pv q from fun _ => rfl, show ∀ q, FI pv 1002 2 [q] = dyS pv q from fun _ => rfl, show ∀ q, FI pv 1002 100 [q] = q + 4 from fun _ => rfl, show ∀ q n, FI pv 1000 0 [q, n] = pv q n from fun _ _ => rfl, show ∀ q, FI pv 1000 100 [q] = q + 1 from fun _ => rfl]
  have hb := bx_bd hpv (p := 0) (by omega) (by omega)
  have hq : 0 ≤ bxP pv 0 ∧ bxP pv 0 ≤ 5 := by unfold bxP; split <;> omega
  have hk := hpv (bxP pv 0 + 1) 4 (by omega) (by omega) (by omega)
  rw [le2 (x := bxA pv 0 + bxB pv 0) (by omega), le2 (x := bxC pv 0 + bxD pv 0) (by omega)]
  simp only [cond_true]
  cases decide (1048576 < (len : Int))
  case true => rfl
  cases hv : FB 2 0 [bxA pv 0, bxB pv 0, bxC pv 0, bxD pv 0]
  · have h9 : ∀ a b c d, FB 9 0 [a, b, c, d, bxA pv 0, bxB pv 0, bxC pv 0, bxD pv 0] = false := fun a b c d => by
      show BW a b c d _ _ _ _ = false
      unfold BW
      rw [show BV (bxA pv 0) (bxB pv 0) (bxC pv 0) (bxD pv 0) = false from hv]
      simp
    simp only [cond_true, cond_false, h9]
  cases decide (0 < pv (bxP pv 0) 3)
  · simp only [cond_true, cond_false]; exact wit _ _ _ _ _ _ _ _
  cases k0 : (pv (bxP pv 0 + 1) 4 == 0)
  case true => simp only [cond_true, cond_false]; exact wit _ _ _ _ _ _ _ _
  cases k1 : (pv (bxP pv 0 + 1) 4 == 1)
  case true => simp only [cond_true, cond_false]; exact wit _ _ _ _ _ _ _ _
  cases k2 : (pv (bxP pv 0 + 1) 4 == 2)
  case true => simp only [cond_true, cond_false]; exact wit _ _ _ _ _ _ _ _
  cases k3 : (pv (bxP pv 0 + 1) 4 == 3)
  case true => simp only [cond_true, cond_false]; exact wit _ _ _ _ _ _ _ _
  simp only [beq_eq_false_iff_ne, ne_eq] at k0 k1 k2 k3
  omega
set_option maxRecDepth 100000 in
theorem fnWithin_lifted (os : Os) (started : os.Started) (H : Type) (enc : TypeId × Value → H) :
    ReturnsInHanded {} Try.checked os 12 .any (Rows.fnWithinSpec.pre6 enc Try.prog Try.f12 Rows.fnWithinRow.domain false) (Rows.fnWithinSpec.post enc Try.prog Try.f12 false true false false) := by
  refine returnsInHanded_of_change (C := Try.checked) Try.own started (by kernel_rfl) Try.func12
    (ChangeSpec.witness6 (enc := enc) (C := Try.checked) false ⟨#[], #[.slice none 0 0], []⟩ 8 (by kernel_rfl) (by kernel_rfl) (by kernel_rfl) (by kernel_rfl)) ?_
  intro W base args ds gs before hval0 hW hcnd _
  have hval : ∀ (j : Nat) t v, Try.f12.params[j]? = some t → args[j]? = some v → Value.okWide Try.prog W .any base t v := hval0
  have hW' := hW
  obtain ⟨p, q, hA0, hV, rfl, hfz, hnd⟩ := hW
  have hA : DataW.TrodAll enc Try.prog W 0 (fun _ => true) true Try.f12.params.toList args.toList ds p := hA0
  rw [Try.params12] at hA hval
  obtain ⟨v0, vs0, d0, ds0, p0, q0, hargs, rfl, rfl, h0, r0⟩ := trodAll_cons hA
  obtain ⟨rfl, rfl, rfl⟩ := trodAll_nil r0
  obtain rfl : args = #[v0] := by cases args; simp_all
  obtain ⟨rfl, rfl⟩ := trodVars_none hV
  have k0 := h0
  have lt0 : ∀ x ∈ p0, x.block < W.heap.size := by obtain ⟨m, hm⟩ := k0; exact DataW.trod_lt m _ _ _ hm
  obtain ⟨a0, len0, cap0, rfl⟩ := okWide_slice Try.underlying35 (hval 0 35 v0 rfl rfl)
  have hb0 : BytesOk W W.heap.size (.slice a0 len0 cap0) := by
    obtain ⟨fuel, hf⟩ := h0
    exact bytes_of_ints (open_ints Try.underlying35 Try.underlying5 (by kernel_rfl) hf)
  clear hA0 hval0
  refine (fnWithin_walk (.slice a0 len0 cap0) W hb0).mono fun e W' ⟨he, bel⟩ => ?_
  subst he
  exact ⟨_, rfl, _, _, _, [], _, [], hW', trodAll_mk1 (shut_bool Try.underlying4 _), (trodAll_cons_mk (Below.trod Try.laidOut (by kernel_rfl) (of_decide_eq_true (by kernel_rfl)) k0 bel lt0) trodAll_mk0), rfl, bel.frame _, fun h => by cases h⟩

theorem fnWithin_holds : Rows.FnWithinSaid :=
  OpenClaim.holds_of_wide 12 Try.f12 rfl rfl rfl rfl rfl rfl rfl ⟨rfl, rfl, rfl, rfl, rfl⟩ rfl rfl rfl rfl rfl (by kernel_rfl) Try.func12 (by kernel_rfl)
    (of_decide_eq_true (by kernel_rfl)) (by unfold Func.isWrapper; first | (rw [if_pos (by decide +kernel)]; kernel_rfl) | (rw [if_neg (by decide +kernel)]; exact ⟨rfl, rfl⟩))
    (fun os started H enc _ => fnWithin_lifted os started H enc)
end Go.Proofs.Ytdgfipdlfgcfeaa
