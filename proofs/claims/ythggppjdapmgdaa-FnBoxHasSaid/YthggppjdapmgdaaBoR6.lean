/- The law FnBoxHas: squares are in squares of boxes: its walk and row. -/
import Derived.Test.YthggppjdapmgdaaBoR5
import Derived.Test.YthggppjdapmgdaaBoM6
import Derived.Test.YthggppjdapmgdaaRowB
namespace Go.Proofs.Ythggppjdapmgdaa
set_option linter.unusedSimpArgs false
set_option linter.unusedVariables false
variable {pv : Int → Int → Int}
open Go.ChangeShapes Go.WideShapes Go.ChangeAt Go.RowKit Go.Joins Eng
theorem sgn {a b c d r i s : Int} (h : BH a b c d r i s = true) : (bif decide (FI pv 12 0 [r, i, s] ≤ 0) then (bif decide (0 ≤ FI pv 12 0 [r, i, s]) then some (Value.bool true) else some (Value.bool (decide (FI pv 34 0 [a, b, c, d] < 1125899906842624)))) else
    (bif decide (1125899906842624 < FI pv 34 1 [a, b, c, d]) then (bif decide (0 ≤ FI pv 12 0 [r, i, s]) then some (Value.bool true) else some (Value.bool (decide (FI pv 34 0 [a, b, c, d] < 1125899906842624)))) else none)) = some (Value.bool true) := by
  obtain ⟨n1, n2⟩ := norm_in h
  obtain ⟨v1, v2, -⟩ := (BH_iff _ _ _ _ _ _ _).1 h
  have e : FI pv 12 0 [r, i, s] = NM r i s := show FI0 12 0 [r, i, s] = NM r i s from if_pos v2
  rw [e, f34a v1, f34b v1]
  by_cases c1 : NM r i s ≤ 0
  · by_cases c2 : 0 ≤ NM r i s
    · simp [c1, c2]
    · have c3 : NLo a b c d < 1125899906842624 := by omega
      simp [c1, c2, c3]
  · have c3 : 1125899906842624 < NHi a b c d := by omega
    have c2 : 0 ≤ NM r i s := by omega
    simp [c1, c2, c3]
theorem wih (a b c d r i s : Int) : (bif FB 8 0 [a, b, c, d, r, i, s] then (bif FB 3 0 [r, i, s] then (bif FB 11 0 [r, i, s] then (bif FB 6 0 [a, b, c, d] then
      (bif FB 8 0 [FI pv 6 0 [a, b, c, d], FI pv 6 1 [a, b, c, d], FI pv 6 2 [a, b, c, d], FI pv 6 3 [a, b, c, d], FI pv 11 0 [r, i, s], FI pv 11 1 [r, i, s], FI pv 11 2 [r, i, s]] then
        (bif decide (FI pv 12 0 [r, i, s] ≤ 0) then (bif decide (0 ≤ FI pv 12 0 [r, i, s]) then some (Value.bool true) else some (Value.bool (decide (FI pv 34 0 [a, b, c, d] < 1125899906842624)))) else
          (bif decide (1125899906842624 < FI pv 34 1 [a, b, c, d]) then (bif decide (0 ≤ FI pv 12 0 [r, i, s]) then some (Value.bool true) else some (Value.bool (decide (FI pv 34 0 [a, b, c, d] < 1125899906842624)))) else none)) else none) else
        (bif decide (FI pv 12 0 [r, i, s] ≤ 0) then (bif decide (0 ≤ FI pv 12 0 [r, i, s]) then some (Value.bool true) else some (Value.bool (decide (FI pv 34 0 [a, b, c, d] < 1125899906842624)))) else
          (bif decide (1125899906842624 < FI pv 34 1 [a, b, c, d]) then (bif decide (0 ≤ FI pv 12 0 [r, i, s]) then some (Value.bool true) else some (Value.bool (decide (FI pv 34 0 [a, b, c, d] < 1125899906842624)))) else none))) else
        (bif decide (FI pv 12 0 [r, i, s] ≤ 0) then (bif decide (0 ≤ FI pv 12 0 [r, i, s]) then some (Value.bool true) else some (Value.bool (decide (FI pv 34 0 [a, b, c, d] < 1125899906842624)))) else
          (bif decide (1125899906842624 < FI pv 34 1 [a, b, c, d]) then (bif decide (0 ≤ FI pv 12 0 [r, i, s]) then some (Value.bool true) else some (Value.bool (decide (FI pv 34 0 [a, b, c, d] < 1125899906842624)))) else none))) else none) else some (Value.bool true)) = some (Value.bool true) := by
  cases h : FB 8 0 [a, b, c, d, r, i, s]
  · rfl
  have hb : BH a b c d r i s = true := h
  obtain ⟨v1, v2, -⟩ := (BH_iff _ _ _ _ _ _ _).1 hb
  have e3 : FB 3 0 [r, i, s] = true := v2
  have hs := sgn (pv := pv) hb
  rw [e3]
  simp only [cond_true]
  cases h11 : FB 11 0 [r, i, s]
  · simp only [cond_false]; exact hs
  cases h6 : FB 6 0 [a, b, c, d]
  · simp only [cond_true, cond_false]; exact hs
  have hq : SQB a b c d = true := h6
  have hS : SQ r i s = true := h11
  obtain ⟨i0, i1, i2, i3⟩ := f6 (pv := pv) hq
  have j0 : FI pv 11 0 [r, i, s] = lR (SR r i) (SI r i) (2 * s) := if_pos hS
  have j1 : FI pv 11 1 [r, i, s] = lI (SR r i) (SI r i) (2 * s) := if_pos hS
  have j2 : FI pv 11 2 [r, i, s] = lS (SR r i) (SI r i) (2 * s) := if_pos hS
  have h8 : FB 8 0 [FI pv 6 0 [a, b, c, d], FI pv 6 1 [a, b, c, d], FI pv 6 2 [a, b, c, d], FI pv 6 3 [a, b, c, d], FI pv 11 0 [r, i, s], FI pv 11 1 [r, i, s], FI pv 11 2 [r, i, s]] = true := by
    rw [i0, i1, i2, i3, j0, j1, j2]; exact sq_in hb hq hS
  rw [h8]
  simp only [cond_true]
  exact hs
theorem in104 {l h k : Int} (hl : -134217728 ≤ l) (hlh : l ≤ h) (hh : h ≤ 134217728) (h0 : 0 ≤ k) (h1 : k < 9) : le60 (IntKind.i64.wrap (l + IntKind.i64.wrap (IntKind.i64.wrap ((IntKind.i64.wrap (h - l)).tdiv 8) * k))) = true := by
  rw [wrap_in (x := h - l) (by omega) (by omega), Int.tdiv_eq_ediv_of_nonneg (by omega)]
  have q0 : 0 ≤ (h - l) / 8 := by omega
  have q1 : (h - l) / 8 ≤ 33554432 := by omega
  generalize (h - l) / 8 = q at *
  have a1 : 0 ≤ q * k := Int.mul_nonneg q0 h0
  have a2 : q * k ≤ q * 9 := Int.mul_le_mul_of_nonneg_left (by omega) q0
  rw [wrap_in (x := q) (by omega) (by omega), wrap_in (x := q * k) (by omega) (by omega), wrap_in (x := l + q * k) (by omega) (by omega), le60_iff]
  omega
theorem fnBoxHas_walk (v : Value) (w : World) (hv : BytesOk w w.heap.size v) : Calls Try.prog 7 #[v] w (Gives (.bool true) w) := by
  refine dlawR (X := X8) rfl (fun pv w E h1 h2 => X8_ok w E h1 h2) (fuel := 400) (L := 7) t_FnBoxHas_runs (fun pv p len cap hpv => ?_) v w hv
  clear hv
  simp only [t_FnBoxHas, t_FnBoxHas_c0, t_FnBoxHas_c1, t_FnBoxHas_c2, t_FnBoxHas_c3, t_FnBoxHas_c4, t_FnBoxHas_c5, t_FnBoxHas_c6, t_FnBoxHas_c7, t_FnBoxHas_c8, t_FnBoxHas_c9, t_FnBoxHas_c10, t_FnBoxHas_c11, t_FnBoxHas_c12, t_FnBoxHas_c13, t_FnBoxHas_c14, t_FnBoxHas_c15, t_FnBoxHas_c16, t_FnBoxHas_c17, Tree.den, SVal.den, CV.den, At.den, SE.den, SB.den, SL.den, IOp.den, COp.den, envD, List.map_cons, List.map_nil, List.getD_cons_zero, List.getD_cons_succ, ↓reduceIte, show ∀ q, FI pv 1001 0 [q] = bxA pv q from fun _ => rfl, show ∀ q, FI pv 1001 1 [q] = bxB pv q from fun _ => rfl, show ∀ q, FI pv 1001 2 [q] = bxC pv q from fun _ => rfl, show ∀ q, FI pv 1001 3 [q] = bxD pv q from fun _ => rfl, show ∀ q, FI pv 1001 100 [q] = bxP pv q from fun _ => rfl, show ∀ q, FI pv 1002 0 [q] = dyR pv q from fun _ => rfl, show ∀ q, FI pv 1002 1 [q] = dyI pv q from fun _ => rfl, show ∀ q, FI pv 1002 2 [q] = dyS pv q from fun _ => rfl, show ∀ q, FI pv 1002 100 [q] = q + 4 from fun _ => rfl, show ∀ q n, FI pv 1000 0 [q, n] = pv q n from fun _ _ => rfl, show ∀ q, FI pv 1000 100 [q] = q + 1 from fun _ => rfl]
  have hq : 0 ≤ bxP pv 0 ∧ bxP pv 0 ≤ 5 := by unfold bxP; split <;> omega
  have hk := hpv (bxP pv 0 + 1) 9 (by omega) (by omega) (by omega)
  have hk2 := hpv (bxP pv 0 + 1 + 1) 9 (by omega) (by omega) (by omega)
  cases decide (1048576 < (len : Int))
  case true => rfl
  cases pv (bxP pv 0) 2 == 0
  · cases h2 : FB 2 0 [bxA pv 0, bxB pv 0, bxC pv 0, bxD pv 0]
    · have h8 : ∀ r i s, FB 8 0 [bxA pv 0, bxB pv 0, bxC pv 0, bxD pv 0, r, i, s] = false := fun r i s => by
        show BH _ _ _ _ r i s = false
        unfold BH
        rw [show BV (bxA pv 0) (bxB pv 0) (bxC pv 0) (bxD pv 0) = false from h2]
        simp
      simp only [cond_true, cond_false, h8]
    · simp only [cond_true, cond_false]; exact wih _ _ _ _ _ _ _
  · cases h2 : FB 2 0 [bxA pv 0, bxB pv 0, bxC pv 0, bxD pv 0]
    · have h8 : ∀ r i s, FB 8 0 [bxA pv 0, bxB pv 0, bxC pv 0, bxD pv 0, r, i, s] = false := fun r i s => by
        show BH _ _ _ _ r i s = false
        unfold BH
        rw [show BV (bxA pv 0) (bxB pv 0) (bxC pv 0) (bxD pv 0) = false from h2]
        simp
      simp only [cond_true, cond_false, h8]
    · obtain ⟨p1, p2, p3, p4, p5, p6⟩ := (BV_iff _ _ _ _).1 (show BV (bxA pv 0) (bxB pv 0) (bxC pv 0) (bxD pv 0) = true from h2)
      have h104 : FB 104 0 [IntKind.i64.wrap (bxA pv 0 + IntKind.i64.wrap (IntKind.i64.wrap ((IntKind.i64.wrap (bxB pv 0 - bxA pv 0)).tdiv 8) * pv (bxP pv 0 + 1) 9)), IntKind.i64.wrap (bxC pv 0 + IntKind.i64.wrap (IntKind.i64.wrap ((IntKind.i64.wrap (bxD pv 0 - bxC pv 0)).tdiv 8) * pv (bxP pv 0 + 1 + 1) 9)), 24] = true := by
        have u1 := in104 (by omega : -134217728 ≤ bxA pv 0) p2 (by omega) hk.1 hk.2
        have u2 := in104 (by omega : -134217728 ≤ bxC pv 0) p5 (by omega) hk2.1 hk2.2
        show (le60 _ && le60 _ && decide ((0 : Int) ≤ 24) && decide ((24 : Int) ≤ 120)) = true
        rw [u1, u2]; rfl
      rw [h104]
      simp only [cond_true, cond_false]
      exact wih _ _ _ _ _ _ _
set_option maxRecDepth 100000 in
theorem fnBoxHas_lifted (os : Os) (started : os.Started) (H : Type) (enc : TypeId × Value → H) :
    ReturnsInHanded {} Try.checked os 7 .any (Rows.fnBoxHasSpec.pre6 enc Try.prog Try.f7 Rows.fnBoxHasRow.domain false) (Rows.fnBoxHasSpec.post enc Try.prog Try.f7 false true false false) := by
  refine returnsInHanded_of_change (C := Try.checked) Try.own started (by kernel_rfl) Try.func7
    (ChangeSpec.witness6 (enc := enc) (C := Try.checked) false ⟨#[], #[.slice none 0 0], []⟩ 8 (by kernel_rfl) (by kernel_rfl) (by kernel_rfl) (by kernel_rfl)) ?_
  intro W base args ds gs before hval0 hW hcnd _
  have hval : ∀ (j : Nat) t v, Try.f7.params[j]? = some t → args[j]? = some v → Value.okWide Try.prog W .any base t v := hval0
  have hW' := hW
  obtain ⟨p, q, hA0, hV, rfl, hfz, hnd⟩ := hW
  have hA : DataW.TrodAll enc Try.prog W 0 (fun _ => true) true Try.f7.params.toList args.toList ds p := hA0
  rw [Try.params7] at hA hval
  obtain ⟨v0, vs0, d0, ds0, p0, q0, hargs, rfl, rfl, h0, r0⟩ := trodAll_cons hA
  obtain ⟨rfl, rfl, rfl⟩ := trodAll_nil r0
  obtain rfl : args = #[v0] := by cases args; simp_all
  obtain ⟨rfl, rfl⟩ := trodVars_none hV
  have k0 := h0
  have lt0 : ∀ x ∈ p0, x.block < W.heap.size := by obtain ⟨m, hm⟩ := k0; exact DataW.trod_lt m _ _ _ hm
  obtain ⟨a0, len0, cap0, rfl⟩ := okWide_slice Try.underlying22 (hval 0 22 v0 rfl rfl)
  have hb0 : BytesOk W W.heap.size (.slice a0 len0 cap0) := by
    obtain ⟨fuel, hf⟩ := h0
    exact bytes_of_ints (open_ints Try.underlying22 Try.underlying5 (by kernel_rfl) hf)
  clear hA0 hval0
  refine (fnBoxHas_walk (.slice a0 len0 cap0) W hb0).mono fun e W' ⟨he, bel⟩ => ?_
  subst he
  exact ⟨_, rfl, _, _, _, [], _, [], hW', trodAll_mk1 (shut_bool Try.underlying4 _), (trodAll_cons_mk (Below.trod Try.laidOut (by kernel_rfl) (of_decide_eq_true (by kernel_rfl)) k0 bel lt0) trodAll_mk0), rfl, bel.frame _, fun h => by cases h⟩

theorem fnBoxHas_holds : Rows.FnBoxHasSaid :=
  OpenClaim.holds_of_wide 7 Try.f7 rfl rfl rfl rfl rfl rfl rfl ⟨rfl, rfl, rfl, rfl, rfl⟩ rfl rfl rfl rfl rfl (by kernel_rfl) Try.func7 (by kernel_rfl)
    (of_decide_eq_true (by kernel_rfl)) (by unfold Func.isWrapper; first | (rw [if_pos (by decide +kernel)]; kernel_rfl) | (rw [if_neg (by decide +kernel)]; exact ⟨rfl, rfl⟩))
    (fun os started H enc _ => fnBoxHas_lifted os started H enc)
end Go.Proofs.Ythggppjdapmgdaa
