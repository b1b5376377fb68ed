/- The law FnDyadState: exact numbers that are in do not leave: its walk and row. -/
import Derived.Test.YthggppjdapmgdaaDs3
import Derived.Test.YthggppjdapmgdaaRowB
namespace Go.Proofs.Ythggppjdapmgdaa
set_option linter.unusedSimpArgs false
set_option linter.unusedVariables false
variable {pv : Int → Int → Int}
open Go.ChangeShapes Go.WideShapes Go.ChangeAt Go.RowKit Go.Joins Eng
theorem ds_blk (r i s m : Int) : (bif FB 8 0 [FI pv 37 0 [r, s], FI pv 37 1 [r, s], FI pv 37 0 [i, s], FI pv 37 1 [i, s], r, i, s] then
      bif FB 8 0 [FI pv 37 0 [r, s], FI pv 37 1 [r, s], FI pv 37 0 [IntKind.i64.wrap (0 - i), s], FI pv 37 1 [IntKind.i64.wrap (0 - i), s], r, IntKind.i64.wrap (0 - i), s] then
        some (Value.bool (FI pv 53 0 [r, IntKind.i64.wrap (0 - i), s, m] == FI pv 53 0 [r, i, s, m]))
      else none
    else some (Value.bool true)) = some (Value.bool true) := by
  rw [show FB 8 0 [FI pv 37 0 [r, s], FI pv 37 1 [r, s], FI pv 37 0 [i, s], FI pv 37 1 [i, s], r, i, s] = BH (FLq r s) (CEq r s) (FLq i s) (CEq i s) r i s from rfl]
  cases h : BH (FLq r s) (CEq r s) (FLq i s) (CEq i s) r i s
  · rfl
  obtain ⟨hb, hd, -⟩ := (BH_iff _ _ _ _ _ _ _).1 h
  obtain ⟨-, -, h3, h4, -⟩ := (DV_iff _ _ _).1 hd
  rw [wrap_in (x := 0 - i) (by omega) (by omega), Int.zero_sub]
  rw [show FB 8 0 [FI pv 37 0 [r, s], FI pv 37 1 [r, s], FI pv 37 0 [-i, s], FI pv 37 1 [-i, s], r, -i, s] = BH (FLq r s) (CEq r s) (FLq (-i) s) (CEq (-i) s) r (-i) s from rfl, dst8_eq, DV_cj, FLq_cj, CEq_cj, BV_cj, hd, hb]
  rw [show FI pv 53 0 [r, -i, s, m] = FI pv 53 0 [r, i, s, m] from DST_cj r i s m, beq_self_eq_true]
  rfl
theorem fnDyadState_walk (v : Value) (w : World) (hv : BytesOk w w.heap.size v) : Calls Try.prog 3 #[v] w (Gives (.bool true) w) := by
  refine dlawR (X := XD7) rfl (fun pv w E h1 h2 => XD7_ok w E h1 h2) (fuel := 300) (L := 3) t_FnDyadState_runs (fun pv p len cap hpv => ?_) v w hv
  clear hv
  simp only [t_FnDyadState, t_FnDyadState_c0, t_FnDyadState_c1, t_FnDyadState_c2, Tree.den, SVal.den, CV.den, At.den, SE.den, SB.den, SL.den, IOp.den, COp.den, envD, List.map_cons, List.map_nil, List.getD_cons_zero, List.getD_cons_succ, ↓reduceIte, show ∀ q, FI pv 1001 0 [q] = bxA pv q from fun _ => rfl, show ∀ q, FI pv 1001 1 [q] = bxB pv q from fun _ => rfl, show ∀ q, FI pv 1001 2 [q] = bxC pv q from fun _ => rfl, show ∀ q, FI pv 1001 3 [q] = bxD pv q from fun _ => rfl, show ∀ q, FI pv 1001 100 [q] = bxP pv q from fun _ => rfl, show ∀ q, FI pv 1002 0 [q] = dyR pv q from fun _ => rfl, show ∀ q, FI pv 1002 1 [q] = dyI pv q from fun _ => rfl, show ∀ q, FI pv 1002 2 [q] = dyS pv q from fun _ => rfl, show ∀ q, FI pv 1002 100 [q] = q + 4 from fun _ => rfl, show ∀ q n, FI pv 1000 0 [q, n] = pv q n from fun _ _ => rfl, show ∀ q, FI pv 1000 100 [q] = q + 1 from fun _ => rfl]
  simp only [ds_blk]
  cases decide (1048576 < (len : Int)) <;> rfl
set_option maxRecDepth 100000 in
theorem fnDyadState_lifted (os : Os) (started : os.Started) (H : Type) (enc : TypeId × Value → H) :
    ReturnsInHanded {} Try.checked os 3 .any (Rows.fnDyadStateSpec.pre6 enc Try.prog Try.f3 Rows.fnDyadStateRow.domain false) (Rows.fnDyadStateSpec.post enc Try.prog Try.f3 false true false false) := by
  refine returnsInHanded_of_change (C := Try.checked) Try.own started (by kernel_rfl) Try.func3
    (ChangeSpec.witness6 (enc := enc) (C := Try.checked) false ⟨#[], #[.slice none 0 0], []⟩ 8 (by kernel_rfl) (by kernel_rfl) (by kernel_rfl) (by kernel_rfl)) ?_
  intro W base args ds gs before hval0 hW hcnd _
  have hval : ∀ (j : Nat) t v, Try.f3.params[j]? = some t → args[j]? = some v → Value.okWide Try.prog W .any base t v := hval0
  have hW' := hW
  obtain ⟨p, q, hA0, hV, rfl, hfz, hnd⟩ := hW
  have hA : DataW.TrodAll enc Try.prog W 0 (fun _ => true) true Try.f3.params.toList args.toList ds p := hA0
  rw [Try.params3] at hA hval
  obtain ⟨v0, vs0, d0, ds0, p0, q0, hargs, rfl, rfl, h0, r0⟩ := trodAll_cons hA
  obtain ⟨rfl, rfl, rfl⟩ := trodAll_nil r0
  obtain rfl : args = #[v0] := by cases args; simp_all
  obtain ⟨rfl, rfl⟩ := trodVars_none hV
  have k0 := h0
  have lt0 : ∀ x ∈ p0, x.block < W.heap.size := by obtain ⟨m, hm⟩ := k0; exact DataW.trod_lt m _ _ _ hm
  obtain ⟨a0, len0, cap0, rfl⟩ := okWide_slice Try.underlying22 (hval 0 22 v0 rfl rfl)
  have hb0 : BytesOk W W.heap.size (.slice a0 len0 cap0) := by
    obtain ⟨fuel, hf⟩ := h0
    exact bytes_of_ints (open_ints Try.underlying22 Try.underlying5 (by kernel_rfl) hf)
  clear hA0 hval0
  refine (fnDyadState_walk (.slice a0 len0 cap0) W hb0).mono fun e W' ⟨he, bel⟩ => ?_
  subst he
  exact ⟨_, rfl, _, _, _, [], _, [], hW', trodAll_mk1 (shut_bool Try.underlying4 _), (trodAll_cons_mk (Below.trod Try.laidOut (by kernel_rfl) (of_decide_eq_true (by kernel_rfl)) k0 bel lt0) trodAll_mk0), rfl, bel.frame _, fun h => by cases h⟩

theorem fnDyadState_holds : Rows.FnDyadStateSaid :=
  OpenClaim.holds_of_wide 3 Try.f3 rfl rfl rfl rfl rfl rfl rfl ⟨rfl, rfl, rfl, rfl, rfl⟩ rfl rfl rfl rfl rfl (by kernel_rfl) Try.func3 (by kernel_rfl)
    (of_decide_eq_true (by kernel_rfl)) (by unfold Func.isWrapper; first | (rw [if_pos (by decide +kernel)]; kernel_rfl) | (rw [if_neg (by decide +kernel)]; exact ⟨rfl, rfl⟩))
    (fun os started H enc _ => fnDyadState_lifted os started H enc)
end Go.Proofs.Ythggppjdapmgdaa
