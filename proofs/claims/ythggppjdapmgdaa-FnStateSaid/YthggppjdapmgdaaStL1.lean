/- The law FnState: what is sure is so for exact numbers: its walk and row. -/
import Derived.Test.YthggppjdapmgdaaSt4
import Derived.Test.YthggppjdapmgdaaRowB
namespace Go.Proofs.Ythggppjdapmgdaa
set_option linter.unusedSimpArgs false
set_option linter.unusedVariables false
variable {pv : Int → Int → Int}
open Go.ChangeShapes Go.WideShapes Go.ChangeAt Go.RowKit Go.Joins Eng
theorem most_rng (x y z m : Int) (hx : 0 ≤ x) (hx' : x < 40) (hy : 0 ≤ y) (hy' : y < 20) (hz : 0 ≤ z) (hz' : z < 20) (he : IntKind.i64.wrap (IntKind.i64.wrap (x - IntKind.i64.wrap (IntKind.i64.wrap (y.tdiv 19) * 41)) + IntKind.i64.wrap (IntKind.i64.wrap (z.tdiv 19) * 400)) = m) : -1000 ≤ m ∧ m ≤ 1000 := by
  have e1 : y.tdiv 19 = y / 19 := Int.tdiv_eq_ediv_of_nonneg hy
  have e2 : z.tdiv 19 = z / 19 := Int.tdiv_eq_ediv_of_nonneg hz
  rw [e1, e2, wrap_in (x := y / 19) (by omega) (by omega), wrap_in (x := z / 19) (by omega) (by omega), wrap_in (x := y / 19 * 41) (by omega) (by omega), wrap_in (x := z / 19 * 400) (by omega) (by omega), wrap_in (x := x - y / 19 * 41) (by omega) (by omega), wrap_in (by omega) (by omega)] at he
  omega
theorem st_blk (a b c d m : Int) (hm : -1000 ≤ m ∧ m ≤ 1000) : (bif FB 2 0 [a, b, c, d] then
      bif FI pv 52 0 [a, b, c, d, m] == 0 then some (Value.bool true)
      else some (Value.bool (FI pv 52 0 [a, b, c, d, IntKind.i64.wrap (max m 0 + 10)] == FI pv 52 0 [a, b, c, d, m]))
    else some (Value.bool true)) = some (Value.bool true) := by
  rw [wrap_in (x := max m 0 + 10) (by omega) (by omega), show FB 2 0 [a, b, c, d] = BV a b c d from rfl]
  cases h : BV a b c d
  · rfl
  rw [show FI pv 52 0 [a, b, c, d, m] = CST a b c d m from if_pos h, show FI pv 52 0 [a, b, c, d, max m 0 + 10] = CST a b c d (max m 0 + 10) from if_pos h]
  by_cases h0 : CST a b c d m = 0
  · rw [beq_iff_eq.2 h0]; rfl
  · rw [beq_eq_false_iff_ne.2 h0, CST_mono (m := m) (m' := max m 0 + 10) (by omega) a b c d h0, beq_self_eq_true]; rfl
theorem fnState_walk (v : Value) (w : World) (hv : BytesOk w w.heap.size v) : Calls Try.prog 14 #[v] w (Gives (.bool true) w) := by
  refine dlawR (X := XS2) rfl (fun pv w E h1 h2 => XS2_ok w E h1 h2) (fuel := 300) (L := 14) t_FnState_runs (fun pv p len cap hpv => ?_) v w hv
  clear hv
  simp only [t_FnState, t_FnState_c0, t_FnState_c1, t_FnState_c2, Tree.den, SVal.den, CV.den, At.den, SE.den, SB.den, SL.den, IOp.den, COp.den, envD, List.map_cons, List.map_nil, List.getD_cons_zero, List.getD_cons_succ, ↓reduceIte, show ∀ q, FI pv 1001 0 [q] = bxA pv q from fun _ => rfl, show ∀ q, FI pv 1001 1 [q] = bxB pv q from fun _ => rfl, show ∀ q, FI pv 1001 2 [q] = bxC pv q from fun _ => rfl, show ∀ q, FI pv 1001 3 [q] = bxD pv q from fun _ => rfl, show ∀ q, FI pv 1001 100 [q] = bxP pv q from fun _ => rfl, show ∀ q, FI pv 1002 0 [q] = dyR pv q from fun _ => rfl, show ∀ q, FI pv 1002 1 [q] = dyI pv q from fun _ => rfl, show ∀ q, FI pv 1002 2 [q] = dyS pv q from fun _ => rfl, show ∀ q, FI pv 1002 100 [q] = q + 4 from fun _ => rfl, show ∀ q n, FI pv 1000 0 [q, n] = pv q n from fun _ _ => rfl, show ∀ q, FI pv 1000 100 [q] = q + 1 from fun _ => rfl]
  simp only [ite_max]
  have hn : ∃ n, IntKind.i64.wrap (IntKind.i64.wrap (pv (bxP pv 0) 40 - IntKind.i64.wrap (IntKind.i64.wrap ((pv (bxP pv 0 + 1) 20).tdiv 19) * 41)) + IntKind.i64.wrap (IntKind.i64.wrap ((pv (bxP pv 0 + 1 + 1) 20).tdiv 19) * 400)) = n := ⟨_, rfl⟩
  obtain ⟨n, hn⟩ := hn
  simp only [hn]
  have hb : 0 ≤ bxP pv 0 ∧ bxP pv 0 ≤ 8 := by
    unfold bxP
    repeat' split
    all_goals omega
  have r := most_rng _ _ _ _ (hpv _ 40 (by omega) (by omega) (by decide)).1 (hpv _ 40 (by omega) (by omega) (by decide)).2 (hpv _ 20 (by omega) (by omega) (by decide)).1 (hpv _ 20 (by omega) (by omega) (by decide)).2 (hpv _ 20 (by omega) (by omega) (by decide)).1 (hpv _ 20 (by omega) (by omega) (by decide)).2 hn
  simp only [st_blk _ _ _ _ _ r]
  cases decide (1048576 < (len : Int)) <;> rfl
set_option maxRecDepth 100000 in
theorem fnState_lifted (os : Os) (started : os.Started) (H : Type) (enc : TypeId × Value → H) :
    ReturnsInHanded {} Try.checked os 14 .any (Rows.fnStateSpec.pre6 enc Try.prog Try.f14 Rows.fnStateRow.domain false) (Rows.fnStateSpec.post enc Try.prog Try.f14 false true false false) := by
  refine returnsInHanded_of_change (C := Try.checked) Try.own started (by kernel_rfl) Try.func14
    (ChangeSpec.witness6 (enc := enc) (C := Try.checked) false ⟨#[], #[.slice none 0 0], []⟩ 8 (by kernel_rfl) (by kernel_rfl) (by kernel_rfl) (by kernel_rfl)) ?_
  intro W base args ds gs before hval0 hW hcnd _
  have hval : ∀ (j : Nat) t v, Try.f14.params[j]? = some t → args[j]? = some v → Value.okWide Try.prog W .any base t v := hval0
  have hW' := hW
  obtain ⟨p, q, hA0, hV, rfl, hfz, hnd⟩ := hW
  have hA : DataW.TrodAll enc Try.prog W 0 (fun _ => true) true Try.f14.params.toList args.toList ds p := hA0
  rw [Try.params14] at hA hval
  obtain ⟨v0, vs0, d0, ds0, p0, q0, hargs, rfl, rfl, h0, r0⟩ := trodAll_cons hA
  obtain ⟨rfl, rfl, rfl⟩ := trodAll_nil r0
  obtain rfl : args = #[v0] := by cases args; simp_all
  obtain ⟨rfl, rfl⟩ := trodVars_none hV
  have k0 := h0
  have lt0 : ∀ x ∈ p0, x.block < W.heap.size := by obtain ⟨m, hm⟩ := k0; exact DataW.trod_lt m _ _ _ hm
  obtain ⟨a0, len0, cap0, rfl⟩ := okWide_slice Try.underlying22 (hval 0 22 v0 rfl rfl)
  have hb0 : BytesOk W W.heap.size (.slice a0 len0 cap0) := by
    obtain ⟨fuel, hf⟩ := h0
    exact bytes_of_ints (open_ints Try.underlying22 Try.underlying5 (by kernel_rfl) hf)
  clear hA0 hval0
  refine (fnState_walk (.slice a0 len0 cap0) W hb0).mono fun e W' ⟨he, bel⟩ => ?_
  subst he
  exact ⟨_, rfl, _, _, _, [], _, [], hW', trodAll_mk1 (shut_bool Try.underlying4 _), (trodAll_cons_mk (Below.trod Try.laidOut (by kernel_rfl) (of_decide_eq_true (by kernel_rfl)) k0 bel lt0) trodAll_mk0), rfl, bel.frame _, fun h => by cases h⟩

theorem fnState_holds : Rows.FnStateSaid :=
  OpenClaim.holds_of_wide 14 Try.f14 rfl rfl rfl rfl rfl rfl rfl ⟨rfl, rfl, rfl, rfl, rfl⟩ rfl rfl rfl rfl rfl (by kernel_rfl) Try.func14 (by kernel_rfl)
    (of_decide_eq_true (by kernel_rfl)) (by unfold Func.isWrapper; first | (rw [if_pos (by decide +kernel)]; kernel_rfl) | (rw [if_neg (by decide +kernel)]; exact ⟨rfl, rfl⟩))
    (fun os started H enc _ => fnState_lifted os started H enc)
end Go.Proofs.Ythggppjdapmgdaa
