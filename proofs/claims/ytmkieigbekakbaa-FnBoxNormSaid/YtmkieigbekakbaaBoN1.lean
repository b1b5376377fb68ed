/- The law FnBoxNorm: norms of boxes are those of their numbers: its walk and row. -/
import Derived.Test.YtmkieigbekakbaaBoC
import Derived.Test.YtmkieigbekakbaaBoD2
import Derived.Test.YtmkieigbekakbaaBoM3
import Derived.Test.YtmkieigbekakbaaRowB
namespace Go.Proofs.Ytmkieigbekakbaa
set_option linter.unusedSimpArgs false
set_option linter.unusedVariables false
open Go.ChangeShapes Go.WideShapes Go.ChangeAt Go.RowKit Go.Joins Eng

def t_FnBoxNorm : Tree := (.node (.app 2 0 (.cons (.var 1) (.cons (.var 2) (.cons (.var 3) (.cons (.var 4) .nil))))) (.node (.app 2 0 (.cons (.var 3) (.cons (.var 4) (.cons (.var 1) (.cons (.var 2) .nil))))) (.node (.cmp .eq (.app 34 0 (.cons (.var 3) (.cons (.var 4) (.cons (.var 1) (.cons (.var 2) .nil))))) (.app 34 0 (.cons (.var 1) (.cons (.var 2) (.cons (.var 3) (.cons (.var 4) .nil)))))) (.node (.cmp .eq (.app 34 1 (.cons (.var 3) (.cons (.var 4) (.cons (.var 1) (.cons (.var 2) .nil))))) (.app 34 1 (.cons (.var 1) (.cons (.var 2) (.cons (.var 3) (.cons (.var 4) .nil)))))) (.node (.cmp .le (.lit 0) (.app 34 0 (.cons (.var 1) (.cons (.var 2) (.cons (.var 3) (.cons (.var 4) .nil)))))) (.leaf (.cv (.one (.bool (.cmp .le (.app 34 0 (.cons (.var 1) (.cons (.var 2) (.cons (.var 3) (.cons (.var 4) .nil))))) (.app 34 1 (.cons (.var 1) (.cons (.var 2) (.cons (.var 3) (.cons (.var 4) .nil)))))))))) (.leaf (.cv (.one (.bool (.lit false)))))) (.leaf (.cv (.one (.bool (.lit false)))))) (.leaf (.cv (.one (.bool (.lit false)))))) (.leaf (.cv (.one (.bool (.lit false)))))) (.leaf (.cv (.one (.bool (.lit true))))))
theorem t_FnBoxNorm_eq : lawTree X3 300 8 31 box1 60 = t_FnBoxNorm := by kernel_rfl
theorem fnBoxNorm_walk (v : Value) (w : World) (hv : BytesOk w w.heap.size v) : Calls Try.prog 8 #[v] w (Gives (.bool true) w) := by
  obtain ⟨p, len, cap, rfl⟩ : ∃ p len cap, v = .slice p len cap := by
    rcases hv with ⟨a, c, rfl⟩ | ⟨b, off, len, cap, f, rfl, -⟩ <;> exact ⟨_, _, _, rfl⟩
  refine law_ok (X := X3) mixed (fi := FI) (fb := FB) (n := 300) (L := 8) (d := 60) (enters_of Try.func31 rfl (by kernel_rfl)) Good1 (fun zs => X3_ok w _ rfl rfl) box1 rfl (fun w' hb => ?_) t_FnBoxNorm_eq (fun zs hz => ?_) ⟨_, 0, 0, 0, 0, rfl, by unfold Bd; decide⟩
  · refine (DrawBoxNorm_any _ w' (hv.kept hb.size (fun k hk => hb.block k hk))).mono ?_
    rintro e u ⟨a, b, c, d, rfl, h1, hB⟩
    exact ⟨[a, b, c, d], ⟨a, b, c, d, rfl, h1⟩, rfl, hB⟩
  · obtain ⟨a, b, c, d, rfl, h1⟩ := hz
    clear hv
    simp only [t_FnBoxNorm, Tree.den, SVal.den, CV.den, At.den, SE.den, SB.den, SL.den, IOp.den, COp.den, envV, envOf, List.map_cons, List.map_nil, List.getD_cons_zero, List.getD_cons_succ]
    simp only [show ∀ a b c d, FB 2 0 [a, b, c, d] = BV a b c d from fun _ _ _ _ => rfl]
    cases h : BV a b c d
    · rfl
    have hs : BV c d a b = true := (BV_swap a b c d).trans h
    rw [hs, f34a h, f34b h, f34a hs, f34b hs, NLo_swap, NHi_swap]
    have := NLo_nn a b c d
    have := NLo_le a b c d
    simp [NLo_nn, NLo_le]
set_option maxRecDepth 100000 in
theorem fnBoxNorm_lifted (os : Os) (started : os.Started) (H : Type) (enc : TypeId × Value → H) :
    ReturnsInHanded {} Try.checked os 8 .any (Rows.fnBoxNormSpec.pre6 enc Try.prog Try.f8 Rows.fnBoxNormRow.domain false) (Rows.fnBoxNormSpec.post enc Try.prog Try.f8 false true false false) := by
  refine returnsInHanded_of_change (C := Try.checked) Try.own started (by kernel_rfl) Try.func8
    (ChangeSpec.witness6 (enc := enc) (C := Try.checked) false ⟨#[], #[.slice none 0 0], []⟩ 8 (by kernel_rfl) (by kernel_rfl) (by kernel_rfl) (by kernel_rfl)) ?_
  intro W base args ds gs before hval0 hW hcnd _
  have hval : ∀ (j : Nat) t v, Try.f8.params[j]? = some t → args[j]? = some v → Value.okWide Try.prog W .any base t v := hval0
  have hW' := hW
  obtain ⟨p, q, hA0, hV, rfl, hfz, hnd⟩ := hW
  have hA : DataW.TrodAll enc Try.prog W 0 (fun _ => true) true Try.f8.params.toList args.toList ds p := hA0
  rw [Try.params8] at hA hval
  obtain ⟨v0, vs0, d0, ds0, p0, q0, hargs, rfl, rfl, h0, r0⟩ := trodAll_cons hA
  obtain ⟨rfl, rfl, rfl⟩ := trodAll_nil r0
  obtain rfl : args = #[v0] := by cases args; simp_all
  obtain ⟨rfl, rfl⟩ := trodVars_none hV
  have k0 := h0
  have lt0 : ∀ x ∈ p0, x.block < W.heap.size := by obtain ⟨m, hm⟩ := k0; exact DataW.trod_lt m _ _ _ hm
  obtain ⟨a0, len0, cap0, rfl⟩ := okWide_slice Try.underlying43 (hval 0 43 v0 rfl rfl)
  have hb0 : BytesOk W W.heap.size (.slice a0 len0 cap0) := by
    obtain ⟨fuel, hf⟩ := h0
    exact bytes_of_ints (open_ints Try.underlying43 Try.underlying5 (by kernel_rfl) hf)
  clear hA0 hval0
  refine (fnBoxNorm_walk (.slice a0 len0 cap0) W hb0).mono fun e W' ⟨he, bel⟩ => ?_
  subst he
  exact ⟨_, rfl, _, _, _, [], _, [], hW', trodAll_mk1 (shut_bool Try.underlying4 _), (trodAll_cons_mk (Below.trod Try.laidOut (by kernel_rfl) (of_decide_eq_true (by kernel_rfl)) k0 bel lt0) trodAll_mk0), rfl, bel.frame _, fun h => by cases h⟩

theorem fnBoxNorm_holds : Rows.FnBoxNormSaid :=
  OpenClaim.holds_of_wide 8 Try.f8 rfl rfl rfl rfl rfl rfl rfl ⟨rfl, rfl, rfl, rfl, rfl⟩ rfl rfl rfl rfl rfl (by kernel_rfl) Try.func8 (by kernel_rfl)
    (of_decide_eq_true (by kernel_rfl)) (by unfold Func.isWrapper; first | (rw [if_pos (by decide +kernel)]; kernel_rfl) | (rw [if_neg (by decide +kernel)]; exact ⟨rfl, rfl⟩))
    (fun os started H enc _ => fnBoxNorm_lifted os started H enc)
end Go.Proofs.Ytmkieigbekakbaa
