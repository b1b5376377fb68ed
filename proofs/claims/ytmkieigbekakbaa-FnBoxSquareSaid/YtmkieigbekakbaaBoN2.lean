/- The law FnBoxSquare: boxes of squares: its walk and row. -/
import Derived.Test.YtmkieigbekakbaaBoC
import Derived.Test.YtmkieigbekakbaaBoD2
import Derived.Test.YtmkieigbekakbaaBoM3
import Derived.Test.YtmkieigbekakbaaRowB
namespace Go.Proofs.Ytmkieigbekakbaa
set_option linter.unusedSimpArgs false
set_option linter.unusedVariables false
open Go.ChangeShapes Go.WideShapes Go.ChangeAt Go.RowKit Go.Joins Eng

def t_FnBoxSquare : Tree := (.node (.app 6 0 (.cons (.var 1) (.cons (.var 2) (.cons (.var 3) (.cons (.var 4) .nil))))) (.node (.app 6 0 (.cons (.wrap .i64 (.bin .sub .i64 (.lit 0) (.var 2))) (.cons (.wrap .i64 (.bin .sub .i64 (.lit 0) (.var 1))) (.cons (.wrap .i64 (.bin .sub .i64 (.lit 0) (.var 4))) (.cons (.wrap .i64 (.bin .sub .i64 (.lit 0) (.var 3))) .nil))))) (.node (.and (.cmp .eq (.app 6 0 (.cons (.wrap .i64 (.bin .sub .i64 (.lit 0) (.var 2))) (.cons (.wrap .i64 (.bin .sub .i64 (.lit 0) (.var 1))) (.cons (.wrap .i64 (.bin .sub .i64 (.lit 0) (.var 4))) (.cons (.wrap .i64 (.bin .sub .i64 (.lit 0) (.var 3))) .nil))))) (.app 6 0 (.cons (.var 1) (.cons (.var 2) (.cons (.var 3) (.cons (.var 4) .nil)))))) (.and (.cmp .eq (.app 6 1 (.cons (.wrap .i64 (.bin .sub .i64 (.lit 0) (.var 2))) (.cons (.wrap .i64 (.bin .sub .i64 (.lit 0) (.var 1))) (.cons (.wrap .i64 (.bin .sub .i64 (.lit 0) (.var 4))) (.cons (.wrap .i64 (.bin .sub .i64 (.lit 0) (.var 3))) .nil))))) (.app 6 1 (.cons (.var 1) (.cons (.var 2) (.cons (.var 3) (.cons (.var 4) .nil)))))) (.and (.cmp .eq (.app 6 2 (.cons (.wrap .i64 (.bin .sub .i64 (.lit 0) (.var 2))) (.cons (.wrap .i64 (.bin .sub .i64 (.lit 0) (.var 1))) (.cons (.wrap .i64 (.bin .sub .i64 (.lit 0) (.var 4))) (.cons (.wrap .i64 (.bin .sub .i64 (.lit 0) (.var 3))) .nil))))) (.app 6 2 (.cons (.var 1) (.cons (.var 2) (.cons (.var 3) (.cons (.var 4) .nil)))))) (.cmp .eq (.app 6 3 (.cons (.wrap .i64 (.bin .sub .i64 (.lit 0) (.var 2))) (.cons (.wrap .i64 (.bin .sub .i64 (.lit 0) (.var 1))) (.cons (.wrap .i64 (.bin .sub .i64 (.lit 0) (.var 4))) (.cons (.wrap .i64 (.bin .sub .i64 (.lit 0) (.var 3))) .nil))))) (.app 6 3 (.cons (.var 1) (.cons (.var 2) (.cons (.var 3) (.cons (.var 4) .nil))))))))) (.leaf (.cv (.one (.bool (.app 2 0 (.cons (.app 6 0 (.cons (.var 1) (.cons (.var 2) (.cons (.var 3) (.cons (.var 4) .nil))))) (.cons (.app 6 1 (.cons (.var 1) (.cons (.var 2) (.cons (.var 3) (.cons (.var 4) .nil))))) (.cons (.app 6 2 (.cons (.var 1) (.cons (.var 2) (.cons (.var 3) (.cons (.var 4) .nil))))) (.cons (.app 6 3 (.cons (.var 1) (.cons (.var 2) (.cons (.var 3) (.cons (.var 4) .nil))))) .nil))))))))) (.leaf (.cv (.one (.bool (.lit false)))))) (.leaf (.cv (.one (.bool (.lit false)))))) (.leaf (.cv (.one (.bool (.lit true))))))
theorem t_FnBoxSquare_eq : lawTree X3 300 10 39 box1 60 = t_FnBoxSquare := by kernel_rfl
theorem fnBoxSquare_walk (v : Value) (w : World) (hv : BytesOk w w.heap.size v) : Calls Try.prog 10 #[v] w (Gives (.bool true) w) := by
  obtain ⟨p, len, cap, rfl⟩ : ∃ p len cap, v = .slice p len cap := by
    rcases hv with ⟨a, c, rfl⟩ | ⟨b, off, len, cap, f, rfl, -⟩ <;> exact ⟨_, _, _, rfl⟩
  refine law_ok (X := X3) mixed (fi := FI) (fb := FB) (n := 300) (L := 10) (d := 60) (enters_of Try.func39 rfl (by kernel_rfl)) Good1 (fun zs => X3_ok w _ rfl rfl) box1 rfl (fun w' hb => ?_) t_FnBoxSquare_eq (fun zs hz => ?_) ⟨_, 0, 0, 0, 0, rfl, by unfold Bd; decide⟩
  · refine (DrawBoxSquare_any _ w' (hv.kept hb.size (fun k hk => hb.block k hk))).mono ?_
    rintro e u ⟨a, b, c, d, rfl, h1, hB⟩
    exact ⟨[a, b, c, d], ⟨a, b, c, d, rfl, h1⟩, rfl, hB⟩
  · obtain ⟨a, b, c, d, rfl, h1⟩ := hz
    clear hv
    simp only [t_FnBoxSquare, Tree.den, SVal.den, CV.den, At.den, SE.den, SB.den, SL.den, IOp.den, COp.den, envV, envOf, List.map_cons, List.map_nil, List.getD_cons_zero, List.getD_cons_succ]
    simp only [show ∀ a b c d, FB 6 0 [a, b, c, d] = SQB a b c d from fun _ _ _ _ => rfl, show ∀ a b c d, FB 2 0 [a, b, c, d] = BV a b c d from fun _ _ _ _ => rfl]
    obtain ⟨a0, a1, b0, b1, c0, c1, d0, d1⟩ := h1
    rw [wrap_in (x := 0 - a) (by omega) (by omega), wrap_in (x := 0 - b) (by omega) (by omega), wrap_in (x := 0 - c) (by omega) (by omega), wrap_in (x := 0 - d) (by omega) (by omega)]
    simp only [Int.zero_sub, SQB_neg]
    cases h : SQB a b c d
    · rfl
    obtain ⟨e0, e1, e2, e3⟩ := f6 h
    obtain ⟨n0, n1, n2, n3⟩ := f6 ((SQB_neg a b c d).trans h)
    have hb : BV (sq0 a b c d) (sq1 a b c d) (sq2 a b c d) (sq3 a b c d) = true := (Bool.and_eq_true_iff.1 h).2
    rw [e0, e1, e2, e3, n0, n1, n2, n3, sq0_neg, sq1_neg, sq2_neg, sq3_neg, hb]
    simp
set_option maxRecDepth 100000 in
theorem fnBoxSquare_lifted (os : Os) (started : os.Started) (H : Type) (enc : TypeId × Value → H) :
    ReturnsInHanded {} Try.checked os 10 .any (Rows.fnBoxSquareSpec.pre6 enc Try.prog Try.f10 Rows.fnBoxSquareRow.domain false) (Rows.fnBoxSquareSpec.post enc Try.prog Try.f10 false true false false) := by
  refine returnsInHanded_of_change (C := Try.checked) Try.own started (by kernel_rfl) Try.func10
    (ChangeSpec.witness6 (enc := enc) (C := Try.checked) false ⟨#[], #[.slice none 0 0], []⟩ 8 (by kernel_rfl) (by kernel_rfl) (by kernel_rfl) (by kernel_rfl)) ?_
  intro W base args ds gs before hval0 hW hcnd _
  have hval : ∀ (j : Nat) t v, Try.f10.params[j]? = some t → args[j]? = some v → Value.okWide Try.prog W .any base t v := hval0
  have hW' := hW
  obtain ⟨p, q, hA0, hV, rfl, hfz, hnd⟩ := hW
  have hA : DataW.TrodAll enc Try.prog W 0 (fun _ => true) true Try.f10.params.toList args.toList ds p := hA0
  rw [Try.params10] at hA hval
  obtain ⟨v0, vs0, d0, ds0, p0, q0, hargs, rfl, rfl, h0, r0⟩ := trodAll_cons hA
  obtain ⟨rfl, rfl, rfl⟩ := trodAll_nil r0
  obtain rfl : args = #[v0] := by cases args; simp_all
  obtain ⟨rfl, rfl⟩ := trodVars_none hV
  have k0 := h0
  have lt0 : ∀ x ∈ p0, x.block < W.heap.size := by obtain ⟨m, hm⟩ := k0; exact DataW.trod_lt m _ _ _ hm
  obtain ⟨a0, len0, cap0, rfl⟩ := okWide_slice Try.underlying43 (hval 0 43 v0 rfl rfl)
  have hb0 : BytesOk W W.heap.size (.slice a0 len0 cap0) := by
    obtain ⟨fuel, hf⟩ := h0
    exact bytes_of_ints (open_ints Try.underlying43 Try.underlying5 (by kernel_rfl) hf)
  clear hA0 hval0
  refine (fnBoxSquare_walk (.slice a0 len0 cap0) W hb0).mono fun e W' ⟨he, bel⟩ => ?_
  subst he
  exact ⟨_, rfl, _, _, _, [], _, [], hW', trodAll_mk1 (shut_bool Try.underlying4 _), (trodAll_cons_mk (Below.trod Try.laidOut (by kernel_rfl) (of_decide_eq_true (by kernel_rfl)) k0 bel lt0) trodAll_mk0), rfl, bel.frame _, fun h => by cases h⟩

theorem fnBoxSquare_holds : Rows.FnBoxSquareSaid :=
  OpenClaim.holds_of_wide 10 Try.f10 rfl rfl rfl rfl rfl rfl rfl ⟨rfl, rfl, rfl, rfl, rfl⟩ rfl rfl rfl rfl rfl (by kernel_rfl) Try.func10 (by kernel_rfl)
    (of_decide_eq_true (by kernel_rfl)) (by unfold Func.isWrapper; first | (rw [if_pos (by decide +kernel)]; kernel_rfl) | (rw [if_neg (by decide +kernel)]; exact ⟨rfl, rfl⟩))
    (fun os started H enc _ => fnBoxSquare_lifted os started H enc)
end Go.Proofs.Ytmkieigbekakbaa
