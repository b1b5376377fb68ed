/- The law FnCardioid: bounds of parts: its walk and row. -/
import Derived.Test.YtmkieigbekakbaaBoC
import Derived.Test.YtmkieigbekakbaaBoD2
import Derived.Test.YtmkieigbekakbaaBoM3
import Derived.Test.YtmkieigbekakbaaRowB
namespace Go.Proofs.Ytmkieigbekakbaa
set_option linter.unusedSimpArgs false
set_option linter.unusedVariables false
open Go.ChangeShapes Go.WideShapes Go.ChangeAt Go.RowKit Go.Joins Eng

theorem mid2 (x : Int) : x.fdiv (2 ^ min (Int.toNat 1) IntKind.i64.bits) = x / 2 := by
  have e : (2 : Int) ^ min (Int.toNat 1) IntKind.i64.bits = 2 := by decide
  rw [e, Int.fdiv_eq_ediv_of_nonneg _ (by decide)]
def t_FnCardioid : Tree := (.node (.app 2 0 (.cons (.var 1) (.cons (.var 2) (.cons (.var 3) (.cons (.var 4) .nil))))) (.node (.app 2 0 (.cons (.var 1) (.cons (.bin .shr .i64 (.wrap .i64 (.bin .add .i64 (.var 1) (.var 2))) (.lit 1)) (.cons (.var 3) (.cons (.bin .shr .i64 (.wrap .i64 (.bin .add .i64 (.var 3) (.var 4))) (.lit 1)) .nil))))) (.node (.cmp .lt (.app 35 0 (.cons (.var 1) (.cons (.var 2) (.cons (.var 3) (.cons (.var 4) .nil))))) (.app 35 0 (.cons (.var 1) (.cons (.bin .shr .i64 (.wrap .i64 (.bin .add .i64 (.var 1) (.var 2))) (.lit 1)) (.cons (.var 3) (.cons (.bin .shr .i64 (.wrap .i64 (.bin .add .i64 (.var 3) (.var 4))) (.lit 1)) .nil)))))) (.leaf (.cv (.one (.bool (.lit false))))) (.node (.app 2 0 (.cons (.bin .shr .i64 (.wrap .i64 (.bin .add .i64 (.var 1) (.var 2))) (.lit 1)) (.cons (.var 2) (.cons (.var 3) (.cons (.bin .shr .i64 (.wrap .i64 (.bin .add .i64 (.var 3) (.var 4))) (.lit 1)) .nil))))) (.node (.cmp .lt (.app 35 0 (.cons (.var 1) (.cons (.var 2) (.cons (.var 3) (.cons (.var 4) .nil))))) (.app 35 0 (.cons (.bin .shr .i64 (.wrap .i64 (.bin .add .i64 (.var 1) (.var 2))) (.lit 1)) (.cons (.var 2) (.cons (.var 3) (.cons (.bin .shr .i64 (.wrap .i64 (.bin .add .i64 (.var 3) (.var 4))) (.lit 1)) .nil)))))) (.leaf (.cv (.one (.bool (.lit false))))) (.node (.app 2 0 (.cons (.var 1) (.cons (.bin .shr .i64 (.wrap .i64 (.bin .add .i64 (.var 1) (.var 2))) (.lit 1)) (.cons (.bin .shr .i64 (.wrap .i64 (.bin .add .i64 (.var 3) (.var 4))) (.lit 1)) (.cons (.var 4) .nil))))) (.node (.cmp .lt (.app 35 0 (.cons (.var 1) (.cons (.var 2) (.cons (.var 3) (.cons (.var 4) .nil))))) (.app 35 0 (.cons (.var 1) (.cons (.bin .shr .i64 (.wrap .i64 (.bin .add .i64 (.var 1) (.var 2))) (.lit 1)) (.cons (.bin .shr .i64 (.wrap .i64 (.bin .add .i64 (.var 3) (.var 4))) (.lit 1)) (.cons (.var 4) .nil)))))) (.leaf (.cv (.one (.bool (.lit false))))) (.node (.app 2 0 (.cons (.bin .shr .i64 (.wrap .i64 (.bin .add .i64 (.var 1) (.var 2))) (.lit 1)) (.cons (.var 2) (.cons (.bin .shr .i64 (.wrap .i64 (.bin .add .i64 (.var 3) (.var 4))) (.lit 1)) (.cons (.var 4) .nil))))) (.node (.cmp .lt (.app 35 0 (.cons (.var 1) (.cons (.var 2) (.cons (.var 3) (.cons (.var 4) .nil))))) (.app 35 0 (.cons (.bin .shr .i64 (.wrap .i64 (.bin .add .i64 (.var 1) (.var 2))) (.lit 1)) (.cons (.var 2) (.cons (.bin .shr .i64 (.wrap .i64 (.bin .add .i64 (.var 3) (.var 4))) (.lit 1)) (.cons (.var 4) .nil)))))) (.leaf (.cv (.one (.bool (.lit false))))) (.node (.app 2 0 (.cons (.var 1) (.cons (.var 2) (.cons (.wrap .i64 (.bin .sub .i64 (.lit 0) (.var 4))) (.cons (.wrap .i64 (.bin .sub .i64 (.lit 0) (.var 3))) .nil))))) (.leaf (.cv (.one (.bool (.cmp .eq (.app 35 0 (.cons (.var 1) (.cons (.var 2) (.cons (.wrap .i64 (.bin .sub .i64 (.lit 0) (.var 4))) (.cons (.wrap .i64 (.bin .sub .i64 (.lit 0) (.var 3))) .nil))))) (.app 35 0 (.cons (.var 1) (.cons (.var 2) (.cons (.var 3) (.cons (.var 4) .nil)))))))))) (.leaf (.cv (.one (.bool (.lit false))))))) (.leaf (.cv (.one (.bool (.lit false))))))) (.leaf (.cv (.one (.bool (.lit false))))))) (.leaf (.cv (.one (.bool (.lit false))))))) (.leaf (.cv (.one (.bool (.lit false)))))) (.leaf (.cv (.one (.bool (.lit true))))))
theorem t_FnCardioid_eq : lawTree X3 300 13 43 box1 60 = t_FnCardioid := by kernel_rfl
theorem fnCardioid_walk (v : Value) (w : World) (hv : BytesOk w w.heap.size v) : Calls Try.prog 13 #[v] w (Gives (.bool true) w) := by
  obtain ⟨p, len, cap, rfl⟩ : ∃ p len cap, v = .slice p len cap := by
    rcases hv with ⟨a, c, rfl⟩ | ⟨b, off, len, cap, f, rfl, -⟩ <;> exact ⟨_, _, _, rfl⟩
  refine law_ok (X := X3) mixed (fi := FI) (fb := FB) (n := 300) (L := 13) (d := 60) (enters_of Try.func43 rfl (by kernel_rfl)) Good1 (fun zs => X3_ok w _ rfl rfl) box1 rfl (fun w' hb => ?_) t_FnCardioid_eq (fun zs hz => ?_) ⟨_, 0, 0, 0, 0, rfl, by unfold Bd; decide⟩
  · refine (DrawCardioidBound_any _ w' (hv.kept hb.size (fun k hk => hb.block k hk))).mono ?_
    rintro e u ⟨a, b, c, d, rfl, h1, hB⟩
    exact ⟨[a, b, c, d], ⟨a, b, c, d, rfl, h1⟩, rfl, hB⟩
  · obtain ⟨a, b, c, d, rfl, h1⟩ := hz
    clear hv
    simp only [t_FnCardioid, Tree.den, SVal.den, CV.den, At.den, SE.den, SB.den, SL.den, IOp.den, COp.den, envV, envOf, List.map_cons, List.map_nil, List.getD_cons_zero, List.getD_cons_succ]
    simp only [show ∀ a b c d, FB 2 0 [a, b, c, d] = BV a b c d from fun _ _ _ _ => rfl, mid2]
    obtain ⟨a0, a1, b0, b1, c0, c1, d0, d1⟩ := h1
    rw [wrap_in (x := a + b) (by omega) (by omega), wrap_in (x := c + d) (by omega) (by omega), wrap_in (x := 0 - c) (by omega) (by omega), wrap_in (x := 0 - d) (by omega) (by omega)]
    simp only [Int.zero_sub]
    cases h : BV a b c d
    · rfl
    obtain ⟨p1, p2, p3, p4, p5, p6⟩ := (BV_iff _ _ _ _).1 h
    obtain ⟨m, hm, m1, m2⟩ : ∃ m, (a + b) / 2 = m ∧ a ≤ m ∧ m ≤ b := ⟨_, rfl, by omega, by omega⟩
    obtain ⟨n, hn, n1, n2⟩ : ∃ n, (c + d) / 2 = n ∧ c ≤ n ∧ n ≤ d := ⟨_, rfl, by omega, by omega⟩
    rw [hm, hn]
    have q1 : BV a m c n = true := (BV_iff _ _ _ _).2 (by omega)
    have q2 : BV m b c n = true := (BV_iff _ _ _ _).2 (by omega)
    have q3 : BV a m n d = true := (BV_iff _ _ _ _).2 (by omega)
    have q4 : BV m b n d = true := (BV_iff _ _ _ _).2 (by omega)
    have q5 : BV a b (-d) (-c) = true := (BV_mirror _ _ _ _).trans h
    have r1 : decide (CBD a b c d < CBD a m c n) = false := decide_eq_false (by have := CBD_mono (a := a) (b := b) (c := c) (d := d) (a' := a) (b' := m) (c' := c) (d' := n) (by omega) (by omega) (by omega) (by omega) (by omega) (by omega); omega)
    have r2 : decide (CBD a b c d < CBD m b c n) = false := decide_eq_false (by have := CBD_mono (a := a) (b := b) (c := c) (d := d) (a' := m) (b' := b) (c' := c) (d' := n) (by omega) (by omega) (by omega) (by omega) (by omega) (by omega); omega)
    have r3 : decide (CBD a b c d < CBD a m n d) = false := decide_eq_false (by have := CBD_mono (a := a) (b := b) (c := c) (d := d) (a' := a) (b' := m) (c' := n) (d' := d) (by omega) (by omega) (by omega) (by omega) (by omega) (by omega); omega)
    have r4 : decide (CBD a b c d < CBD m b n d) = false := decide_eq_false (by have := CBD_mono (a := a) (b := b) (c := c) (d := d) (a' := m) (b' := b) (c' := n) (d' := d) (by omega) (by omega) (by omega) (by omega) (by omega) (by omega); omega)
    rw [q1, q2, q3, q4, q5, f35 h, f35 q1, f35 q2, f35 q3, f35 q4, f35 q5, CBD_mirror, r1, r2, r3, r4]
    simp
set_option maxRecDepth 100000 in
theorem fnCardioid_lifted (os : Os) (started : os.Started) (H : Type) (enc : TypeId × Value → H) :
    ReturnsInHanded {} Try.checked os 13 .any (Rows.fnCardioidSpec.pre6 enc Try.prog Try.f13 Rows.fnCardioidRow.domain false) (Rows.fnCardioidSpec.post enc Try.prog Try.f13 false true false false) := by
  refine returnsInHanded_of_change (C := Try.checked) Try.own started (by kernel_rfl) Try.func13
    (ChangeSpec.witness6 (enc := enc) (C := Try.checked) false ⟨#[], #[.slice none 0 0], []⟩ 8 (by kernel_rfl) (by kernel_rfl) (by kernel_rfl) (by kernel_rfl)) ?_
  intro W base args ds gs before hval0 hW hcnd _
  have hval : ∀ (j : Nat) t v, Try.f13.params[j]? = some t → args[j]? = some v → Value.okWide Try.prog W .any base t v := hval0
  have hW' := hW
  obtain ⟨p, q, hA0, hV, rfl, hfz, hnd⟩ := hW
  have hA : DataW.TrodAll enc Try.prog W 0 (fun _ => true) true Try.f13.params.toList args.toList ds p := hA0
  rw [Try.params13] at hA hval
  obtain ⟨v0, vs0, d0, ds0, p0, q0, hargs, rfl, rfl, h0, r0⟩ := trodAll_cons hA
  obtain ⟨rfl, rfl, rfl⟩ := trodAll_nil r0
  obtain rfl : args = #[v0] := by cases args; simp_all
  obtain ⟨rfl, rfl⟩ := trodVars_none hV
  have k0 := h0
  have lt0 : ∀ x ∈ p0, x.block < W.heap.size := by obtain ⟨m, hm⟩ := k0; exact DataW.trod_lt m _ _ _ hm
  obtain ⟨a0, len0, cap0, rfl⟩ := okWide_slice Try.underlying43 (hval 0 43 v0 rfl rfl)
  have hb0 : BytesOk W W.heap.size (.slice a0 len0 cap0) := by
    obtain ⟨fuel, hf⟩ := h0
    exact bytes_of_ints (open_ints Try.underlying43 Try.underlying5 (by kernel_rfl) hf)
  clear hA0 hval0
  refine (fnCardioid_walk (.slice a0 len0 cap0) W hb0).mono fun e W' ⟨he, bel⟩ => ?_
  subst he
  exact ⟨_, rfl, _, _, _, [], _, [], hW', trodAll_mk1 (shut_bool Try.underlying4 _), (trodAll_cons_mk (Below.trod Try.laidOut (by kernel_rfl) (of_decide_eq_true (by kernel_rfl)) k0 bel lt0) trodAll_mk0), rfl, bel.frame _, fun h => by cases h⟩

theorem fnCardioid_holds : Rows.FnCardioidSaid :=
  OpenClaim.holds_of_wide 13 Try.f13 rfl rfl rfl rfl rfl rfl rfl ⟨rfl, rfl, rfl, rfl, rfl⟩ rfl rfl rfl rfl rfl (by kernel_rfl) Try.func13 (by kernel_rfl)
    (of_decide_eq_true (by kernel_rfl)) (by unfold Func.isWrapper; first | (rw [if_pos (by decide +kernel)]; kernel_rfl) | (rw [if_neg (by decide +kernel)]; exact ⟨rfl, rfl⟩))
    (fun os started H enc _ => fnCardioid_lifted os started H enc)
end Go.Proofs.Ytmkieigbekakbaa
