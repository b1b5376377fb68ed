/- The law FnBits: digits are at most 31: its walk, its row and its card. -/
import Derived.Test.YtmfpeknhangmoaaDoorBi6
import Derived.Test.YtmfpeknhangmoaaDoorRowT
import Derived.Test.YtmfpeknhangmoaaDoorRowB

namespace Go.Proofs.YtmfpeknhangmoaaDoor
set_option linter.unusedSimpArgs false
set_option linter.unusedVariables false
variable {pv : Int → Int → Int}
open Go.ChangeShapes Go.WideShapes Go.ChangeAt Go.RowKit Go.Joins Eng
def t_FnBits_c0 : SB := (.cmp .lt (.lit 1048576) (.var 0))
def t_FnBits_k0 : Kn := (t_FnBits_c0, true) :: []
def t_FnBits_k1 : Kn := (t_FnBits_c0, false) :: []
theorem t_FnBits_r2 : runFn (drawn XT4) t_FnBits_k0 200 4 [.cv (.one (.opq 0))] = .ok (.cv (.one (.bool (.lit true)))) := by kernel_rfl
def t_FnBits_c1 : SB := (.app 3 0 (.cons (.app 1002 0 (.cons (.lit 0) .nil)) (.cons (.app 1002 1 (.cons (.lit 0) .nil)) (.cons (.app 1002 2 (.cons (.lit 0) .nil)) .nil))))
def t_FnBits_k3 : Kn := (t_FnBits_c1, true) :: t_FnBits_k1
def t_FnBits_k4 : Kn := (t_FnBits_c1, false) :: t_FnBits_k1
def t_FnBits_c2 : SB := (.app 3 0 (.cons (.app 1002 1 (.cons (.lit 0) .nil)) (.cons (.app 1002 0 (.cons (.lit 0) .nil)) (.cons (.app 1002 2 (.cons (.lit 0) .nil)) .nil))))
def t_FnBits_k5 : Kn := (t_FnBits_c2, true) :: t_FnBits_k3
def t_FnBits_k6 : Kn := (t_FnBits_c2, false) :: t_FnBits_k3
def t_FnBits_c3 : SB := (.cmp .eq (.app 93 0 (.cons (.app 1002 1 (.cons (.lit 0) .nil)) (.cons (.app 1002 0 (.cons (.lit 0) .nil)) (.cons (.app 1002 2 (.cons (.lit 0) .nil)) .nil)))) (.app 93 0 (.cons (.app 1002 0 (.cons (.lit 0) .nil)) (.cons (.app 1002 1 (.cons (.lit 0) .nil)) (.cons (.app 1002 2 (.cons (.lit 0) .nil)) .nil)))))
def t_FnBits_k7 : Kn := (t_FnBits_c3, true) :: t_FnBits_k5
def t_FnBits_k8 : Kn := (t_FnBits_c3, false) :: t_FnBits_k5
def t_FnBits_c4 : SB := (.cmp .le (.lit 0) (.app 93 0 (.cons (.app 1002 0 (.cons (.lit 0) .nil)) (.cons (.app 1002 1 (.cons (.lit 0) .nil)) (.cons (.app 1002 2 (.cons (.lit 0) .nil)) .nil)))))
def t_FnBits_k9 : Kn := (t_FnBits_c4, true) :: t_FnBits_k7
def t_FnBits_k10 : Kn := (t_FnBits_c4, false) :: t_FnBits_k7
def t_FnBits_c5 : SB := (.cmp .le (.app 93 0 (.cons (.app 1002 0 (.cons (.lit 0) .nil)) (.cons (.app 1002 1 (.cons (.lit 0) .nil)) (.cons (.app 1002 2 (.cons (.lit 0) .nil)) .nil)))) (.lit 31))
def t_FnBits_k11 : Kn := (t_FnBits_c5, true) :: t_FnBits_k9
def t_FnBits_k12 : Kn := (t_FnBits_c5, false) :: t_FnBits_k9
def t_FnBits_c6 : SB := (.cmp .eq (.app 1002 0 (.cons (.lit 0) .nil)) (.lit 0))
def t_FnBits_k13 : Kn := (t_FnBits_c6, true) :: t_FnBits_k11
def t_FnBits_k14 : Kn := (t_FnBits_c6, false) :: t_FnBits_k11
theorem t_FnBits_r15 : runFn (drawn XT4) t_FnBits_k13 200 4 [.cv (.one (.opq 0))] = .ok (.cv (.one (.bool (.beq (.cmp .eq (.app 93 0 (.cons (.app 1002 0 (.cons (.lit 0) .nil)) (.cons (.app 1002 1 (.cons (.lit 0) .nil)) (.cons (.app 1002 2 (.cons (.lit 0) .nil)) .nil)))) (.lit 0)) (.cmp .eq (.app 1002 1 (.cons (.lit 0) .nil)) (.lit 0)))))) := by kernel_rfl
theorem t_FnBits_r16 : runFn (drawn XT4) t_FnBits_k14 200 4 [.cv (.one (.opq 0))] = .ok (.cv (.one (.bool (.not (.cmp .eq (.app 93 0 (.cons (.app 1002 0 (.cons (.lit 0) .nil)) (.cons (.app 1002 1 (.cons (.lit 0) .nil)) (.cons (.app 1002 2 (.cons (.lit 0) .nil)) .nil)))) (.lit 0)))))) := by kernel_rfl
theorem t_FnBits_r17 : runFn (drawn XT4) t_FnBits_k4 200 4 [.cv (.one (.opq 0))] = .ok (.cv (.one (.bool (.lit true)))) := by kernel_rfl
def t_FnBits : Tree := (.node t_FnBits_c0 (.leaf (.cv (.one (.bool (.lit true))))) (.node t_FnBits_c1 (.node t_FnBits_c2 (.node t_FnBits_c3 (.node t_FnBits_c4 (.node t_FnBits_c5 (.node t_FnBits_c6 (.leaf (.cv (.one (.bool (.beq (.cmp .eq (.app 93 0 (.cons (.app 1002 0 (.cons (.lit 0) .nil)) (.cons (.app 1002 1 (.cons (.lit 0) .nil)) (.cons (.app 1002 2 (.cons (.lit 0) .nil)) .nil)))) (.lit 0)) (.cmp .eq (.app 1002 1 (.cons (.lit 0) .nil)) (.lit 0))))))) (.leaf (.cv (.one (.bool (.not (.cmp .eq (.app 93 0 (.cons (.app 1002 0 (.cons (.lit 0) .nil)) (.cons (.app 1002 1 (.cons (.lit 0) .nil)) (.cons (.app 1002 2 (.cons (.lit 0) .nil)) .nil)))) (.lit 0)))))))) (.dead 7)) (.dead 7)) (.dead 7)) (.dead 7)) (.leaf (.cv (.one (.bool (.lit true)))))))
theorem t_FnBits_runs : Runs (drawn XT4) 200 4 [.cv (.one (.opq 0))] t_FnBits [] := ⟨t_FnBits_r2, ⟨⟨⟨⟨⟨⟨t_FnBits_r15, t_FnBits_r16⟩, trivial⟩, trivial⟩, trivial⟩, trivial⟩, t_FnBits_r17⟩⟩
theorem fnBits_walk (v : Value) (w : World) (hv : BytesOk w w.heap.size v) (hT : Tb w) : Calls Tryd.prog 4 #[v] w (Gives (.bool true) w) := by
  refine dlawRW (X := XT4) rfl (fun pv E h1 h2 => XT4_ok w hT E h1 h2) (fuel := 200) (L := 4) t_FnBits_runs (fun pv p len cap hpv => ?_) v hv
  clear hv
  simp only [t_FnBits, t_FnBits_c0, t_FnBits_c1, t_FnBits_c2, t_FnBits_c3, t_FnBits_c4, t_FnBits_c5, t_FnBits_c6, Tree.den, SVal.den, CV.den, At.den, SE.den, SB.den, SL.den, IOp.den, COp.den, envD, List.map_cons, List.map_nil, List.getD_cons_zero, List.getD_cons_succ, ↓reduceIte, show ∀ q, FI pv 1001 0 [q] = bxA pv q from fun _ => rfl, show ∀ q, FI pv 1001 1 [q] = bxB pv q from fun _ => rfl, show ∀ q, FI pv 1001 2 [q] = bxC pv q from fun _ => rfl, show ∀ q, FI pv 1001 3 [q] = bxD pv q from fun _ => rfl, show ∀ q, FI pv 1001 100 [q] = bxP pv q from fun _ => rfl, show ∀ q, FI pv 1002 0 [q] = dyR pv q from fun _ => rfl, show ∀ q, FI pv 1002 1 [q] = dyI pv q from fun _ => rfl, show ∀ q, FI pv 1002 2 [q] = dyS pv q from fun _ => rfl, show ∀ q, FI pv 1002 100 [q] = q + 4 from fun _ => rfl, show ∀ q n, FI pv 1000 0 [q, n] = pv q n from fun _ _ => rfl, show ∀ q, FI pv 1000 100 [q] = q + 1 from fun _ => rfl]
  generalize dyR pv 0 = r
  generalize dyI pv 0 = i
  generalize dyS pv 0 = s
  cases hd : DV r i s
  · have q1 : FB 3 0 [r, i, s] = false := hd
    rw [q1]
    simp
  · have hd' : DV i r s = true := by rw [DV_swap]; exact hd
    have q1 : FB 3 0 [r, i, s] = true := hd
    have q2 : FB 3 0 [i, r, s] = true := hd'
    have q3 : FI pv 93 0 [r, i, s] = max (BT r) (BT i) := by rw [f93, if_pos hd]
    have q4 : FI pv 93 0 [i, r, s] = max (BT i) (BT r) := by rw [f93, if_pos hd']
    obtain ⟨h1, h2, -⟩ := dv_rng hd
    obtain ⟨a1, a2, a3⟩ := BT_rng h1.1 h1.2
    obtain ⟨b1, b2, b3⟩ := BT_rng h2.1 h2.2
    rw [q1, q2, q3, q4]
    have e1 : max (BT i) (BT r) = max (BT r) (BT i) := by omega
    have e2 : (0 : Int) ≤ max (BT r) (BT i) := by omega
    have e3 : max (BT r) (BT i) ≤ 31 := by omega
    rw [e1, beq_self_eq_true, decide_eq_true e2, decide_eq_true e3]
    simp only [cond_true]
    by_cases hr : r = 0
    · have hb : (max (BT r) (BT i) == 0) = (i == 0) := by
        rw [Bool.eq_iff_iff, beq_iff_eq, beq_iff_eq]; omega
      rw [beq_iff_eq.2 hr, hb]; simp
    · have hb : (max (BT r) (BT i) == 0) = false := by
        rw [beq_eq_false_iff_ne]; omega
      rw [beq_eq_false_iff_ne.2 hr, hb]; simp
theorem fnBits_laid (os : Os) : laidMet Tryd.prog Rows.fnBitsRow.laid ((laidWorld os).forCall (fun _ _ => 0) ⟨#[], #[.slice none 0 0], []⟩).memory := laidMet_of_run' 8 (by kernel_rfl) (by kernel_rfl)
theorem fnBits_reads (os : Os) {H : Type} (enc : TypeId × Value → H) : ∃ places, DataW.whole enc Tryd.prog ((laidWorld os).forCall (fun _ _ => 0) ⟨#[], #[.slice none 0 0], []⟩).memory Tryd.f4.params.toList Rows.fnBitsSpec.vars false #[Value.slice none 0 0].toList 8 = some ([.nil], [], places) := ⟨[], by kernel_rfl⟩
set_option maxRecDepth 100000 in
theorem fnBits_lifted (os : Os) (started : os.Started) (H : Type) (enc : TypeId × Value → H) (F : Stop.Interp) :
    ReturnsInHanded {} Tryd.checked os 4 .any ((OpenSpec.ofChange Rows.fnBitsSpec).preRow enc Tryd.prog Tryd.f4 Rows.fnBitsRow.domain false Rows.fnBitsRow.laid) (((OpenSpec.ofChange Rows.fnBitsSpec).at F).post enc Tryd.prog Tryd.f4 false true false false) := by
  obtain ⟨places, hx⟩ := fnBits_reads os enc
  refine returnsInHanded_of_row (C := Tryd.checked) (s := OpenSpec.ofChange Rows.fnBitsSpec) Tryd.own started (by kernel_rfl) Tryd.func4
    (witness_row_at (enc := enc) (C := Tryd.checked) false (laidWorld os) #[.slice none 0 0] rfl (by kernel_rfl) (by kernel_rfl) (by kernel_rfl)
      (OpenSpec.preRow_of_cond 8 hx (by kernel_rfl) (fun k hk => by cases hk) (by kernel_rfl) (fnBits_laid os))) ?_
  intro W base args ds gs before hval0 hW _ _ _ hL _ _
  have hT : Tb W := tb_of hL
  have hval : ∀ (j : Nat) t v, Tryd.f4.params[j]? = some t → args[j]? = some v → Value.okWide Tryd.prog W .any base t v := hval0
  have hW' := hW
  obtain ⟨p, q, hA0, hV, rfl, hfz, hnd⟩ := hW
  have hA : DataW.TrodAll enc Tryd.prog W 0 (fun _ => true) true Tryd.f4.params.toList args.toList ds p := hA0
  rw [Tryd.params4] at hA hval
  obtain ⟨v0, vs0, d0, ds0, p0, q0, hargs, rfl, rfl, h0, r0⟩ := trodAll_cons hA
  obtain ⟨rfl, rfl, rfl⟩ := trodAll_nil r0
  obtain rfl : args = #[v0] := by cases args; simp_all
  obtain ⟨rfl, rfl⟩ := trodVars_none hV
  have k0 := h0
  have lt0 : ∀ x ∈ p0, x.block < W.heap.size := by obtain ⟨m, hm⟩ := k0; exact DataW.trod_lt m _ _ _ hm
  obtain ⟨a0, len0, cap0, rfl⟩ := okWide_slice Tryd.underlying29 (hval 0 29 v0 rfl rfl)
  have hb0 : BytesOk W W.heap.size (.slice a0 len0 cap0) := by
    obtain ⟨fuel, hf⟩ := h0
    exact bytes_of_ints (open_ints Tryd.underlying29 Tryd.underlying5 (by kernel_rfl) hf)
  clear hA0 hval0
  refine (fnBits_walk (.slice a0 len0 cap0) W hb0 hT).mono fun e W' ⟨he, bel⟩ => ?_
  subst he
  exact ⟨_, rfl, _, _, _, [], _, [], hW', trodAll_mk1 (shut_bool Tryd.underlying4 _), (trodAll_cons_mk (Below.trod Tryd.laidOut (by kernel_rfl) (of_decide_eq_true (by kernel_rfl)) k0 bel lt0) trodAll_mk0), rfl, bel.frame _, fun h => by cases h⟩

theorem fnBits_holds : Rows.FnBitsSaid :=
  OpenClaim.holds_of_cond 4 Tryd.f4 rfl rfl rfl rfl rfl rfl rfl ⟨rfl, rfl, rfl, rfl, rfl⟩ rfl rfl rfl rfl rfl (by kernel_rfl) Tryd.func4 (by kernel_rfl)
    (of_decide_eq_true (by kernel_rfl)) (by unfold Func.isWrapper; first | (rw [if_pos (by decide +kernel)]; kernel_rfl) | (rw [if_neg (by decide +kernel)]; exact ⟨rfl, rfl⟩))
    (fun os started H enc _ F => by rw [OpenClaim.pre_eq_preRow]; exact fnBits_lifted os started H enc F)
theorem fnBits_plain (f : FuncId) (fn : Func) (hf : Tryd.pinned.checked.prog.funcNamed Rows.fnBitsRow.func = some f) (hfn : Tryd.pinned.checked.prog.funcs[f]? = some fn) :
    false = Tryd.pinned.checked.prog.looks [] ∧ ∀ (j : Nat) t, fn.params[j]? = some t → Tryd.pinned.checked.prog.wantsStandIn t = false := by
  obtain rfl : f = 4 := Option.some.inj ((show Tryd.prog.funcNamed Rows.fnBitsRow.func = some 4 by kernel_rfl).symm.trans hf) |>.symm
  obtain rfl : fn = Tryd.f4 := (Option.some.inj (Tryd.func4.symm.trans hfn)).symm
  refine ⟨by kernel_rfl, fun j t ht => ?_⟩
  rw [Tryd.params4] at ht
  have hm : t ∈ [29] := by simpa using Array.mem_of_getElem? ht
  have hall : ([29].all fun u => !Tryd.prog.wantsStandIn u) = true := by kernel_rfl
  exact (show Tryd.prog.wantsStandIn t = false by simpa using List.all_eq_true.1 hall t hm)
/-- The card. -/
theorem fnBits_card : Rows.FnBitsCardSaid :=
  Claim7.holds_tied_plain_at .later [] _ _ _ _ fnBits_holds (fun _ h => by cases h) (by kernel_rfl) (fun _ h => by cases h) fnBits_row_tie rfl ⟨rfl, rfl⟩ (by kernel_rfl) rfl fnBits_plain (by kernel_rfl)
end Go.Proofs.YtmfpeknhangmoaaDoor
