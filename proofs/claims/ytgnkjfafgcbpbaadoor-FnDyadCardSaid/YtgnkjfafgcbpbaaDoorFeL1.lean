/- The law FnDyad: exact numbers are wide ones: its walk, its row and its card. -/
import Derived.Test.YtgnkjfafgcbpbaaDoorFe3
import Derived.Test.YtgnkjfafgcbpbaaDoorRowT
import Derived.Test.YtgnkjfafgcbpbaaDoorRowB
namespace Go.Proofs.YtgnkjfafgcbpbaaDoor
set_option linter.unusedSimpArgs false
set_option linter.unusedVariables false
variable {pv : Int → Int → Int}
open Go.ChangeShapes Go.WideShapes Go.ChangeAt Go.RowKit Go.Joins Eng
def t_FnDyad_c0 : SB := (.cmp .lt (.lit 1048576) (.var 0))
def t_FnDyad_k0 : Kn := (t_FnDyad_c0, true) :: []
def t_FnDyad_k1 : Kn := (t_FnDyad_c0, false) :: []
theorem t_FnDyad_r2 : runFn (drawn XE2) t_FnDyad_k0 200 3 [.cv (.one (.opq 0))] = .ok (.cv (.one (.bool (.lit true)))) := by kernel_rfl
def t_FnDyad_c1 : SB := (.app 3 0 (.cons (.app 1002 0 (.cons (.lit 0) .nil)) (.cons (.app 1002 1 (.cons (.lit 0) .nil)) (.cons (.app 1002 2 (.cons (.lit 0) .nil)) .nil))))
def t_FnDyad_k3 : Kn := (t_FnDyad_c1, true) :: t_FnDyad_k1
def t_FnDyad_k4 : Kn := (t_FnDyad_c1, false) :: t_FnDyad_k1
def t_FnDyad_c2 : SB := (.app 124 0 (.cons (.app 112 0 (.cons (.app 1002 0 (.cons (.lit 0) .nil)) (.cons (.app 1002 1 (.cons (.lit 0) .nil)) (.cons (.app 1002 2 (.cons (.lit 0) .nil)) .nil)))) (.cons (.app 112 1 (.cons (.app 1002 0 (.cons (.lit 0) .nil)) (.cons (.app 1002 1 (.cons (.lit 0) .nil)) (.cons (.app 1002 2 (.cons (.lit 0) .nil)) .nil)))) .nil)))
def t_FnDyad_k5 : Kn := (t_FnDyad_c2, true) :: t_FnDyad_k3
def t_FnDyad_k6 : Kn := (t_FnDyad_c2, false) :: t_FnDyad_k3
def t_FnDyad_c3 : SB := (.app 123 0 (.cons (.app 112 0 (.cons (.app 1002 0 (.cons (.lit 0) .nil)) (.cons (.app 1002 1 (.cons (.lit 0) .nil)) (.cons (.app 1002 2 (.cons (.lit 0) .nil)) .nil)))) (.cons (.app 112 1 (.cons (.app 1002 0 (.cons (.lit 0) .nil)) (.cons (.app 1002 1 (.cons (.lit 0) .nil)) (.cons (.app 1002 2 (.cons (.lit 0) .nil)) .nil)))) .nil)))
def t_FnDyad_k7 : Kn := (t_FnDyad_c3, true) :: t_FnDyad_k5
def t_FnDyad_k8 : Kn := (t_FnDyad_c3, false) :: t_FnDyad_k5
def t_FnDyad_c4 : SB := (.app 4 0 (.cons (.app 1002 0 (.cons (.lit 0) .nil)) (.cons (.app 1002 1 (.cons (.lit 0) .nil)) (.cons (.app 1002 2 (.cons (.lit 0) .nil)) .nil))))
def t_FnDyad_k9 : Kn := (t_FnDyad_c4, true) :: t_FnDyad_k7
def t_FnDyad_k10 : Kn := (t_FnDyad_c4, false) :: t_FnDyad_k7
def t_FnDyad_c5 : SB := (.and (.cmp .eq (.app 123 0 (.cons (.app 112 0 (.cons (.app 1002 0 (.cons (.lit 0) .nil)) (.cons (.app 1002 1 (.cons (.lit 0) .nil)) (.cons (.app 1002 2 (.cons (.lit 0) .nil)) .nil)))) (.cons (.app 112 1 (.cons (.app 1002 0 (.cons (.lit 0) .nil)) (.cons (.app 1002 1 (.cons (.lit 0) .nil)) (.cons (.app 1002 2 (.cons (.lit 0) .nil)) .nil)))) .nil))) (.app 1002 0 (.cons (.lit 0) .nil))) (.and (.cmp .eq (.app 123 1 (.cons (.app 112 0 (.cons (.app 1002 0 (.cons (.lit 0) .nil)) (.cons (.app 1002 1 (.cons (.lit 0) .nil)) (.cons (.app 1002 2 (.cons (.lit 0) .nil)) .nil)))) (.cons (.app 112 1 (.cons (.app 1002 0 (.cons (.lit 0) .nil)) (.cons (.app 1002 1 (.cons (.lit 0) .nil)) (.cons (.app 1002 2 (.cons (.lit 0) .nil)) .nil)))) .nil))) (.app 1002 1 (.cons (.lit 0) .nil))) (.cmp .eq (.app 123 2 (.cons (.app 112 0 (.cons (.app 1002 0 (.cons (.lit 0) .nil)) (.cons (.app 1002 1 (.cons (.lit 0) .nil)) (.cons (.app 1002 2 (.cons (.lit 0) .nil)) .nil)))) (.cons (.app 112 1 (.cons (.app 1002 0 (.cons (.lit 0) .nil)) (.cons (.app 1002 1 (.cons (.lit 0) .nil)) (.cons (.app 1002 2 (.cons (.lit 0) .nil)) .nil)))) .nil))) (.app 1002 2 (.cons (.lit 0) .nil)))))
def t_FnDyad_k11 : Kn := (t_FnDyad_c5, true) :: t_FnDyad_k9
def t_FnDyad_k12 : Kn := (t_FnDyad_c5, false) :: t_FnDyad_k9
theorem t_FnDyad_r13 : runFn (drawn XE2) t_FnDyad_k11 200 3 [.cv (.one (.opq 0))] = .ok (.cv (.one (.bool (.and (.cmp .eq (.app 4 0 (.cons (.app 1002 0 (.cons (.lit 0) .nil)) (.cons (.app 1002 1 (.cons (.lit 0) .nil)) (.cons (.app 1002 2 (.cons (.lit 0) .nil)) .nil)))) (.app 1002 0 (.cons (.lit 0) .nil))) (.and (.cmp .eq (.app 4 1 (.cons (.app 1002 0 (.cons (.lit 0) .nil)) (.cons (.app 1002 1 (.cons (.lit 0) .nil)) (.cons (.app 1002 2 (.cons (.lit 0) .nil)) .nil)))) (.app 1002 1 (.cons (.lit 0) .nil))) (.cmp .eq (.app 4 2 (.cons (.app 1002 0 (.cons (.lit 0) .nil)) (.cons (.app 1002 1 (.cons (.lit 0) .nil)) (.cons (.app 1002 2 (.cons (.lit 0) .nil)) .nil)))) (.app 1002 2 (.cons (.lit 0) .nil)))))))) := by kernel_rfl
theorem t_FnDyad_r14 : runFn (drawn XE2) t_FnDyad_k4 200 3 [.cv (.one (.opq 0))] = .ok (.cv (.one (.bool (.lit true)))) := by kernel_rfl
def t_FnDyad : Tree := (.node t_FnDyad_c0 (.leaf (.cv (.one (.bool (.lit true))))) (.node t_FnDyad_c1 (.node t_FnDyad_c2 (.node t_FnDyad_c3 (.node t_FnDyad_c4 (.node t_FnDyad_c5 (.leaf (.cv (.one (.bool (.and (.cmp .eq (.app 4 0 (.cons (.app 1002 0 (.cons (.lit 0) .nil)) (.cons (.app 1002 1 (.cons (.lit 0) .nil)) (.cons (.app 1002 2 (.cons (.lit 0) .nil)) .nil)))) (.app 1002 0 (.cons (.lit 0) .nil))) (.and (.cmp .eq (.app 4 1 (.cons (.app 1002 0 (.cons (.lit 0) .nil)) (.cons (.app 1002 1 (.cons (.lit 0) .nil)) (.cons (.app 1002 2 (.cons (.lit 0) .nil)) .nil)))) (.app 1002 1 (.cons (.lit 0) .nil))) (.cmp .eq (.app 4 2 (.cons (.app 1002 0 (.cons (.lit 0) .nil)) (.cons (.app 1002 1 (.cons (.lit 0) .nil)) (.cons (.app 1002 2 (.cons (.lit 0) .nil)) .nil)))) (.app 1002 2 (.cons (.lit 0) .nil))))))))) (.dead 7)) (.dead 7)) (.dead 7)) (.dead 47)) (.leaf (.cv (.one (.bool (.lit true)))))))
theorem t_FnDyad_runs : Runs (drawn XE2) 200 3 [.cv (.one (.opq 0))] t_FnDyad [] := ⟨t_FnDyad_r2, ⟨⟨⟨⟨⟨t_FnDyad_r13, trivial⟩, trivial⟩, trivial⟩, trivial⟩, t_FnDyad_r14⟩⟩
theorem fnDyad_walk (v : Value) (w : World) (hv : BytesOk w w.heap.size v) (hT : Tb w) : Calls Tryd.prog 3 #[v] w (Gives (.bool true) w) := by
  refine dlawRW (X := XE2) rfl (fun pv E h1 h2 => XE2_ok w hT E h1 h2) (fuel := 200) (L := 3) t_FnDyad_runs (fun pv p len cap hpv => ?_) v hv
  clear hv
  simp only [t_FnDyad, t_FnDyad_c0, t_FnDyad_c1, t_FnDyad_c2, t_FnDyad_c3, t_FnDyad_c4, t_FnDyad_c5, Tree.den, SVal.den, CV.den, At.den, SE.den, SB.den, SL.den, IOp.den, COp.den, envD, List.map_cons, List.map_nil, List.getD_cons_zero, List.getD_cons_succ, ↓reduceIte, show ∀ q, FI pv 1001 0 [q] = bxA pv q from fun _ => rfl, show ∀ q, FI pv 1001 1 [q] = bxB pv q from fun _ => rfl, show ∀ q, FI pv 1001 2 [q] = bxC pv q from fun _ => rfl, show ∀ q, FI pv 1001 3 [q] = bxD pv q from fun _ => rfl, show ∀ q, FI pv 1001 100 [q] = bxP pv q from fun _ => rfl, show ∀ q, FI pv 1002 0 [q] = dyR pv q from fun _ => rfl, show ∀ q, FI pv 1002 1 [q] = dyI pv q from fun _ => rfl, show ∀ q, FI pv 1002 2 [q] = dyS pv q from fun _ => rfl, show ∀ q, FI pv 1002 100 [q] = q + 4 from fun _ => rfl, show ∀ q n, FI pv 1000 0 [q, n] = pv q n from fun _ _ => rfl, show ∀ q, FI pv 1000 100 [q] = q + 1 from fun _ => rfl]
  generalize dyR pv 0 = r
  generalize dyI pv 0 = i
  generalize dyS pv 0 = s
  cases hd : DV r i s
  · have q1 : FB 3 0 [r, i, s] = false := hd
    rw [q1]; simp
  · obtain ⟨h1, h2, h3⟩ := dv_rngF hd
    obtain ⟨k1, k2, k3, k4⟩ := read_back hd
    obtain ⟨l1, l2, l3⟩ := l_norm r i s hd
    have hm : MK r i s = true := by
      unfold MK
      rw [l1, l2, l3, hd, (MKr_iff r i s).2 ⟨by omega, by omega, by omega, by omega, by omega, by omega⟩]; rfl
    have q1 : FB 3 0 [r, i, s] = true := hd
    have q2 : FB 4 0 [r, i, s] = true := hm
    have q3 : FB 124 0 [DWi r s, DWi i s] = true := by
      show (finw (DWi r s) && finw (DWi i s)) = true
      rw [dwi_fin (by omega) h3, dwi_fin (by omega) h3]; rfl
    have q4 : FB 123 0 [DWi r s, DWi i s] = true := k1
    have e0 : FI pv 123 0 [DWi r s, DWi i s] = r := by
      show (if DOk (DWi r s) (DWi i s) then lR (DOr (DWi r s) (DWi i s)) (DOi (DWi r s) (DWi i s)) (DOs (DWi r s) (DWi i s)) else 0) = r
      rw [if_pos k1, k2, k3, k4, l1]
    have e1 : FI pv 123 1 [DWi r s, DWi i s] = i := by
      show (if DOk (DWi r s) (DWi i s) then lI (DOr (DWi r s) (DWi i s)) (DOi (DWi r s) (DWi i s)) (DOs (DWi r s) (DWi i s)) else 0) = i
      rw [if_pos k1, k2, k3, k4, l2]
    have e2 : FI pv 123 2 [DWi r s, DWi i s] = s := by
      show (if DOk (DWi r s) (DWi i s) then lS (DOr (DWi r s) (DWi i s)) (DOi (DWi r s) (DWi i s)) (DOs (DWi r s) (DWi i s)) else 0) = s
      rw [if_pos k1, k2, k3, k4, l3]
    have a0 : FI pv 4 0 [r, i, s] = r := (show FI pv 4 0 [r, i, s] = lR r i s from if_pos hm).trans l1
    have a1 : FI pv 4 1 [r, i, s] = i := (show FI pv 4 1 [r, i, s] = lI r i s from if_pos hm).trans l2
    have a2 : FI pv 4 2 [r, i, s] = s := (show FI pv 4 2 [r, i, s] = lS r i s from if_pos hm).trans l3
    rw [f112a hd, f112b hd, q1, q2, q3, q4, e0, e1, e2, a0, a1, a2, beq_self_eq_true, beq_self_eq_true, beq_self_eq_true]
    simp
theorem fnDyad_laid (os : Os) : laidMet Tryd.prog Rows.fnDyadRow.laid ((laidWorld os).forCall (fun _ _ => 0) ⟨#[], #[.slice none 0 0], []⟩).memory := laidMet_of_run' 8 (by kernel_rfl) (by kernel_rfl)
theorem fnDyad_reads (os : Os) {H : Type} (enc : TypeId × Value → H) : ∃ places, DataW.whole enc Tryd.prog ((laidWorld os).forCall (fun _ _ => 0) ⟨#[], #[.slice none 0 0], []⟩).memory Tryd.f3.params.toList Rows.fnDyadSpec.vars false #[Value.slice none 0 0].toList 8 = some ([.nil], [], places) := ⟨[], by kernel_rfl⟩
set_option maxRecDepth 100000 in
theorem fnDyad_lifted (os : Os) (started : os.Started) (H : Type) (enc : TypeId × Value → H) (F : Stop.Interp) :
    ReturnsInHanded {} Tryd.checked os 3 .any ((OpenSpec.ofChange Rows.fnDyadSpec).preRow enc Tryd.prog Tryd.f3 Rows.fnDyadRow.domain false Rows.fnDyadRow.laid) (((OpenSpec.ofChange Rows.fnDyadSpec).at F).post enc Tryd.prog Tryd.f3 false true false false) := by
  obtain ⟨places, hx⟩ := fnDyad_reads os enc
  refine returnsInHanded_of_row (C := Tryd.checked) (s := OpenSpec.ofChange Rows.fnDyadSpec) Tryd.own started (by kernel_rfl) Tryd.func3
    (witness_row_at (enc := enc) (C := Tryd.checked) false (laidWorld os) #[.slice none 0 0] rfl (by kernel_rfl) (by kernel_rfl) (by kernel_rfl)
      (OpenSpec.preRow_of_cond 8 hx (by kernel_rfl) (fun k hk => by cases hk) (by kernel_rfl) (fnDyad_laid os))) ?_
  intro W base args ds gs before hval0 hW _ _ _ hL _ _
  have hT : Tb W := tb_of hL
  have hval : ∀ (j : Nat) t v, Tryd.f3.params[j]? = some t → args[j]? = some v → Value.okWide Tryd.prog W .any base t v := hval0
  have hW' := hW
  obtain ⟨p, q, hA0, hV, rfl, hfz, hnd⟩ := hW
  have hA : DataW.TrodAll enc Tryd.prog W 0 (fun _ => true) true Tryd.f3.params.toList args.toList ds p := hA0
  rw [Tryd.params3] at hA hval
  obtain ⟨v0, vs0, d0, ds0, p0, q0, hargs, rfl, rfl, h0, r0⟩ := trodAll_cons hA
  obtain ⟨rfl, rfl, rfl⟩ := trodAll_nil r0
  obtain rfl : args = #[v0] := by cases args; simp_all
  obtain ⟨rfl, rfl⟩ := trodVars_none hV
  have k0 := h0
  have lt0 : ∀ x ∈ p0, x.block < W.heap.size := by obtain ⟨m, hm⟩ := k0; exact DataW.trod_lt m _ _ _ hm
  obtain ⟨a0, len0, cap0, rfl⟩ := okWide_slice Tryd.underlying22 (hval 0 22 v0 rfl rfl)
  have hb0 : BytesOk W W.heap.size (.slice a0 len0 cap0) := by
    obtain ⟨fuel, hf⟩ := h0
    exact bytes_of_ints (open_ints Tryd.underlying22 Tryd.underlying5 (by kernel_rfl) hf)
  clear hA0 hval0
  refine (fnDyad_walk (.slice a0 len0 cap0) W hb0 hT).mono fun e W' ⟨he, bel⟩ => ?_
  subst he
  exact ⟨_, rfl, _, _, _, [], _, [], hW', trodAll_mk1 (shut_bool Tryd.underlying4 _), (trodAll_cons_mk (Below.trod Tryd.laidOut (by kernel_rfl) (of_decide_eq_true (by kernel_rfl)) k0 bel lt0) trodAll_mk0), rfl, bel.frame _, fun h => by cases h⟩

theorem fnDyad_holds : Rows.FnDyadSaid :=
  OpenClaim.holds_of_cond 3 Tryd.f3 rfl rfl rfl rfl rfl rfl rfl ⟨rfl, rfl, rfl, rfl, rfl⟩ rfl rfl rfl rfl rfl (by kernel_rfl) Tryd.func3 (by kernel_rfl)
    (of_decide_eq_true (by kernel_rfl)) (by unfold Func.isWrapper; first | (rw [if_pos (by decide +kernel)]; kernel_rfl) | (rw [if_neg (by decide +kernel)]; exact ⟨rfl, rfl⟩))
    (fun os started H enc _ F => by rw [OpenClaim.pre_eq_preRow]; exact fnDyad_lifted os started H enc F)
theorem fnDyad_plain (f : FuncId) (fn : Func) (hf : Tryd.pinned.checked.prog.funcNamed Rows.fnDyadRow.func = some f) (hfn : Tryd.pinned.checked.prog.funcs[f]? = some fn) :
    false = Tryd.pinned.checked.prog.looks [] ∧ ∀ (j : Nat) t, fn.params[j]? = some t → Tryd.pinned.checked.prog.wantsStandIn t = false := by
  obtain rfl : f = 3 := Option.some.inj ((show Tryd.prog.funcNamed Rows.fnDyadRow.func = some 3 by kernel_rfl).symm.trans hf) |>.symm
  obtain rfl : fn = Tryd.f3 := (Option.some.inj (Tryd.func3.symm.trans hfn)).symm
  refine ⟨by kernel_rfl, fun j t ht => ?_⟩
  rw [Tryd.params3] at ht
  have hm : t ∈ [22] := by simpa using Array.mem_of_getElem? ht
  have hall : ([22].all fun u => !Tryd.prog.wantsStandIn u) = true := by kernel_rfl
  exact (show Tryd.prog.wantsStandIn t = false by simpa using List.all_eq_true.1 hall t hm)
/-- The card. -/
theorem fnDyad_card : Rows.FnDyadCardSaid :=
  Claim7.holds_tied_plain_at .later [] _ _ _ _ fnDyad_holds (fun _ h => by cases h) (by kernel_rfl) (fun _ h => by cases h) fnDyad_row_tie rfl ⟨rfl, rfl⟩ (by kernel_rfl) rfl fnDyad_plain (by kernel_rfl)
end Go.Proofs.YtgnkjfafgcbpbaaDoor
