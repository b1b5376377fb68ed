/- The law FnDyadOrbit: exact orbits go by exact steps: its walk and row. -/
import Derived.Test.YtmfpeknhangmoaaOr9
import Derived.Test.YtmfpeknhangmoaaRowB
namespace Go.Proofs.Ytmfpeknhangmoaa
set_option linter.unusedSimpArgs false
set_option linter.unusedVariables false
variable {pv : Int → Int → Int}
open Go.ChangeShapes Go.WideShapes Go.ChangeAt Go.RowKit Go.Joins Eng
theorem olen_mono (a b c : Int) : ∀ n k : Nat, olen a b c n k ≤ olen a b c (n + 1) k
  | 0, k => by
    show k ≤ olen a b c 1 k
    unfold olen
    split
    · show k ≤ k + 1; omega
    · omega
  | n + 1, k => by
    rw [show olen a b c (n + 1) k = if ook a b c k then olen a b c n (k + 1) else k + 1 from rfl, show olen a b c (n + 1 + 1) k = if ook a b c k then olen a b c (n + 1) (k + 1) else k + 1 from rfl]
    split
    · exact olen_mono a b c n (k + 1)
    · omega
theorem olen_le' (a b c : Int) : ∀ n k : Nat, olen a b c n k ≤ n + k
  | 0, k => by simp [olen]
  | n + 1, k => by
    unfold olen
    split
    · have := olen_le' a b c n (k + 1); omega
    · omega
theorem orb_blk (a b d n : Int) (hn : -1000 ≤ n ∧ n ≤ 1000) : (bif decide (FI pv 54 0 [a, b, d, n] ≤ 400000) then
      bif FB 54 0 [a, b, d, n] then
        bif decide (max (FI pv 54 0 [a, b, d, n]) 0 ≤ n) then
          bif FB 54 0 [a, b, d, IntKind.i64.wrap (n - 1)] then
            bif decide (max (FI pv 54 0 [a, b, d, IntKind.i64.wrap (n - 1)]) 0 ≤ max (FI pv 54 0 [a, b, d, n]) 0) then
              bif decide (0 ≤ max (FI pv 54 0 [a, b, d, IntKind.i64.wrap (n - 1)]) 0) then
                bif max (FI pv 54 0 [a, b, d, IntKind.i64.wrap (n - 1)]) 0 == max (max (FI pv 54 0 [a, b, d, IntKind.i64.wrap (n - 1)]) 0) 0 then
                  bif FI pv 54 0 [a, b, d, IntKind.i64.wrap (n - 1)] == max (FI pv 54 0 [a, b, d, IntKind.i64.wrap (n - 1)]) 0 &&
                      (decide (max (FI pv 54 0 [a, b, d, IntKind.i64.wrap (n - 1)]) 0 ≤ max (FI pv 54 0 [a, b, d, n]) 0) && decide (FI pv 54 0 [a, b, d, IntKind.i64.wrap (n - 1)] ≤ 400000)) then
                    some (Value.bool true)
                  else none
                else none
              else none
            else none
          else some (Value.bool true)
        else none
      else some (Value.bool true)
    else none) = some (Value.bool true) := by
  rw [wrap_in (x := n - 1) (by omega) (by omega), f54, f54, b54, b54]
  have key : ∀ m : Int, 0 ≤ (if OV a b d m then ((olen a b d m.toNat 0 : Nat) : Int) else 0) ∧ (OV a b d m = true → 0 ≤ m ∧ m ≤ 40 ∧ (if OV a b d m then ((olen a b d m.toNat 0 : Nat) : Int) else 0) = (olen a b d m.toNat 0 : Nat) ∧ olen a b d m.toNat 0 ≤ m.toNat) := fun m => by
    refine ⟨by split <;> omega, fun h => ?_⟩
    have h' := h
    unfold OV at h'
    simp only [Bool.and_eq_true, decide_eq_true_eq] at h'
    have := olen_le' a b d m.toNat 0
    exact ⟨h'.2.1, h'.2.2, if_pos h, by omega⟩
  obtain ⟨p1, p2⟩ := key n
  obtain ⟨q1, q2⟩ := key (n - 1)
  generalize hL : (if OV a b d n then ((olen a b d n.toNat 0 : Nat) : Int) else 0) = L at *
  generalize hM : (if OV a b d (n - 1) then ((olen a b d (n - 1).toNat 0 : Nat) : Int) else 0) = M at *
  cases h1 : OV a b d n
  · rw [h1] at hL
    have : L = 0 := by rw [← hL]; rfl
    rw [this]; rfl
  obtain ⟨a1, a2, a3, a4⟩ := p2 h1
  rw [decide_eq_true (p := L ≤ 400000) (by omega), decide_eq_true (p := max L 0 ≤ n) (by omega)]
  cases h2 : OV a b d (n - 1)
  · rfl
  obtain ⟨c1, c2, c3, c4⟩ := q2 h2
  have hm := olen_mono a b d (n - 1).toNat 0
  rw [show (n - 1).toNat + 1 = n.toNat by omega] at hm
  rw [decide_eq_true (p := max M 0 ≤ max L 0) (by omega), decide_eq_true (p := (0 : Int) ≤ max M 0) (by omega), decide_eq_true (p := M ≤ 400000) (by omega), show (max M 0 == max (max M 0) 0) = true from beq_iff_eq.2 (by omega), show (M == max M 0) = true from beq_iff_eq.2 (by omega)]
  rfl
theorem fnDyadOrbit_walk (v : Value) (w : World) (hv : BytesOk w w.heap.size v) : Calls Try.prog 8 #[v] w (Gives (.bool true) w) := by
  refine dlawR (X := XR3) rfl (fun pv w E h1 h2 => XR3_ok w E h1 h2) (fuel := 300) (L := 8) t_FnDyadOrbit_runs (fun pv p len cap hpv => ?_) v w hv
  clear hv
  simp only [t_FnDyadOrbit, t_FnDyadOrbit_c0, t_FnDyadOrbit_c1, t_FnDyadOrbit_c2, t_FnDyadOrbit_c3, t_FnDyadOrbit_c4, t_FnDyadOrbit_c5, t_FnDyadOrbit_c6, t_FnDyadOrbit_c7, t_FnDyadOrbit_c8, t_FnDyadOrbit_c9, t_FnDyadOrbit_c10, t_FnDyadOrbit_c11, t_FnDyadOrbit_c12, t_FnDyadOrbit_c13, t_FnDyadOrbit_c14, t_FnDyadOrbit_c15, t_FnDyadOrbit_c16, t_FnDyadOrbit_c17, t_FnDyadOrbit_c18, t_FnDyadOrbit_c19, t_FnDyadOrbit_c20, t_FnDyadOrbit_c21, t_FnDyadOrbit_c22, t_FnDyadOrbit_c23, t_FnDyadOrbit_c24, t_FnDyadOrbit_c25, t_FnDyadOrbit_c26, t_FnDyadOrbit_c27, t_FnDyadOrbit_c28, t_FnDyadOrbit_c29, t_FnDyadOrbit_c30, t_FnDyadOrbit_c31, t_FnDyadOrbit_c32, t_FnDyadOrbit_c33, t_FnDyadOrbit_c34, t_FnDyadOrbit_c35, t_FnDyadOrbit_c36, t_FnDyadOrbit_c37, t_FnDyadOrbit_c38, t_FnDyadOrbit_c39, t_FnDyadOrbit_c40, t_FnDyadOrbit_c41, t_FnDyadOrbit_c42, t_FnDyadOrbit_c43, t_FnDyadOrbit_c44, t_FnDyadOrbit_c45, t_FnDyadOrbit_c46, t_FnDyadOrbit_c47, t_FnDyadOrbit_c48, t_FnDyadOrbit_c49, t_FnDyadOrbit_c50, t_FnDyadOrbit_c51, t_FnDyadOrbit_c52, t_FnDyadOrbit_c53, t_FnDyadOrbit_c54, t_FnDyadOrbit_c55, t_FnDyadOrbit_c56, t_FnDyadOrbit_c57, t_FnDyadOrbit_c58, t_FnDyadOrbit_c59, t_FnDyadOrbit_c60, t_FnDyadOrbit_c61, t_FnDyadOrbit_c62, t_FnDyadOrbit_c63, Tree.den, SVal.den, CV.den, At.den, SE.den, SB.den, SL.den, IOp.den, COp.den, envD, List.map_cons, List.map_nil, List.getD_cons_zero, List.getD_cons_succ, ↓reduceIte, show ∀ q, FI pv 1001 0 [q] = bxA pv q from fun _ => rfl, show ∀ q, FI pv 1001 1 [q] = bxB pv q from fun _ => rfl, show ∀ q, FI pv 1001 2 [q] = bxC pv q from fun _ => rfl, show ∀ q, FI pv 1001 3 [q] = bxD pv q from fun _ => rfl, show ∀ q, FI pv 1001 100 [q] = bxP pv q from fun _ => rfl, show ∀ q, FI pv 1002 0 [q] = dyR pv q from fun _ => rfl, show ∀ q, FI pv 1002 1 [q] = dyI pv q from fun _ => rfl, show ∀ q, FI pv 1002 2 [q] = dyS pv q from fun _ => rfl, show ∀ q, FI pv 1002 100 [q] = q + 4 from fun _ => rfl, show ∀ q n, FI pv 1000 0 [q, n] = pv q n from fun _ _ => rfl, show ∀ q, FI pv 1000 100 [q] = q + 1 from fun _ => rfl]
  simp only [ite_max]
  have hn : ∃ n, IntKind.i64.wrap (IntKind.i64.wrap (pv ((0 : Int) + 4 + 1 + 1) 12 - IntKind.i64.wrap (IntKind.i64.wrap ((pv ((0 : Int) + 4 + 1 + 1 + 1) 20).tdiv 19) * 13)) + IntKind.i64.wrap (IntKind.i64.wrap ((pv ((0 : Int) + 4 + 1 + 1 + 1 + 1) 20).tdiv 19) * 29)) = n := ⟨_, rfl⟩
  obtain ⟨n, hn⟩ := hn
  simp only [hn]
  have hn2 : ∃ n, IntKind.i64.wrap (IntKind.i64.wrap (pv ((0 : Int) + 4 + 1) 12 - IntKind.i64.wrap (IntKind.i64.wrap ((pv ((0 : Int) + 4 + 1 + 1) 20).tdiv 19) * 13)) + IntKind.i64.wrap (IntKind.i64.wrap ((pv ((0 : Int) + 4 + 1 + 1 + 1) 20).tdiv 19) * 29)) = n := ⟨_, rfl⟩
  obtain ⟨n2, hn2⟩ := hn2
  simp only [hn2]
  have bd : ∀ (x y z m : Int), 0 ≤ x → x < 12 → 0 ≤ y → y < 20 → 0 ≤ z → z < 20 → IntKind.i64.wrap (IntKind.i64.wrap (x - IntKind.i64.wrap (IntKind.i64.wrap (y.tdiv 19) * 13)) + IntKind.i64.wrap (IntKind.i64.wrap (z.tdiv 19) * 29)) = m → -1000 ≤ m ∧ m ≤ 1000 := fun x y z m hx hx' hy hy' hz hz' he => by
    have e1 : y.tdiv 19 = y / 19 := Int.tdiv_eq_ediv_of_nonneg hy
    have e2 : z.tdiv 19 = z / 19 := Int.tdiv_eq_ediv_of_nonneg hz
    rw [e1, e2, wrap_in (x := y / 19) (by omega) (by omega), wrap_in (x := z / 19) (by omega) (by omega), wrap_in (x := y / 19 * 13) (by omega) (by omega), wrap_in (x := z / 19 * 29) (by omega) (by omega), wrap_in (x := x - y / 19 * 13) (by omega) (by omega), wrap_in (by omega) (by omega)] at he
    omega
  have r1 := bd _ _ _ _ (hpv _ 12 (by decide) (by decide) (by decide)).1 (hpv _ 12 (by decide) (by decide) (by decide)).2 (hpv _ 20 (by decide) (by decide) (by decide)).1 (hpv _ 20 (by decide) (by decide) (by decide)).2 (hpv _ 20 (by decide) (by decide) (by decide)).1 (hpv _ 20 (by decide) (by decide) (by decide)).2 hn
  have r2 := bd _ _ _ _ (hpv _ 12 (by decide) (by decide) (by decide)).1 (hpv _ 12 (by decide) (by decide) (by decide)).2 (hpv _ 20 (by decide) (by decide) (by decide)).1 (hpv _ 20 (by decide) (by decide) (by decide)).2 (hpv _ 20 (by decide) (by decide) (by decide)).1 (hpv _ 20 (by decide) (by decide) (by decide)).2 hn2
  simp only [orb_blk _ _ _ _ r1, orb_blk _ _ _ _ r2]
  have h6 := hpv ((0 : Int) + 4 + 1) 6 (by decide) (by decide) (by decide)
  generalize pv ((0 : Int) + 4 + 1) 6 = x at h6 ⊢
  have : x = 0 ∨ x = 1 ∨ x = 2 ∨ x = 3 ∨ x = 4 ∨ x = 5 := by omega
  cases decide (1048576 < (len : Int))
  · cases (pv ((0 : Int) + 4) 3 == 0)
    · rfl
    · rcases this with rfl | rfl | rfl | rfl | rfl | rfl <;> rfl
  · rfl
set_option maxRecDepth 100000 in
theorem fnDyadOrbit_lifted (os : Os) (started : os.Started) (H : Type) (enc : TypeId × Value → H) :
    ReturnsInHanded {} Try.checked os 8 .any (Rows.fnDyadOrbitSpec.pre6 enc Try.prog Try.f8 Rows.fnDyadOrbitRow.domain false) (Rows.fnDyadOrbitSpec.post enc Try.prog Try.f8 false true false false) := by
  refine returnsInHanded_of_change (C := Try.checked) Try.own started (by kernel_rfl) Try.func8
    (ChangeSpec.witness6 (enc := enc) (C := Try.checked) false ⟨#[], #[.slice none 0 0], []⟩ 8 (by kernel_rfl) (by kernel_rfl) (by kernel_rfl) (by kernel_rfl)) ?_
  intro W base args ds gs before hval0 hW hcnd _
  have hval : ∀ (j : Nat) t v, Try.f8.params[j]? = some t → args[j]? = some v → Value.okWide Try.prog W .any base t v := hval0
  have hW' := hW
  obtain ⟨p, q, hA0, hV, rfl, hfz, hnd⟩ := hW
  have hA : DataW.TrodAll enc Try.prog W 0 (fun _ => true) true Try.f8.params.toList args.toList ds p := hA0
  rw [Try.params8] at hA hval
  obtain ⟨v0, vs0, d0, ds0, p0, q0, hargs, rfl, rfl, h0, r0⟩ := trodAll_cons hA
  obtain ⟨rfl, rfl, rfl⟩ := trodAll_nil r0
  obtain rfl : args = #[v0] := by cases args; simp_all
  obtain ⟨rfl, rfl⟩ := trodVars_none hV
  have k0 := h0
  have lt0 : ∀ x ∈ p0, x.block < W.heap.size := by obtain ⟨m, hm⟩ := k0; exact DataW.trod_lt m _ _ _ hm
  obtain ⟨a0, len0, cap0, rfl⟩ := okWide_slice Try.underlying34 (hval 0 34 v0 rfl rfl)
  have hb0 : BytesOk W W.heap.size (.slice a0 len0 cap0) := by
    obtain ⟨fuel, hf⟩ := h0
    exact bytes_of_ints (open_ints Try.underlying34 Try.underlying5 (by kernel_rfl) hf)
  clear hA0 hval0
  refine (fnDyadOrbit_walk (.slice a0 len0 cap0) W hb0).mono fun e W' ⟨he, bel⟩ => ?_
  subst he
  exact ⟨_, rfl, _, _, _, [], _, [], hW', trodAll_mk1 (shut_bool Try.underlying4 _), (trodAll_cons_mk (Below.trod Try.laidOut (by kernel_rfl) (of_decide_eq_true (by kernel_rfl)) k0 bel lt0) trodAll_mk0), rfl, bel.frame _, fun h => by cases h⟩

theorem fnDyadOrbit_holds : Rows.FnDyadOrbitSaid :=
  OpenClaim.holds_of_wide 8 Try.f8 rfl rfl rfl rfl rfl rfl rfl ⟨rfl, rfl, rfl, rfl, rfl⟩ rfl rfl rfl rfl rfl (by kernel_rfl) Try.func8 (by kernel_rfl)
    (of_decide_eq_true (by kernel_rfl)) (by unfold Func.isWrapper; first | (rw [if_pos (by decide +kernel)]; kernel_rfl) | (rw [if_neg (by decide +kernel)]; exact ⟨rfl, rfl⟩))
    (fun os started H enc _ => fnDyadOrbit_lifted os started H enc)
end Go.Proofs.Ytmfpeknhangmoaa
