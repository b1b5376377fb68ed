/- Orbits of exact numbers: the contracts of the functions that give them. -/
import Derived.Test.YtjpmpjcenajmbaaDoorOr1
namespace Go.Proofs.YtjpmpjcenajmbaaDoor
set_option linter.unusedSimpArgs false
set_option linter.unusedVariables false
variable {pv : Int → Int → Int}
open Go.RowKit Eng
theorem f55_0 (a b c k : Int) : FI pv 55 0 [a, b, c, k] = (oz a b c k.toNat).1 := rfl
theorem f55_1 (a b c k : Int) : FI pv 55 1 [a, b, c, k] = (oz a b c k.toNat).2.1 := rfl
theorem f55_2 (a b c k : Int) : FI pv 55 2 [a, b, c, k] = (oz a b c k.toNat).2.2 := rfl
theorem f11_0 (a b c : Int) : FI pv 11 0 [a, b, c] = dq0 a b c := rfl
theorem f11_1 (a b c : Int) : FI pv 11 1 [a, b, c] = dq1 a b c := rfl
theorem f11_2 (a b c : Int) : FI pv 11 2 [a, b, c] = dq2 a b c := rfl
theorem f5_0 (a b c x y z : Int) : FI pv 5 0 [a, b, c, x, y, z] = da0 a b c x y z := rfl
theorem f5_1 (a b c x y z : Int) : FI pv 5 1 [a, b, c, x, y, z] = da1 a b c x y z := rfl
theorem f5_2 (a b c x y z : Int) : FI pv 5 2 [a, b, c, x, y, z] = da2 a b c x y z := rfl
theorem b11 (a b c : Int) : FB 11 0 [a, b, c] = SQ a b c := rfl
theorem b5 (a b c x y z : Int) : FB 5 0 [a, b, c, x, y, z] = ADD a b c x y z := rfl
theorem b3 (a b c : Int) : FB 3 0 [a, b, c] = DV a b c := rfl
theorem f54 (a b c n : Int) : FI pv 54 0 [a, b, c, n] = if OV a b c n then ((olen a b c n.toNat 0 : Nat) : Int) else 0 := rfl
theorem b54 (a b c n : Int) : FB 54 0 [a, b, c, n] = OV a b c n := rfl
theorem dq_dv (r i s : Int) : DV (dq0 r i s) (dq1 r i s) (dq2 r i s) = true := by
  unfold dq0 dq1 dq2
  cases h : SQ r i s
  · simp; decide
  · simp only [if_true]
    unfold SQ at h
    simp only [Bool.and_eq_true] at h
    have := h.2
    unfold MK at this
    simp only [Bool.and_eq_true] at this
    exact this.2
theorem da_dv (r i s x y t : Int) : DV (da0 r i s x y t) (da1 r i s x y t) (da2 r i s x y t) = true := by
  unfold da0 da1 da2
  cases h : ADD r i s x y t
  · simp; decide
  · simp only [if_true]
    unfold ADD at h
    simp only [Bool.and_eq_true] at h
    exact h.2
theorem oz_dv (a b c : Int) : ∀ k : Nat, DV (oz a b c k).1 (oz a b c k).2.1 (oz a b c k).2.2 = true
  | 0 => show DV 0 0 0 = true by decide
  | k + 1 => da_dv _ _ _ _ _ _
theorem iOrb_key (a b c : Int) : ∀ (j k : Nat), k + j ≤ 40 → ∃ y1 y2 y3, loopF (FI pv) FB bt_iOrb (j + 1) [((k + j : Nat) : Int), (k : Int), a, b, c, 0, 0, 0, (k : Int), ((k + j : Nat) : Int), ((k + j : Nat) : Int), (oz a b c k).1, (oz a b c k).2.1, (oz a b c k).2.2] =
    some (0, [((olen a b c j k : Nat) : Int), a, b, c, a, b, c, ((olen a b c j k : Nat) : Int), ((k + j : Nat) : Int), ((k + j : Nat) : Int), y1, y2, y3]) := by
  intro j
  induction j with
  | zero =>
    intro k hk
    refine ⟨(oz a b c k).1, (oz a b c k).2.1, (oz a b c k).2.2, ?_⟩
    unfold loopF
    simp only [bt_iOrb, BTree.den, SE.den, SB.den, SL.den, COp.den, IOp.den, envOf, List.map_cons, List.map_nil, List.getD_cons_zero, List.getD_cons_succ, ite_max]
    rw [decide_eq_false (by omega)]
    rfl
  | succ j ih =>
    intro k hk
    unfold loopF
    simp only [bt_iOrb, BTree.den, SE.den, SB.den, SL.den, COp.den, IOp.den, envOf, List.map_cons, List.map_nil, List.getD_cons_zero, List.getD_cons_succ, ite_max, f55_0, f55_1, f55_2, f11_0, f11_1, f11_2, f5_0, f5_1, f5_2, b11, b5, Int.toNat_natCast, beq_self_eq_true, cond_true]
    rw [decide_eq_true (p := max (k : Int) 0 < ((k + (j + 1) : Nat) : Int)) (by omega), decide_eq_true (p := (0 : Int) ≤ (k : Int)) (by omega), decide_eq_true (p := (k : Int) < ((k + (j + 1) : Nat) : Int)) (by omega)]
    have ho : olen a b c (j + 1) k = if ook a b c k then olen a b c j (k + 1) else k + 1 := rfl
    have hk1 : ((k : Int) + 1) = ((k + 1 : Nat) : Int) := by omega
    have hn : ((k + (j + 1) : Nat) : Int) = ((k + 1 + j : Nat) : Int) := by omega
    rw [ho, hk1, hn]
    cases g1 : SQ (oz a b c k).1 (oz a b c k).2.1 (oz a b c k).2.2
    · have : ook a b c k = false := by unfold ook; rw [g1]; rfl
      rw [this]
      exact ⟨_, _, _, rfl⟩
    · cases g2 : ADD (dq0 (oz a b c k).1 (oz a b c k).2.1 (oz a b c k).2.2) (dq1 (oz a b c k).1 (oz a b c k).2.1 (oz a b c k).2.2) (dq2 (oz a b c k).1 (oz a b c k).2.1 (oz a b c k).2.2) a b c
      · have : ook a b c k = false := by unfold ook; rw [g1, g2]; rfl
        rw [this]
        exact ⟨_, _, _, rfl⟩
      · have : ook a b c k = true := by unfold ook; rw [g1, g2]; rfl
        rw [this]
        exact ih (k + 1) (by omega)
theorem iOrb_due (a b c n : Int) : r_iOrb.due (envOf [a, b, c, n] (FI pv) FB) = ([FI pv 54 0 [a, b, c, n], FI pv 54 0 [a, b, c, n], a, b, c], [.bool (OV a b c n)]) := rfl
theorem rok_iOrb (w : World) : r_iOrb.ok Tryd.prog w (FI pv) FB := by
  refine ⟨enters_of Tryd.func12 rfl (by kernel_rfl), fun zs hz _ w' hb => ?_⟩
  obtain ⟨a, b, c, n, rfl⟩ := len4 hz
  have ha : (lettersFrom 0 r_iOrb.ins).map (SVal.den (envOf [a, b, c, n] (FI pv) FB) Pl.no) = inDen r_iOrb.ins [a, b, c, n] := rfl
  rw [← ha]
  cases h : DV a b c
  · refine exploreR_ok (fuel := 200) (XD1_ok w' _ rfl rfl) mixed 5 kn_iOrb0 (fun p hp => ?_) ?_
    · simp only [kn_iOrb0, List.mem_singleton] at hp; subst hp; exact h
    · have e : OV a b c n = false := by unfold OV; rw [h]; rfl
      rw [tr_iOrb0_eq, iOrb_due, f54, e]; rfl
  by_cases h1 : n < 0
  · refine exploreR_ok (fuel := 200) (XD1_ok w' _ rfl rfl) mixed 5 kn_iOrb1 (fun p hp => ?_) ?_
    · simp only [kn_iOrb1, List.mem_cons, List.not_mem_nil, or_false] at hp
      rcases hp with rfl | rfl
      · exact h
      · exact decide_eq_true h1
    · have e : OV a b c n = false := by unfold OV; rw [h, decide_eq_false (p := 0 ≤ n) (by omega)]; rfl
      rw [tr_iOrb1_eq, iOrb_due, f54, e]; rfl
  by_cases h2 : 40 < n
  · refine exploreR_ok (fuel := 200) (XD1_ok w' _ rfl rfl) mixed 5 kn_iOrb2 (fun p hp => ?_) ?_
    · simp only [kn_iOrb2, List.mem_cons, List.not_mem_nil, or_false] at hp
      rcases hp with rfl | rfl | rfl
      · exact h
      · exact decide_eq_false h1
      · exact decide_eq_true h2
    · have e : OV a b c n = false := by unfold OV; rw [h, decide_eq_false (p := n ≤ 40) (by omega)]; simp
      rw [tr_iOrb2_eq, iOrb_due, f54, e]; rfl
  · have e : OV a b c n = true := by unfold OV; rw [h, decide_eq_true (p := n ≤ 40) (by omega), decide_eq_true (p := 0 ≤ n) (by omega)]; rfl
    obtain ⟨N, rfl⟩ : ∃ N : Nat, n = (N : Int) := ⟨n.toNat, by omega⟩
    obtain ⟨y1, y2, y3, hl⟩ := iOrb_key (pv := pv) a b c N 0 (by omega)
    refine growAll_ok (fun E' h1 h2 => XD1_ok w' E' h1 h2) mixed grow_iOrb (fun p hp => ?_) (N := N + 1) (κ := 0) (ys := _) (by rw [Nat.zero_add] at hl; exact hl) rfl (Or.inl ?_)
    · simp only [kn_iOrb, List.mem_cons, List.not_mem_nil, or_false] at hp
      rcases hp with rfl | rfl | rfl | rfl
      · exact h
      · exact decide_eq_false h1
      · exact decide_eq_false h2
      · exact decide_eq_true (show (N : Int) ≤ 400000 by omega)
    · rw [iOrb_due, f54, e]; rfl
theorem sOrb_key (a b c : Int) (hd : DV a b c = true) : ∀ (j k : Nat) (lo : Int), k + j ≤ 40 → ∃ κ ys p, loopF (FI pv) FB bt_sOrb (j + 1) [((k + j : Nat) : Int), (k : Int), (k : Int), a, b, c, 0, 0, 0, (k : Int), lo, (oz a b c k).1, (oz a b c k).2.1, (oz a b c k).2.2] = some (κ, ys) ∧
    vs_sOrb[κ]? = some (some p) ∧ denL (envOf ys (FI pv) FB) p = ([((olen a b c j k : Nat) : Int), ((olen a b c j k : Nat) : Int), a, b, c], [.bool true]) := by
  intro j
  induction j with
  | zero =>
    intro k lo hk
    unfold loopF
    simp only [bt_sOrb, BTree.den, SE.den, SB.den, SL.den, COp.den, IOp.den, envOf, List.map_cons, List.map_nil, List.getD_cons_zero, List.getD_cons_succ]
    rw [decide_eq_false (by omega)]
    exact ⟨_, _, _, rfl, rfl, rfl⟩
  | succ j ih =>
    intro k lo hk
    unfold loopF
    simp only [bt_sOrb, BTree.den, SE.den, SB.den, SL.den, COp.den, IOp.den, envOf, List.map_cons, List.map_nil, List.getD_cons_zero, List.getD_cons_succ, f55_0, f55_1, f55_2, f11_0, f11_1, f11_2, f5_0, f5_1, f5_2, b11, b5, b3, oz_dv, dq_dv, hd, Bool.and_true, Int.toNat_natCast, beq_self_eq_true, cond_true]
    rw [decide_eq_true (p := (k : Int) < ((k + (j + 1) : Nat) : Int)) (by omega), decide_eq_true (p := (0 : Int) ≤ (k : Int)) (by omega), decide_eq_true (p := (k : Int) ≤ 400000) (by omega), wrap_in (x := (k : Int) + 1) (by omega) (by omega)]
    have ho : olen a b c (j + 1) k = if ook a b c k then olen a b c j (k + 1) else k + 1 := rfl
    have hk1 : ((k : Int) + 1) = ((k + 1 : Nat) : Int) := by omega
    have hn : ((k + (j + 1) : Nat) : Int) = ((k + 1 + j : Nat) : Int) := by omega
    rw [ho, hk1, hn]
    cases g1 : SQ (oz a b c k).1 (oz a b c k).2.1 (oz a b c k).2.2
    · have : ook a b c k = false := by unfold ook; rw [g1]; rfl
      rw [this]
      exact ⟨_, _, _, rfl, rfl, rfl⟩
    · cases g2 : ADD (dq0 (oz a b c k).1 (oz a b c k).2.1 (oz a b c k).2.2) (dq1 (oz a b c k).1 (oz a b c k).2.1 (oz a b c k).2.2) (dq2 (oz a b c k).1 (oz a b c k).2.1 (oz a b c k).2.2) a b c
      · have : ook a b c k = false := by unfold ook; rw [g1, g2]; rfl
        rw [this]
        exact ⟨_, _, _, rfl, rfl, rfl⟩
      · have : ook a b c k = true := by unfold ook; rw [g1, g2]; rfl
        rw [this]
        exact ih (k + 1) _ (by omega)
theorem sOrb_due (a b c n : Int) : r_sOrb.due (envOf [a, b, c, n] (FI pv) FB) = ([FI pv 54 0 [a, b, c, n], FI pv 54 0 [a, b, c, n], a, b, c], [.bool (OV a b c n)]) := rfl
theorem rok_sOrb (w : World) : r_sOrb.ok Tryd.prog w (FI pv) FB := by
  refine ⟨enters_of Tryd.func16 rfl (by kernel_rfl), fun zs hz _ w' hb => ?_⟩
  obtain ⟨a, b, c, n, rfl⟩ := len4 hz
  have ha : (lettersFrom 0 r_sOrb.ins).map (SVal.den (envOf [a, b, c, n] (FI pv) FB) Pl.no) = inDen r_sOrb.ins [a, b, c, n] := rfl
  rw [← ha]
  cases h : DV a b c
  · refine exploreR_ok (fuel := 200) (XD1_ok w' _ rfl rfl) mixed 5 kn_sOrb0 (fun p hp => ?_) ?_
    · simp only [kn_sOrb0, List.mem_singleton] at hp; subst hp; exact h
    · have e : OV a b c n = false := by unfold OV; rw [h]; rfl
      rw [tr_sOrb0_eq, sOrb_due, f54, e]; rfl
  by_cases h1 : n < 0
  · refine exploreR_ok (fuel := 200) (XD1_ok w' _ rfl rfl) mixed 5 kn_sOrb1 (fun p hp => ?_) ?_
    · simp only [kn_sOrb1, List.mem_cons, List.not_mem_nil, or_false] at hp
      rcases hp with rfl | rfl
      · exact h
      · exact decide_eq_false (show ¬ (0 : Int) ≤ n by omega)
    · have e : OV a b c n = false := by unfold OV; rw [h, decide_eq_false (p := 0 ≤ n) (by omega)]; rfl
      rw [tr_sOrb1_eq, sOrb_due, f54, e]; rfl
  by_cases h2 : 40 < n
  · refine exploreR_ok (fuel := 200) (XD1_ok w' _ rfl rfl) mixed 5 kn_sOrb2 (fun p hp => ?_) ?_
    · simp only [kn_sOrb2, List.mem_cons, List.not_mem_nil, or_false] at hp
      rcases hp with rfl | rfl | rfl
      · exact h
      · exact decide_eq_true (show (0 : Int) ≤ n by omega)
      · exact decide_eq_false (show ¬ n ≤ (40 : Int) by omega)
    · have e : OV a b c n = false := by unfold OV; rw [h, decide_eq_false (p := n ≤ 40) (by omega)]; simp
      rw [tr_sOrb2_eq, sOrb_due, f54, e]; rfl
  · have e : OV a b c n = true := by unfold OV; rw [h, decide_eq_true (p := n ≤ 40) (by omega), decide_eq_true (p := 0 ≤ n) (by omega)]; rfl
    obtain ⟨N, rfl⟩ : ∃ N : Nat, n = (N : Int) := ⟨n.toNat, by omega⟩
    obtain ⟨κ, ys, p, hl, hv, hd⟩ := sOrb_key (pv := pv) a b c h N 0 0 (by omega)
    refine growAll_ok (fun E' h1 h2 => XD1_ok w' E' h1 h2) mixed grow_sOrb (fun p hp => ?_) (N := N + 1) (κ := κ) (ys := ys) ?_ hv (Or.inl ?_)
    · simp only [kn_sOrb, List.mem_cons, List.not_mem_nil, or_false] at hp
      rcases hp with rfl | rfl | rfl
      · exact h
      · exact decide_eq_true (show (0 : Int) ≤ (N : Int) by omega)
      · exact decide_eq_true (show (N : Int) ≤ 40 by omega)
    · rw [Nat.zero_add] at hl
      exact hl
    · rw [sOrb_due, hd, f54, e]; rfl
end Go.Proofs.YtjpmpjcenajmbaaDoor
