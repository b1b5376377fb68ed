/- Orbits of boxes: the contracts of the functions that give them. -/
import Derived.Test.YthggppjdapmgdaaBo8
namespace Go.Proofs.Ythggppjdapmgdaa
set_option linter.unusedSimpArgs false
set_option linter.unusedVariables false
variable {pv : Int → Int → Int}
open Go.RowKit Eng
theorem len5b {zs : List Int} (h : zs.length = 5) : ∃ a b c d e, zs = [a, b, c, d, e] := by
  match zs, h with
  | [a, b, c, d, e], _ => exact ⟨a, b, c, d, e, rfl⟩
theorem f57_0 (a b c d k : Int) : FI pv 57 0 [a, b, c, d, k] = (bz a b c d k.toNat).1 := rfl
theorem f57_1 (a b c d k : Int) : FI pv 57 1 [a, b, c, d, k] = (bz a b c d k.toNat).2.1 := rfl
theorem f57_2 (a b c d k : Int) : FI pv 57 2 [a, b, c, d, k] = (bz a b c d k.toNat).2.2.1 := rfl
theorem f57_3 (a b c d k : Int) : FI pv 57 3 [a, b, c, d, k] = (bz a b c d k.toNat).2.2.2 := rfl
theorem f6_0 (a b c d : Int) : FI pv 6 0 [a, b, c, d] = qq0 a b c d := rfl
theorem f6_1 (a b c d : Int) : FI pv 6 1 [a, b, c, d] = qq1 a b c d := rfl
theorem f6_2 (a b c d : Int) : FI pv 6 2 [a, b, c, d] = qq2 a b c d := rfl
theorem f6_3 (a b c d : Int) : FI pv 6 3 [a, b, c, d] = qq3 a b c d := rfl
theorem f7_0 (a b c d x y z u : Int) : FI pv 7 0 [a, b, c, d, x, y, z, u] = aa0 a b c d x y z u := rfl
theorem f7_1 (a b c d x y z u : Int) : FI pv 7 1 [a, b, c, d, x, y, z, u] = aa1 a b c d x y z u := rfl
theorem f7_2 (a b c d x y z u : Int) : FI pv 7 2 [a, b, c, d, x, y, z, u] = aa2 a b c d x y z u := rfl
theorem f7_3 (a b c d x y z u : Int) : FI pv 7 3 [a, b, c, d, x, y, z, u] = aa3 a b c d x y z u := rfl
theorem b6 (a b c d : Int) : FB 6 0 [a, b, c, d] = SQB a b c d := rfl
theorem b7 (a b c d x y z u : Int) : FB 7 0 [a, b, c, d, x, y, z, u] = ADB a b c d x y z u := rfl
theorem f56 (a b c d n : Int) : FI pv 56 0 [a, b, c, d, n] = if BO a b c d n then ((blen a b c d n.toNat 0 : Nat) : Int) else 0 := rfl
theorem b56 (a b c d n : Int) : FB 56 0 [a, b, c, d, n] = BO a b c d n := rfl
theorem blen_succ (a b c d : Int) (j k : Nat) : blen a b c d (j + 1) k = if bok a b c d k then blen a b c d j (k + 1) else k + 1 := rfl
theorem bok_eq (a b c d : Int) (k : Nat) : bok a b c d k = (SQB (bz a b c d k).1 (bz a b c d k).2.1 (bz a b c d k).2.2.1 (bz a b c d k).2.2.2 && ADB (qq0 (bz a b c d k).1 (bz a b c d k).2.1 (bz a b c d k).2.2.1 (bz a b c d k).2.2.2) (qq1 (bz a b c d k).1 (bz a b c d k).2.1 (bz a b c d k).2.2.1 (bz a b c d k).2.2.2) (qq2 (bz a b c d k).1 (bz a b c d k).2.1 (bz a b c d k).2.2.1 (bz a b c d k).2.2.2) (qq3 (bz a b c d k).1 (bz a b c d k).2.1 (bz a b c d k).2.2.1 (bz a b c d k).2.2.2) a b c d) := rfl
theorem sBOrb_key (a b c d : Int) : ∀ (j k : Nat) (lo : Int), k + j ≤ 400 → ∃ κ ys p, loopF (FI pv) FB bt_sBOrb (j + 1) [((k + j : Nat) : Int), (k : Int), (k : Int), a, b, c, d, 0, 0, 0, 0, (k : Int), lo, (bz a b c d k).1, (bz a b c d k).2.1, (bz a b c d k).2.2.1, (bz a b c d k).2.2.2] = some (κ, ys) ∧
    vs_sBOrb[κ]? = some (some p) ∧ denL (envOf ys (FI pv) FB) p = ([((blen a b c d j k : Nat) : Int), ((blen a b c d j k : Nat) : Int), a, b, c, d], [.bool true]) := by
  intro j
  induction j with
  | zero =>
    intro k lo hk
    unfold loopF
    simp only [bt_sBOrb, BTree.den, SE.den, SB.den, SL.den, COp.den, IOp.den, envOf, List.map_cons, List.map_nil, List.getD_cons_zero, List.getD_cons_succ]
    rw [decide_eq_false (p := (k : Int) < ((k + 0 : Nat) : Int)) (by omega)]
    exact ⟨_, _, _, rfl, rfl, rfl⟩
  | succ j ih =>
    intro k lo hk
    have hk1 : ((k : Int) + 1) = ((k + 1 : Nat) : Int) := by omega
    have hn : ((k + (j + 1) : Nat) : Int) = ((k + 1 + j : Nat) : Int) := by omega
    unfold loopF
    simp only [bt_sBOrb, BTree.den, SE.den, SB.den, SL.den, COp.den, IOp.den, envOf, List.map_cons, List.map_nil, List.getD_cons_zero, List.getD_cons_succ, f57_0, f57_1, f57_2, f57_3, f6_0, f6_1, f6_2, f6_3, f7_0, f7_1, f7_2, f7_3, b6, b7, Int.toNat_natCast, beq_self_eq_true, cond_true]
    rw [decide_eq_true (p := (k : Int) < ((k + (j + 1) : Nat) : Int)) (by omega), decide_eq_true (p := (0 : Int) ≤ (k : Int)) (by omega), decide_eq_true (p := (k : Int) ≤ 400000) (by omega), wrap_in (x := (k : Int) + 1) (by omega) (by omega)]
    rw [blen_succ, bok_eq, hk1, hn]
    cases g1 : SQB (bz a b c d k).1 (bz a b c d k).2.1 (bz a b c d k).2.2.1 (bz a b c d k).2.2.2
    · exact ⟨_, _, _, rfl, rfl, rfl⟩
    · cases g2 : ADB (qq0 (bz a b c d k).1 (bz a b c d k).2.1 (bz a b c d k).2.2.1 (bz a b c d k).2.2.2) (qq1 (bz a b c d k).1 (bz a b c d k).2.1 (bz a b c d k).2.2.1 (bz a b c d k).2.2.2) (qq2 (bz a b c d k).1 (bz a b c d k).2.1 (bz a b c d k).2.2.1 (bz a b c d k).2.2.2) (qq3 (bz a b c d k).1 (bz a b c d k).2.1 (bz a b c d k).2.2.1 (bz a b c d k).2.2.2) a b c d
      · exact ⟨_, _, _, rfl, rfl, rfl⟩
      · exact ih (k + 1) _ (by omega)
theorem sBOrb_due (a b c d n : Int) : r_sBOrb.due (envOf [a, b, c, d, n] (FI pv) FB) = ([FI pv 56 0 [a, b, c, d, n], FI pv 56 0 [a, b, c, d, n], a, b, c, d], [.bool (BO a b c d n)]) := rfl
theorem rok_sBOrb (w : World) : r_sBOrb.ok Try.prog w (FI pv) FB := by
  refine ⟨enters_of Try.func30 rfl (by kernel_rfl), fun zs hz _ w' hb => ?_⟩
  obtain ⟨a, b, c, d, n, rfl⟩ := len5b hz
  have ha : (lettersFrom 0 r_sBOrb.ins).map (SVal.den (envOf [a, b, c, d, n] (FI pv) FB) Pl.no) = inDen r_sBOrb.ins [a, b, c, d, n] := rfl
  rw [← ha]
  cases h : BV a b c d
  · refine exploreR_ok (fuel := 200) (XE_ok w' _ rfl rfl) mixed 5 kn_sBOrb0 (fun p hp => ?_) ?_
    · simp only [kn_sBOrb0, List.mem_singleton] at hp; subst hp; exact h
    · have e : BO a b c d n = false := by unfold BO; rw [h]; rfl
      rw [tr_sBOrb0_eq, sBOrb_due, f56, e]; rfl
  by_cases h1 : 0 ≤ n ∧ n ≤ 400
  · have e : BO a b c d n = true := by unfold BO; rw [h, decide_eq_true h1.1, decide_eq_true h1.2]; rfl
    obtain ⟨N, rfl⟩ : ∃ N : Nat, n = (N : Int) := ⟨n.toNat, by omega⟩
    obtain ⟨κ, ys, p, hl, hv, hd⟩ := sBOrb_key (pv := pv) a b c d N 0 0 (by omega)
    refine growAll_ok (fun E' h1 h2 => XE_ok w' E' h1 h2) mixed grow_sBOrb (fun p hp => ?_) (N := N + 1) (κ := κ) (ys := ys) ?_ hv (Or.inl ?_)
    · simp only [kn_sBOrb, List.mem_cons, List.not_mem_nil, or_false] at hp
      rcases hp with rfl | rfl
      · exact h
      · show (decide ((0 : Int) ≤ (N : Int)) && decide ((N : Int) ≤ 400)) = true
        rw [decide_eq_true h1.1, decide_eq_true h1.2]; rfl
    · rw [Nat.zero_add] at hl
      exact hl
    · rw [sBOrb_due, hd, f56, e]; rfl
  · have hq : (decide ((0 : Int) ≤ n) && decide (n ≤ 400)) = false := by
      by_cases g : 0 ≤ n
      · rw [decide_eq_false (p := n ≤ 400) (by omega)]; simp
      · rw [decide_eq_false g]; rfl
    refine exploreR_ok (fuel := 200) (XE_ok w' _ rfl rfl) mixed 5 kn_sBOrb1 (fun p hp => ?_) ?_
    · simp only [kn_sBOrb1, List.mem_cons, List.not_mem_nil, or_false] at hp
      rcases hp with rfl | rfl
      · exact h
      · exact hq
    · have e : BO a b c d n = false := by unfold BO; rw [h, hq]; rfl
      rw [tr_sBOrb1_eq, sBOrb_due, f56, e]; rfl
theorem iBOrb_key (a b c d : Int) : ∀ (j k : Nat), k + j ≤ 400 → ∃ κ ys p, loopF (FI pv) FB bt_iBOrb (j + 1) [(k : Int), a, b, c, d, ((k + j : Nat) : Int), 0, 0, 0, 0, (k : Int), ((k + j : Nat) : Int), ((k + j : Nat) : Int), (k : Int), a, b, c, d, (bz a b c d k).1, (bz a b c d k).2.1, (bz a b c d k).2.2.1, (bz a b c d k).2.2.2] = some (κ, ys) ∧
    vs_iBOrb[κ]? = some (some p) ∧ denL (envOf ys (FI pv) FB) p = ([((blen a b c d j k : Nat) : Int), ((blen a b c d j k : Nat) : Int), a, b, c, d], [.bool true]) := by
  intro j
  induction j with
  | zero =>
    intro k hk
    unfold loopF
    simp only [bt_iBOrb, BTree.den, SE.den, SB.den, SL.den, COp.den, IOp.den, envOf, List.map_cons, List.map_nil, List.getD_cons_zero, List.getD_cons_succ]
    rw [show (((k : Int)) == ((k + 0 : Nat) : Int)) = true from beq_iff_eq.2 (by omega)]
    exact ⟨_, _, _, rfl, rfl, rfl⟩
  | succ j ih =>
    intro k hk
    have hk1 : ((k : Int) + 1) = ((k + 1 : Nat) : Int) := by omega
    have hn : ((k + (j + 1) : Nat) : Int) = ((k + 1 + j : Nat) : Int) := by omega
    unfold loopF
    simp only [bt_iBOrb, BTree.den, SE.den, SB.den, SL.den, COp.den, IOp.den, envOf, List.map_cons, List.map_nil, List.getD_cons_zero, List.getD_cons_succ, f57_0, f57_1, f57_2, f57_3, f6_0, f6_1, f6_2, f6_3, f7_0, f7_1, f7_2, f7_3, b6, b7, Int.toNat_natCast, beq_self_eq_true, cond_true]
    rw [show (((k : Int)) == ((k + (j + 1) : Nat) : Int)) = false from beq_eq_false_iff_ne.2 (by omega), decide_eq_true (p := (k : Int) < ((k + (j + 1) : Nat) : Int)) (by omega), decide_eq_true (p := (0 : Int) ≤ (k : Int)) (by omega), wrap_in (x := (k : Int) + 1) (by omega) (by omega)]
    rw [blen_succ, bok_eq, hk1, hn]
    cases g1 : SQB (bz a b c d k).1 (bz a b c d k).2.1 (bz a b c d k).2.2.1 (bz a b c d k).2.2.2
    · exact ⟨_, _, _, rfl, rfl, rfl⟩
    · cases g2 : ADB (qq0 (bz a b c d k).1 (bz a b c d k).2.1 (bz a b c d k).2.2.1 (bz a b c d k).2.2.2) (qq1 (bz a b c d k).1 (bz a b c d k).2.1 (bz a b c d k).2.2.1 (bz a b c d k).2.2.2) (qq2 (bz a b c d k).1 (bz a b c d k).2.1 (bz a b c d k).2.2.1 (bz a b c d k).2.2.2) (qq3 (bz a b c d k).1 (bz a b c d k).2.1 (bz a b c d k).2.2.1 (bz a b c d k).2.2.2) a b c d
      · exact ⟨_, _, _, rfl, rfl, rfl⟩
      · exact ih (k + 1) (by omega)
theorem iBOrb_due (a b c d n : Int) : r_iBOrb.due (envOf [a, b, c, d, n] (FI pv) FB) = ([FI pv 56 0 [a, b, c, d, n], FI pv 56 0 [a, b, c, d, n], a, b, c, d], [.bool (BO a b c d n)]) := rfl
theorem rok_iBOrb (w : World) : r_iBOrb.ok Try.prog w (FI pv) FB := by
  refine ⟨enters_of Try.func31 rfl (by kernel_rfl), fun zs hz _ w' hb => ?_⟩
  obtain ⟨a, b, c, d, n, rfl⟩ := len5b hz
  have ha : (lettersFrom 0 r_iBOrb.ins).map (SVal.den (envOf [a, b, c, d, n] (FI pv) FB) Pl.no) = inDen r_iBOrb.ins [a, b, c, d, n] := rfl
  rw [← ha]
  cases h : BV a b c d
  · refine exploreR_ok (fuel := 200) (XE_ok w' _ rfl rfl) mixed 5 kn_iBOrb0 (fun p hp => ?_) ?_
    · simp only [kn_iBOrb0, List.mem_singleton] at hp; subst hp; exact h
    · have e : BO a b c d n = false := by unfold BO; rw [h]; rfl
      rw [tr_iBOrb0_eq, iBOrb_due, f56, e]; rfl
  by_cases h1 : n < 0
  · refine exploreR_ok (fuel := 200) (XE_ok w' _ rfl rfl) mixed 5 kn_iBOrb1 (fun p hp => ?_) ?_
    · simp only [kn_iBOrb1, List.mem_cons, List.not_mem_nil, or_false] at hp
      rcases hp with rfl | rfl
      · exact h
      · exact decide_eq_true h1
    · have e : BO a b c d n = false := by unfold BO; rw [h, decide_eq_false (p := 0 ≤ n) (by omega)]; rfl
      rw [tr_iBOrb1_eq, iBOrb_due, f56, e]; rfl
  by_cases h2 : 400 < n
  · refine exploreR_ok (fuel := 200) (XE_ok w' _ rfl rfl) mixed 5 kn_iBOrb2 (fun p hp => ?_) ?_
    · simp only [kn_iBOrb2, List.mem_cons, List.not_mem_nil, or_false] at hp
      rcases hp with rfl | rfl | rfl
      · exact h
      · exact decide_eq_false h1
      · exact decide_eq_true h2
    · have e : BO a b c d n = false := by unfold BO; rw [h, decide_eq_false (p := n ≤ 400) (by omega)]; simp
      rw [tr_iBOrb2_eq, iBOrb_due, f56, e]; rfl
  · have e : BO a b c d n = true := by unfold BO; rw [h, decide_eq_true (p := n ≤ 400) (by omega), decide_eq_true (p := 0 ≤ n) (by omega)]; rfl
    obtain ⟨N, rfl⟩ : ∃ N : Nat, n = (N : Int) := ⟨n.toNat, by omega⟩
    obtain ⟨κ, ys, p, hl, hv, hd⟩ := iBOrb_key (pv := pv) a b c d N 0 (by omega)
    refine rngAllR_ok (fun E' h1 h2 => XE_ok w' E' h1 h2) mixed rngR_iBOrb (enters_of Try.func101 rfl (by kernel_rfl)) (fun p hp => ?_) (N := N + 1) (κ := κ) (ys := ys) ?_ hv (Or.inl ?_)
    · simp only [kn_iBOrb, List.mem_cons, List.not_mem_nil, or_false] at hp
      rcases hp with rfl | rfl | rfl | rfl
      · exact h
      · exact decide_eq_false h1
      · exact decide_eq_false h2
      · exact decide_eq_true (show (N : Int) ≤ 400000 by omega)
    · rw [Nat.zero_add] at hl
      exact hl
    · rw [iBOrb_due, hd, f56, e]; rfl
end Go.Proofs.Ythggppjdapmgdaa
