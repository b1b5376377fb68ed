/- ████ FnSplit, run whole, on whatever tape: it returns true, the old blocks are as they were. ████ -/
import Derived.Test.YtjbpaejjpamcpaaMCj
import Derived.Test.YtjbpaejjpamcpaaMDg
set_option linter.unusedSectionVars false
namespace Go.Proofs.Ytjbpaejjpamcpaa.Sim
set_option linter.unusedSimpArgs false
set_option linter.unusedVariables false
open Go Go.Conc Go.RowKit Go.Conc.Lib

section
theorem BV_qv {a b c d : Int} (hv : BV a b c d = true) (i : Nat) (hi : i < 4) : BV (qv 0 a b c d i) (qv 1 a b c d i) (qv 2 a b c d i) (qv 3 a b c d i) = true := by
  obtain ⟨b1, b2, b3, b4, b5, b6⟩ := (BV_iff _ _ _ _).1 hv
  have m1 : a ≤ fl (a + b) 2 ∧ fl (a + b) 2 ≤ b := by unfold fl; omega
  have m2 : c ≤ fl (c + d) 2 ∧ fl (c + d) 2 ≤ d := by unfold fl; omega
  match i, hi with
  | 0, _ => exact (show BV a (fl (a + b) 2) c (fl (c + d) 2) = true from (BV_iff _ _ _ _).2 ⟨by omega, by omega, by omega, by omega, by omega, by omega⟩)
  | 1, _ => exact (show BV (fl (a + b) 2) b c (fl (c + d) 2) = true from (BV_iff _ _ _ _).2 ⟨by omega, by omega, by omega, by omega, by omega, by omega⟩)
  | 2, _ => exact (show BV a (fl (a + b) 2) (fl (c + d) 2) d = true from (BV_iff _ _ _ _).2 ⟨by omega, by omega, by omega, by omega, by omega, by omega⟩)
  | 3, _ => exact (show BV (fl (a + b) 2) b (fl (c + d) 2) d = true from (BV_iff _ _ _ _).2 ⟨by omega, by omega, by omega, by omega, by omega, by omega⟩)
/-- Cutting never turns an answer. -/
theorem quarters {a b c d m : Int} (hd : Drn a b c d) (hv : BV a b c d = true) (hs : cstv a b c d m ≠ 0) (i : Nat) (hi : i < 4) : qst a b c d m i = cstv a b c d m := by
  obtain ⟨pv, hpv, rfl, rfl, rfl, rfl⟩ := hd
  have e : cstv (bxA pv 0) (bxB pv 0) (bxC pv 0) (bxD pv 0) m = CST (bxA pv 0) (bxB pv 0) (bxC pv 0) (bxD pv 0) m := if_pos hv
  rw [e] at hs ⊢
  have hq := BV_qv hv i hi
  have := Sp.split_law hpv hv hs i ⟨by omega, by omega⟩
  unfold qst
  rw [show cstv (qv 0 (bxA pv 0) (bxB pv 0) (bxC pv 0) (bxD pv 0) i) (qv 1 (bxA pv 0) (bxB pv 0) (bxC pv 0) (bxD pv 0) i) (qv 2 (bxA pv 0) (bxB pv 0) (bxC pv 0) (bxD pv 0) i) (qv 3 (bxA pv 0) (bxB pv 0) (bxC pv 0) (bxD pv 0) i) m = _ from if_pos hq]
  exact this
end
section
variable {p : Option Addr} {len cap : Nat}
set_option maxRecDepth 100000 in
theorem enter4 : Frame.enter Try.prog 4 #[.slice p len cap] .normal = (base 4).at ⟨#[.slice p len cap, undef, undef, undef, undef, undef, undef, undef, undef, undef, undef, undef, undef, undef, undef, undef, undef, undef, undef, undef, undef, undef, undef, undef, undef, undef, undef, undef, undef, undef, undef, undef, undef, undef, undef, undef, undef, undef, undef, undef, undef, undef, undef, undef, undef, undef, undef, undef, undef, undef, undef, undef, undef, undef, undef, undef, undef, undef, undef, undef, undef, undef, undef, undef, undef, undef, undef, undef, undef, undef, undef, undef, undef, undef, undef, undef, undef, undef, undef, undef, undef], []⟩ [.code body4] := by
  rw [enter_at (c := body4) _ Try.func4 rfl]
  walk_nrmf Try.f4
theorem law4_run (W : World) (hG : Try.prog.globals.size ≤ W.heap.size) (hc : CodeV (oldL W) p len cap) :
    ∃ n last o w' t', runNT Try.prog (n + 1) (solo (G (Frame.enter Try.prog 4 #[.slice p len cap] .normal) []) W) #[] = (.ended o w', t') ∧
      runN Try.prog n (solo (G (Frame.enter Try.prog 4 #[.slice p len cap] .normal) []) W) = .next last ∧ step Try.prog last = .ended o w' ∧ Go.Conc.Good Try.prog (fun v w' => v = .bool true ∧ Below W.heap.size W w') last o w' t' := by
  rw [enter4, solo_eq_crowd]
  have hH := has_old hG
  have hfr := fra_first Try.prog (G ((base 4).at ⟨#[.slice p len cap, undef, undef, undef, undef, undef, undef, undef, undef, undef, undef, undef, undef, undef, undef, undef, undef, undef, undef, undef, undef, undef, undef, undef, undef, undef, undef, undef, undef, undef, undef, undef, undef, undef, undef, undef, undef, undef, undef, undef, undef, undef, undef, undef, undef, undef, undef, undef, undef, undef, undef, undef, undef, undef, undef, undef, undef, undef, undef, undef, undef, undef, undef, undef, undef, undef, undef, undef, undef, undef, undef, undef, undef, undef, undef, undef, undef, undef, undef, undef, undef], []⟩ [.code body4]) []) W (fun b => b < W.heap.size) (fun b h => h)
  by_cases hl : 1048576 < len
  · exact ends_main rfl hfr ⟨rfl, rfl, rfl⟩ (law4e hH hl)
  obtain ⟨n1, gs1, w1, sl1, t1, q1, E1, a1, r1, i1, f1, _, k1, k2, k3, _, hs⟩ := walk_way (N := 0) (fun _ _ h => h) (fun b h => h.elim) (Nat.zero_le _) rfl hfr trivial (law4a (Stop := fun E g w => ∃ a b c d m Bx, Drn a b c d ∧ g = G ((base 4).at (at40 p len cap a b c d m Bx) [.code e0]) [] ∧
    Has Try.prog.globals.size NoF E w ((Bx, .cells #[.int .i64 a, .int .i64 b, .int .i64 c, .int .i64 d] 27) :: oldL W)) hH hc hl fun a b c d m Bx E' w' hd h => .stop fun w₁ h1 _ => ⟨a, b, c, d, m, Bx, hd, rfl, h.moved h1⟩) none
  obtain ⟨a, b, c, d, m, Bx, hd, rfl, hH1⟩ := hs w1.drawn
  cases hv : BV a b c d with
  | false => exact run_behind r1 (ends_main i1 f1 ⟨k1, k2, k3⟩ (law4n hH1 hv))
  | true =>
    obtain ⟨n2, gs2, w2, sl2, t2, q2, E2, a2, r2, i2, f2, _, l1, l2, l3, _, hs2⟩ := walk_way (N := 0) (fun _ _ h => h) (fun b h => h.elim) (Nat.zero_le _) i1 f1 trivial (law4v (m := m) (p := p) (len := len) (cap := cap) (Stop := fun E g w => ∃ Bb Bm Q An qc cq, g = G (at5 a b c d m Bb Bm Q An qc) ((base 4).at (at41 p len cap a b c d m Bx) (.inRegion ops41 [2, 3, 4, 5, 6, 7] :: [.code (c2 e0)]) :: []) ∧
      Has Try.prog.globals.size NoF E w ([(An, .cells #[.chan none, .chan none, .chan none, .chan none] 52), (Q, .cells cq 27), (Bm, .cells #[.int .i64 m] 3), (Bb, .cells #[.int .i64 a, .int .i64 b, .int .i64 c, .int .i64 d] 27)] ++ ((Bx, .cells #[.int .i64 a, .int .i64 b, .int .i64 c, .int .i64 d] 27) :: oldL W)) ∧
      (∀ k j : Nat, k < 4 → j < 4 → cq[k * 4 + j]? = some (Value.int .i64 (qv j a b c d k)))) hH1 hv fun Bb Bm Q An qc cq E' w' h hq => .stop fun w₁ h1 _ => ⟨Bb, Bm, Q, An, qc, cq, rfl, h.moved h1, hq⟩) sl1
    obtain ⟨Bb, Bm, Q, An, qc, cq, rfl, hH2, hq⟩ := hs2 w2.drawn
    obtain ⟨n3, gs3, w3, sl3, t3, q3, E3, a3, r3, i3, f3, m1, m2, m3, hs3⟩ := split_run (j0 := 0) (sl := sl2) hH2 hq (by decide) i2 f2 (Stop := fun E g w => ∃ S, g = G ((base 4).at ((at41 p len cap a b c d m Bx).put ((ops41[2]?).bind (·.dst)) (.tuple #[.slice (some ⟨S, 0, none⟩) 4 4, .bool true])) (.inRegion ops41 [3, 4, 5, 6, 7] :: [.code (c2 e0)])) [] ∧
      Has Try.prog.globals.size NoF E w ((S, .cells #[.int .i64 (qst a b c d m 0), .int .i64 (qst a b c d m 1), .int .i64 (qst a b c d m 2), .int .i64 (qst a b c d m 3)] 3) :: (Bx, .cells #[.int .i64 a, .int .i64 b, .int .i64 c, .int .i64 d] 27) :: oldL W)) fun S E' w' h => .stop fun w₁ h1 _ => ⟨S, rfl, h.moved h1⟩
    obtain ⟨S, rfl, hH3⟩ := hs3 w3.drawn
    have hl' : LeftAs W w3 := ⟨m1.trans (l1.trans k1), m2.trans (l2.trans k2), m3.trans (l3.trans k3)⟩
    by_cases hz : cstv a b c d m = 0
    · exact run_behind r1 (run_behind r2 (run_behind r3 (ends_main i3 f3 hl' (law4z hH3 hv hz))))
    · exact run_behind r1 (run_behind r2 (run_behind r3 (ends_main i3 f3 hl' (law4s hH3 hv hz (quarters hd hv hz)))))
end
end Go.Proofs.Ytjbpaejjpamcpaa.Sim
