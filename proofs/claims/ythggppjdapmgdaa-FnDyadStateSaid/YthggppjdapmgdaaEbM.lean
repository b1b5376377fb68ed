/- Where boxes escape, and the numbers in them: plain Lean. -/
import Derived.Test.YthggppjdapmgdaaBoM6
import Derived.Test.YthggppjdapmgdaaBoM3
namespace Go.Proofs.Ythggppjdapmgdaa
set_option linter.unusedSimpArgs false
set_option linter.unusedVariables false
/-- Where a box's norms are great, its numbers are. -/
theorem norm_in2 {a b c d r i s : Int} (h : BH a b c d r i s = true) : 0 < NM r i s ∨ NLo a b c d ≤ 1125899906842624 := by
  rcases (norm_in h).2 with h0 | h0
  · obtain ⟨v1, v2, x1, x2, y1, y2⟩ := (BH_iff _ _ _ _ _ _ _).1 h
    obtain ⟨r1, r2, i1, i2, hs0, hs1, -⟩ := (DV_iff _ _ _).1 v2
    have hP := pos2 s.toNat
    have hF : F4 s = 4 * (2 ^ s.toNat * 2 ^ s.toNat) := by unfold F4; rw [two_pow_2s s hs0]
    generalize hPP : (2 : Int) ^ s.toNat = P at *
    obtain ⟨p1, p2⟩ := sq_mem hP x1 x2
    obtain ⟨p3, p4⟩ := sq_mem hP y1 y2
    have k : ∀ x y : Int, x * 16777216 * (y * 16777216) = x * y * (16777216 * 16777216) := fun x y => mm4 x _ y _
    rw [k] at p1 p2 p3 p4
    have hQ : 0 < P * P := Int.mul_pos hP hP
    have q1 : NLo a b c d * (P * P) ≤ (r * r + i * i) * (16777216 * 16777216) := by unfold NLo; rw [Int.add_mul, Int.add_mul]; omega
    have le_of : ∀ {x y : Int}, x * (P * P) ≤ y * (P * P) → x ≤ y := fun h => Int.le_of_mul_le_mul_right h hQ
    unfold NM at h0 ⊢
    rw [hF] at h0 ⊢
    by_cases c1 : 30 ≤ s ∨ r * r + i * i < 4 * (P * P)
    · rw [if_pos c1] at h0; exact absurd h0 (by decide)
    · rw [if_neg c1]
      by_cases c2 : r * r + i * i = 4 * (P * P)
      · right
        refine le_of ?_
        rw [c2] at q1
        have : (1125899906842624 : Int) * (P * P) = 4 * (P * P) * (16777216 * 16777216) := by omega
        omega
      · rw [if_neg c2]; exact Or.inl (by decide)
  · exact Or.inr (by omega)
theorem nlo_nhi {a b c d : Int} (h : 1125899906842624 < nlo a b c d) : 1125899906842624 < nhi a b c d := by
  unfold nlo at h
  unfold nhi
  have := NLo_le a b c d
  split at h
  · rename_i hb; rw [if_pos hb]; omega
  · omega
/-- What both indexes say. -/
theorem esc_spec (m a b c d : Int) : ∀ (n : Nat) (f : Int) (k : Nat), (f < 0 ∨ f < k) → -1 ≤ f → (∀ j, j < k → bok a b c d j = true) → (∀ j : Nat, j < k → f < 0 ∨ (j : Int) < f → nhi (bz a b c d j).1 (bz a b c d j).2.1 (bz a b c d j).2.2.1 (bz a b c d j).2.2.2 ≤ 1125899906842624) →
    (∀ j : Nat, 0 ≤ (esc m a b c d n f k (bz a b c d k).1 (bz a b c d k).2.1 (bz a b c d k).2.2.1 (bz a b c d k).2.2.2).2.1 → (j : Int) < (esc m a b c d n f k (bz a b c d k).1 (bz a b c d k).2.1 (bz a b c d k).2.2.1 (bz a b c d k).2.2.2).2.1 → (∀ i, i < j → bok a b c d i = true) ∧ nhi (bz a b c d j).1 (bz a b c d j).2.1 (bz a b c d j).2.2.1 (bz a b c d j).2.2.2 ≤ 1125899906842624) ∧
    (0 ≤ (esc m a b c d n f k (bz a b c d k).1 (bz a b c d k).2.1 (bz a b c d k).2.2.1 (bz a b c d k).2.2.2).2.2 → (0 ≤ (esc m a b c d n f k (bz a b c d k).1 (bz a b c d k).2.1 (bz a b c d k).2.2.1 (bz a b c d k).2.2.2).2.1 ∧ (esc m a b c d n f k (bz a b c d k).1 (bz a b c d k).2.1 (bz a b c d k).2.2.1 (bz a b c d k).2.2.2).2.1 ≤ (esc m a b c d n f k (bz a b c d k).1 (bz a b c d k).2.1 (bz a b c d k).2.2.1 (bz a b c d k).2.2.2).2.2) ∧
      ∃ g : Nat, (esc m a b c d n f k (bz a b c d k).1 (bz a b c d k).2.1 (bz a b c d k).2.2.1 (bz a b c d k).2.2.2).2.2 = g ∧ (∀ i, i < g → bok a b c d i = true) ∧ 1125899906842624 < nlo (bz a b c d g).1 (bz a b c d g).2.1 (bz a b c d g).2.2.1 (bz a b c d g).2.2.2)
  | 0, f, k, h1, h2, h3, h4 => by
    refine ⟨fun j hf hj => ?_, fun h => absurd (show (0 : Int) ≤ -1 from h) (by decide)⟩
    have hf : 0 ≤ f := hf
    have hj : (j : Int) < f := hj
    exact ⟨fun i hi => h3 i (by omega), h4 j (by omega) (Or.inr hj)⟩
  | n + 1, f, k, h1, h2, h3, h4 => by
    unfold esc
    have hlow : ∀ f' : Int, f' = (if f < 0 ∧ 1125899906842624 < nhi (bz a b c d k).1 (bz a b c d k).2.1 (bz a b c d k).2.2.1 (bz a b c d k).2.2.2 then (k : Int) else f) → (f' < 0 ∨ f' < ((k + 1 : Nat) : Int)) ∧ -1 ≤ f' ∧ (∀ j : Nat, j < k + 1 → f' < 0 ∨ (j : Int) < f' → nhi (bz a b c d j).1 (bz a b c d j).2.1 (bz a b c d j).2.2.1 (bz a b c d j).2.2.2 ≤ 1125899906842624) := by
      intro f' hf'
      by_cases hc : f < 0 ∧ 1125899906842624 < nhi (bz a b c d k).1 (bz a b c d k).2.1 (bz a b c d k).2.2.1 (bz a b c d k).2.2.2
      · rw [if_pos hc] at hf'
        refine ⟨by omega, by omega, fun j hj hh => ?_⟩
        exact h4 j (by omega) (Or.inl hc.1)
      · rw [if_neg hc] at hf'
        subst hf'
        refine ⟨by omega, by omega, fun j hj hh => ?_⟩
        by_cases e : j = k
        · subst e
          by_cases hf : f' < 0
          · have : ¬ 1125899906842624 < nhi (bz a b c d j).1 (bz a b c d j).2.1 (bz a b c d j).2.2.1 (bz a b c d j).2.2.2 := fun h => hc ⟨hf, h⟩
            omega
          · omega
        · exact h4 j (by omega) hh
    have fin : ∀ f' : Int, f' = (if f < 0 ∧ 1125899906842624 < nhi (bz a b c d k).1 (bz a b c d k).2.1 (bz a b c d k).2.2.1 (bz a b c d k).2.2.2 then (k : Int) else f) → ∀ j : Nat, 0 ≤ f' → (j : Int) < f' → (∀ i, i < j → bok a b c d i = true) ∧ nhi (bz a b c d j).1 (bz a b c d j).2.1 (bz a b c d j).2.2.1 (bz a b c d j).2.2.2 ≤ 1125899906842624 := fun f' hf' j h0 hj => by
      obtain ⟨l1, l2, l3⟩ := hlow f' hf'
      exact ⟨fun i hi => h3 i (by omega), l3 j (by omega) (Or.inr hj)⟩
    split
    · split
      · rename_i hk hg
        refine ⟨fun j h0 hj => fin _ rfl j h0 hj, fun h0 => ⟨?_, k, rfl, h3, hg⟩⟩
        have hh := nlo_nhi hg
        show 0 ≤ (if f < 0 ∧ 1125899906842624 < nhi (bz a b c d k).1 (bz a b c d k).2.1 (bz a b c d k).2.2.1 (bz a b c d k).2.2.2 then (k : Int) else f) ∧ (if f < 0 ∧ 1125899906842624 < nhi (bz a b c d k).1 (bz a b c d k).2.1 (bz a b c d k).2.2.1 (bz a b c d k).2.2.2 then (k : Int) else f) ≤ (k : Int)
        split
        · omega
        · rename_i hc
          have : ¬ f < 0 := fun hf => hc ⟨hf, hh⟩
          omega
      · split
        · rename_i hk hg hq
          obtain ⟨l1, l2, l3⟩ := hlow _ rfl
          exact esc_spec m a b c d n _ (k + 1) l1 l2 (fun j hj => by
            by_cases e : j = k
            · rw [e]; exact hq
            · exact h3 j (by omega)) l3
        · exact ⟨fun j h0 hj => fin _ rfl j h0 hj, fun h => absurd (show (0 : Int) ≤ -1 from h) (by decide)⟩
    · refine ⟨fun j hf hj => ?_, fun h => absurd (show (0 : Int) ≤ -1 from h) (by decide)⟩
      have hf : 0 ≤ f := hf
      have hj : (j : Int) < f := hj
      exact ⟨fun i hi => h3 i (by omega), h4 j (by omega) (Or.inr hj)⟩
theorem esc_top (m a b c d : Int) : (∀ j : Nat, 0 ≤ escP a b c d m → (j : Int) < escP a b c d m → (∀ i, i < j → bok a b c d i = true) ∧ nhi (bz a b c d j).1 (bz a b c d j).2.1 (bz a b c d j).2.2.1 (bz a b c d j).2.2.2 ≤ 1125899906842624) ∧
    (0 ≤ escW a b c d m → (0 ≤ escP a b c d m ∧ escP a b c d m ≤ escW a b c d m) ∧
      ∃ g : Nat, escW a b c d m = g ∧ (∀ i, i < g → bok a b c d i = true) ∧ 1125899906842624 < nlo (bz a b c d g).1 (bz a b c d g).2.1 (bz a b c d g).2.2.1 (bz a b c d g).2.2.2) :=
  esc_spec m a b c d 402 (-1) 0 (Or.inl (by decide)) (by decide) (fun j hj => absurd hj (by omega)) (fun j hj => absurd hj (by omega))
end Go.Proofs.Ythggppjdapmgdaa
