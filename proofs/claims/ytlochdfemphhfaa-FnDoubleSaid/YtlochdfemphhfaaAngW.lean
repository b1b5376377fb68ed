/- What the functions on angles give: each call by its contract. -/
import Derived.Test.YtlochdfemphhfaaBase
import Derived.Test.YtlochdfemphhfaaAngM
namespace Go.Proofs.Ytlochdfemphhfaa
open Go.RowKit

theorem divisor_any (a b : Int) (w : World) (ha : 0 ≤ a) (hb : 0 ≤ b) (_ha : a ≤ 9223372036854775807) (_hb : b ≤ 9223372036854775807) :
    Calls Try.prog 25 #[.int .i64 a, .int .i64 b] w fun e w' => e = .returned (.int .i64 (Int.gcd a b)) ∧ Below w.heap.size w w' := by
  go_enter Try.func25, Try.ntmps25
  go_wp2
  go_loopw [0, 1] (fun u v wr => ∃ x y : Int, u = .int .i64 x ∧ v = .int .i64 y ∧ 0 ≤ x ∧ 0 ≤ y ∧ x ≤ 9223372036854775807 ∧ y ≤ 9223372036854775807 ∧ Int.gcd x y = Int.gcd a b ∧ Below w.heap.size w wr) (fun _ v _ => (intOf v).toNat)
  case atStart => exact ⟨a, b, rfl, rfl, ha, hb, by omega, by omega, rfl, Below.refl _ _⟩
  case round =>
    obtain ⟨x, y, rfl, rfl, hx, hy, hx', hy', hg, hb⟩ := hrel
    have HG := Lib.hid hg; clear hg
    by_cases h0 : y = 0
    · subst h0
      go_wp2
      go_ret
      refine ⟨?_, hb⟩
      rw [← HG.out]; simp; omega
    · have h1 : 0 < y := by omega
      have h2 : x % y < y := Int.emod_lt_of_pos _ h1
      have h3 : 0 ≤ x % y := Int.emod_nonneg _ (by omega)
      go_wp2
      go_region
      go_wp2
      go_roundw
      case rel => exact ⟨y, x % y, rfl, rfl, by omega, by omega, by omega, by omega, by rw [gcd_step x y hx h1, HG.out], hb.drew⟩
      case measure => simp [intOf]; omega

theorem l6aGcd_any (a b : Int) (w : World) (ha : 0 ≤ a) (hb : 0 ≤ b) (_ha : a ≤ 9223372036854775807) (_hb : b ≤ 9223372036854775807) :
    Calls Try.prog 24 #[.int .i64 a, .int .i64 b] w fun e w' => e = .returned (.int .i64 (Int.gcd a b)) ∧ Below w.heap.size w w' := by
  go_enter Try.func24, Try.ntmps24
  go_wp2
  go_loopw [0, 1] (fun u v wr => ∃ x y : Int, u = .int .i64 x ∧ v = .int .i64 y ∧ 0 ≤ x ∧ 0 ≤ y ∧ x ≤ 9223372036854775807 ∧ y ≤ 9223372036854775807 ∧ Int.gcd x y = Int.gcd a b ∧ Below w.heap.size w wr) (fun _ v _ => (intOf v).toNat)
  case atStart => exact ⟨a, b, rfl, rfl, ha, hb, by omega, by omega, rfl, Below.refl _ _⟩
  case round =>
    obtain ⟨x, y, rfl, rfl, hx, hy, hx', hy', hg, hb⟩ := hrel
    have HG := Lib.hid hg; clear hg
    by_cases h0 : y = 0
    · subst h0
      go_wp2
      go_ret
      refine ⟨?_, hb⟩
      rw [← HG.out]; simp; omega
    · have h1 : 0 < y := by omega
      have h2 : x % y < y := Int.emod_lt_of_pos _ h1
      have h3 : 0 ≤ x % y := Int.emod_nonneg _ (by omega)
      go_wp2
      go_roundw
      case rel => exact ⟨y, x % y, rfl, rfl, by omega, by omega, by omega, by omega, by rw [gcd_step x y hx h1, HG.out], hb⟩
      case measure => simp [intOf]; omega

theorem toAngle_any (n d : Int) (w : World) :
    Calls Try.prog 11 #[.agg #[.int .i64 n, .int .i64 d]] w (Gives (.agg #[.int .i64 n, .int .i64 d]) w) := by
  go_enter Try.func11, Try.ntmps11
  go_wp2
  go_returns
  refine ⟨rfl, ?_⟩
  go_grown

theorem eqAngle_any (n d m c : Int) (w : World) :
    Calls Try.prog 15 #[.agg #[.int .i64 n, .int .i64 d], .agg #[.int .i64 m, .int .i64 c]] w (Gives (.bool (decide (n = m ∧ d = c))) w) := by
  by_cases h1 : n = m
  · subst h1
    by_cases h2 : d = c
    · subst h2
      go_enter Try.func15, Try.ntmps15
      go_wp2
      go_returns
      exact ⟨by simp, by go_grown⟩
    · go_enter Try.func15, Try.ntmps15
      go_wp2
      go_returns
      exact ⟨by simp [h2], by go_grown⟩
  · go_enter Try.func15, Try.ntmps15
    go_wp2
    go_returns
    exact ⟨by simp [h1], by go_grown⟩

theorem spec_AngleValid_any (n d : Int) (w : World) :
    Calls Try.prog 10 #[.agg #[.int .i64 n, .int .i64 d]] w (Gives (.bool (AV n d)) w) := by
  by_cases h1 : 1 ≤ d ∧ d ≤ 1048576
  · obtain ⟨a1, a2⟩ := h1
    by_cases h2 : 0 ≤ n ∧ n ≤ d - 1
    · obtain ⟨a3, a4⟩ := h2
      by_cases hg : Int.gcd n d = 1
      · have HV : Hid (AV n d = true) := (AV_iff n d).2 ⟨a1, a2, a3, by omega, hg⟩
        have hg' : (((Int.gcd n d : Nat) : Int) == 1) = true := by rw [hg]; rfl
        clear hg
        go_enter Try.func10, Try.ntmps10
        go_wp2_with (first | (go_at_call 23; refine (l6In_any _ _ _ _).mono ?_; rintro e w' ⟨rfl, rfl⟩) | (go_at_call 24; refine (l6aGcd_any n d _ a3 (by omega) (by omega) (by omega)).mono ?_; rintro e w' ⟨rfl, hb⟩))
        go_returns
        exact ⟨by rw [HV.out]; first | done | rfl, ((Below.refl _ _).alloc (Nat.le_refl _) _).trans (hb.mono (by simp))⟩
      · have HV : Hid (AV n d = false) := by
          refine Bool.eq_false_iff.2 fun h => hg ((AV_iff n d).1 h).2.2.2.2
        have hg' : (((Int.gcd n d : Nat) : Int) == 1) = false := by rw [beq_eq_false_iff_ne]; omega
        clear hg
        go_enter Try.func10, Try.ntmps10
        go_wp2_with (first | (go_at_call 23; refine (l6In_any _ _ _ _).mono ?_; rintro e w' ⟨rfl, rfl⟩) | (go_at_call 24; refine (l6aGcd_any n d _ a3 (by omega) (by omega) (by omega)).mono ?_; rintro e w' ⟨rfl, hb⟩))
        go_returns
        exact ⟨by rw [HV.out]; first | done | rfl, ((Below.refl _ _).alloc (Nat.le_refl _) _).trans (hb.mono (by simp))⟩
    · have HV : Hid (AV n d = false) := by
        refine Bool.eq_false_iff.2 fun h => h2 ?_
        have := (AV_iff n d).1 h; omega
      have e1 : (decide (0 ≤ n) && decide (n ≤ d - 1)) = false := by simp; omega
      go_enter Try.func10, Try.ntmps10
      go_wp2_with (go_at_call 23; refine (l6In_any _ _ _ _).mono ?_; rintro e w' ⟨rfl, rfl⟩)
      go_returns
      exact ⟨by rw [HV.out]; first | done | rfl, by go_grown⟩
  · have HV : Hid (AV n d = false) := by
      refine Bool.eq_false_iff.2 fun h => h1 ?_
      have := (AV_iff n d).1 h; omega
    have e1 : (decide (1 ≤ d) && decide (d ≤ 1048576)) = false := by simp; omega
    go_enter Try.func10, Try.ntmps10
    go_wp2_with (go_at_call 23; refine (l6In_any _ _ _ _).mono ?_; rintro e w' ⟨rfl, rfl⟩)
    go_returns
    exact ⟨by rw [HV.out]; first | done | rfl, by go_grown⟩

theorem impl_AngleValid_any (n d : Int) (w : World) :
    Calls Try.prog 12 #[.agg #[.int .i64 n, .int .i64 d]] w (Gives (.bool (AV n d)) w) := by
  by_cases h1 : 1 ≤ d ∧ d ≤ 1048576 ∧ 0 ≤ n ∧ n ≤ d - 1
  · obtain ⟨a1, a2, a3, a4⟩ := h1
    have HV : Hid ((((Int.gcd n d : Nat) : Int) == 1) = AV n d) := by
      rw [Hid, Bool.eq_iff_iff, AV_iff, beq_iff_eq]
      constructor
      · intro h; exact ⟨a1, a2, a3, by omega, by omega⟩
      · intro h; omega
    go_enter Try.func12, Try.ntmps12
    go_wp2_with (go_at_call 25; refine (divisor_any n d _ a3 (by omega) (by omega) (by omega)).mono ?_; rintro e w' ⟨rfl, hb⟩)
    go_returns
    exact ⟨by rw [HV.out]; first | done | rfl, ((Below.refl _ _).alloc (Nat.le_refl _) _).trans (hb.mono (by simp))⟩
  · have HV : Hid (AV n d = false) := by
      refine Bool.eq_false_iff.2 fun h => h1 ?_
      have := (AV_iff n d).1 h; omega
    by_cases b1 : d < 1
    · go_enter Try.func12, Try.ntmps12
      go_wp2
      go_returns
      exact ⟨by rw [HV.out]; first | done | rfl, by go_grown⟩
    · by_cases b2 : 1048576 < d
      · go_enter Try.func12, Try.ntmps12
        go_wp2
        go_returns
        exact ⟨by rw [HV.out]; first | done | rfl, by go_grown⟩
      · by_cases b3 : n < 0
        · go_enter Try.func12, Try.ntmps12
          go_wp2
          go_returns
          exact ⟨by rw [HV.out]; first | done | rfl, by go_grown⟩
        · have b4 : d ≤ n := by omega
          go_enter Try.func12, Try.ntmps12
          go_wp2
          go_returns
          exact ⟨by rw [HV.out]; first | done | rfl, by go_grown⟩

/-- The fractional part's angle, as a value. -/
theorem l6aLow_any (n d : Int) (w : World) (hn : 0 ≤ n) (hd : 1 ≤ d) (hn' : n ≤ 4000000000) (hd' : d ≤ 1048576) :
    Calls Try.prog 26 #[.int .i64 n, .int .i64 d] w (Gives (.agg #[.int .i64 (AN n d), .int .i64 (AD n d)]) w) := by
  have a1 : 0 ≤ n % d := Int.emod_nonneg _ (by omega)
  have a2 : n % d < d := Int.emod_lt_of_pos _ (by omega)
  have g1 : 1 ≤ ((Int.gcd (n % d) d : Nat) : Int) := AG_pos n d hd
  have g2 : ((Int.gcd (n % d) d : Nat) : Int) ≤ d := AG_le n d hd
  have HN : Hid ((n % d) / ((Int.gcd (n % d) d : Nat) : Int) = AN n d) := rfl
  have HD : Hid (d / ((Int.gcd (n % d) d : Nat) : Int) = AD n d) := rfl
  go_enter Try.func26, Try.ntmps26
  go_wp2_with (go_at_call 24; refine (l6aGcd_any _ d _ a1 (by omega) (by omega) (by omega)).mono ?_; rintro e w1 ⟨rfl, hb⟩; have hB : Below w.heap.size w w1 := Below.trans (by go_grown) (hb.mono (by go_size)); have hz := hB.size; have hz2 := hb.size; (try simp at hz2); obtain ⟨hc, hf⟩ := bcell hb; clear hb)
  go_region
  go_wp2
  refine bodyPost_ret (v := .agg #[.int .i64 ((n % d) / ((Int.gcd (n % d) d : Nat) : Int)), .int .i64 (d / ((Int.gcd (n % d) d : Nat) : Int))]) (by simp [results, Try.results26, go_sem, hc]) rfl ⟨by rw [HN.out, HD.out], ?_⟩
  go_grown

/-! ### AngleMake -/

theorem spec_AngleMake_yes (n d : Int) (w : World) (h : AMok n d = true) :
    Calls Try.prog 13 #[.int .i64 n, .int .i64 d] w (Gives (.tuple #[.agg #[.int .i64 (AN n d), .int .i64 (AD n d)], .bool true]) w) := by
  obtain ⟨a1, a2, a3, a4⟩ := (AMok_iff n d).1 h
  have HN := Lib.hid (AN_emod n d)
  have HD := Lib.hid (AD_emod n d)
  have e0 : n - n / d * d = n % d := by rw [Int.emod_def, Int.mul_comm]
  have r0 : 0 ≤ n % d := Int.emod_nonneg _ (by omega)
  have r1 : n % d < d := Int.emod_lt_of_pos _ (by omega)
  have k1 : -1000000000 - 1048576 ≤ n / d * d := by omega
  have k2 : n / d * d ≤ 1000000000 := by omega
  have HE := Lib.hid e0; clear e0
  clear h
  go_enter Try.func13, Try.ntmps13
  go_wp2_with (first | (go_at_call 23; refine (l6In_any _ _ _ _).mono ?_; rintro e w1 ⟨rfl, rfl⟩) | (go_at_call 27; refine (l4Floor_pos _ _ _ (by omega) (by omega) (by omega) (by omega)).mono ?_; rintro e w1 ⟨rfl, rfl⟩) | (go_at_call 26; rw [HE.out]; refine (l6aLow_any _ _ _ r0 (by omega) (by omega) (by omega)).mono ?_; rintro e w1 ⟨rfl, hb⟩; have hB : Below w.heap.size w w1 := Below.trans (by go_grown) (hb.mono (by go_size)); have hz := hB.size; have hz2 := hb.size; obtain ⟨hc, hf⟩ := bcell hb; clear hb))
  have b0 : w1.cell? ⟨w.heap.size, 0, none⟩ = some (.int .i64 0) := by go_simp
  have b1 : w1.cell? ⟨w.heap.size, 1, none⟩ = some (.int .i64 0) := by go_simp
  refine ret_cell_tmp Try.results13 rfl rfl (load_Angle _ _ _ _ (set2 b0 b1 _ _).1 (set2 b0 b1 _ _).2) ⟨?_, (hB.setCell (Nat.le_refl _) _).setCell (Nat.le_refl _) _⟩
  rw [HN.out, HD.out]; rfl

theorem spec_AngleMake_no (n d : Int) (w : World) (h : AMok n d = false) :
    Calls Try.prog 13 #[.int .i64 n, .int .i64 d] w (Gives (.tuple #[.agg #[.int .i64 0, .int .i64 0], .bool false]) w) := by
  have h' : ¬ (1 ≤ d ∧ d ≤ 1048576 ∧ -1000000000 ≤ n ∧ n ≤ 1000000000) := fun g => by rw [(AMok_iff n d).2 g] at h; cases h
  clear h
  by_cases h1 : 1 ≤ d ∧ d ≤ 1048576
  · have e1 : (decide (1 ≤ d) && decide (d ≤ 1048576)) = true := by simp; omega
    have e2 : (decide (-1000000000 ≤ n) && decide (n ≤ 1000000000)) = false := by simp; omega
    clear h1 h'
    go_enter Try.func13, Try.ntmps13
    go_wp2_with (go_at_call 23; refine (l6In_any _ _ _ _).mono ?_; rintro e w1 ⟨rfl, rfl⟩)
    refine ret_cell_tmp Try.results13 rfl rfl (load_Angle _ _ (.int .i64 0) (.int .i64 0) (by go_simp) (by go_simp)) ⟨rfl, by go_grown⟩
  · have e1 : (decide (1 ≤ d) && decide (d ≤ 1048576)) = false := by simp; omega
    clear h1 h'
    go_enter Try.func13, Try.ntmps13
    go_wp2_with (go_at_call 23; refine (l6In_any _ _ _ _).mono ?_; rintro e w1 ⟨rfl, rfl⟩)
    refine ret_cell_tmp Try.results13 rfl rfl (load_Angle _ _ (.int .i64 0) (.int .i64 0) (by go_simp) (by go_simp)) ⟨rfl, by go_grown⟩

theorem tmod_lift (n d : Int) (hd : 1 ≤ d) : (0 ≤ n.tmod d → n.tmod d = n % d) ∧ (n.tmod d < 0 → n.tmod d + d = n % d) := by
  by_cases h : 0 ≤ n
  · have e : n.tmod d = n % d := Int.tmod_eq_emod_of_nonneg h
    have := Int.emod_nonneg n (show d ≠ 0 by omega)
    exact ⟨fun _ => e, fun h' => by omega⟩
  · obtain ⟨m, rfl⟩ : ∃ m, n = -m := ⟨-n, by omega⟩
    have e2 : (-m).tmod d = -(m % d) := by rw [Int.neg_tmod, Int.tmod_eq_emod_of_nonneg (by omega)]
    rw [e2]
    have m0 := Int.emod_nonneg m (show d ≠ 0 by omega)
    have m1 := Int.emod_lt_of_pos m (show 0 < d by omega)
    have md := Int.mul_ediv_add_emod m d
    constructor
    · intro h0
      have : m % d = 0 := by omega
      rw [this]
      have : -m = d * (-(m / d)) := by rw [Int.mul_neg]; omega
      rw [this, Int.mul_emod_right]; rfl
    · intro h0
      have e3 : -m = (d - m % d) + d * (-(m / d) - 1) := by rw [Int.mul_sub, Int.mul_neg]; omega
      rw [e3, Int.add_mul_emod_self_left, Int.emod_eq_of_lt (a := d - m % d) (b := d) (by omega) (by omega)]
      omega

theorem impl_AngleMake_yes (n d : Int) (w : World) (h : AMok n d = true) :
    Calls Try.prog 14 #[.int .i64 n, .int .i64 d] w (Gives (.tuple #[.agg #[.int .i64 (AN n d), .int .i64 (AD n d)], .bool true]) w) := by
  obtain ⟨a1, a2, a3, a4⟩ := (AMok_iff n d).1 h
  clear h
  have r0 : 0 ≤ n % d := Int.emod_nonneg _ (by omega)
  have r1 : n % d < d := Int.emod_lt_of_pos _ (by omega)
  have g1 : 1 ≤ ((Int.gcd (n % d) d : Nat) : Int) := AG_pos n d a1
  have g2 : ((Int.gcd (n % d) d : Nat) : Int) ≤ d := AG_le n d a1
  have HN : Hid ((n % d) / ((Int.gcd (n % d) d : Nat) : Int) = AN n d) := rfl
  have HD : Hid (d / ((Int.gcd (n % d) d : Nat) : Int) = AD n d) := rfl
  obtain ⟨t1, t2⟩ := tmod_lift n d a1
  by_cases h0 : 0 ≤ n.tmod d
  · have e := t1 h0
    clear t1 t2
    go_enter Try.func14, Try.ntmps14
    go_wp2_with (go_at_call 25; refine (divisor_any _ d _ r0 (by omega) (by omega) (by omega)).mono ?_; rintro e w1 ⟨rfl, hb⟩; have hB : Below w.heap.size w w1 := Below.trans (by go_grown) (hb.mono (by go_size)); have hz := hB.size; have hz2 := hb.size; (try simp at hz2); obtain ⟨hc, hf⟩ := bcell hb; clear hb)
    go_region
    go_wp2
    have b0 : w1.cell? ⟨w.heap.size, 0, none⟩ = some (.int .i64 0) := by go_simp
    have b1 : w1.cell? ⟨w.heap.size, 1, none⟩ = some (.int .i64 0) := by go_simp
    refine ret_cell_tmp Try.results14 rfl rfl (load_Angle _ _ _ _ (set2 b0 b1 _ _).1 (set2 b0 b1 _ _).2) ⟨?_, ((hB.setCell (Nat.le_refl _) _).setCell (Nat.le_refl _) _).drew⟩
    rw [HN.out, HD.out]; rfl
  · have e := t2 (by omega)
    have h0' : n.tmod d < 0 := by omega
    have e' := Lib.hid e
    have k1 : -1048576 ≤ n.tmod d := by omega
    clear t1 t2 e h0
    obtain ⟨t, ht⟩ : ∃ t, n.tmod d = t := ⟨_, rfl⟩
    rw [ht] at h0' e' k1
    go_enter Try.func14, Try.ntmps14
    go_wp2_with (go_at_call 25; rw [e'.out]; refine (divisor_any _ d _ r0 (by omega) (by omega) (by omega)).mono ?_; rintro e w1 ⟨rfl, hb⟩; have hB : Below w.heap.size w w1 := Below.trans (by go_grown) (hb.mono (by go_size)); have hz := hB.size; have hz2 := hb.size; obtain ⟨hc, hf⟩ := bcell hb; clear hb)
    go_region
    go_wp2
    have b0 : w1.cell? ⟨w.heap.size, 0, none⟩ = some (.int .i64 0) := by go_simp
    have b1 : w1.cell? ⟨w.heap.size, 1, none⟩ = some (.int .i64 0) := by go_simp
    refine ret_cell_tmp Try.results14 rfl rfl (load_Angle _ _ _ _ (set2 b0 b1 _ _).1 (set2 b0 b1 _ _).2) ⟨?_, ((hB.setCell (Nat.le_refl _) _).setCell (Nat.le_refl _) _).drew⟩
    rw [HN.out, HD.out]; rfl

theorem impl_AngleMake_no (n d : Int) (w : World) (h : AMok n d = false) :
    Calls Try.prog 14 #[.int .i64 n, .int .i64 d] w (Gives (.tuple #[.agg #[.int .i64 0, .int .i64 0], .bool false]) w) := by
  have h' : ¬ (1 ≤ d ∧ d ≤ 1048576 ∧ -1000000000 ≤ n ∧ n ≤ 1000000000) := fun g => by rw [(AMok_iff n d).2 g] at h; cases h
  clear h
  by_cases c1 : d < 1
  · clear h'
    go_enter Try.func14, Try.ntmps14
    go_wp2
    refine ret_cell_tmp Try.results14 rfl rfl (load_Angle _ _ (.int .i64 0) (.int .i64 0) (by go_simp) (by go_simp)) ⟨rfl, by go_grown⟩
  · by_cases c2 : 1048576 < d
    · clear h'
      go_enter Try.func14, Try.ntmps14
      go_wp2
      refine ret_cell_tmp Try.results14 rfl rfl (load_Angle _ _ (.int .i64 0) (.int .i64 0) (by go_simp) (by go_simp)) ⟨rfl, by go_grown⟩
    · by_cases c3 : n < -1000000000
      · clear h'
        go_enter Try.func14, Try.ntmps14
        go_wp2
        refine ret_cell_tmp Try.results14 rfl rfl (load_Angle _ _ (.int .i64 0) (.int .i64 0) (by go_simp) (by go_simp)) ⟨rfl, by go_grown⟩
      · have c4 : 1000000000 < n := by omega
        clear h'
        go_enter Try.func14, Try.ntmps14
        go_wp2
        refine ret_cell_tmp Try.results14 rfl rfl (load_Angle _ _ (.int .i64 0) (.int .i64 0) (by go_simp) (by go_simp)) ⟨rfl, by go_grown⟩

end Go.Proofs.Ytlochdfemphhfaa
