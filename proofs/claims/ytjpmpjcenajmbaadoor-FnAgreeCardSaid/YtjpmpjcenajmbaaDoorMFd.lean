import Derived.Test.YtjpmpjcenajmbaaDoorBi6
import Derived.Test.YtjpmpjcenajmbaaDoorFw4
import Derived.Test.YtjpmpjcenajmbaaDoorMDy
import Derived.Test.YtjpmpjcenajmbaaDoorDyC
import Derived.Test.YtjpmpjcenajmbaaDoorMFm
/- Contracts on exact numbers and their words, where the library's table lies. -/
namespace Go.Proofs.YtjpmpjcenajmbaaDoor
set_option linter.unusedSimpArgs false
set_option linter.unusedVariables false
variable {pv : Int → Int → Int}
open Go.RowKit Eng
theorem SQ_false {r i s : Int} (h : DV r i s = false) : SQ r i s = false := by unfold SQ; rw [h]; rfl
def outNm : SVal := .tup [.one (ai (.app 12 0 (vs 3))), .one (.bool (.app 3 0 (vs 3)))]
theorem outNm_yes {r i s : Int} (h : DV r i s = true) : outNm.den (envOf [r, i, s] (FI pv) FB) Pl.no = .tuple #[.int .i64 (NM r i s), .bool true] := by
  have e0 : FI pv 12 0 [r, i, s] = NM r i s := if_pos h
  show (Value.tuple #[.int .i64 (FI pv 12 0 [r, i, s]), .bool (DV r i s)]) = _
  rw [e0, h]
theorem outNm_no {r i s : Int} (h : DV r i s = false) : outNm.den (envOf [r, i, s] (FI pv) FB) Pl.no = .tuple #[.int .i64 0, .bool false] := by
  have hn : ¬ DV r i s = true := by rw [h]; decide
  have e0 : FI pv 12 0 [r, i, s] = 0 := if_neg hn
  show (Value.tuple #[.int .i64 (FI pv 12 0 [r, i, s]), .bool (DV r i s)]) = _
  rw [e0, h]
def outMk : SVal := .tup [og (oapps 4 3 (vs 3)), .one (.bool (.app 4 0 (vs 3)))]
def e_iMake : CEnt := ⟨35, [0, 0, 0], none, outMk⟩
theorem ok_iMake (w : World) : e_iMake.ok Tryd.prog w (FI pv) FB := by
  refine ⟨enters_of Tryd.func35 rfl (by kernel_rfl), fun zs hz hp w' hb => ?_⟩
  obtain ⟨r, i, s, rfl⟩ := len3 hz
  show Calls _ _ _ _ (Gives (.tuple #[.agg #[.int .i64 (FI pv 4 0 [r, i, s]), .int .i64 (FI pv 4 1 [r, i, s]), .int .i64 (FI pv 4 2 [r, i, s])], .bool (MK r i s)]) _)
  cases h : MK r i s
  · have hn : ¬ MK r i s = true := by rw [h]; decide
    rw [show FI pv 4 0 [r, i, s] = 0 from if_neg hn, show FI pv 4 1 [r, i, s] = 0 from if_neg hn, show FI pv 4 2 [r, i, s] = 0 from if_neg hn]
    exact impl_DyadMake_no r i s w' h
  · rw [show FI pv 4 0 [r, i, s] = lR r i s from if_pos h, show FI pv 4 1 [r, i, s] = lI r i s from if_pos h, show FI pv 4 2 [r, i, s] = lS r i s from if_pos h]
    exact impl_DyadMake_yes r i s w' h
end Go.Proofs.YtjpmpjcenajmbaaDoor
/- Contracts of the laws' own questions on words; digits; the context. -/
namespace Go.Proofs.YtjpmpjcenajmbaaDoor
set_option linter.unusedSimpArgs false
set_option linter.unusedVariables false
variable {pv : Int → Int → Int}
open Go.RowKit Eng
/-- Words that are 0 or normal. -/
theorem good_cases {a : Int} (h : (a == 0 || nrm a) = true) : a = 0 ∨ ∃ x : Nat, a = x ∧ Fl.Nrm x ∧ a ≠ 0 := by
  by_cases h0 : a = 0
  · exact Or.inl h0
  · rw [beq_eq_false_iff_ne.2 h0, Bool.false_or] at h
    obtain ⟨x, hx, hN⟩ := nrm_of h
    exact Or.inr ⟨x, hx, hN, h0⟩
theorem b114_dw (r i s : Int) : FB 114 0 [FI pv 112 0 [r, i, s], FI pv 112 1 [r, i, s]] = true := by
  show ((FI pv 112 0 [r, i, s] == 0 || nrm (FI pv 112 0 [r, i, s])) && (FI pv 112 1 [r, i, s] == 0 || nrm (FI pv 112 1 [r, i, s]))) = true
  cases h : DV r i s
  · rw [f112a' h, f112b' h]; rfl
  · obtain ⟨h1, h2, h3, h4⟩ := dv_rngF h
    rw [f112a h, f112b h, DWi_good (by omega) (by omega) h3 h4, DWi_good (by omega) (by omega) h3 h4]; rfl
/-- Few digits. -/
theorem bl_upper : ∀ (k : Nat) (x : Int), 0 ≤ x → x ≤ 18446744073709551615 → bl x ≤ k → x < 2 ^ k
  | 0, x, h0, h1, h => by
    by_cases hx : x = 0
    · subst hx; decide
    · have := bl_pos (n := x) (by omega) h1; omega
  | k + 1, x, h0, h1, h => by
    by_cases hx : x = 0
    · subst hx; exact pos2 _
    · have h2 := bl_half (n := x) (by omega) h1
      have := bl_upper k (x / 2) (by omega) (by omega) (by omega)
      rw [Int.pow_succ]; omega
theorem BT_split {n : Int} (h : n ≠ 0) (hb : n.natAbs ≤ 4611686018427387904) : ∃ m k : Nat, n.natAbs = m * 2 ^ k ∧ ∀ K : Nat, BT n ≤ K → m < 2 ^ K := by
  obtain ⟨m, hm, hn⟩ := tz_split n.natAbs n.natAbs (by omega) (by omega) (by omega)
  refine ⟨(2 * m + 1).toNat, (tz n.natAbs).toNat, ?_, fun K hK => ?_⟩
  · have e : ((n.natAbs : Nat) : Int) = (((2 * m + 1).toNat * 2 ^ (tz n.natAbs).toNat : Nat) : Int) := by
      rw [Fl.cast_mul_pow, show (((2 * m + 1).toNat : Nat) : Int) = 2 * m + 1 by omega, Int.mul_comm]; exact hn
    exact Int.ofNat_inj.1 e
  · unfold BT at hK
    rw [if_neg h] at hK
    have ho := bl_odd (n := (n.natAbs : Int)) (by omega) (by omega)
    have hp := pos2 (tz n.natAbs).toNat
    have hq : (n.natAbs : Int) / 2 ^ (tz n.natAbs).toNat = 2 * m + 1 := by
      generalize (tz n.natAbs).toNat = t at hn hp ⊢
      rw [hn]
      exact Int.mul_ediv_cancel_left _ (by omega)
    rw [hq] at ho
    have hle : 2 * m + 1 ≤ (n.natAbs : Int) := by rw [← hq]; exact Int.ediv_le_self _ (by omega)
    have := bl_upper K (2 * m + 1) (by omega) (by omega) (by omega)
    have c : ((2 * m + 1).toNat : Int) < ((2 ^ K : Nat) : Int) := by rw [Int.natCast_pow]; show _ < (2 : Int) ^ K; omega
    omega
def GD1 : List CEnt := [e_ldexp, e_iDWide, e_iSq, e_sSq, e_iMake] ++ GT3
theorem GD1_ok : ∀ e ∈ GD1, ∀ w : World, Tb w → e.ok Tryd.prog w (FI pv) FB := by
  intro e he w hT
  rcases List.mem_append.1 he with he | he
  case inr => exact GT3_ok e he w hT
  simp only [List.mem_cons, List.not_mem_nil, or_false] at he
  rcases he with rfl | rfl | rfl | rfl | rfl
  · exact ok_ldexp w
  · exact ok_iDWide w
  · exact ok_iSq w
  · exact ok_sSq w
  · exact ok_iMake w
def XFD1c (P : Program) : Cx := { P := P, G := GD1, en := enF3, call := nil0, L := [], R := [], ext := xF }
noncomputable def XFD1 : Cx := XFD1c Tryd.prog
theorem XFD1_ok (w : World) (hT : Tb w) (E : Env) (hi : E.fi = FI pv) (hb : E.fb = FB) : XOk XFD1 w E := xokT GD1_ok enF3_ok (fun _ h => by cases h) (fun _ h => by cases h) xF_ok w hT E hi hb
end Go.Proofs.YtjpmpjcenajmbaaDoor
/- Words of exact numbers with few digits fit single numbers. -/
namespace Go.Proofs.YtjpmpjcenajmbaaDoor
set_option linter.unusedSimpArgs false
set_option linter.unusedVariables false
open Go.RowKit Eng
theorem pow_mul_eq {n : Int} {a b c d : Nat} (h : a + b = c + d) : n * 2 ^ a * 2 ^ b = n * 2 ^ c * 2 ^ d := by
  rw [Int.mul_assoc, Int.mul_assoc, ← Int.pow_add, ← Int.pow_add, h]
theorem DWi_V {n s : Int} (hn : n.natAbs ≤ 1073741824) (hs : 0 ≤ s ∧ s ≤ 60) : Fl.V Ieee.double (DWi n s).toNat (n * 2 ^ (1074 - s.toNat)) := by
  unfold DWi; rw [Int.toNat_natCast]; exact Fl.V_DWn (by omega) (by omega)
theorem fits_dw {n s : Int} (hn : n.natAbs ≤ 1073741824) (hs : 0 ≤ s ∧ s ≤ 60) (hb : BT n ≤ 24) : ∃ r q : Nat, cvI .f64 (DWi n s).toNat = some r ∧ cvI .f32 r = some q ∧ (ordI (Ieee.double.order (DWi n s).toNat q) == 0) = true := by
  have hV := DWi_V hn hs
  by_cases h0 : n = 0
  · subst h0; exact ⟨0, 0, by kernel_rfl, by kernel_rfl, by kernel_rfl⟩
  · obtain ⟨m, k, hm, hk⟩ := BT_split h0 (by omega)
    have hm24 := hk 24 hb
    have hr : Fl.Rep Ieee.single (n * 2 ^ (149 - s.toNat)).natAbs := by
      rw [Fl.natAbs_mul_pow]
      refine ⟨⟨m, k + (149 - s.toNat), by rw [hm, Nat.pow_add, Nat.mul_assoc], Nat.lt_of_lt_of_le hm24 (by decide)⟩, ?_⟩
      exact Fl.mul_pow_lt (a := n.natAbs) (b := 31) (k := 149 - s.toNat) (by omega) (Nat.le_trans (Nat.add_le_add_left (Nat.sub_le 149 _) 31) (by decide))
    obtain ⟨r, h1, h2⟩ := Fl.V_narrow (w := n * 2 ^ (149 - s.toNat)) hV (pow_mul_eq (by omega)) hr
    obtain ⟨q, h3, h4⟩ := Fl.V_widen (w := n * 2 ^ (1074 - s.toNat)) h2 (pow_mul_eq (by omega)) (Fl.rep_dbl (by omega) (by omega))
    exact ⟨r, q, h1, h3, by rw [Fl.V_eq hV h4]; rfl⟩
/-- A word is 0, and one over it is above; or it is not 0. -/
theorem zero_or {n s : Int} (hn : n.natAbs ≤ 1073741824) (hs : 0 ≤ s ∧ s ≤ 60) :
    ((ordI (Ieee.double.order (DWi n s).toNat 0) == 0) = true ∧ decide (0 ≤ oInt (Ieee.double.div 4607182418800017408 (DWi n s).toNat)) = true ∧ (ordI (Ieee.double.order (oInt (Ieee.double.div 4607182418800017408 (DWi n s).toNat)).toNat 0) == 1) = true) ∨
    (ordI (Ieee.double.order (DWi n s).toNat 0) == 0) = false := by
  by_cases h0 : n = 0
  · subst h0; left; exact ⟨by kernel_rfl, by kernel_rfl, by kernel_rfl⟩
  · right
    have hN := (Fl.DWn_nrm (n := n) (s := s.toNat) h0 (by omega) (by omega)).1
    unfold DWi; rw [Int.toNat_natCast]
    exact ordI_ne (k := .eq) (Fl.order_zero hN)
end Go.Proofs.YtjpmpjcenajmbaaDoor
/- Squares and norms of words of exact numbers with few digits. -/
namespace Go.Proofs.YtjpmpjcenajmbaaDoor
set_option linter.unusedSimpArgs false
set_option linter.unusedVariables false
open Go.RowKit Eng
theorem digits_mul {r x : Int} (hr : r.natAbs ≤ 1073741824) (hx : x.natAbs ≤ 1073741824) (br : BT r ≤ 26) (bx : BT x ≤ 26) : ∃ m k : Nat, (r * x).natAbs = m * 2 ^ k ∧ m < 4503599627370496 ∧ (r * x).natAbs ≤ 1152921504606846976 := by
  have hle : (r * x).natAbs ≤ 1152921504606846976 := by
    rw [Int.natAbs_mul]
    calc r.natAbs * x.natAbs ≤ 1073741824 * 1073741824 := Nat.mul_le_mul hr hx
      _ = 1152921504606846976 := rfl
  by_cases h0 : r = 0
  · exact ⟨0, 0, by subst h0; simp, by decide, hle⟩
  by_cases h1 : x = 0
  · exact ⟨0, 0, by subst h1; simp, by decide, hle⟩
  obtain ⟨m, k, e1, e2⟩ := BT_split h0 (by omega)
  obtain ⟨n, j, e3, e4⟩ := BT_split h1 (by omega)
  refine ⟨m * n, k + j, ?_, ?_, hle⟩
  · rw [Int.natAbs_mul, e1, e3, Nat.pow_add]
    simp only [Nat.mul_assoc, Nat.mul_left_comm]
  · have a := e2 26 br
    have b := e4 26 bx
    calc m * n < 2 ^ 26 * 2 ^ 26 := Nat.mul_lt_mul'' a b
      _ = 4503599627370496 := rfl
theorem prod_word {r x s : Int} (hr : r.natAbs ≤ 1073741824) (hx : x.natAbs ≤ 1073741824) (hs : 0 ≤ s ∧ s ≤ 60) (br : BT r ≤ 26) (bx : BT x ≤ 26) :
    ∃ z, Ieee.double.mul (DWi r s).toNat (DWi x s).toNat = some z ∧ Fl.V Ieee.double z (r * x * 2 ^ (1074 - (s.toNat + s.toNat))) := by
  obtain ⟨m, k, h1, h2, h3⟩ := digits_mul hr hx br bx
  exact Fl.V_prod (DWi_V hr hs) (DWi_V hx hs) (by omega) h1 (by omega) (Nat.lt_of_le_of_lt h3 (by decide))
theorem V_two : Fl.V Ieee.double 4611686018427387904 (2 * 2 ^ (1074 - 0)) := Fl.V_FW (n := 2) (by decide)
/-- The square's real part; its imaginary part. -/
theorem square_word {r i s R I S : Int} {m : Nat} (hr : r.natAbs ≤ 1073741824) (hi : i.natAbs ≤ 1073741824) (hR : R.natAbs ≤ 1073741824) (hI : I.natAbs ≤ 1073741824) (hs : 0 ≤ s ∧ s ≤ 60) (hS : 0 ≤ S ∧ S ≤ 60) (br : BT r ≤ 26) (bi : BT i ≤ 26)
    (e1 : 2 * s = S + m) (e2 : SR r i = R * 2 ^ m) (e3 : SI r i = I * 2 ^ m) : ∃ a b c d e : Nat, Ieee.double.mul (DWi r s).toNat (DWi r s).toNat = some a ∧ Ieee.double.mul (DWi i s).toNat (DWi i s).toNat = some b ∧ Ieee.double.sub a b = some c ∧
      Ieee.double.mul (DWi r s).toNat (DWi i s).toNat = some d ∧ Ieee.double.mul 4611686018427387904 d = some e ∧ (ordI (Ieee.double.order (DWi R S).toNat c) == 0) = true ∧ (ordI (Ieee.double.order (DWi I S).toNat e) == 0) = true := by
  obtain ⟨a, a1, a2⟩ := prod_word hr hr hs br br
  obtain ⟨b, b1, b2⟩ := prod_word hi hi hs bi bi
  obtain ⟨d, d1, d2⟩ := prod_word hr hi hs br bi
  obtain ⟨J, hJ⟩ : ∃ J, 1074 - (s.toNat + s.toNat) = J := ⟨_, rfl⟩
  have hJS : 1074 - S.toNat = m + J := by omega
  have ec : r * r * 2 ^ J - i * i * 2 ^ J = R * 2 ^ (1074 - S.toNat) := by
    rw [← Int.sub_mul, hJS, Int.pow_add, ← Int.mul_assoc, ← e2]; rfl
  rw [hJ] at a2 b2 d2
  obtain ⟨c, c1, c2⟩ := Fl.V_sub Fl.std a2 b2 (by rw [ec]; exact Fl.rep_dbl (by omega) (by omega))
  rw [ec] at c2
  obtain ⟨mm, kk, f1, f2, f3⟩ := digits_mul hr hi br bi
  rw [← hJ] at d2
  obtain ⟨e, g1, g2⟩ := Fl.V_prod (m := mm) (k := kk + 1) V_two d2 (by omega) (by rw [Int.natAbs_mul, f1, Nat.pow_succ, Nat.mul_comm (2 ^ kk) 2, Nat.mul_left_comm]; rfl) (by omega) (by
    rw [Int.natAbs_mul]
    exact Nat.lt_of_le_of_lt (Nat.mul_le_mul_left 2 f3) (by decide))
  have ee : 2 * (r * i) * 2 ^ (1074 - (0 + (s.toNat + s.toNat))) = I * 2 ^ (1074 - S.toNat) := by
    rw [Nat.zero_add, hJ, hJS, Int.pow_add, ← Int.mul_assoc I, ← e3]
    unfold SI
    rw [Int.mul_assoc 2 r i]
  rw [ee] at g2
  exact ⟨a, b, c, d, e, a1, b1, c1, d1, g1, by rw [Fl.V_eq (DWi_V hR hS) c2]; rfl, by rw [Fl.V_eq (DWi_V hI hS) g2]; rfl⟩
theorem V_four : Fl.V Ieee.double 4616189618054758400 (4 * 2 ^ 1074) := Fl.V_FW (n := 4) (by decide)
theorem NM_cases {r i s : Int} (hs : s ≤ 20) : ordI (some (compare (r * r + i * i) (F4 s))) = NM r i s := by
  unfold NM
  have hn : ¬ 30 ≤ s := by omega
  by_cases h1 : r * r + i * i < F4 s
  · rw [if_pos (Or.inr h1), Int.compare_eq_lt.2 h1]; rfl
  · rw [if_neg (by omega)]
    by_cases h2 : r * r + i * i = F4 s
    · rw [if_pos h2, Int.compare_eq_eq.2 h2]; rfl
    · rw [if_neg h2, Int.compare_eq_gt.2 (by omega)]; rfl
theorem NM_three (r i s : Int) : NM r i s = -1 ∨ NM r i s = 0 ∨ NM r i s = 1 := by
  unfold NM; split
  · exact Or.inl rfl
  · split
    · exact Or.inr (Or.inl rfl)
    · exact Or.inr (Or.inr rfl)
theorem compare_mul {a b : Int} (k : Nat) : compare (a * 2 ^ k) (b * 2 ^ k) = compare a b := by
  have hp : (0 : Int) < 2 ^ k := Int.pow_pos (by decide)
  have l1 : (a * 2 ^ k < b * 2 ^ k) ↔ a < b := ⟨fun h => Int.lt_of_mul_lt_mul_right h (Int.le_of_lt hp), fun h => Int.mul_lt_mul_of_pos_right h hp⟩
  have l2 : (a * 2 ^ k = b * 2 ^ k) ↔ a = b := ⟨fun h => Int.eq_of_mul_eq_mul_right (by omega) h, fun h => by rw [h]⟩
  simp only [compare, compareOfLessAndEq, l1, l2]
/-- The norm of words: always there; with few digits, its order against 4 is the number's. -/
theorem norm_word {r i s : Int} (hr : r.natAbs ≤ 1073741824) (hi : i.natAbs ≤ 1073741824) (hs : 0 ≤ s ∧ s ≤ 60) : ∃ a b c : Nat, Ieee.double.mul (DWi r s).toNat (DWi r s).toNat = some a ∧ Ieee.double.mul (DWi i s).toNat (DWi i s).toNat = some b ∧ Ieee.double.add a b = some c ∧
    (BT r ≤ 26 → BT i ≤ 26 → s ≤ 20 → r.natAbs ≤ 33554432 → i.natAbs ≤ 33554432 → ordI (Ieee.double.order c 4616189618054758400) = NM r i s) := by
  obtain ⟨a, b, c, h1, h2, h3⟩ := Fl.sqsum Fl.std (DWi_V hr hs) (DWi_V hi hs)
  refine ⟨a, b, c, h1, h2, h3, fun br bi h20 hr' hi' => ?_⟩
  obtain ⟨a', a1, a2⟩ := prod_word hr hr hs br br
  obtain ⟨b', b1, b2⟩ := prod_word hi hi hs bi bi
  rw [h1] at a1; rw [h2] at b1
  cases a1; cases b1
  obtain ⟨J, hJ⟩ : ∃ J, 1074 - (s.toNat + s.toNat) = J := ⟨_, rfl⟩
  rw [hJ] at a2 b2
  have q1 : r * r ≤ 1125899906842624 ∧ 0 ≤ r * r := by
    have : (r * r).natAbs ≤ 33554432 * 33554432 := by rw [Int.natAbs_mul]; exact Nat.mul_le_mul hr' hr'
    have : 0 ≤ r * r := by rcases Int.le_total 0 r with h | h; exact Int.mul_nonneg h h; exact Int.mul_nonneg_of_nonpos_of_nonpos h h
    omega
  have q2 : i * i ≤ 1125899906842624 ∧ 0 ≤ i * i := by
    have : (i * i).natAbs ≤ 33554432 * 33554432 := by rw [Int.natAbs_mul]; exact Nat.mul_le_mul hi' hi'
    have : 0 ≤ i * i := by rcases Int.le_total 0 i with h | h; exact Int.mul_nonneg h h; exact Int.mul_nonneg_of_nonpos_of_nonpos h h
    omega
  obtain ⟨c', c1, c2⟩ := Fl.V_add Fl.std a2 b2 (by rw [← Int.add_mul]; exact Fl.rep_dbl (by omega) (by omega))
  rw [h3] at c1; cases c1
  have e4 : (4 : Int) * 2 ^ 1074 = F4 s * 2 ^ J := by
    unfold F4
    obtain ⟨l, hl⟩ : ∃ l : Nat, l = 1074 := ⟨_, rfl⟩
    rw [← hl] at hJ ⊢
    rw [Int.mul_assoc, ← Int.pow_add, show (2 * s).toNat + J = l by omega]
  rw [Fl.V_order c2 V_four, e4, ← Int.add_mul, compare_mul, NM_cases h20]
theorem sq_parts {r i s : Int} (h : SQ r i s = true) : DV r i s = true ∧ DV (lR (SR r i) (SI r i) (2 * s)) (lI (SR r i) (SI r i) (2 * s)) (lS (SR r i) (SI r i) (2 * s)) = true := by
  unfold SQ MK at h
  simp only [Bool.and_eq_true] at h
  exact ⟨h.1, h.2.2⟩
theorem SR_neg (r i : Int) : SR (-r) (-i) = SR r i := by unfold SR; rw [Int.neg_mul_neg, Int.neg_mul_neg]
theorem SI_neg (r i : Int) : SI (-r) (-i) = SI r i := by unfold SI; simp [Int.mul_neg, Int.neg_mul]
theorem SQ_neg (r i s : Int) : SQ (-r) (-i) s = SQ r i s := by unfold SQ; rw [SR_neg, SI_neg, DV_neg]
end Go.Proofs.YtjpmpjcenajmbaaDoor
