import Derived.Test.YtjpmpjcenajmbaaDoorMBi
import Derived.Test.YtjpmpjcenajmbaaDoorTz
import Derived.Test.YtjpmpjcenajmbaaDoorLn
/- The library's counts, as contracts where its table lies as its text lays it; contexts over such worlds. -/
namespace Go.Proofs.YtjpmpjcenajmbaaDoor
set_option linter.unusedSimpArgs false
set_option linter.unusedVariables false
variable {pv : Int → Int → Int}
open Go.RowKit Eng
/-- A contract by the reckoner, in worlds that hold the table. -/
theorem by_treeT {X : Cx} {fi : Nat → Nat → List Int → Int} {fb : Nat → Nat → List Int → Bool} {fuel d : Nat} {e : CEnt} (hen : Enters X.P e.f) (hX : ∀ w zs, Tb w → XOk X w (envOf zs fi fb)) (hm : X.P.follows .mixedOrders = true)
    (h : ∀ zs : List Int, zs.length = insLen e.ins → (∀ c, e.pre = some c → c.den (envOf zs fi fb) = true) → (explore X fuel e.f (lettersFrom 0 e.ins) d []).den (envOf zs fi fb) = some (e.out.den (envOf zs fi fb) Pl.no)) (w0 : World) (hT : Tb w0) : e.ok X.P w0 fi fb := by
  refine ⟨hen, fun zs hz hp w hb => ?_⟩
  have := explore_ok (hX w zs (hT.below (Hb.below hb))) hm d [] (fun p hp => by cases hp) (h zs hz hp)
  rwa [letters_den fi fb zs e.ins 0 zs hz (fun i _ => by simp)] at this
/-- A context over contracts that hold in such worlds. -/
theorem xokT {G : List CEnt} {en : List Nat} {L : List LEnt} {R : List REnt} {xs : List CEnt} (hG : ∀ e ∈ G, ∀ w : World, Tb w → e.ok Tryd.prog w (FI pv) FB) (hen : ∀ f ∈ en, Enters Tryd.prog f) (hL : ∀ e ∈ L, ∀ w : World, Tb w → e.ok Tryd.prog w (FI pv) FB) (hR : ∀ e ∈ R, ∀ w : World, Tb w → e.ok Tryd.prog w (FI pv) FB) (hx : ∀ e ∈ xs, e.okX Tryd.prog (FI pv) FB) (w : World) (hT : Tb w) (E : Env) (hi : E.fi = FI pv) (hb : E.fb = FB) : XOk { P := Tryd.prog, G := G, en := en, call := nil0, L := L, R := R, ext := xs } w E :=
  { g := (fun e he => by rw [hi, hb]; exact hG e he w hT), en := hen, call := (fun _ _ _ _ _ h => by cases h), l := (fun e he => by rw [hi, hb]; exact hL e he w hT), d := (fun _ _ h => by cases h), r := (fun e he => by rw [hi, hb]; exact hR e he w hT), x := (fun e he => by rw [hi, hb]; exact hx e he) }
def e_len64 : CEnt := ⟨60, [1000], some (.app 105 0 (vs 1)), oi (.app 90 0 (vs 1))⟩
theorem ok_len64 (w : World) : e_len64.ok Tryd.prog w (FI pv) FB := by
  refine ⟨enters_of Tryd.func60 rfl (by kernel_rfl), fun zs hz hp w' hb => ?_⟩
  obtain ⟨a, rfl⟩ := len1 hz
  have hp : (decide (0 ≤ a) && decide (a ≤ 18446744073709551615)) = true := hp _ rfl
  simp only [Bool.and_eq_true, decide_eq_true_eq] at hp
  show Calls _ _ #[.int .u64 a] _ _
  refine (bits_Len64 a w' hp.1 hp.2).mono ?_
  rintro e w1 ⟨rfl, rfl⟩
  exact ⟨rfl, Below.refl _ _⟩
def e_tz64 : CEnt := ⟨58, [1000], some (.app 105 0 (vs 1)), oi (.app 91 0 (vs 1))⟩
theorem ok_tz64 (w : World) (hT : Tb w) : e_tz64.ok Tryd.prog w (FI pv) FB := by
  refine ⟨enters_of Tryd.func58 rfl (by kernel_rfl), fun zs hz hp w' hb => ?_⟩
  obtain ⟨a, rfl⟩ := len1 hz
  have hp : (decide (0 ≤ a) && decide (a ≤ 18446744073709551615)) = true := hp _ rfl
  simp only [Bool.and_eq_true, decide_eq_true_eq] at hp
  obtain ⟨n, rfl⟩ : ∃ n : Nat, a = n := ⟨a.toNat, by omega⟩
  show Calls _ _ #[.int .u64 (n : Int)] _ _
  refine (bits_TrailingZeros64 n (by omega) w' (hT.below (Hb.below hb))).mono ?_
  rintro e w1 ⟨rfl, rfl⟩
  exact ⟨rfl, Below.refl _ _⟩
def GT1 : List CEnt := [e_len64, e_tz64] ++ G2
theorem GT1_ok : ∀ e ∈ GT1, ∀ w : World, Tb w → e.ok Tryd.prog w (FI pv) FB := by
  intro e he w hT
  rcases List.mem_append.1 he with he | he
  case inr => exact G2_ok e he w
  simp only [List.mem_cons, List.not_mem_nil, or_false] at he
  rcases he with rfl | rfl
  · exact ok_len64 w
  · exact ok_tz64 w hT
def XT1c (P : Program) : Cx := { P := P, G := GT1, en := enB0, call := nil0, L := [], R := [], ext := [] }
noncomputable def XT1 : Cx := XT1c Tryd.prog
theorem XT1_ok (w : World) (hT : Tb w) (E : Env) (hi : E.fi = FI pv) (hb : E.fb = FB) : XOk XT1 w E := xokT GT1_ok enB0_ok (fun _ h => by cases h) (fun _ h => by cases h) (fun _ h => by cases h) w hT E hi hb
end Go.Proofs.YtjpmpjcenajmbaaDoor
/- The program's count of digits; how many digits an exact number needs, both. -/
namespace Go.Proofs.YtjpmpjcenajmbaaDoor
set_option linter.unusedSimpArgs false
set_option linter.unusedVariables false
variable {pv : Int → Int → Int}
open Go.RowKit Eng
theorem wrap_u_in {x : Int} (h : 0 ≤ x) (h' : x ≤ 18446744073709551615) : IntKind.u64.wrap x = x := by
  simp [IntKind.wrap, IntKind.bits, IntKind.signed]; omega
def e_digs : CEnt := ⟨38, [0], some (.app 106 0 (vs 1)), oi (.app 92 0 (vs 1))⟩
def t_digs : Tree := (.node (.cmp .eq (.var 0) (.lit 0)) (.leaf (.cv (.one (.int .i64 (.lit 0))))) (.node (.app 105 0 (.cons (.wrap .u64 (.bin .imax .i64 (.var 0) (.wrap .i64 (.bin .sub .i64 (.lit 0) (.var 0))))) .nil)) (.leaf (.cv (.one (.int .i64 (.wrap .i64 (.bin .sub .i64 (.app 90 0 (.cons (.wrap .u64 (.bin .imax .i64 (.var 0) (.wrap .i64 (.bin .sub .i64 (.lit 0) (.var 0))))) .nil)) (.app 91 0 (.cons (.wrap .u64 (.bin .imax .i64 (.var 0) (.wrap .i64 (.bin .sub .i64 (.lit 0) (.var 0))))) .nil)))))))) (.dead 47)))
theorem t_digs_eq : explore XT1 200 38 (lettersFrom 0 [0]) 40 [] = t_digs := by kernel_rfl
theorem ok_digs (w : World) (hT : Tb w) : e_digs.ok Tryd.prog w (FI pv) FB := by
  refine by_treeT (e := e_digs) (fi := FI pv) (fb := FB) (X := XT1) (fuel := 200) (d := 40) (enters_of Tryd.func38 rfl (by kernel_rfl)) (fun w zs hT => XT1_ok w hT _ rfl rfl) mixed (fun zs hz hp => ?_) w hT
  obtain ⟨a, rfl⟩ := len1 hz
  show (explore XT1 200 38 (lettersFrom 0 [0]) 40 []).den _ = _
  rw [t_digs_eq]
  clear hz
  replace hp : (decide (-9223372036854775807 ≤ a) && decide (a ≤ 9223372036854775807)) = true := hp _ rfl
  show Tree.den _ t_digs = some (.int .i64 (BT a))
  simp only [t_digs, Tree.den, SVal.den, CV.den, At.den, SE.den, SB.den, SL.den, IOp.den, COp.den, envOf, List.map_cons, List.map_nil, List.getD_cons_zero, List.getD_cons_succ]
  simp only [Bool.and_eq_true, decide_eq_true_eq] at hp
  unfold BT
  rw [cond_beq]
  by_cases h0 : a = 0
  · rw [if_pos h0, if_pos h0]
  · rw [if_neg h0, if_neg h0, wrap_in (by omega) (by omega), show (if 0 - a > a then 0 - a else a) = (a.natAbs : Int) by split <;> omega, wrap_u_in (by omega) (by omega)]
    have e0 : FB 105 0 [(a.natAbs : Int)] = true := by
      show (decide (0 ≤ (a.natAbs : Int)) && decide ((a.natAbs : Int) ≤ 18446744073709551615)) = true
      simp only [Bool.and_eq_true, decide_eq_true_eq]; omega
    have e1 : FI pv 90 0 [(a.natAbs : Int)] = bl a.natAbs := rfl
    have e2 : FI pv 91 0 [(a.natAbs : Int)] = tz a.natAbs := rfl
    have t1 := tz_lt (n := (a.natAbs : Int)) (by omega) (by omega)
    have t2 := tz_nonneg (a.natAbs : Int)
    have t3 := bl_le (n := (a.natAbs : Int)) 64 (by omega) (by omega)
    rw [e0, e1, e2, wrap_in (by omega) (by omega)]; rfl
def GT2 : List CEnt := [e_digs] ++ GT1
theorem GT2_ok : ∀ e ∈ GT2, ∀ w : World, Tb w → e.ok Tryd.prog w (FI pv) FB := by
  intro e he w hT
  rcases List.mem_append.1 he with he | he
  case inr => exact GT1_ok e he w hT
  simp only [List.mem_cons, List.not_mem_nil, or_false] at he
  rcases he with rfl
  · exact ok_digs w hT
def XT2c (P : Program) : Cx := { P := P, G := GT2, en := enB0, call := nil0, L := [], R := [], ext := [] }
noncomputable def XT2 : Cx := XT2c Tryd.prog
theorem XT2_ok (w : World) (hT : Tb w) (E : Env) (hi : E.fi = FI pv) (hb : E.fb = FB) : XOk XT2 w E := xokT GT2_ok enB0_ok (fun _ h => by cases h) (fun _ h => by cases h) (fun _ h => by cases h) w hT E hi hb
end Go.Proofs.YtjpmpjcenajmbaaDoor
/- How many digits an exact number needs: the contracts of both. -/
namespace Go.Proofs.YtjpmpjcenajmbaaDoor
set_option linter.unusedSimpArgs false
set_option linter.unusedVariables false
variable {pv : Int → Int → Int}
open Go.RowKit Eng
def outBt : SVal := .tup [.one (ai (.app 93 0 (vs 3))), .one (.bool (.app 3 0 (vs 3)))]
theorem f93 (r i s : Int) : FI pv 93 0 [r, i, s] = if DV r i s then max (BT r) (BT i) else 0 := rfl
theorem f92 (n : Int) : FI pv 92 0 [n] = BT n := rfl
theorem b3 (r i s : Int) : FB 3 0 [r, i, s] = DV r i s := rfl
theorem b106 {n : Int} (h : -1073741824 ≤ n) (h' : n ≤ 1073741824) : FB 106 0 [n] = true := by
  show (decide (-9223372036854775807 ≤ n) && decide (n ≤ 9223372036854775807)) = true
  simp only [Bool.and_eq_true, decide_eq_true_eq]; omega
theorem dv_rng {r i s : Int} (h : DV r i s = true) : (-1073741824 ≤ r ∧ r ≤ 1073741824) ∧ (-1073741824 ≤ i ∧ i ≤ 1073741824) ∧ 0 ≤ s ∧ s ≤ 60 := by
  obtain ⟨a1, a2, a3, a4, a5, a6, _⟩ := (DV_iff r i s).1 h
  exact ⟨⟨by omega, by omega⟩, ⟨by omega, by omega⟩, by omega, by omega⟩
def e_iBits : CEnt := ⟨13, [3], none, outBt⟩
def t_iBits : Tree := (.node (.app 3 0 (.cons (.var 0) (.cons (.var 1) (.cons (.var 2) .nil)))) (.node (.app 106 0 (.cons (.var 0) .nil)) (.node (.app 106 0 (.cons (.var 1) .nil)) (.leaf (.tup [(.one (.int .i64 (.bin .imax .i64 (.app 92 0 (.cons (.var 0) .nil)) (.app 92 0 (.cons (.var 1) .nil))))), (.one (.bool (.lit true)))])) (.dead 47)) (.dead 47)) (.leaf (.tup [(.one (.int .i64 (.lit 0))), (.one (.bool (.lit false)))])))
theorem t_iBits_eq : explore XT2 200 13 (lettersFrom 0 [3]) 40 [] = t_iBits := by kernel_rfl
theorem ok_iBits (w : World) (hT : Tb w) : e_iBits.ok Tryd.prog w (FI pv) FB := by
  refine by_treeT (e := e_iBits) (fi := FI pv) (fb := FB) (X := XT2) (fuel := 200) (d := 40) (enters_of Tryd.func13 rfl (by kernel_rfl)) (fun w zs hT => XT2_ok w hT _ rfl rfl) mixed (fun zs hz hp => ?_) w hT
  obtain ⟨a, b, c, rfl⟩ := len3 hz
  show (explore XT2 200 13 (lettersFrom 0 [3]) 40 []).den _ = _
  rw [t_iBits_eq]
  clear hz
  clear hp
  show Tree.den _ t_iBits = some (.tuple #[.int .i64 (FI pv 93 0 [a, b, c]), .bool (FB 3 0 [a, b, c])])
  simp only [t_iBits, Tree.den, SVal.den, CV.den, At.den, SE.den, SB.den, SL.den, IOp.den, COp.den, envOf, List.map_cons, List.map_nil, List.getD_cons_zero, List.getD_cons_succ]
  simp only [ite_max]
  simp only [f93, f92, b3]
  cases h : DV a b c
  · rfl
  · obtain ⟨h1, h2, -⟩ := dv_rng h
    simp only [b106 h1.1 h1.2, b106 h2.1 h2.2, cond_true, if_true]
def GT3 : List CEnt := [e_iBits] ++ GT2
theorem GT3_ok : ∀ e ∈ GT3, ∀ w : World, Tb w → e.ok Tryd.prog w (FI pv) FB := by
  intro e he w hT
  rcases List.mem_append.1 he with he | he
  case inr => exact GT2_ok e he w hT
  simp only [List.mem_cons, List.not_mem_nil, or_false] at he
  rcases he with rfl
  · exact ok_iBits w hT
def XT3c (P : Program) : Cx := { P := P, G := GT3, en := enB0, call := nil0, L := [], R := [], ext := [] }
noncomputable def XT3 : Cx := XT3c Tryd.prog
theorem XT3_ok (w : World) (hT : Tb w) (E : Env) (hi : E.fi = FI pv) (hb : E.fb = FB) : XOk XT3 w E := xokT GT3_ok enB0_ok (fun _ h => by cases h) (fun _ h => by cases h) (fun _ h => by cases h) w hT E hi hb
end Go.Proofs.YtjpmpjcenajmbaaDoor
