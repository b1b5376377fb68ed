/- The contracts of squares and sums of exact numbers, and their context. -/
import Derived.Test.YtjpmpjcenajmbaaDoorBo2
import Derived.Test.YtjpmpjcenajmbaaDoorDyW6
import Derived.Test.YtjpmpjcenajmbaaDoorMRo
namespace Go.Proofs.YtjpmpjcenajmbaaDoor
set_option linter.unusedSimpArgs false
set_option linter.unusedVariables false
variable {pv : Int → Int → Int}
open Go.RowKit Eng
def outSq : SVal := .tup [og (oapps 11 3 (vs 3)), .one (.bool (.app 11 0 (vs 3)))]
def outAd : SVal := .tup [og (oapps 5 3 (vs 6)), .one (.bool (.app 5 0 (vs 6)))]
theorem outSq_yes {r i s : Int} (h : SQ r i s = true) : outSq.den (envOf [r, i, s] (FI pv) FB) Pl.no = .tuple #[.agg #[.int .i64 (lR (SR r i) (SI r i) (2 * s)), .int .i64 (lI (SR r i) (SI r i) (2 * s)), .int .i64 (lS (SR r i) (SI r i) (2 * s))], .bool true] := by
  have e3 : FB 11 0 [r, i, s] = SQ r i s := rfl
  have e0 : FI pv 11 0 [r, i, s] = lR (SR r i) (SI r i) (2 * s) := if_pos h
  have e1 : FI pv 11 1 [r, i, s] = lI (SR r i) (SI r i) (2 * s) := if_pos h
  have e2 : FI pv 11 2 [r, i, s] = lS (SR r i) (SI r i) (2 * s) := if_pos h
  show (Value.tuple #[.agg #[.int .i64 (FI pv 11 0 [r, i, s]), .int .i64 (FI pv 11 1 [r, i, s]), .int .i64 (FI pv 11 2 [r, i, s])], .bool (FB 11 0 [r, i, s])]) = _
  rw [e0, e1, e2, e3, h]
theorem outSq_no {r i s : Int} (h : SQ r i s = false) : outSq.den (envOf [r, i, s] (FI pv) FB) Pl.no = .tuple #[.agg #[.int .i64 0, .int .i64 0, .int .i64 0], .bool false] := by
  have hn : ¬ SQ r i s = true := by rw [h]; decide
  have e3 : FB 11 0 [r, i, s] = SQ r i s := rfl
  have e0 : FI pv 11 0 [r, i, s] = 0 := if_neg hn
  have e1 : FI pv 11 1 [r, i, s] = 0 := if_neg hn
  have e2 : FI pv 11 2 [r, i, s] = 0 := if_neg hn
  show (Value.tuple #[.agg #[.int .i64 (FI pv 11 0 [r, i, s]), .int .i64 (FI pv 11 1 [r, i, s]), .int .i64 (FI pv 11 2 [r, i, s])], .bool (FB 11 0 [r, i, s])]) = _
  rw [e0, e1, e2, e3, h]
theorem outAd_eq (r i s x y t : Int) : outAd.den (envOf [r, i, s, x, y, t] (FI pv) FB) Pl.no = ADV r i s x y t := by
  have e3 : FB 5 0 [r, i, s, x, y, t] = ADD r i s x y t := rfl
  show (Value.tuple #[.agg #[.int .i64 (FI pv 5 0 [r, i, s, x, y, t]), .int .i64 (FI pv 5 1 [r, i, s, x, y, t]), .int .i64 (FI pv 5 2 [r, i, s, x, y, t])], .bool (FB 5 0 [r, i, s, x, y, t])]) = _
  cases h : ADD r i s x y t
  · rw [ADV_no h]
    have hn : ¬ ADD r i s x y t = true := by rw [h]; decide
    have e0 : FI pv 5 0 [r, i, s, x, y, t] = 0 := if_neg hn
    have e1 : FI pv 5 1 [r, i, s, x, y, t] = 0 := if_neg hn
    have e2 : FI pv 5 2 [r, i, s, x, y, t] = 0 := if_neg hn
    rw [e0, e1, e2, e3, h]
  · rw [ADV_yes h]
    have e0 : FI pv 5 0 [r, i, s, x, y, t] = lR (AP r s x t) (AP i s y t) (max s t) := if_pos h
    have e1 : FI pv 5 1 [r, i, s, x, y, t] = lI (AP r s x t) (AP i s y t) (max s t) := if_pos h
    have e2 : FI pv 5 2 [r, i, s, x, y, t] = lS (AP r s x t) (AP i s y t) (max s t) := if_pos h
    rw [e0, e1, e2, e3, h]
theorem dv_i64 {r i s : Int} (h : DV r i s = true) : I64 r ∧ I64 i := by
  obtain ⟨a1, a2, a3, a4, a5, a6, _⟩ := (DV_iff r i s).1 h
  exact ⟨⟨by omega, by omega⟩, ⟨by omega, by omega⟩⟩
def e_iSq : CEnt := ⟨14, [3], none, outSq⟩
theorem ok_iSq (w : World) : e_iSq.ok Tryd.prog w (FI pv) FB := by
  refine ⟨enters_of Tryd.func14 rfl (by kernel_rfl), fun zs hz hp w' hb => ?_⟩
  obtain ⟨r, i, s, rfl⟩ := len3 hz
  show Calls _ _ _ _ (Gives (outSq.den _ _) _)
  cases h : SQ r i s
  · rw [outSq_no h]; exact impl_DyadSquare_no r i s w' h
  · rw [outSq_yes h]; exact impl_DyadSquare_yes r i s w' h
def e_sSq : CEnt := ⟨44, [3], some (.app 3 0 (vs 3)), outSq⟩
theorem ok_sSq (w : World) : e_sSq.ok Tryd.prog w (FI pv) FB := by
  refine ⟨enters_of Tryd.func44 rfl (by kernel_rfl), fun zs hz hp w' hb => ?_⟩
  obtain ⟨r, i, s, rfl⟩ := len3 hz
  replace hp : DV r i s = true := hp _ rfl
  show Calls _ _ _ _ (Gives (outSq.den _ _) _)
  cases h : SQ r i s
  · rw [outSq_no h]; exact spec_DyadSquare_no r i s w' (dv_i64 hp).1 (dv_i64 hp).2 h
  · rw [outSq_yes h]; exact spec_DyadSquare_yes r i s w' h
def e_iAdd : CEnt := ⟨37, [3, 3], none, outAd⟩
theorem ok_iAdd (w : World) : e_iAdd.ok Tryd.prog w (FI pv) FB := by
  refine ⟨enters_of Tryd.func37 rfl (by kernel_rfl), fun zs hz hp w' hb => ?_⟩
  obtain ⟨r, i, s, x, y, t, rfl⟩ := len6 hz
  show Calls _ _ _ _ (Gives (outAd.den _ _) _)
  rw [outAd_eq]; exact impl_DyadAdd_any r i s x y t w'
def e_sAdd : CEnt := ⟨45, [3, 3], some (.and (.app 3 0 (vs 3)) (.app 3 0 (SL.of [.var 3, .var 4, .var 5]))), outAd⟩
theorem ok_sAdd (w : World) : e_sAdd.ok Tryd.prog w (FI pv) FB := by
  refine ⟨enters_of Tryd.func45 rfl (by kernel_rfl), fun zs hz hp w' hb => ?_⟩
  obtain ⟨r, i, s, x, y, t, rfl⟩ := len6 hz
  replace hp : (DV r i s && DV x y t) = true := hp _ rfl
  rw [Bool.and_eq_true] at hp
  show Calls _ _ _ _ (Gives (outAd.den _ _) _)
  rw [outAd_eq]; exact spec_DyadAdd_any r i s x y t w' (dv_i64 hp.1).1 (dv_i64 hp.1).2 (dv_i64 hp.2).1 (dv_i64 hp.2).2
def D1 : List CEnt := [e_iSq, e_sSq, e_iAdd, e_sAdd, e_dvalid, e_sDyadValid]
theorem D1_ok : ∀ e ∈ D1, ∀ w : World, e.ok Tryd.prog w (FI pv) FB := by
  intro e he w
  simp only [D1, List.mem_cons, List.not_mem_nil, or_false] at he
  rcases he with rfl | rfl | rfl | rfl | rfl | rfl
  · exact ok_iSq w
  · exact ok_sSq w
  · exact ok_iAdd w
  · exact ok_sAdd w
  · exact ok_dvalid w
  · exact ok_sDyadValid w
def enDy : List Nat := [43]
theorem enDy_43 : Enters Tryd.prog 43 := enters_of Tryd.func43 rfl (by kernel_rfl)
theorem enDy_ok : ∀ f ∈ enDy, Enters Tryd.prog f := by
  intro f hf
  simp only [enDy, List.mem_cons, List.not_mem_nil, or_false] at hf
  rcases hf with rfl
  · exact enDy_43
def XD1c (P : Program) : Cx := { P := P, G := D1, en := enDy, call := nil0 }
noncomputable def XD1 : Cx := XD1c Tryd.prog
theorem XD1_ok (w : World) (E : Env) (hi : E.fi = FI pv) (hb : E.fb = FB) : XOk XD1 w E := xok D1_ok enDy_ok w E hi hb
end Go.Proofs.YtjpmpjcenajmbaaDoor
