/- Contracts on exact numbers and their words, where the library's table lies. -/
import Derived.Test.YtgnkjfafgcbpbaaDoorBi6
import Derived.Test.YtgnkjfafgcbpbaaDoorFw4
import Derived.Test.YtgnkjfafgcbpbaaDoorMDy
namespace Go.Proofs.YtgnkjfafgcbpbaaDoor
set_option linter.unusedSimpArgs false
set_option linter.unusedVariables false
variable {pv : Int → Int → Int}
open Go.RowKit Eng
def outSq : SVal := .tup [og (oapps 11 3 (vs 3)), .one (.bool (.app 11 0 (vs 3)))]
theorem outSq_yes {r i s : Int} (h : SQ r i s = true) : outSq.den (envOf [r, i, s] (FI pv) FB) Pl.no = .tuple #[.agg #[.int .i64 (lR (SR r i) (SI r i) (2 * s)), .int .i64 (lI (SR r i) (SI r i) (2 * s)), .int .i64 (lS (SR r i) (SI r i) (2 * s))], .bool true] := by
  have e3 : FB 11 0 [r, i, s] = SQ r i s := rfl
  have e0 : FI pv 11 0 [r, i, s] = lR (SR r i) (SI r i) (2 * s) := if_pos h
  have e1 : FI pv 11 1 [r, i, s] = lI (SR r i) (SI r i) (2 * s) := if_pos h
  have e2 : FI pv 11 2 [r, i, s] = lS (SR r i) (SI r i) (2 * s) := if_pos h
  show (Value.tuple #[.agg #[.int .i64 (FI pv 11 0 [r, i, s]), .int .i64 (FI pv 11 1 [r, i, s]), .int .i64 (FI pv 11 2 [r, i, s])], .bool (FB 11 0 [r, i, s])]) = _
  rw [e0, e1, e2, e3, h]
theorem outSq_no {r i s : Int} (h : SQ r i s = false) : outSq.den (envOf [r, i, s] (FI pv) FB) Pl.no = .tuple #[.agg #[.int .i64 0, .int .i64 0, .int .i64 0], .bool false] := by
  have hn : ¬ SQ r i s = true := by rw [h]; decide
  have e3 : FB 11 0 [r, i, s] = SQ r i s := rfl
  have e0 : FI pv 11 0 [r, i, s] = 0 := if_neg hn
  have e1 : FI pv 11 1 [r, i, s] = 0 := if_neg hn
  have e2 : FI pv 11 2 [r, i, s] = 0 := if_neg hn
  show (Value.tuple #[.agg #[.int .i64 (FI pv 11 0 [r, i, s]), .int .i64 (FI pv 11 1 [r, i, s]), .int .i64 (FI pv 11 2 [r, i, s])], .bool (FB 11 0 [r, i, s])]) = _
  rw [e0, e1, e2, e3, h]
theorem dv_i64 {r i s : Int} (h : DV r i s = true) : I64 r ∧ I64 i := by
  obtain ⟨a1, a2, a3, a4, a5, a6, _⟩ := (DV_iff r i s).1 h
  exact ⟨⟨by omega, by omega⟩, ⟨by omega, by omega⟩⟩
theorem SQ_false {r i s : Int} (h : DV r i s = false) : SQ r i s = false := by unfold SQ; rw [h]; rfl
def e_iSq : CEnt := ⟨22, [3], none, outSq⟩
theorem ok_iSq (w : World) : e_iSq.ok Tryd.prog w (FI pv) FB := by
  refine ⟨enters_of Tryd.func22 rfl (by kernel_rfl), fun zs hz hp w' hb => ?_⟩
  obtain ⟨r, i, s, rfl⟩ := len3 hz
  show Calls _ _ _ _ (Gives (outSq.den _ _) _)
  cases h : SQ r i s
  · rw [outSq_no h]; exact impl_DyadSquare_no r i s w' h
  · rw [outSq_yes h]; exact impl_DyadSquare_yes r i s w' h
theorem run_sSq0 : runFn XF4 [(.app 3 0 (vs 3), false)] 200 23 (lettersFrom 0 [3]) = .ok (.tup [og [.lit 0, .lit 0, .lit 0], .one (.bool (.lit false))]) := by kernel_rfl
def e_sSq : CEnt := ⟨23, [3], none, outSq⟩
theorem ok_sSq (w : World) : e_sSq.ok Tryd.prog w (FI pv) FB := by
  refine ⟨enters_of Tryd.func23 rfl (by kernel_rfl), fun zs hz hp w' hb => ?_⟩
  obtain ⟨r, i, s, rfl⟩ := len3 hz
  show Calls _ _ _ _ (Gives (outSq.den _ _) _)
  cases hd : DV r i s
  · have := runFn_ok (E := envOf [r, i, s] (FI pv) FB) (kn_ok_cons (c := .app 3 0 (vs 3)) (b := false) hd (kn_ok_nil _)) (XF4_ok w' _ rfl rfl) mixed run_sSq0
    rw [outSq_no (SQ_false hd)]; exact this
  · cases h : SQ r i s
    · rw [outSq_no h]; exact spec_DyadSquare_no r i s w' (dv_i64 hd).1 (dv_i64 hd).2 h
    · rw [outSq_yes h]; exact spec_DyadSquare_yes r i s w' h
def outNm : SVal := .tup [.one (ai (.app 12 0 (vs 3))), .one (.bool (.app 3 0 (vs 3)))]
theorem outNm_yes {r i s : Int} (h : DV r i s = true) : outNm.den (envOf [r, i, s] (FI pv) FB) Pl.no = .tuple #[.int .i64 (NM r i s), .bool true] := by
  have e0 : FI pv 12 0 [r, i, s] = NM r i s := if_pos h
  show (Value.tuple #[.int .i64 (FI pv 12 0 [r, i, s]), .bool (DV r i s)]) = _
  rw [e0, h]
theorem outNm_no {r i s : Int} (h : DV r i s = false) : outNm.den (envOf [r, i, s] (FI pv) FB) Pl.no = .tuple #[.int .i64 0, .bool false] := by
  have hn : ¬ DV r i s = true := by rw [h]; decide
  have e0 : FI pv 12 0 [r, i, s] = 0 := if_neg hn
  show (Value.tuple #[.int .i64 (FI pv 12 0 [r, i, s]), .bool (DV r i s)]) = _
  rw [e0, h]
def e_iNrm : CEnt := ⟨27, [3], none, outNm⟩
theorem ok_iNrm (w : World) : e_iNrm.ok Tryd.prog w (FI pv) FB := by
  refine ⟨enters_of Tryd.func27 rfl (by kernel_rfl), fun zs hz hp w' hb => ?_⟩
  obtain ⟨r, i, s, rfl⟩ := len3 hz
  show Calls _ _ _ _ (Gives (outNm.den _ _) _)
  cases h : DV r i s
  · rw [outNm_no h]; exact impl_DyadNorm_no r i s w' h
  · rw [outNm_yes h]; exact impl_DyadNorm_yes r i s w' h
theorem run_sNrm0 : runFn XF4 [(.app 3 0 (vs 3), false)] 200 28 (lettersFrom 0 [3]) = .ok (.tup [.one (ai (.lit 0)), .one (.bool (.lit false))]) := by kernel_rfl
def e_sNrm : CEnt := ⟨28, [3], none, outNm⟩
theorem ok_sNrm (w : World) : e_sNrm.ok Tryd.prog w (FI pv) FB := by
  refine ⟨enters_of Tryd.func28 rfl (by kernel_rfl), fun zs hz hp w' hb => ?_⟩
  obtain ⟨r, i, s, rfl⟩ := len3 hz
  show Calls _ _ _ _ (Gives (outNm.den _ _) _)
  cases h : DV r i s
  · have := runFn_ok (E := envOf [r, i, s] (FI pv) FB) (kn_ok_cons (c := .app 3 0 (vs 3)) (b := false) h (kn_ok_nil _)) (XF4_ok w' _ rfl rfl) mixed run_sNrm0
    rw [outNm_no h]; exact this
  · rw [outNm_yes h]; exact spec_DyadNorm_yes r i s w' h
def outMk : SVal := .tup [og (oapps 4 3 (vs 3)), .one (.bool (.app 4 0 (vs 3)))]
def e_iMake : CEnt := ⟨14, [0, 0, 0], none, outMk⟩
theorem ok_iMake (w : World) : e_iMake.ok Tryd.prog w (FI pv) FB := by
  refine ⟨enters_of Tryd.func14 rfl (by kernel_rfl), fun zs hz hp w' hb => ?_⟩
  obtain ⟨r, i, s, rfl⟩ := len3 hz
  show Calls _ _ _ _ (Gives (.tuple #[.agg #[.int .i64 (FI pv 4 0 [r, i, s]), .int .i64 (FI pv 4 1 [r, i, s]), .int .i64 (FI pv 4 2 [r, i, s])], .bool (MK r i s)]) _)
  cases h : MK r i s
  · have hn : ¬ MK r i s = true := by rw [h]; decide
    rw [show FI pv 4 0 [r, i, s] = 0 from if_neg hn, show FI pv 4 1 [r, i, s] = 0 from if_neg hn, show FI pv 4 2 [r, i, s] = 0 from if_neg hn]
    exact impl_DyadMake_no r i s w' h
  · rw [show FI pv 4 0 [r, i, s] = lR r i s from if_pos h, show FI pv 4 1 [r, i, s] = lI r i s from if_pos h, show FI pv 4 2 [r, i, s] = lS r i s from if_pos h]
    exact impl_DyadMake_yes r i s w' h
end Go.Proofs.YtgnkjfafgcbpbaaDoor
