/- Sums of exact numbers are sums of their words. -/
import Derived.Test.YtgnkjfafgcbpbaaFw4
import Derived.Test.YtgnkjfafgcbpbaaDyC
import Derived.Test.YtgnkjfafgcbpbaaDrC
import Derived.Test.YtgnkjfafgcbpbaaFl3
namespace Go.Proofs.Ytgnkjfafgcbpbaa
set_option linter.unusedSimpArgs false
set_option linter.unusedVariables false
variable {pv : Int → Int → Int}
open Go.RowKit Eng
theorem dwi_add {r s x t R S : Int} {m : Nat} (hr : r.natAbs ≤ 1073741824) (hx : x.natAbs ≤ 1073741824) (hR : R.natAbs ≤ 1073741824) (hs : 0 ≤ s ∧ s ≤ 60) (ht : 0 ≤ t ∧ t ≤ 60) (hS : 0 ≤ S) (h1 : max s t = S + m) (h2 : AP r s x t = R * 2 ^ m) :
    0 ≤ oInt (Ieee.double.add (DWi r s).toNat (DWi x t).toNat) ∧ (ordI (Ieee.double.order (DWi R S).toNat (oInt (Ieee.double.add (DWi r s).toNat (DWi x t).toNat)).toNat) == 0) = true := by
  unfold DWi
  simp only [Int.toNat_natCast]
  obtain ⟨q, e1, e2⟩ := Fl.dw_add (r := r) (x := x) (R := R) (s := s.toNat) (t := t.toNat) (S := S.toNat) (m := m) (by omega) (by omega) (by omega) (by omega) (by omega) (by omega) (by
    unfold AP at h2
    rw [show (max s t - s).toNat = max s.toNat t.toNat - s.toNat by omega, show (max s t - t).toNat = max s.toNat t.toNat - t.toNat by omega] at h2
    exact h2)
  rw [e1]
  refine ⟨by show (0 : Int) ≤ (q : Int); omega, ?_⟩
  show (ordI (Ieee.double.order _ (Int.toNat (q : Int))) == 0) = true
  rw [Int.toNat_natCast, Fl.V_eq (Fl.V_DWn (by omega) (by omega)) e2]; rfl
theorem add_parts {r i s x y t : Int} (h : ADD r i s x y t = true) : DV r i s = true ∧ DV x y t = true ∧ DV (lR (AP r s x t) (AP i s y t) (max s t)) (lI (AP r s x t) (AP i s y t) (max s t)) (lS (AP r s x t) (AP i s y t) (max s t)) = true := by
  unfold ADD at h
  simp only [Bool.and_eq_true] at h
  exact ⟨h.1.1, h.1.2, h.2⟩
theorem run_sAdd0 : runFn XF4 [(.app 3 0 (vs 3), false)] 200 11 (lettersFrom 0 [3, 3]) = .ok (.tup [og [.lit 0, .lit 0, .lit 0], .one (.bool (.lit false))]) := by kernel_rfl
theorem run_sAdd1 : runFn XF4 [(.app 3 0 (vs 3), true), (.app 3 0 (SL.of [.var 3, .var 4, .var 5]), false)] 200 11 (lettersFrom 0 [3, 3]) = .ok (.tup [og [.lit 0, .lit 0, .lit 0], .one (.bool (.lit false))]) := by kernel_rfl
def e_sAddU : CEnt := ⟨11, [3, 3], none, outAd⟩
theorem ok_sAddU (w : World) : e_sAddU.ok Try.prog w (FI pv) FB := by
  refine ⟨(ok_sAdd (pv := pv) w).1, fun zs hz hp w' hb => ?_⟩
  obtain ⟨r, i, s, x, y, t, rfl⟩ := len6 hz
  cases h1 : DV r i s
  · have := runFn_ok (E := envOf [r, i, s, x, y, t] (FI pv) FB) (kn_ok_cons (c := .app 3 0 (vs 3)) (b := false) h1 (kn_ok_nil _)) (XF4_ok w' _ rfl rfl) mixed run_sAdd0
    have e : outAd.den (envOf [r, i, s, x, y, t] (FI pv) FB) Pl.no = .tuple #[.agg #[.int .i64 0, .int .i64 0, .int .i64 0], .bool false] := by
      rw [outAd_eq, ADV_no (by unfold ADD; rw [h1]; rfl)]
    show Calls _ _ _ _ (Gives (outAd.den _ _) _)
    rw [e]; exact this
  · cases h2 : DV x y t
    · have := runFn_ok (E := envOf [r, i, s, x, y, t] (FI pv) FB) (kn_ok_cons (c := .app 3 0 (vs 3)) (b := true) h1 (kn_ok_cons (c := .app 3 0 (SL.of [.var 3, .var 4, .var 5])) (b := false) h2 (kn_ok_nil _))) (XF4_ok w' _ rfl rfl) mixed run_sAdd1
      have e : outAd.den (envOf [r, i, s, x, y, t] (FI pv) FB) Pl.no = .tuple #[.agg #[.int .i64 0, .int .i64 0, .int .i64 0], .bool false] := by
        rw [outAd_eq, ADV_no (by unfold ADD; rw [h2, Bool.and_false]; rfl)]
      show Calls _ _ _ _ (Gives (outAd.den _ _) _)
      rw [e]; exact this
    · exact (ok_sAdd (pv := pv) w).2 _ hz (fun c hc => by cases hc; show (DV r i s && DV x y t) = true; rw [h1, h2]; rfl) w' hb
def GA1 : List CEnt := [e_iAdd, e_sAddU] ++ GF3
theorem GA1_ok : ∀ e ∈ GA1, ∀ w, e.ok Try.prog w (FI pv) FB := by
  intro e he w
  rcases List.mem_append.1 he with he | he
  case inr => exact GF3_ok e he w
  simp only [List.mem_cons, List.not_mem_nil, or_false] at he
  rcases he with rfl | rfl
  · exact ok_iAdd w
  · exact ok_sAddU w
def XA1c (P : Program) : Cx := { P := P, G := GA1, en := enF3, call := nil0, L := [], R := [], ext := xF }
noncomputable def XA1 : Cx := XA1c Try.prog
theorem XA1_ok (w : World) (E : Env) (hi : E.fi = FI pv) (hb : E.fb = FB) : XOk XA1 w E := xokX GA1_ok enF3_ok (fun _ h => by cases h) (fun _ h => by cases h) xF_ok w E hi hb
end Go.Proofs.Ytgnkjfafgcbpbaa
