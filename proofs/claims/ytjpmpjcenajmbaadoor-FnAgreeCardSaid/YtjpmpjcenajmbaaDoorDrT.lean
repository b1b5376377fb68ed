/- The walk of a law over bytes, by a context that holds in the law's own world. -/
import Derived.Test.YtjpmpjcenajmbaaDoorDrC
namespace Go.Proofs.YtjpmpjcenajmbaaDoor
set_option linter.unusedSimpArgs false
set_option linter.unusedVariables false
variable {pv : Int → Int → Int}
open Go.RowKit Eng
theorem dlawW {X : Cx} (hP : X.P = Tryd.prog) {w : World} (hX : ∀ (pv : Int → Int → Int) (E : Env), E.fi = FI pv → E.fb = FB → XOk X w E) {fuel L d : Nat} {t : Tree} (ht : explore (drawn X) fuel L [.cv (.one (.opq 0))] d [] = t)
    (h : ∀ (pv : Int → Int → Int) (p : Option Addr) (len cap : Nat), PvOk pv → t.den (envD pv p len cap) = some (.bool true)) (v : Value) (hv : BytesOk w w.heap.size v) : Calls Tryd.prog L #[v] w (Gives (.bool true) w) := by
  obtain ⟨p, len, cap, pv, rfl, hc⟩ := hv.cut
  have hXD := drawn_ok hP (hX pv (envD pv p len cap) rfl rfl) hv hc
  have := explore_ok (v := .bool true) hXD (by show X.P.follows _ = true; rw [hP]; exact mixed) (fuel := fuel) (f := L) (args := [.cv (.one (.opq 0))]) d [] (fun p hp => by cases hp) (by rw [ht]; exact h pv p len cap hc.pvOk)
  have e : (drawn X).P = Tryd.prog := hP
  rw [e] at this
  exact this
theorem dlawRW {X : Cx} (hP : X.P = Tryd.prog) {w : World} (hX : ∀ (pv : Int → Int → Int) (E : Env), E.fi = FI pv → E.fb = FB → XOk X w E) {fuel L : Nat} {t : Tree} (ht : Runs (drawn X) fuel L [.cv (.one (.opq 0))] t [])
    (h : ∀ (pv : Int → Int → Int) (p : Option Addr) (len cap : Nat), PvOk pv → t.den (envD pv p len cap) = some (.bool true)) (v : Value) (hv : BytesOk w w.heap.size v) : Calls Tryd.prog L #[v] w (Gives (.bool true) w) := by
  obtain ⟨p, len, cap, pv, rfl, hc⟩ := hv.cut
  have hXD := drawn_ok hP (hX pv (envD pv p len cap) rfl rfl) hv hc
  have := runs_ok hXD (by show X.P.follows _ = true; rw [hP]; exact mixed) t [] (fun p hp => by cases hp) ht (h pv p len cap hc.pvOk)
  have e : (drawn X).P = Tryd.prog := hP
  rw [e] at this
  exact this
/-- Each input goes one of the ways walked. -/
theorem dlawPW {X : Cx} (hP : X.P = Tryd.prog) {w : World} (hX : ∀ (pv : Int → Int → Int) (E : Env), E.fi = FI pv → E.fb = FB → XOk X w E) {fuel L : Nat}
    (h : ∀ (pv : Int → Int → Int) (p : Option Addr) (len cap : Nat), PvOk pv → ∃ (kn : Kn) (r : SVal), runFn (drawn X) kn fuel L [.cv (.one (.opq 0))] = .ok r ∧ kn.ok (envD pv p len cap) ∧ r.den (envD pv p len cap) Pl.no = .bool true) (v : Value) (hv : BytesOk w w.heap.size v) : Calls Tryd.prog L #[v] w (Gives (.bool true) w) := by
  obtain ⟨p, len, cap, pv, rfl, hc⟩ := hv.cut
  have hXD := drawn_ok hP (hX pv (envD pv p len cap) rfl rfl) hv hc
  obtain ⟨kn, r, hr, hk, ht⟩ := h pv p len cap hc.pvOk
  have := runFn_ok hk hXD (by show X.P.follows _ = true; rw [hP]; exact mixed) hr
  have e : (drawn X).P = Tryd.prog := hP
  rw [e, ht] at this
  exact this
end Go.Proofs.YtjpmpjcenajmbaaDoor
