/- What is drawn at a place, as plain arithmetic. No program in sight. -/
import Derived.Test.YtjbpaejjpamcpaaDyM
namespace Go.Proofs.Ytjbpaejjpamcpaa
set_option linter.unusedSimpArgs false
set_option linter.unusedVariables false
/-- The box that is drawn at place p, and the place behind it. -/
def wTab (k : Int) : Int := if k = 0 then 0 else if k = 1 then 1 else if k = 2 then 65536 else if k = 3 then 262144 else if k = 4 then 1048576 else if k = 5 then 4194304 else 33554432
def bxA (pv : Int → Int → Int) (p : Int) : Int := if pv (p + 3) 24 = 2 then -134217728 else (pv p 200 - 128) * 262144
def bxB (pv : Int → Int → Int) (p : Int) : Int := if pv (p + 3) 24 = 0 then (pv p 200 - 128) * 262144 - 1 else if pv (p + 3) 24 = 3 then (pv p 200 - 128) * 262144 + pv (p + 4) 200 * 262144 else (pv p 200 - 128) * 262144 + wTab (pv (p + 2) 7)
def bxC (pv : Int → Int → Int) (p : Int) : Int := (pv (p + 1) 160 - 80) * 262144
def bxD (pv : Int → Int → Int) (p : Int) : Int := if pv (p + 3) 24 = 1 then 134217729 else (pv (p + 1) 160 - 80) * 262144 + wTab (pv (p + 2) 7)
def bxP (pv : Int → Int → Int) (p : Int) : Int := if pv (p + 3) 24 = 3 then p + 5 else p + 4
/-- The exact number that is drawn at place p. -/
def dyR (pv : Int → Int → Int) (p : Int) : Int := if pv (p + 3) 30 = 0 then 2 else if pv (p + 3) 30 = 2 then 1073741823 else if pv (p + 3) 30 = 3 then 1 else lR (pv p 65 - 32) (pv (p + 1) 65 - 32) (pv (p + 2) 7)
def dyI (pv : Int → Int → Int) (p : Int) : Int := if pv (p + 3) 30 = 0 then 4 else if pv (p + 3) 30 = 1 then 1073741825 else if pv (p + 3) 30 = 2 then 7 else if pv (p + 3) 30 = 3 then 0 else lI (pv p 65 - 32) (pv (p + 1) 65 - 32) (pv (p + 2) 7)
def dyS (pv : Int → Int → Int) (p : Int) : Int := if pv (p + 3) 30 = 0 then 1 else if pv (p + 3) 30 = 2 then 60 else if pv (p + 3) 30 = 3 then 61 else lS (pv p 65 - 32) (pv (p + 1) 65 - 32) (pv (p + 2) 7)
/-- What pick gives is in its range. -/
def PvOk (pv : Int → Int → Int) : Prop := ∀ p n, 0 ≤ p → p < 1000000000000 → 1 ≤ n → 0 ≤ pv p n ∧ pv p n < n
theorem wTab_bd (k : Int) : 0 ≤ wTab k ∧ wTab k ≤ 33554432 := by unfold wTab; repeat' split <;> omega
theorem bx_bd {pv : Int → Int → Int} (h : PvOk pv) {p : Int} (hp : 0 ≤ p) (hp' : p ≤ 1000000) : -200000000 ≤ bxA pv p ∧ bxA pv p ≤ 200000000 ∧ -200000000 ≤ bxB pv p ∧ bxB pv p ≤ 200000000 ∧ -200000000 ≤ bxC pv p ∧ bxC pv p ≤ 200000000 ∧ -200000000 ≤ bxD pv p ∧ bxD pv p ≤ 200000000 := by
  have h1 := h p 200 hp (by omega) (by omega)
  have h2 := h (p + 1) 160 (by omega) (by omega) (by omega)
  have h3 := h (p + 4) 200 (by omega) (by omega) (by omega)
  have hw := wTab_bd (pv (p + 2) 7)
  unfold bxA bxB bxC bxD
  refine ⟨?_, ?_, ?_, ?_, ?_, ?_, ?_, ?_⟩ <;> (repeat' split) <;> omega
end Go.Proofs.Ytjbpaejjpamcpaa
