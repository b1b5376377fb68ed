/- The small signs' letters, and the context in which the reckoner works. -/
import Derived.Test.YtjbpaejjpamcpaaSym
namespace Go.Proofs.Ytjbpaejjpamcpaa
set_option linter.unusedSimpArgs false
set_option linter.unusedVariables false
variable {pv : Int → Int → Int}
open Go.RowKit Eng

def vv (i : Nat) : SE := .var i
def vs (n : Nat) : SL := SL.of ((List.range n).map SE.var)
def ai (e : SE) : At := .int .i64 e
def oi (e : SE) : SVal := .cv (.one (ai e))
def ob (e : SB) : SVal := .cv (.one (.bool e))
def og (es : List SE) : CV := .agg (es.map ai)
def oapps (s n : Nat) (xs : SL) : List SE := (List.range n).map fun j => .app s j xs
def ands : List SB → SB
  | [] => .lit true
  | [c] => c
  | c :: r => .and c (ands r)
def qEq (a b : SE) : SB := .cmp .eq a b
def qLe (a b : SE) : SB := .cmp .le a b
theorem ands_den (E : Env) : ∀ cs : List SB, (ands cs).den E = true → ∀ c ∈ cs, c.den E = true
  | [], _, c, hc => by cases hc
  | [x], h, c, hc => by simp only [List.mem_singleton] at hc; subst hc; exact h
  | x :: y :: r, h, c, hc => by
    simp only [ands, SB.den, Bool.and_eq_true] at h
    rcases List.mem_cons.1 hc with rfl | hc
    · exact h.1
    · exact ands_den E (y :: r) h.2 c hc
theorem mixed : Try.prog.follows .mixedOrders = true := by kernel_rfl
/-- A context over contracts that hold. -/
theorem xokR {G : List CEnt} {en : List Nat} {L : List LEnt} {R : List REnt} (hG : ∀ e ∈ G, ∀ w : World, e.ok Try.prog w (FI pv) FB) (hen : ∀ f ∈ en, Enters Try.prog f) (hL : ∀ e ∈ L, ∀ w : World, e.ok Try.prog w (FI pv) FB) (hR : ∀ e ∈ R, ∀ w : World, e.ok Try.prog w (FI pv) FB) (w : World) (E : Env) (hi : E.fi = FI pv) (hb : E.fb = FB) : XOk { P := Try.prog, G := G, en := en, call := nil0, L := L, R := R } w E :=
  { g := (fun e he => by rw [hi, hb]; exact hG e he w), en := hen, call := (fun _ _ _ _ _ h => by cases h), l := (fun e he => by rw [hi, hb]; exact hL e he w), d := (fun _ _ h => by cases h), r := (fun e he => by rw [hi, hb]; exact hR e he w) }
theorem xokL {G : List CEnt} {en : List Nat} {L : List LEnt} (hG : ∀ e ∈ G, ∀ w : World, e.ok Try.prog w (FI pv) FB) (hen : ∀ f ∈ en, Enters Try.prog f) (hL : ∀ e ∈ L, ∀ w : World, e.ok Try.prog w (FI pv) FB) (w : World) (E : Env) (hi : E.fi = FI pv) (hb : E.fb = FB) : XOk { P := Try.prog, G := G, en := en, call := nil0, L := L } w E :=
  xokR hG hen hL (fun _ h => by cases h) w E hi hb
theorem xok {G : List CEnt} {en : List Nat} (hG : ∀ e ∈ G, ∀ w : World, e.ok Try.prog w (FI pv) FB) (hen : ∀ f ∈ en, Enters Try.prog f) (w : World) (E : Env) (hi : E.fi = FI pv) (hb : E.fb = FB) : XOk { P := Try.prog, G := G, en := en, call := nil0 } w E :=
  xokL hG hen (fun _ h => by cases h) w E hi hb
theorem len1 {zs : List Int} (h : zs.length = 1) : ∃ a, zs = [a] := List.length_eq_one_iff.1 h
theorem len2 {zs : List Int} (h : zs.length = 2) : ∃ a b, zs = [a, b] := by
  match zs, h with
  | [a, b], _ => exact ⟨a, b, rfl⟩
theorem len3 {zs : List Int} (h : zs.length = 3) : ∃ a b c, zs = [a, b, c] := by
  match zs, h with
  | [a, b, c], _ => exact ⟨a, b, c, rfl⟩
theorem len16 {zs : List Int} (h : zs.length = 16) : ∃ a b c d e f g i j k l m n o p q, zs = [a, b, c, d, e, f, g, i, j, k, l, m, n, o, p, q] := by
  match zs, h with
  | [a, b, c, d, e, f, g, i, j, k, l, m, n, o, p, q], _ => exact ⟨a, b, c, d, e, f, g, i, j, k, l, m, n, o, p, q, rfl⟩
theorem len13 {zs : List Int} (h : zs.length = 13) : ∃ a b c d e f g i j k l m n, zs = [a, b, c, d, e, f, g, i, j, k, l, m, n] := by
  match zs, h with
  | [a, b, c, d, e, f, g, i, j, k, l, m, n], _ => exact ⟨a, b, c, d, e, f, g, i, j, k, l, m, n, rfl⟩
theorem len4 {zs : List Int} (h : zs.length = 4) : ∃ a b c d, zs = [a, b, c, d] := by
  match zs, h with
  | [a, b, c, d], _ => exact ⟨a, b, c, d, rfl⟩
theorem len6 {zs : List Int} (h : zs.length = 6) : ∃ a b c d e f, zs = [a, b, c, d, e, f] := by
  match zs, h with
  | [a, b, c, d, e, f], _ => exact ⟨a, b, c, d, e, f, rfl⟩
theorem len7 {zs : List Int} (h : zs.length = 7) : ∃ a b c d e f g, zs = [a, b, c, d, e, f, g] := by
  match zs, h with
  | [a, b, c, d, e, f, g], _ => exact ⟨a, b, c, d, e, f, g, rfl⟩
theorem len8 {zs : List Int} (h : zs.length = 8) : ∃ a b c d e f g i, zs = [a, b, c, d, e, f, g, i] := by
  match zs, h with
  | [a, b, c, d, e, f, g, i], _ => exact ⟨a, b, c, d, e, f, g, i, rfl⟩
def X0c (P : Program) : Cx := { P := P, G := [], en := [], call := nil0 }
noncomputable def X0 : Cx := X0c Try.prog
theorem X0_ok (w : World) (E : Env) (hi : E.fi = FI pv) (hb : E.fb = FB) : XOk X0 w E := xok (fun _ h => by cases h) (fun _ h => by cases h) w E hi hb
end Go.Proofs.Ytjbpaejjpamcpaa
