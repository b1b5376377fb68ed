/- Cutting deeper: the contracts of the functions that count, to depth 4, and the context of the laws. -/
import Derived.Test.YthggppjdapmgdaaDp2
namespace Go.Proofs.Ythggppjdapmgdaa
set_option linter.unusedSimpArgs false
set_option linter.unusedVariables false
variable {pv : Int → Int → Int}
open Go.RowKit Eng
theorem ok_pv {e : WEnt} {q : SB} {pv' : Int → Int → Int} (h : e.ok Try.prog (FI pv) FB)
    (hp : ∀ cs zs : List Int, cs.length = e.m → zs.length = insLen e.ins → q.den (envOf (cs ++ zs) (FI pv') FB) = true → ∀ c, e.pre = some c → c.den (envOf (cs ++ zs) (FI pv) FB) = true)
    (ho : ∀ cs zs : List Int, cs.length = e.m → zs.length = insLen e.ins → (e.outs.map fun o => Value.int .i64 (o.den (envOf (cs ++ zs) (FI pv) FB))) = e.outs.map fun o => Value.int .i64 (o.den (envOf (cs ++ zs) (FI pv') FB))) :
    ({ e with pre := some q } : WEnt).ok Try.prog (FI pv') FB := by
  refine ⟨h.1, h.2.1, fun cs zs hc hz hq w B cap rest h1 h2 h3 => ?_⟩
  have := h.2.2 cs zs hc hz (hp cs zs hc hz (hq _ rfl)) w B cap rest h1 h2 h3
  rw [ho cs zs hc hz] at this
  exact this
def dpPreF : SB := ands [.app 2 0 (SL.of ((List.range 4).map fun i => .var (i + 3))), qLe (.lit 0) (vv 8), qLe (vv 8) (.lit 4)]
theorem wI_all : ∀ (n : Nat) (pv : Int → Int → Int), n ≤ 5 → pv 0 0 = (n : Int) - 1 → (wI .le).ok Try.prog (FI pv) FB
  | 0, pv, _, h0 => by
    refine ⟨enters_of Try.func92 rfl (by kernel_rfl), rfl, fun cs zs hc hz hp => ?_⟩
    obtain ⟨u, v, w, rfl⟩ := len3 hc
    obtain ⟨a, b, c, d, m, n, rfl⟩ := len6 hz
    have hp : (BV a b c d && (decide (0 ≤ n) && decide (n ≤ pv 0 0))) = true := hp _ rfl
    simp only [Bool.and_eq_true, decide_eq_true_eq] at hp
    omega
  | n + 1, pv, hn, h0 => by
    refine wI_le (by omega) ?_
    refine ok_pv (e := wI .le) (q := dpPre .lt) (wI_all n (fun _ _ => (n : Int) - 1) (by omega) rfl) (fun cs zs hc hz hq c hcc => ?_) (fun cs zs hc hz => ?_)
    · obtain ⟨u, v, w, rfl⟩ := len3 hc
      obtain ⟨a, b, c, d, m, t, rfl⟩ := len6 hz
      cases hcc
      have hq : (BV a b c d && (decide (0 ≤ t) && decide (t < pv 0 0))) = true := hq
      show (BV a b c d && (decide (0 ≤ t) && decide (t ≤ (n : Int) - 1))) = true
      simp only [Bool.and_eq_true, decide_eq_true_eq] at hq ⊢
      exact ⟨hq.1, hq.2.1, by omega⟩
    · obtain ⟨u, v, w, rfl⟩ := len3 hc
      obtain ⟨a, b, c, d, m, t, rfl⟩ := len6 hz
      rfl
def wIF : WEnt := { wI .le with pre := some dpPreF }
theorem wIF_ok : wIF.ok Try.prog (FI pv) FB := by
  refine ok_pv (e := wI .le) (q := dpPreF) (wI_all 5 (fun _ _ => 4) (by omega) rfl) (fun cs zs hc hz hq c hcc => ?_) (fun cs zs hc hz => ?_)
  · obtain ⟨u, v, w, rfl⟩ := len3 hc
    obtain ⟨a, b, c, d, m, t, rfl⟩ := len6 hz
    cases hcc
    exact hq
  · obtain ⟨u, v, w, rfl⟩ := len3 hc
    obtain ⟨a, b, c, d, m, t, rfl⟩ := len6 hz
    rfl
theorem wS_all : ∀ (n : Nat) (pv : Int → Int → Int), n ≤ 5 → pv 0 0 = (n : Int) - 1 → (wS .le).ok Try.prog (FI pv) FB
  | 0, pv, _, h0 => by
    refine ⟨enters_of Try.func91 rfl (by kernel_rfl), rfl, fun cs zs hc hz hp => ?_⟩
    obtain ⟨u, v, w, rfl⟩ := len3 hc
    obtain ⟨a, b, c, d, m, n, rfl⟩ := len6 hz
    have hp : (BV a b c d && (decide (0 ≤ n) && decide (n ≤ pv 0 0))) = true := hp _ rfl
    simp only [Bool.and_eq_true, decide_eq_true_eq] at hp
    omega
  | n + 1, pv, hn, h0 => by
    refine wS_le (by omega) ?_
    refine ok_pv (e := wS .le) (q := dpPre .lt) (wS_all n (fun _ _ => (n : Int) - 1) (by omega) rfl) (fun cs zs hc hz hq c hcc => ?_) (fun cs zs hc hz => ?_)
    · obtain ⟨u, v, w, rfl⟩ := len3 hc
      obtain ⟨a, b, c, d, m, t, rfl⟩ := len6 hz
      cases hcc
      have hq : (BV a b c d && (decide (0 ≤ t) && decide (t < pv 0 0))) = true := hq
      show (BV a b c d && (decide (0 ≤ t) && decide (t ≤ (n : Int) - 1))) = true
      simp only [Bool.and_eq_true, decide_eq_true_eq] at hq ⊢
      exact ⟨hq.1, hq.2.1, by omega⟩
    · obtain ⟨u, v, w, rfl⟩ := len3 hc
      obtain ⟨a, b, c, d, m, t, rfl⟩ := len6 hz
      rfl
def wSF : WEnt := { wS .le with pre := some dpPreF }
theorem wSF_ok : wSF.ok Try.prog (FI pv) FB := by
  refine ok_pv (e := wS .le) (q := dpPreF) (wS_all 5 (fun _ _ => 4) (by omega) rfl) (fun cs zs hc hz hq c hcc => ?_) (fun cs zs hc hz => ?_)
  · obtain ⟨u, v, w, rfl⟩ := len3 hc
    obtain ⟨a, b, c, d, m, t, rfl⟩ := len6 hz
    cases hcc
    exact hq
  · obtain ⟨u, v, w, rfl⟩ := len3 hc
    obtain ⟨a, b, c, d, m, t, rfl⟩ := len6 hz
    rfl
def enDq : List Nat := [46, 45, 47, 48, 49, 51, 50]
theorem enDq_46 : Enters Try.prog 46 := enters_of Try.func46 rfl (by kernel_rfl)
theorem enDq_45 : Enters Try.prog 45 := enters_of Try.func45 rfl (by kernel_rfl)
theorem enDq_47 : Enters Try.prog 47 := enters_of Try.func47 rfl (by kernel_rfl)
theorem enDq_48 : Enters Try.prog 48 := enters_of Try.func48 rfl (by kernel_rfl)
theorem enDq_49 : Enters Try.prog 49 := enters_of Try.func49 rfl (by kernel_rfl)
theorem enDq_51 : Enters Try.prog 51 := enters_of Try.func51 rfl (by kernel_rfl)
theorem enDq_50 : Enters Try.prog 50 := enters_of Try.func50 rfl (by kernel_rfl)
theorem enDq_ok : ∀ f ∈ enDq, Enters Try.prog f := by
  intro f hf
  simp only [enDq, List.mem_cons, List.not_mem_nil, or_false] at hf
  rcases hf with rfl | rfl | rfl | rfl | rfl | rfl | rfl
  · exact enDq_46
  · exact enDq_45
  · exact enDq_47
  · exact enDq_48
  · exact enDq_49
  · exact enDq_51
  · exact enDq_50
def XDqc (P : Program) : Cx := { P := P, G := GD, en := enDq, call := nil0, W := [wIF, wSF] }
noncomputable def XDq : Cx := XDqc Try.prog
theorem XDq_ok (w : World) (E : Env) (hi : E.fi = FI pv) (hb : E.fb = FB) : XOk XDq w E := by
  refine xokW GD_ok enDq_ok (fun e he => ?_) w E hi hb
  simp only [List.mem_cons, List.not_mem_nil, or_false] at he
  rcases he with rfl | rfl
  · exact wIF_ok
  · exact wSF_ok
end Go.Proofs.Ythggppjdapmgdaa
