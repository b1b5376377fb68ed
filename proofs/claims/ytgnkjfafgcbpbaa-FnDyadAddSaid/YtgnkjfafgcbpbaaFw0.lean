/- Floats and their words: what the machine itself gives, as contracts. -/
import Derived.Test.YtgnkjfafgcbpbaaBo2
import Derived.Laws.Externs
namespace Go.Proofs.Ytgnkjfafgcbpbaa
set_option linter.unusedSimpArgs false
set_option linter.unusedVariables false
variable {pv : Int → Int → Int}
open Go.RowKit Eng
def e_f64b : CEnt := ⟨33, [1001], none, .cv (.one (.int .u64 (.bin .imax .i64 (vv 0) (.lit 0))))⟩
theorem ok_f64b : e_f64b.okX Try.prog (FI pv) FB := by
  intro zs hz w
  obtain ⟨b, rfl⟩ := len1 hz
  refine (run_callFunc_extern Try.func33 (by kernel_rfl) (by kernel_rfl) (by kernel_rfl) (show Extern.find Try.f33 = some Extern.MathFloatBits.float64bits by kernel_rfl) _ w).trans ?_
  show Result.ok (Next.value (Value.int .u64 ((b.toNat : Nat) : Int))) w = Result.ok (.value (.int .u64 (if 0 > b then 0 else b))) w
  have e : ((b.toNat : Nat) : Int) = if 0 > b then 0 else b := by split <;> omega
  rw [e]
def e_f64f : CEnt := ⟨36, [1000], none, .cv (.one (.flt .f64 (vv 0)))⟩
theorem ok_f64f : e_f64f.okX Try.prog (FI pv) FB := by
  intro zs hz w
  obtain ⟨b, rfl⟩ := len1 hz
  exact (run_callFunc_extern Try.func36 (by kernel_rfl) (by kernel_rfl) (by kernel_rfl) (show Extern.find Try.f36 = some Extern.MathFloatBits.float64frombits by kernel_rfl) _ w).trans rfl
def xF : List CEnt := [
  e_f64b, e_f64f
  ]
theorem xF_ok : ∀ e ∈ xF, e.okX Try.prog (FI pv) FB := by
  unfold xF
  refine List.forall_mem_cons.2 ⟨ok_f64b, ?_⟩
  refine List.forall_mem_cons.2 ⟨ok_f64f, ?_⟩
  exact fun e he => by cases he
theorem xokX {G : List CEnt} {en : List Nat} {L : List LEnt} {R : List REnt} {xs : List CEnt} (hG : ∀ e ∈ G, ∀ w, e.ok Try.prog w (FI pv) FB) (hen : ∀ f ∈ en, Enters Try.prog f) (hL : ∀ e ∈ L, ∀ w, e.ok Try.prog w (FI pv) FB) (hR : ∀ e ∈ R, ∀ w, e.ok Try.prog w (FI pv) FB) (hx : ∀ e ∈ xs, e.okX Try.prog (FI pv) FB) (w : World) (E : Env) (hi : E.fi = FI pv) (hb : E.fb = FB) : XOk { P := Try.prog, G := G, en := en, call := nil0, L := L, R := R, ext := xs } w E :=
  { g := (fun e he => by rw [hi, hb]; exact hG e he w), en := hen, call := (fun _ _ _ _ _ h => by cases h), l := (fun e he => by rw [hi, hb]; exact hL e he w), d := (fun _ _ h => by cases h), r := (fun e he => by rw [hi, hb]; exact hR e he w), x := (fun e he => by rw [hi, hb]; exact hx e he) }
/-- A contract by the ways that its inputs go. -/
theorem by_path {X : Cx} {e : CEnt} {fuel : Nat} (hen : Enters X.P e.f) (hX : ∀ w zs, XOk X w (envOf zs (FI pv) FB)) (hm : X.P.follows .mixedOrders = true)
    (h : ∀ zs : List Int, zs.length = insLen e.ins → (∀ c, e.pre = some c → c.den (envOf zs (FI pv) FB) = true) → ∃ (kn : Kn) (r : SVal), runFn X kn fuel e.f (lettersFrom 0 e.ins) = .ok r ∧ kn.ok (envOf zs (FI pv) FB) ∧ r.den (envOf zs (FI pv) FB) Pl.no = e.out.den (envOf zs (FI pv) FB) Pl.no) (w0 : World) : e.ok X.P w0 (FI pv) FB := by
  refine ⟨hen, fun zs hz hp w _ => ?_⟩
  obtain ⟨kn, r, hr, hk, ht⟩ := h zs hz hp
  have := runFn_ok hk (hX w zs) hm hr
  rw [letters_den (FI pv) FB zs e.ins 0 zs hz (fun i _ => by simp), ht] at this
  exact this
theorem kn_ok_nil (E : Env) : Kn.ok E [] := fun p hp => by cases hp
theorem kn_ok_cons {E : Env} {c : SB} {b : Bool} {kn : Kn} (h : c.den E = b) (hk : Kn.ok E kn) : Kn.ok E ((c, b) :: kn) := kn_cons hk h
def enF : List Nat := [16, 27, 30, 31, 32, 34, 35, 37, 25, 24]
theorem enF_16 : Enters Try.prog 16 := enters_of Try.func16 rfl (by kernel_rfl)
theorem enF_27 : Enters Try.prog 27 := enters_of Try.func27 rfl (by kernel_rfl)
theorem enF_30 : Enters Try.prog 30 := enters_of Try.func30 rfl (by kernel_rfl)
theorem enF_31 : Enters Try.prog 31 := enters_of Try.func31 rfl (by kernel_rfl)
theorem enF_32 : Enters Try.prog 32 := enters_of Try.func32 rfl (by kernel_rfl)
theorem enF_34 : Enters Try.prog 34 := enters_of Try.func34 rfl (by kernel_rfl)
theorem enF_35 : Enters Try.prog 35 := enters_of Try.func35 rfl (by kernel_rfl)
theorem enF_37 : Enters Try.prog 37 := enters_of Try.func37 rfl (by kernel_rfl)
theorem enF_25 : Enters Try.prog 25 := enters_of Try.func25 rfl (by kernel_rfl)
theorem enF_24 : Enters Try.prog 24 := enters_of Try.func24 rfl (by kernel_rfl)
theorem enF_ok : ∀ f ∈ enF, Enters Try.prog f := by
  intro f hf
  simp only [enF, List.mem_cons, List.not_mem_nil, or_false] at hf
  rcases hf with rfl | rfl | rfl | rfl | rfl | rfl | rfl | rfl | rfl | rfl
  · exact enF_16
  · exact enF_27
  · exact enF_30
  · exact enF_31
  · exact enF_32
  · exact enF_34
  · exact enF_35
  · exact enF_37
  · exact enF_25
  · exact enF_24
def XF0c (P : Program) : Cx := { P := P, G := G2, en := enF, call := nil0, L := [], R := [], ext := xF }
noncomputable def XF0 : Cx := XF0c Try.prog
theorem XF0_ok (w : World) (E : Env) (hi : E.fi = FI pv) (hb : E.fb = FB) : XOk XF0 w E := xokX G2_ok enF_ok (fun _ h => by cases h) (fun _ h => by cases h) xF_ok w E hi hb
end Go.Proofs.Ytgnkjfafgcbpbaa
