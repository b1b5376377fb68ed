/- Floats and their words: what the machine itself gives, as contracts. -/
import Derived.Test.YtgnkjfafgcbpbaaDoorBo2
import Derived.Laws.Externs
namespace Go.Proofs.YtgnkjfafgcbpbaaDoor
set_option linter.unusedSimpArgs false
set_option linter.unusedVariables false
variable {pv : Int → Int → Int}
open Go.RowKit Eng
def e_f64b : CEnt := ⟨71, [1001], none, .cv (.one (.int .u64 (.bin .imax .i64 (vv 0) (.lit 0))))⟩
theorem ok_f64b : e_f64b.okX Tryd.prog (FI pv) FB := by
  intro zs hz w
  obtain ⟨b, rfl⟩ := len1 hz
  refine (run_callFunc_extern Tryd.func71 (by kernel_rfl) (by kernel_rfl) (by kernel_rfl) (show Extern.find Tryd.f71 = some Extern.MathFloatBits.float64bits by kernel_rfl) _ w).trans ?_
  show Result.ok (Next.value (Value.int .u64 ((b.toNat : Nat) : Int))) w = Result.ok (.value (.int .u64 (if 0 > b then 0 else b))) w
  have e : ((b.toNat : Nat) : Int) = if 0 > b then 0 else b := by split <;> omega
  rw [e]
def e_f64f : CEnt := ⟨86, [1000], none, .cv (.one (.flt .f64 (vv 0)))⟩
theorem ok_f64f : e_f64f.okX Tryd.prog (FI pv) FB := by
  intro zs hz w
  obtain ⟨b, rfl⟩ := len1 hz
  exact (run_callFunc_extern Tryd.func86 (by kernel_rfl) (by kernel_rfl) (by kernel_rfl) (show Extern.find Tryd.f86 = some Extern.MathFloatBits.float64frombits by kernel_rfl) _ w).trans rfl
def xF : List CEnt := [
  e_f64b, e_f64f
  ]
theorem xF_ok : ∀ e ∈ xF, e.okX Tryd.prog (FI pv) FB := by
  unfold xF
  refine List.forall_mem_cons.2 ⟨ok_f64b, ?_⟩
  refine List.forall_mem_cons.2 ⟨ok_f64f, ?_⟩
  exact fun e he => by cases he
theorem xokX {G : List CEnt} {en : List Nat} {L : List LEnt} {R : List REnt} {xs : List CEnt} (hG : ∀ e ∈ G, ∀ w : World, e.ok Tryd.prog w (FI pv) FB) (hen : ∀ f ∈ en, Enters Tryd.prog f) (hL : ∀ e ∈ L, ∀ w : World, e.ok Tryd.prog w (FI pv) FB) (hR : ∀ e ∈ R, ∀ w : World, e.ok Tryd.prog w (FI pv) FB) (hx : ∀ e ∈ xs, e.okX Tryd.prog (FI pv) FB) (w : World) (E : Env) (hi : E.fi = FI pv) (hb : E.fb = FB) : XOk { P := Tryd.prog, G := G, en := en, call := nil0, L := L, R := R, ext := xs } w E :=
  { g := (fun e he => by rw [hi, hb]; exact hG e he w), en := hen, call := (fun _ _ _ _ _ h => by cases h), l := (fun e he => by rw [hi, hb]; exact hL e he w), d := (fun _ _ h => by cases h), r := (fun e he => by rw [hi, hb]; exact hR e he w), x := (fun e he => by rw [hi, hb]; exact hx e he) }
/-- A contract by the ways that its inputs go. -/
theorem by_path {X : Cx} {e : CEnt} {fuel : Nat} (hen : Enters X.P e.f) (hX : ∀ (w : World) zs, XOk X w (envOf zs (FI pv) FB)) (hm : X.P.follows .mixedOrders = true)
    (h : ∀ zs : List Int, zs.length = insLen e.ins → (∀ c, e.pre = some c → c.den (envOf zs (FI pv) FB) = true) → ∃ (kn : Kn) (r : SVal), runFn X kn fuel e.f (lettersFrom 0 e.ins) = .ok r ∧ kn.ok (envOf zs (FI pv) FB) ∧ r.den (envOf zs (FI pv) FB) Pl.no = e.out.den (envOf zs (FI pv) FB) Pl.no) (w0 : World) : e.ok X.P w0 (FI pv) FB := by
  refine ⟨hen, fun zs hz hp w _ => ?_⟩
  obtain ⟨kn, r, hr, hk, ht⟩ := h zs hz hp
  have := runFn_ok hk (hX w zs) hm hr
  rw [letters_den (FI pv) FB zs e.ins 0 zs hz (fun i _ => by simp), ht] at this
  exact this
theorem kn_ok_nil (E : Env) : Kn.ok E [] := fun p hp => by cases hp
theorem kn_ok_cons {E : Env} {c : SB} {b : Bool} {kn : Kn} (h : c.den E = b) (hk : Kn.ok E kn) : Kn.ok E ((c, b) :: kn) := kn_cons hk h
def enF : List Nat := [42, 69, 44, 43, 83, 84, 85, 70, 47, 41, 10]
theorem enF_42 : Enters Tryd.prog 42 := enters_of Tryd.func42 rfl (by kernel_rfl)
theorem enF_69 : Enters Tryd.prog 69 := enters_of Tryd.func69 rfl (by kernel_rfl)
theorem enF_44 : Enters Tryd.prog 44 := enters_of Tryd.func44 rfl (by kernel_rfl)
theorem enF_43 : Enters Tryd.prog 43 := enters_of Tryd.func43 rfl (by kernel_rfl)
theorem enF_83 : Enters Tryd.prog 83 := enters_of Tryd.func83 rfl (by kernel_rfl)
theorem enF_84 : Enters Tryd.prog 84 := enters_of Tryd.func84 rfl (by kernel_rfl)
theorem enF_85 : Enters Tryd.prog 85 := enters_of Tryd.func85 rfl (by kernel_rfl)
theorem enF_70 : Enters Tryd.prog 70 := enters_of Tryd.func70 rfl (by kernel_rfl)
theorem enF_47 : Enters Tryd.prog 47 := enters_of Tryd.func47 rfl (by kernel_rfl)
theorem enF_41 : Enters Tryd.prog 41 := enters_of Tryd.func41 rfl (by kernel_rfl)
theorem enF_10 : Enters Tryd.prog 10 := enters_of Tryd.func10 rfl (by kernel_rfl)
theorem enF_ok : ∀ f ∈ enF, Enters Tryd.prog f := by
  intro f hf
  simp only [enF, List.mem_cons, List.not_mem_nil, or_false] at hf
  rcases hf with rfl | rfl | rfl | rfl | rfl | rfl | rfl | rfl | rfl | rfl | rfl
  · exact enF_42
  · exact enF_69
  · exact enF_44
  · exact enF_43
  · exact enF_83
  · exact enF_84
  · exact enF_85
  · exact enF_70
  · exact enF_47
  · exact enF_41
  · exact enF_10
def XF0c (P : Program) : Cx := { P := P, G := G2, en := enF, call := nil0, L := [], R := [], ext := xF }
noncomputable def XF0 : Cx := XF0c Tryd.prog
theorem XF0_ok (w : World) (E : Env) (hi : E.fi = FI pv) (hb : E.fb = FB) : XOk XF0 w E := xokX G2_ok enF_ok (fun _ h => by cases h) (fun _ h => by cases h) xF_ok w E hi hb
end Go.Proofs.YtgnkjfafgcbpbaaDoor
