/- The library's counts, as contracts where its table lies as its text lays it; contexts over such worlds. -/
import Derived.Test.YtgnkjfafgcbpbaaDoorBi2
import Derived.Test.YtgnkjfafgcbpbaaDoorTz
import Derived.Test.YtgnkjfafgcbpbaaDoorLn
namespace Go.Proofs.YtgnkjfafgcbpbaaDoor
set_option linter.unusedSimpArgs false
set_option linter.unusedVariables false
variable {pv : Int → Int → Int}
open Go.RowKit Eng
/-- A contract by the reckoner, in worlds that hold the table. -/
theorem by_treeT {X : Cx} {fi : Nat → Nat → List Int → Int} {fb : Nat → Nat → List Int → Bool} {fuel d : Nat} {e : CEnt} (hen : Enters X.P e.f) (hX : ∀ w zs, Tb w → XOk X w (envOf zs fi fb)) (hm : X.P.follows .mixedOrders = true)
    (h : ∀ zs : List Int, zs.length = insLen e.ins → (∀ c, e.pre = some c → c.den (envOf zs fi fb) = true) → (explore X fuel e.f (lettersFrom 0 e.ins) d []).den (envOf zs fi fb) = some (e.out.den (envOf zs fi fb) Pl.no)) (w0 : World) (hT : Tb w0) : e.ok X.P w0 fi fb := by
  refine ⟨hen, fun zs hz hp w hb => ?_⟩
  have := explore_ok (hX w zs (hT.below (Hb.below hb))) hm d [] (fun p hp => by cases hp) (h zs hz hp)
  rwa [letters_den fi fb zs e.ins 0 zs hz (fun i _ => by simp)] at this
/-- A context over contracts that hold in such worlds. -/
theorem xokT {G : List CEnt} {en : List Nat} {L : List LEnt} {R : List REnt} {xs : List CEnt} (hG : ∀ e ∈ G, ∀ w : World, Tb w → e.ok Tryd.prog w (FI pv) FB) (hen : ∀ f ∈ en, Enters Tryd.prog f) (hL : ∀ e ∈ L, ∀ w : World, Tb w → e.ok Tryd.prog w (FI pv) FB) (hR : ∀ e ∈ R, ∀ w : World, Tb w → e.ok Tryd.prog w (FI pv) FB) (hx : ∀ e ∈ xs, e.okX Tryd.prog (FI pv) FB) (w : World) (hT : Tb w) (E : Env) (hi : E.fi = FI pv) (hb : E.fb = FB) : XOk { P := Tryd.prog, G := G, en := en, call := nil0, L := L, R := R, ext := xs } w E :=
  { g := (fun e he => by rw [hi, hb]; exact hG e he w hT), en := hen, call := (fun _ _ _ _ _ h => by cases h), l := (fun e he => by rw [hi, hb]; exact hL e he w hT), d := (fun _ _ h => by cases h), r := (fun e he => by rw [hi, hb]; exact hR e he w hT), x := (fun e he => by rw [hi, hb]; exact hx e he) }
def e_len64 : CEnt := ⟨73, [1000], some (.app 105 0 (vs 1)), oi (.app 90 0 (vs 1))⟩
theorem ok_len64 (w : World) : e_len64.ok Tryd.prog w (FI pv) FB := by
  refine ⟨enters_of Tryd.func73 rfl (by kernel_rfl), fun zs hz hp w' hb => ?_⟩
  obtain ⟨a, rfl⟩ := len1 hz
  have hp : (decide (0 ≤ a) && decide (a ≤ 18446744073709551615)) = true := hp _ rfl
  simp only [Bool.and_eq_true, decide_eq_true_eq] at hp
  show Calls _ _ #[.int .u64 a] _ _
  refine (bits_Len64 a w' hp.1 hp.2).mono ?_
  rintro e w1 ⟨rfl, rfl⟩
  exact ⟨rfl, Below.refl _ _⟩
def e_tz64 : CEnt := ⟨72, [1000], some (.app 105 0 (vs 1)), oi (.app 91 0 (vs 1))⟩
theorem ok_tz64 (w : World) (hT : Tb w) : e_tz64.ok Tryd.prog w (FI pv) FB := by
  refine ⟨enters_of Tryd.func72 rfl (by kernel_rfl), fun zs hz hp w' hb => ?_⟩
  obtain ⟨a, rfl⟩ := len1 hz
  have hp : (decide (0 ≤ a) && decide (a ≤ 18446744073709551615)) = true := hp _ rfl
  simp only [Bool.and_eq_true, decide_eq_true_eq] at hp
  obtain ⟨n, rfl⟩ : ∃ n : Nat, a = n := ⟨a.toNat, by omega⟩
  show Calls _ _ #[.int .u64 (n : Int)] _ _
  refine (bits_TrailingZeros64 n (by omega) w' (hT.below (Hb.below hb))).mono ?_
  rintro e w1 ⟨rfl, rfl⟩
  exact ⟨rfl, Below.refl _ _⟩
def GT1 : List CEnt := [e_len64, e_tz64] ++ G2
theorem GT1_ok : ∀ e ∈ GT1, ∀ w : World, Tb w → e.ok Tryd.prog w (FI pv) FB := by
  intro e he w hT
  rcases List.mem_append.1 he with he | he
  case inr => exact G2_ok e he w
  simp only [List.mem_cons, List.not_mem_nil, or_false] at he
  rcases he with rfl | rfl
  · exact ok_len64 w
  · exact ok_tz64 w hT
def XT1c (P : Program) : Cx := { P := P, G := GT1, en := enB0, call := nil0, L := [], R := [], ext := [] }
noncomputable def XT1 : Cx := XT1c Tryd.prog
theorem XT1_ok (w : World) (hT : Tb w) (E : Env) (hi : E.fi = FI pv) (hb : E.fb = FB) : XOk XT1 w E := xokT GT1_ok enB0_ok (fun _ h => by cases h) (fun _ h => by cases h) (fun _ h => by cases h) w hT E hi hb
end Go.Proofs.YtgnkjfafgcbpbaaDoor
