/- A range over a function within a function: the code ahead of it and behind it. No program in sight. -/
import Derived.Test.YthggppjdapmgdaaIter6
namespace Go.Proofs.Ythggppjdapmgdaa.Eng
set_option linter.unusedSimpArgs false
set_option linter.unusedVariables false
open Go Go.RowKit

/-- The code on the way to the range statement: false: the left part; true: the right part. -/
def execTo (X : Cx) (kn : Kn) (n : Nat) : List Bool → Code → St → Res (St × Code)
  | [], c, s => .ok (s, c)
  | false :: p, .seq c1 _, s => execTo X kn n p c1 s
  | true :: p, .seq c1 c2, s => (exec X kn n none c1 s).bind fun r => match r with
    | (.normal, s1) => execTo X kn n p c2 s1
    | _ => .fail 301
  | _ :: p, .block _ c, s => execTo X kn n p c s
  | _, _, _ => .fail 303
/-- From the range statement on. -/
def execFrom (X : Cx) (kn : Kn) (n : Nat) (x : Ex) (s : St) : List Bool → Code → Res (Ex × St)
  | [], _ => .ok (x, s)
  | false :: p, .seq c1 c2 => (execFrom X kn n x s p c1).bind fun r => match r with
    | (.normal, s1) => exec X kn n none c2 s1
    | r => .ok r
  | true :: p, .seq _ c2 => execFrom X kn n x s p c2
  | _ :: p, .block id c => (execFrom X kn n x s p c).bind fun r => match r with
    | (.exit id', s1) => .ok (if id' = id then .normal else .exit id', s1)
    | r => .ok r
  | _, _ => .fail 304
section
variable {X : Cx} {E : Env} {ρ : Pl} {kn kn' : Kn} {B : Base}
theorem path_ok {w0 : Wb} (hX : XOk X w0 E) (hk : kn.ok E) (hm : X.P.follows .mixedOrders = true) {n m : Nat} {x : Ex} {s2 : St} {RS : St → Act → World → Prop}
    (hRS : ∀ (c : Code) (s : St) (y : Ex) (s' : St), exec X kn' n none c s = .ok (y, s') → ∀ a w, RS s a w → c.wpIn Fence.wide m X.P (fun e a w => e = y.toExit ∧ RS s' a w) a w) : ∀ (p : List Bool) (c : Code) (s : St) (s1 : St) (cr : Code) (y : Ex) (s3 : St),
    execTo X kn n p c s = .ok (s1, cr) → execFrom X kn' n x s2 p c = .ok (y, s3) → (∀ ρ a w, Sat B w0 E s1 ρ a w → cr.wpIn Fence.wide m X.P (fun e a w => e = x.toExit ∧ RS s2 a w) a w) →
    ∀ ρ a w, Sat B w0 E s ρ a w → c.wpIn Fence.wide m X.P (fun e a w => e = y.toExit ∧ RS s3 a w) a w
  | [], c, s, s1, cr, y, s3, h1, h2, hR, ρ, a, w, hs => by
    simp only [execTo, Res.ok.injEq, Prod.mk.injEq] at h1
    simp only [execFrom, Res.ok.injEq, Prod.mk.injEq] at h2
    obtain ⟨rfl, rfl⟩ := h1
    obtain ⟨rfl, rfl⟩ := h2
    exact hR ρ a w hs
  | b :: p, c, s, s1, cr, y, s3, h1, h2, hR, ρ, a, w, hs => by
    cases c with
    | seq c1 c2 =>
      cases b with
      | false =>
        simp only [execTo] at h1
        simp only [execFrom] at h2
        obtain ⟨⟨y1, s4⟩, h3, h4⟩ := Res.bind_ok h2
        refine wpIn_seq (wpIn_mono (path_ok hX hk hm hRS p c1 s s1 cr y1 s4 h1 h3 hR ρ a w hs) ?_)
        rintro e a' w' ⟨rfl, hq⟩
        cases y1 with
        | normal => exact hRS c2 s4 y s3 h4 a' w' hq
        | exit id => simp at h4; obtain ⟨rfl, rfl⟩ := h4; exact ⟨rfl, hq⟩
        | ret => simp at h4; obtain ⟨rfl, rfl⟩ := h4; exact ⟨rfl, hq⟩
      | true =>
        simp only [execTo] at h1
        simp only [execFrom] at h2
        obtain ⟨⟨y1, s4⟩, h3, h4⟩ := Res.bind_ok h1
        refine wpIn_seq (wpIn_wide.2 (Code.wp_mono (fun e a' w' hq => ?_) ((exec_ok' hk hX hm n).1 none c1 s y1 s4 trivial h3 B ρ a w hs)))
        obtain ⟨rfl, ρ1, hs1⟩ := hq
        cases y1 with
        | normal => exact path_ok hX hk hm hRS p c2 s4 s1 cr y s3 h4 h2 hR ρ1 a' w' hs1
        | exit id => simp at h4
        | ret => simp at h4
    | block id c1 =>
      have h1' : execTo X kn n p c1 s = .ok (s1, cr) := by cases b <;> simpa [execTo] using h1
      have h2' : ((execFrom X kn' n x s2 p c1).bind fun r => match r with
        | (.exit id', s1) => .ok (if id' = id then .normal else .exit id', s1)
        | r => .ok r) = Res.ok (y, s3) := by cases b <;> simpa [execFrom] using h2
      obtain ⟨⟨y1, s4⟩, h3, h4⟩ := Res.bind_ok h2'
      refine wpIn_block (wpIn_mono (path_ok hX hk hm hRS p c1 s s1 cr y1 s4 h1' h3 hR ρ a w hs) ?_)
      rintro e a' w' ⟨rfl, hq⟩
      cases y1 with
      | normal => simp at h4; obtain ⟨rfl, rfl⟩ := h4; exact ⟨rfl, hq⟩
      | exit id' =>
        simp only [Ex.toExit, Exit.inBlock]
        by_cases hid : id' = id
        · simp [hid] at h4; obtain ⟨rfl, rfl⟩ := h4; rw [if_pos hid]; exact ⟨rfl, hq⟩
        · simp [hid] at h4; obtain ⟨rfl, rfl⟩ := h4; rw [if_neg hid]; exact ⟨rfl, hq⟩
      | ret => simp at h4; obtain ⟨rfl, rfl⟩ := h4; exact ⟨rfl, hq⟩
    | _ => cases b <;> simp [execTo] at h1
end
end Go.Proofs.Ythggppjdapmgdaa.Eng
