/- A drawn law's tree, node by node. -/
import Derived.Test.YtdgfipdlfgcfeaaEng2
namespace Go.Proofs.Ytdgfipdlfgcfeaa.Eng
set_option linter.unusedSimpArgs false
set_option linter.unusedVariables false
open Go Go.RowKit
/-- A tree grown of runs. -/
def grow (run : Kn → Res SVal) : Nat → Kn → Tree
  | 0, _ => .dead 0
  | d + 1, kn => match run kn with
    | .ok r => .leaf r
    | .need c => .node c (grow run d ((c, true) :: kn)) (grow run d ((c, false) :: kn))
    | .fail m => .dead m
theorem grow_exploreL {X : Cx} {n : Nat} {ps : List Piece} {s : St} {res : List ResultVar} : ∀ (d : Nat) (kn : Kn), grow (fun kn => runAfter X kn n ps s res) d kn = exploreL X n ps s res d kn
  | 0, _ => rfl
  | d + 1, kn => by
    unfold grow exploreL
    cases runAfter X kn n ps s res with
    | ok r => rfl
    | need c => simp only [grow_exploreL d]
    | fail m => rfl
theorem grow_node {run : Kn → Res SVal} {d : Nat} {kn : Kn} {c : SB} {T F : Tree} (h : run kn = .need c) (hT : grow run d ((c, true) :: kn) = T) (hF : grow run d ((c, false) :: kn) = F) : grow run (d + 1) kn = .node c T F := by
  unfold grow; rw [h]; simp only [hT, hF]
theorem grow_leaf {run : Kn → Res SVal} {d : Nat} {kn : Kn} {r : SVal} (h : run kn = .ok r) : grow run (d + 1) kn = .leaf r := by
  unfold grow; rw [h]
theorem grow_dead {run : Kn → Res SVal} {d : Nat} {kn : Kn} {m : Nat} (h : run kn = .fail m) : grow run (d + 1) kn = .dead m := by
  unfold grow; rw [h]
def lawRun (X : Cx) (n L D : Nat) (out : SVal) (kn : Kn) : Res SVal :=
  match X.P.funcs[L]? with
  | none => .fail 100
  | some fn => match lawPrep X n D fn with
    | none => .fail 101
    | some (s1, dst, cs) => runAfter X kn n cs ⟨putT s1.T dst out, s1.H⟩ fn.results.toList
theorem lawTree_grow {X : Cx} {n L D : Nat} {out : SVal} {d : Nat} {t : Tree} (h : grow (lawRun X n L D out) (d + 1) [] = t) : lawTree X n L D out (d + 1) = t := by
  rw [← h]
  unfold lawTree
  cases hf : X.P.funcs[L]? with
  | none => simp only [grow, lawRun, hf]
  | some fn =>
    cases hp : lawPrep X n D fn with
    | none => simp only [grow, lawRun, hf, hp]
    | some x =>
      obtain ⟨s1, dst, cs⟩ := x
      have : lawRun X n L D out = fun kn => runAfter X kn n cs ⟨putT s1.T dst out, s1.H⟩ fn.results.toList := by
        funext kn; simp only [lawRun, hf, hp]
      simp only [this, grow_exploreL, hp]
end Go.Proofs.Ytdgfipdlfgcfeaa.Eng
