/-
  No cell of these rows narrows 'for every input' (looked for: loops, veiled, ifaces, maps, wideKeys, modest, calm, conditions, laid).
  DERIVED. THE GIVEN ROWS OF THIS SEAT. 12 by the template 'for every input the law returns true; each argument reads behind the call as it read before'; 0 by the template 'total and deterministic' (their statements: YtdgfipdlfgcfeaaTotals.lean).
  GIVEN WITH THE SEED: the statements are not yours to turn. If you find one false, say at which input.
  Laid BY PROGRAM, IN A SANDBOX (cutbox-rows.mjs): the forced cells as the released guide's own fill.sh prints them over the translation a6bc43929286d4b9… (all of the seat's roots in one cut). By AI agents, Wed Nov 11 2026. No macro, syntax, notation, axiom, sorry.
-/
import Derived.Test.YtdgfipdlfgcfeaaChecked
import GoSem.Claim
import GoSem.ClaimJoined
import GoSem.ClaimMapViews
import Derived.JoinedTies
import Derived.KernelRfl
namespace Go.Proofs.Ytdgfipdlfgcfeaa
/- THE CELL 'sum', in the pinned program and in every row, IS THE sha256 OF THE DUMP (.gsa) THAT YtdgfipdlfgcfeaaProg.lean LOADS. Nothing in Lean hashes anything: it is a label: what it is worth is what the hold of that sum in a sandbox is worth. -/
noncomputable def Try.pinned : Pinned := { name := "ytdgfipdlfgcfeaa", sum := "a6bc43929286d4b947ab5bc41dd9b15b1f44f2e4754458181c6f67bf5e6f768b", checked := Try.checked }
namespace Rows
def none {H : Type} : Left H := { results := [], args := [] }

/-- 'laws.FnExactDiscBound': WHATEVER THE INPUT: true; the input reads as it did. -/
def fnExactDiscBoundSpec : ChangeSpec := { name := "fnExactDiscBound", fn := fun _ => fun
  | [d] => { results := [.lit (.bool true)], args := [d] }
  | _ => none }
def fnExactDiscBoundRow : OpenClaim := { program := "ytdgfipdlfgcfeaa", sum := "a6bc43929286d4b947ab5bc41dd9b15b1f44f2e4754458181c6f67bf5e6f768b", func := "loop.example/quadraticorbits/laws.FnExactDiscBound", spec := "fnExactDiscBound", apart := false }
def FnExactDiscBoundSaid : Prop := fnExactDiscBoundRow.holds Try.pinned (OpenSpec.ofChange fnExactDiscBoundSpec)

/-- ITS FALSE NEIGHBOUR: 'it returns false'. Refute it at one input. -/
def fnExactDiscBoundWrong : ChangeSpec := { name := "fnExactDiscBound", fn := fun _ => fun
  | [d] => { results := [.lit (.bool false)], args := [d] }
  | _ => none }
def FnExactDiscBoundWrongFalsely : Prop := fnExactDiscBoundRow.holds Try.pinned (OpenSpec.ofChange fnExactDiscBoundWrong)

/-- 'laws.FnExactBoxHas': WHATEVER THE INPUT: true; the input reads as it did. -/
def fnExactBoxHasSpec : ChangeSpec := { name := "fnExactBoxHas", fn := fun _ => fun
  | [d1, d2] => { results := [.lit (.bool true)], args := [d1, d2] }
  | _ => none }
def fnExactBoxHasRow : OpenClaim := { program := "ytdgfipdlfgcfeaa", sum := "a6bc43929286d4b947ab5bc41dd9b15b1f44f2e4754458181c6f67bf5e6f768b", func := "loop.example/quadraticorbits/laws.FnExactBoxHas", spec := "fnExactBoxHas", apart := false }
def FnExactBoxHasSaid : Prop := fnExactBoxHasRow.holds Try.pinned (OpenSpec.ofChange fnExactBoxHasSpec)

/-- ITS FALSE NEIGHBOUR: 'it returns false'. Refute it at one input. -/
def fnExactBoxHasWrong : ChangeSpec := { name := "fnExactBoxHas", fn := fun _ => fun
  | [d1, d2] => { results := [.lit (.bool false)], args := [d1, d2] }
  | _ => none }
def FnExactBoxHasWrongFalsely : Prop := fnExactBoxHasRow.holds Try.pinned (OpenSpec.ofChange fnExactBoxHasWrong)

/-- 'laws.FnBoxNorm': WHATEVER THE INPUT: true; the input reads as it did. -/
def fnBoxNormSpec : ChangeSpec := { name := "fnBoxNorm", fn := fun _ => fun
  | [d] => { results := [.lit (.bool true)], args := [d] }
  | _ => none }
def fnBoxNormRow : OpenClaim := { program := "ytdgfipdlfgcfeaa", sum := "a6bc43929286d4b947ab5bc41dd9b15b1f44f2e4754458181c6f67bf5e6f768b", func := "loop.example/quadraticorbits/laws.FnBoxNorm", spec := "fnBoxNorm", apart := false }
def FnBoxNormSaid : Prop := fnBoxNormRow.holds Try.pinned (OpenSpec.ofChange fnBoxNormSpec)

/-- ITS FALSE NEIGHBOUR: 'it returns false'. Refute it at one input. -/
def fnBoxNormWrong : ChangeSpec := { name := "fnBoxNorm", fn := fun _ => fun
  | [d] => { results := [.lit (.bool false)], args := [d] }
  | _ => none }
def FnBoxNormWrongFalsely : Prop := fnBoxNormRow.holds Try.pinned (OpenSpec.ofChange fnBoxNormWrong)

/-- 'laws.FnExactCardioidBound': WHATEVER THE INPUT: true; the input reads as it did. -/
def fnExactCardioidBoundSpec : ChangeSpec := { name := "fnExactCardioidBound", fn := fun _ => fun
  | [d] => { results := [.lit (.bool true)], args := [d] }
  | _ => none }
def fnExactCardioidBoundRow : OpenClaim := { program := "ytdgfipdlfgcfeaa", sum := "a6bc43929286d4b947ab5bc41dd9b15b1f44f2e4754458181c6f67bf5e6f768b", func := "loop.example/quadraticorbits/laws.FnExactCardioidBound", spec := "fnExactCardioidBound", apart := false }
def FnExactCardioidBoundSaid : Prop := fnExactCardioidBoundRow.holds Try.pinned (OpenSpec.ofChange fnExactCardioidBoundSpec)

/-- ITS FALSE NEIGHBOUR: 'it returns false'. Refute it at one input. -/
def fnExactCardioidBoundWrong : ChangeSpec := { name := "fnExactCardioidBound", fn := fun _ => fun
  | [d] => { results := [.lit (.bool false)], args := [d] }
  | _ => none }
def FnExactCardioidBoundWrongFalsely : Prop := fnExactCardioidBoundRow.holds Try.pinned (OpenSpec.ofChange fnExactCardioidBoundWrong)

/-- 'laws.FnExactBoxSquare': WHATEVER THE INPUT: true; the input reads as it did. -/
def fnExactBoxSquareSpec : ChangeSpec := { name := "fnExactBoxSquare", fn := fun _ => fun
  | [d] => { results := [.lit (.bool true)], args := [d] }
  | _ => none }
def fnExactBoxSquareRow : OpenClaim := { program := "ytdgfipdlfgcfeaa", sum := "a6bc43929286d4b947ab5bc41dd9b15b1f44f2e4754458181c6f67bf5e6f768b", func := "loop.example/quadraticorbits/laws.FnExactBoxSquare", spec := "fnExactBoxSquare", apart := false }
def FnExactBoxSquareSaid : Prop := fnExactBoxSquareRow.holds Try.pinned (OpenSpec.ofChange fnExactBoxSquareSpec)

/-- ITS FALSE NEIGHBOUR: 'it returns false'. Refute it at one input. -/
def fnExactBoxSquareWrong : ChangeSpec := { name := "fnExactBoxSquare", fn := fun _ => fun
  | [d] => { results := [.lit (.bool false)], args := [d] }
  | _ => none }
def FnExactBoxSquareWrongFalsely : Prop := fnExactBoxSquareRow.holds Try.pinned (OpenSpec.ofChange fnExactBoxSquareWrong)

/-- 'laws.FnExactBoxCut': WHATEVER THE INPUT: true; the input reads as it did. -/
def fnExactBoxCutSpec : ChangeSpec := { name := "fnExactBoxCut", fn := fun _ => fun
  | [d] => { results := [.lit (.bool true)], args := [d] }
  | _ => none }
def fnExactBoxCutRow : OpenClaim := { program := "ytdgfipdlfgcfeaa", sum := "a6bc43929286d4b947ab5bc41dd9b15b1f44f2e4754458181c6f67bf5e6f768b", func := "loop.example/quadraticorbits/laws.FnExactBoxCut", spec := "fnExactBoxCut", apart := false }
def FnExactBoxCutSaid : Prop := fnExactBoxCutRow.holds Try.pinned (OpenSpec.ofChange fnExactBoxCutSpec)

/-- ITS FALSE NEIGHBOUR: 'it returns false'. Refute it at one input. -/
def fnExactBoxCutWrong : ChangeSpec := { name := "fnExactBoxCut", fn := fun _ => fun
  | [d] => { results := [.lit (.bool false)], args := [d] }
  | _ => none }
def FnExactBoxCutWrongFalsely : Prop := fnExactBoxCutRow.holds Try.pinned (OpenSpec.ofChange fnExactBoxCutWrong)

/-- 'laws.FnBox': WHATEVER THE INPUT: true; the input reads as it did. -/
def fnBoxSpec : ChangeSpec := { name := "fnBox", fn := fun _ => fun
  | [d] => { results := [.lit (.bool true)], args := [d] }
  | _ => none }
def fnBoxRow : OpenClaim := { program := "ytdgfipdlfgcfeaa", sum := "a6bc43929286d4b947ab5bc41dd9b15b1f44f2e4754458181c6f67bf5e6f768b", func := "loop.example/quadraticorbits/laws.FnBox", spec := "fnBox", apart := false }
def FnBoxSaid : Prop := fnBoxRow.holds Try.pinned (OpenSpec.ofChange fnBoxSpec)

/-- ITS FALSE NEIGHBOUR: 'it returns false'. Refute it at one input. -/
def fnBoxWrong : ChangeSpec := { name := "fnBox", fn := fun _ => fun
  | [d] => { results := [.lit (.bool false)], args := [d] }
  | _ => none }
def FnBoxWrongFalsely : Prop := fnBoxRow.holds Try.pinned (OpenSpec.ofChange fnBoxWrong)

/-- 'laws.FnBoxSquare': WHATEVER THE INPUT: true; the input reads as it did. -/
def fnBoxSquareSpec : ChangeSpec := { name := "fnBoxSquare", fn := fun _ => fun
  | [d] => { results := [.lit (.bool true)], args := [d] }
  | _ => none }
def fnBoxSquareRow : OpenClaim := { program := "ytdgfipdlfgcfeaa", sum := "a6bc43929286d4b947ab5bc41dd9b15b1f44f2e4754458181c6f67bf5e6f768b", func := "loop.example/quadraticorbits/laws.FnBoxSquare", spec := "fnBoxSquare", apart := false }
def FnBoxSquareSaid : Prop := fnBoxSquareRow.holds Try.pinned (OpenSpec.ofChange fnBoxSquareSpec)

/-- ITS FALSE NEIGHBOUR: 'it returns false'. Refute it at one input. -/
def fnBoxSquareWrong : ChangeSpec := { name := "fnBoxSquare", fn := fun _ => fun
  | [d] => { results := [.lit (.bool false)], args := [d] }
  | _ => none }
def FnBoxSquareWrongFalsely : Prop := fnBoxSquareRow.holds Try.pinned (OpenSpec.ofChange fnBoxSquareWrong)

/-- 'laws.FnDisc': WHATEVER THE INPUT: true; the input reads as it did. -/
def fnDiscSpec : ChangeSpec := { name := "fnDisc", fn := fun _ => fun
  | [d] => { results := [.lit (.bool true)], args := [d] }
  | _ => none }
def fnDiscRow : OpenClaim := { program := "ytdgfipdlfgcfeaa", sum := "a6bc43929286d4b947ab5bc41dd9b15b1f44f2e4754458181c6f67bf5e6f768b", func := "loop.example/quadraticorbits/laws.FnDisc", spec := "fnDisc", apart := false }
def FnDiscSaid : Prop := fnDiscRow.holds Try.pinned (OpenSpec.ofChange fnDiscSpec)

/-- ITS FALSE NEIGHBOUR: 'it returns false'. Refute it at one input. -/
def fnDiscWrong : ChangeSpec := { name := "fnDisc", fn := fun _ => fun
  | [d] => { results := [.lit (.bool false)], args := [d] }
  | _ => none }
def FnDiscWrongFalsely : Prop := fnDiscRow.holds Try.pinned (OpenSpec.ofChange fnDiscWrong)

/-- 'laws.FnWithin': WHATEVER THE INPUT: true; the input reads as it did. -/
def fnWithinSpec : ChangeSpec := { name := "fnWithin", fn := fun _ => fun
  | [d] => { results := [.lit (.bool true)], args := [d] }
  | _ => none }
def fnWithinRow : OpenClaim := { program := "ytdgfipdlfgcfeaa", sum := "a6bc43929286d4b947ab5bc41dd9b15b1f44f2e4754458181c6f67bf5e6f768b", func := "loop.example/quadraticorbits/laws.FnWithin", spec := "fnWithin", apart := false }
def FnWithinSaid : Prop := fnWithinRow.holds Try.pinned (OpenSpec.ofChange fnWithinSpec)

/-- ITS FALSE NEIGHBOUR: 'it returns false'. Refute it at one input. -/
def fnWithinWrong : ChangeSpec := { name := "fnWithin", fn := fun _ => fun
  | [d] => { results := [.lit (.bool false)], args := [d] }
  | _ => none }
def FnWithinWrongFalsely : Prop := fnWithinRow.holds Try.pinned (OpenSpec.ofChange fnWithinWrong)

/-- 'laws.FnCardioid': WHATEVER THE INPUT: true; the input reads as it did. -/
def fnCardioidSpec : ChangeSpec := { name := "fnCardioid", fn := fun _ => fun
  | [d] => { results := [.lit (.bool true)], args := [d] }
  | _ => none }
def fnCardioidRow : OpenClaim := { program := "ytdgfipdlfgcfeaa", sum := "a6bc43929286d4b947ab5bc41dd9b15b1f44f2e4754458181c6f67bf5e6f768b", func := "loop.example/quadraticorbits/laws.FnCardioid", spec := "fnCardioid", apart := false }
def FnCardioidSaid : Prop := fnCardioidRow.holds Try.pinned (OpenSpec.ofChange fnCardioidSpec)

/-- ITS FALSE NEIGHBOUR: 'it returns false'. Refute it at one input. -/
def fnCardioidWrong : ChangeSpec := { name := "fnCardioid", fn := fun _ => fun
  | [d] => { results := [.lit (.bool false)], args := [d] }
  | _ => none }
def FnCardioidWrongFalsely : Prop := fnCardioidRow.holds Try.pinned (OpenSpec.ofChange fnCardioidWrong)

/-- 'laws.FnBoxAdd': WHATEVER THE INPUT: true; the input reads as it did. -/
def fnBoxAddSpec : ChangeSpec := { name := "fnBoxAdd", fn := fun _ => fun
  | [d] => { results := [.lit (.bool true)], args := [d] }
  | _ => none }
def fnBoxAddRow : OpenClaim := { program := "ytdgfipdlfgcfeaa", sum := "a6bc43929286d4b947ab5bc41dd9b15b1f44f2e4754458181c6f67bf5e6f768b", func := "loop.example/quadraticorbits/laws.FnBoxAdd", spec := "fnBoxAdd", apart := false }
def FnBoxAddSaid : Prop := fnBoxAddRow.holds Try.pinned (OpenSpec.ofChange fnBoxAddSpec)

/-- ITS FALSE NEIGHBOUR: 'it returns false'. Refute it at one input. -/
def fnBoxAddWrong : ChangeSpec := { name := "fnBoxAdd", fn := fun _ => fun
  | [d] => { results := [.lit (.bool false)], args := [d] }
  | _ => none }
def FnBoxAddWrongFalsely : Prop := fnBoxAddRow.holds Try.pinned (OpenSpec.ofChange fnBoxAddWrong)

/- THE SECOND FORM. 'bulk': how many values and letters a reading holds, each counted each time it is reached (what is shared counts as often as it is met; a slice's spare places count too). A statement '..UptoSaid' is the law's where the arguments, and the package variables that the reading takes, are together of bulk at most 1048576: NARROWER than '..Said'. Prove '..Said' where nothing that the law and all that it calls make is longer than what came in: it says more and counts as full. Else prove '..UptoSaid'. A law counts once. -/
mutual
def uptoBulk {H : Type} : DataW H → Nat
  | .lit (.string bytes) => bytes.length + 1
  | .lit _ => 1
  | .nil => 1
  | .ptr d => uptoBulk d + 1
  | .slice elems spare => uptoBulkAll elems + uptoBulkAll spare + 1
  | .agg parts => uptoBulkAll parts + 1
  | .iface _ d => uptoBulk d + 1
  | .map entries => uptoBulkEntries entries + 1
  | .held _ => 1
def uptoBulkAll {H : Type} : List (DataW H) → Nat
  | [] => 0
  | d :: r => uptoBulk d + uptoBulkAll r
def uptoBulkEntries {H : Type} : List (Lit × DataW H) → Nat
  | [] => 0
  | x :: r => uptoBulkEntry x + uptoBulkEntries r
def uptoBulkEntry {H : Type} : Lit × DataW H → Nat
  | (.string bytes, d) => bytes.length + uptoBulk d + 1
  | (_, d) => uptoBulk d + 1
 end
def uptoSmall : (H : Type) → List (DataW H) → Bool := fun _ ds => decide (uptoBulkAll ds ≤ 1048576)
def OpenSpec.upto (s : _root_.Go.ChangeSpec) : _root_.Go.OpenSpec := { _root_.Go.OpenSpec.ofChange s with cond := some uptoSmall }

/-- 'laws.FnExactDiscBound', WHERE WHAT IT READS IS OF BULK AT MOST 1048576: true; the input reads as it did. -/
def fnExactDiscBoundUptoRow : OpenClaim := { program := "ytdgfipdlfgcfeaa", sum := "a6bc43929286d4b947ab5bc41dd9b15b1f44f2e4754458181c6f67bf5e6f768b", func := "loop.example/quadraticorbits/laws.FnExactDiscBound", spec := "fnExactDiscBound", apart := false, narrowed := true }
def FnExactDiscBoundUptoSaid : Prop := fnExactDiscBoundUptoRow.holds Try.pinned (OpenSpec.upto fnExactDiscBoundSpec)

/-- 'laws.FnExactBoxHas', WHERE WHAT IT READS IS OF BULK AT MOST 1048576: true; the input reads as it did. -/
def fnExactBoxHasUptoRow : OpenClaim := { program := "ytdgfipdlfgcfeaa", sum := "a6bc43929286d4b947ab5bc41dd9b15b1f44f2e4754458181c6f67bf5e6f768b", func := "loop.example/quadraticorbits/laws.FnExactBoxHas", spec := "fnExactBoxHas", apart := false, narrowed := true }
def FnExactBoxHasUptoSaid : Prop := fnExactBoxHasUptoRow.holds Try.pinned (OpenSpec.upto fnExactBoxHasSpec)

/-- 'laws.FnBoxNorm', WHERE WHAT IT READS IS OF BULK AT MOST 1048576: true; the input reads as it did. -/
def fnBoxNormUptoRow : OpenClaim := { program := "ytdgfipdlfgcfeaa", sum := "a6bc43929286d4b947ab5bc41dd9b15b1f44f2e4754458181c6f67bf5e6f768b", func := "loop.example/quadraticorbits/laws.FnBoxNorm", spec := "fnBoxNorm", apart := false, narrowed := true }
def FnBoxNormUptoSaid : Prop := fnBoxNormUptoRow.holds Try.pinned (OpenSpec.upto fnBoxNormSpec)

/-- 'laws.FnExactCardioidBound', WHERE WHAT IT READS IS OF BULK AT MOST 1048576: true; the input reads as it did. -/
def fnExactCardioidBoundUptoRow : OpenClaim := { program := "ytdgfipdlfgcfeaa", sum := "a6bc43929286d4b947ab5bc41dd9b15b1f44f2e4754458181c6f67bf5e6f768b", func := "loop.example/quadraticorbits/laws.FnExactCardioidBound", spec := "fnExactCardioidBound", apart := false, narrowed := true }
def FnExactCardioidBoundUptoSaid : Prop := fnExactCardioidBoundUptoRow.holds Try.pinned (OpenSpec.upto fnExactCardioidBoundSpec)

/-- 'laws.FnExactBoxSquare', WHERE WHAT IT READS IS OF BULK AT MOST 1048576: true; the input reads as it did. -/
def fnExactBoxSquareUptoRow : OpenClaim := { program := "ytdgfipdlfgcfeaa", sum := "a6bc43929286d4b947ab5bc41dd9b15b1f44f2e4754458181c6f67bf5e6f768b", func := "loop.example/quadraticorbits/laws.FnExactBoxSquare", spec := "fnExactBoxSquare", apart := false, narrowed := true }
def FnExactBoxSquareUptoSaid : Prop := fnExactBoxSquareUptoRow.holds Try.pinned (OpenSpec.upto fnExactBoxSquareSpec)

/-- 'laws.FnExactBoxCut', WHERE WHAT IT READS IS OF BULK AT MOST 1048576: true; the input reads as it did. -/
def fnExactBoxCutUptoRow : OpenClaim := { program := "ytdgfipdlfgcfeaa", sum := "a6bc43929286d4b947ab5bc41dd9b15b1f44f2e4754458181c6f67bf5e6f768b", func := "loop.example/quadraticorbits/laws.FnExactBoxCut", spec := "fnExactBoxCut", apart := false, narrowed := true }
def FnExactBoxCutUptoSaid : Prop := fnExactBoxCutUptoRow.holds Try.pinned (OpenSpec.upto fnExactBoxCutSpec)

/-- 'laws.FnBox', WHERE WHAT IT READS IS OF BULK AT MOST 1048576: true; the input reads as it did. -/
def fnBoxUptoRow : OpenClaim := { program := "ytdgfipdlfgcfeaa", sum := "a6bc43929286d4b947ab5bc41dd9b15b1f44f2e4754458181c6f67bf5e6f768b", func := "loop.example/quadraticorbits/laws.FnBox", spec := "fnBox", apart := false, narrowed := true }
def FnBoxUptoSaid : Prop := fnBoxUptoRow.holds Try.pinned (OpenSpec.upto fnBoxSpec)

/-- 'laws.FnBoxSquare', WHERE WHAT IT READS IS OF BULK AT MOST 1048576: true; the input reads as it did. -/
def fnBoxSquareUptoRow : OpenClaim := { program := "ytdgfipdlfgcfeaa", sum := "a6bc43929286d4b947ab5bc41dd9b15b1f44f2e4754458181c6f67bf5e6f768b", func := "loop.example/quadraticorbits/laws.FnBoxSquare", spec := "fnBoxSquare", apart := false, narrowed := true }
def FnBoxSquareUptoSaid : Prop := fnBoxSquareUptoRow.holds Try.pinned (OpenSpec.upto fnBoxSquareSpec)

/-- 'laws.FnDisc', WHERE WHAT IT READS IS OF BULK AT MOST 1048576: true; the input reads as it did. -/
def fnDiscUptoRow : OpenClaim := { program := "ytdgfipdlfgcfeaa", sum := "a6bc43929286d4b947ab5bc41dd9b15b1f44f2e4754458181c6f67bf5e6f768b", func := "loop.example/quadraticorbits/laws.FnDisc", spec := "fnDisc", apart := false, narrowed := true }
def FnDiscUptoSaid : Prop := fnDiscUptoRow.holds Try.pinned (OpenSpec.upto fnDiscSpec)

/-- 'laws.FnWithin', WHERE WHAT IT READS IS OF BULK AT MOST 1048576: true; the input reads as it did. -/
def fnWithinUptoRow : OpenClaim := { program := "ytdgfipdlfgcfeaa", sum := "a6bc43929286d4b947ab5bc41dd9b15b1f44f2e4754458181c6f67bf5e6f768b", func := "loop.example/quadraticorbits/laws.FnWithin", spec := "fnWithin", apart := false, narrowed := true }
def FnWithinUptoSaid : Prop := fnWithinUptoRow.holds Try.pinned (OpenSpec.upto fnWithinSpec)

/-- 'laws.FnCardioid', WHERE WHAT IT READS IS OF BULK AT MOST 1048576: true; the input reads as it did. -/
def fnCardioidUptoRow : OpenClaim := { program := "ytdgfipdlfgcfeaa", sum := "a6bc43929286d4b947ab5bc41dd9b15b1f44f2e4754458181c6f67bf5e6f768b", func := "loop.example/quadraticorbits/laws.FnCardioid", spec := "fnCardioid", apart := false, narrowed := true }
def FnCardioidUptoSaid : Prop := fnCardioidUptoRow.holds Try.pinned (OpenSpec.upto fnCardioidSpec)

/-- 'laws.FnBoxAdd', WHERE WHAT IT READS IS OF BULK AT MOST 1048576: true; the input reads as it did. -/
def fnBoxAddUptoRow : OpenClaim := { program := "ytdgfipdlfgcfeaa", sum := "a6bc43929286d4b947ab5bc41dd9b15b1f44f2e4754458181c6f67bf5e6f768b", func := "loop.example/quadraticorbits/laws.FnBoxAdd", spec := "fnBoxAdd", apart := false, narrowed := true }
def FnBoxAddUptoSaid : Prop := fnBoxAddUptoRow.holds Try.pinned (OpenSpec.upto fnBoxAddSpec)

end Rows
end Go.Proofs.Ytdgfipdlfgcfeaa
