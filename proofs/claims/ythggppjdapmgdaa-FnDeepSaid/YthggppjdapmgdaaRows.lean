/-
  No cell of these rows narrows 'for every input' (looked for: loops, veiled, ifaces, maps, wideKeys, modest, calm, conditions, laid).
  DERIVED. THE GIVEN ROWS OF THIS SEAT. 12 by the template 'for every input the law returns true; each argument reads behind the call as it read before'; 0 by the template 'total and deterministic' (their statements: YthggppjdapmgdaaTotals.lean).
  GIVEN WITH THE SEED: the statements are not yours to turn. If you find one false, say at which input.
  Laid BY PROGRAM, IN A SANDBOX (cutbox-rows.mjs): the forced cells as the released guide's own fill.sh prints them over the translation 375d6f044dcffd00… (all of the seat's roots in one cut). By AI agents, Wed Nov 11 2026. No macro, syntax, notation, axiom, sorry.
-/
import Derived.Test.YthggppjdapmgdaaChecked
import GoSem.Claim
import GoSem.ClaimJoined
import GoSem.ClaimMapViews
import Derived.JoinedTies
import Derived.KernelRfl
namespace Go.Proofs.Ythggppjdapmgdaa
/- THE CELL 'sum', in the pinned program and in every row, IS THE sha256 OF THE DUMP (.gsa) THAT YthggppjdapmgdaaProg.lean LOADS. Nothing in Lean hashes anything: it is a label: what it is worth is what the hold of that sum in a sandbox is worth. -/
noncomputable def Try.pinned : Pinned := { name := "ythggppjdapmgdaa", sum := "375d6f044dcffd00555af700b9fb8bec1b472f16a7485783cc9bccfa57eb2d97", checked := Try.checked }
namespace Rows
def none {H : Type} : Left H := { results := [], args := [] }

/-- 'laws.FnDyadState': WHATEVER THE INPUT: true; the input reads as it did. -/
def fnDyadStateSpec : ChangeSpec := { name := "fnDyadState", fn := fun _ => fun
  | [d] => { results := [.lit (.bool true)], args := [d] }
  | _ => none }
def fnDyadStateRow : OpenClaim := { program := "ythggppjdapmgdaa", sum := "375d6f044dcffd00555af700b9fb8bec1b472f16a7485783cc9bccfa57eb2d97", func := "loop.example/quadraticorbits/laws.FnDyadState", spec := "fnDyadState", unfollowed := true, recurses := true, apart := false }
def FnDyadStateSaid : Prop := fnDyadStateRow.holds Try.pinned (OpenSpec.ofChange fnDyadStateSpec)

/-- ITS FALSE NEIGHBOUR: 'it returns false'. Refute it at one input. -/
def fnDyadStateWrong : ChangeSpec := { name := "fnDyadState", fn := fun _ => fun
  | [d] => { results := [.lit (.bool false)], args := [d] }
  | _ => none }
def FnDyadStateWrongFalsely : Prop := fnDyadStateRow.holds Try.pinned (OpenSpec.ofChange fnDyadStateWrong)

/-- 'laws.FnBoxCut': WHATEVER THE INPUT: true; the input reads as it did. -/
def fnBoxCutSpec : ChangeSpec := { name := "fnBoxCut", fn := fun _ => fun
  | [d] => { results := [.lit (.bool true)], args := [d] }
  | _ => none }
def fnBoxCutRow : OpenClaim := { program := "ythggppjdapmgdaa", sum := "375d6f044dcffd00555af700b9fb8bec1b472f16a7485783cc9bccfa57eb2d97", func := "loop.example/quadraticorbits/laws.FnBoxCut", spec := "fnBoxCut", apart := false }
def FnBoxCutSaid : Prop := fnBoxCutRow.holds Try.pinned (OpenSpec.ofChange fnBoxCutSpec)

/-- ITS FALSE NEIGHBOUR: 'it returns false'. Refute it at one input. -/
def fnBoxCutWrong : ChangeSpec := { name := "fnBoxCut", fn := fun _ => fun
  | [d] => { results := [.lit (.bool false)], args := [d] }
  | _ => none }
def FnBoxCutWrongFalsely : Prop := fnBoxCutRow.holds Try.pinned (OpenSpec.ofChange fnBoxCutWrong)

/-- 'laws.FnExactBoxEscape': WHATEVER THE INPUT: true; the input reads as it did. -/
def fnExactBoxEscapeSpec : ChangeSpec := { name := "fnExactBoxEscape", fn := fun _ => fun
  | [d1, d2] => { results := [.lit (.bool true)], args := [d1, d2] }
  | _ => none }
def fnExactBoxEscapeRow : OpenClaim := { program := "ythggppjdapmgdaa", sum := "375d6f044dcffd00555af700b9fb8bec1b472f16a7485783cc9bccfa57eb2d97", func := "loop.example/quadraticorbits/laws.FnExactBoxEscape", spec := "fnExactBoxEscape", unfollowed := true, recurses := true, apart := false }
def FnExactBoxEscapeSaid : Prop := fnExactBoxEscapeRow.holds Try.pinned (OpenSpec.ofChange fnExactBoxEscapeSpec)

/-- ITS FALSE NEIGHBOUR: 'it returns false'. Refute it at one input. -/
def fnExactBoxEscapeWrong : ChangeSpec := { name := "fnExactBoxEscape", fn := fun _ => fun
  | [d1, d2] => { results := [.lit (.bool false)], args := [d1, d2] }
  | _ => none }
def FnExactBoxEscapeWrongFalsely : Prop := fnExactBoxEscapeRow.holds Try.pinned (OpenSpec.ofChange fnExactBoxEscapeWrong)

/-- 'laws.FnExactBoxOrbit': WHATEVER THE INPUT: true; the input reads as it did. -/
def fnExactBoxOrbitSpec : ChangeSpec := { name := "fnExactBoxOrbit", fn := fun _ => fun
  | [d1, d2] => { results := [.lit (.bool true)], args := [d1, d2] }
  | _ => none }
def fnExactBoxOrbitRow : OpenClaim := { program := "ythggppjdapmgdaa", sum := "375d6f044dcffd00555af700b9fb8bec1b472f16a7485783cc9bccfa57eb2d97", func := "loop.example/quadraticorbits/laws.FnExactBoxOrbit", spec := "fnExactBoxOrbit", unfollowed := true, recurses := true, apart := false }
def FnExactBoxOrbitSaid : Prop := fnExactBoxOrbitRow.holds Try.pinned (OpenSpec.ofChange fnExactBoxOrbitSpec)

/-- ITS FALSE NEIGHBOUR: 'it returns false'. Refute it at one input. -/
def fnExactBoxOrbitWrong : ChangeSpec := { name := "fnExactBoxOrbit", fn := fun _ => fun
  | [d1, d2] => { results := [.lit (.bool false)], args := [d1, d2] }
  | _ => none }
def FnExactBoxOrbitWrongFalsely : Prop := fnExactBoxOrbitRow.holds Try.pinned (OpenSpec.ofChange fnExactBoxOrbitWrong)

/-- 'laws.FnBoxHas': WHATEVER THE INPUT: true; the input reads as it did. -/
def fnBoxHasSpec : ChangeSpec := { name := "fnBoxHas", fn := fun _ => fun
  | [d] => { results := [.lit (.bool true)], args := [d] }
  | _ => none }
def fnBoxHasRow : OpenClaim := { program := "ythggppjdapmgdaa", sum := "375d6f044dcffd00555af700b9fb8bec1b472f16a7485783cc9bccfa57eb2d97", func := "loop.example/quadraticorbits/laws.FnBoxHas", spec := "fnBoxHas", apart := false }
def FnBoxHasSaid : Prop := fnBoxHasRow.holds Try.pinned (OpenSpec.ofChange fnBoxHasSpec)

/-- ITS FALSE NEIGHBOUR: 'it returns false'. Refute it at one input. -/
def fnBoxHasWrong : ChangeSpec := { name := "fnBoxHas", fn := fun _ => fun
  | [d] => { results := [.lit (.bool false)], args := [d] }
  | _ => none }
def FnBoxHasWrongFalsely : Prop := fnBoxHasRow.holds Try.pinned (OpenSpec.ofChange fnBoxHasWrong)

/-- 'laws.FnExactCellState': WHATEVER THE INPUT: true; the input reads as it did. -/
def fnExactCellStateSpec : ChangeSpec := { name := "fnExactCellState", fn := fun _ => fun
  | [d1, d2] => { results := [.lit (.bool true)], args := [d1, d2] }
  | _ => none }
def fnExactCellStateRow : OpenClaim := { program := "ythggppjdapmgdaa", sum := "375d6f044dcffd00555af700b9fb8bec1b472f16a7485783cc9bccfa57eb2d97", func := "loop.example/quadraticorbits/laws.FnExactCellState", spec := "fnExactCellState", unfollowed := true, recurses := true, apart := false }
def FnExactCellStateSaid : Prop := fnExactCellStateRow.holds Try.pinned (OpenSpec.ofChange fnExactCellStateSpec)

/-- ITS FALSE NEIGHBOUR: 'it returns false'. Refute it at one input. -/
def fnExactCellStateWrong : ChangeSpec := { name := "fnExactCellState", fn := fun _ => fun
  | [d1, d2] => { results := [.lit (.bool false)], args := [d1, d2] }
  | _ => none }
def FnExactCellStateWrongFalsely : Prop := fnExactCellStateRow.holds Try.pinned (OpenSpec.ofChange fnExactCellStateWrong)

/-- 'laws.FnBoxOrbit': WHATEVER THE INPUT: true; the input reads as it did. -/
def fnBoxOrbitSpec : ChangeSpec := { name := "fnBoxOrbit", fn := fun _ => fun
  | [d] => { results := [.lit (.bool true)], args := [d] }
  | _ => none }
def fnBoxOrbitRow : OpenClaim := { program := "ythggppjdapmgdaa", sum := "375d6f044dcffd00555af700b9fb8bec1b472f16a7485783cc9bccfa57eb2d97", func := "loop.example/quadraticorbits/laws.FnBoxOrbit", spec := "fnBoxOrbit", unfollowed := true, recurses := true, apart := false }
def FnBoxOrbitSaid : Prop := fnBoxOrbitRow.holds Try.pinned (OpenSpec.ofChange fnBoxOrbitSpec)

/-- ITS FALSE NEIGHBOUR: 'it returns false'. Refute it at one input. -/
def fnBoxOrbitWrong : ChangeSpec := { name := "fnBoxOrbit", fn := fun _ => fun
  | [d] => { results := [.lit (.bool false)], args := [d] }
  | _ => none }
def FnBoxOrbitWrongFalsely : Prop := fnBoxOrbitRow.holds Try.pinned (OpenSpec.ofChange fnBoxOrbitWrong)

/-- 'laws.FnExactDyadState': WHATEVER THE INPUT: true; the input reads as it did. -/
def fnExactDyadStateSpec : ChangeSpec := { name := "fnExactDyadState", fn := fun _ => fun
  | [d1, d2] => { results := [.lit (.bool true)], args := [d1, d2] }
  | _ => none }
def fnExactDyadStateRow : OpenClaim := { program := "ythggppjdapmgdaa", sum := "375d6f044dcffd00555af700b9fb8bec1b472f16a7485783cc9bccfa57eb2d97", func := "loop.example/quadraticorbits/laws.FnExactDyadState", spec := "fnExactDyadState", unfollowed := true, recurses := true, apart := false }
def FnExactDyadStateSaid : Prop := fnExactDyadStateRow.holds Try.pinned (OpenSpec.ofChange fnExactDyadStateSpec)

/-- ITS FALSE NEIGHBOUR: 'it returns false'. Refute it at one input. -/
def fnExactDyadStateWrong : ChangeSpec := { name := "fnExactDyadState", fn := fun _ => fun
  | [d1, d2] => { results := [.lit (.bool false)], args := [d1, d2] }
  | _ => none }
def FnExactDyadStateWrongFalsely : Prop := fnExactDyadStateRow.holds Try.pinned (OpenSpec.ofChange fnExactDyadStateWrong)

/-- 'laws.FnBoxEscape': WHATEVER THE INPUT: true; the input reads as it did. -/
def fnBoxEscapeSpec : ChangeSpec := { name := "fnBoxEscape", fn := fun _ => fun
  | [d] => { results := [.lit (.bool true)], args := [d] }
  | _ => none }
def fnBoxEscapeRow : OpenClaim := { program := "ythggppjdapmgdaa", sum := "375d6f044dcffd00555af700b9fb8bec1b472f16a7485783cc9bccfa57eb2d97", func := "loop.example/quadraticorbits/laws.FnBoxEscape", spec := "fnBoxEscape", unfollowed := true, recurses := true, apart := false }
def FnBoxEscapeSaid : Prop := fnBoxEscapeRow.holds Try.pinned (OpenSpec.ofChange fnBoxEscapeSpec)

/-- ITS FALSE NEIGHBOUR: 'it returns false'. Refute it at one input. -/
def fnBoxEscapeWrong : ChangeSpec := { name := "fnBoxEscape", fn := fun _ => fun
  | [d] => { results := [.lit (.bool false)], args := [d] }
  | _ => none }
def FnBoxEscapeWrongFalsely : Prop := fnBoxEscapeRow.holds Try.pinned (OpenSpec.ofChange fnBoxEscapeWrong)

/-- 'laws.FnExactCellDeep': WHATEVER THE INPUT: true; the input reads as it did. -/
def fnExactCellDeepSpec : ChangeSpec := { name := "fnExactCellDeep", fn := fun _ => fun
  | [d1, d2, d3] => { results := [.lit (.bool true)], args := [d1, d2, d3] }
  | _ => none }
def fnExactCellDeepRow : OpenClaim := { program := "ythggppjdapmgdaa", sum := "375d6f044dcffd00555af700b9fb8bec1b472f16a7485783cc9bccfa57eb2d97", func := "loop.example/quadraticorbits/laws.FnExactCellDeep", spec := "fnExactCellDeep", unfollowed := true, recurses := true, apart := false }
def FnExactCellDeepSaid : Prop := fnExactCellDeepRow.holds Try.pinned (OpenSpec.ofChange fnExactCellDeepSpec)

/-- ITS FALSE NEIGHBOUR: 'it returns false'. Refute it at one input. -/
def fnExactCellDeepWrong : ChangeSpec := { name := "fnExactCellDeep", fn := fun _ => fun
  | [d1, d2, d3] => { results := [.lit (.bool false)], args := [d1, d2, d3] }
  | _ => none }
def FnExactCellDeepWrongFalsely : Prop := fnExactCellDeepRow.holds Try.pinned (OpenSpec.ofChange fnExactCellDeepWrong)

/-- 'laws.FnDeep': WHATEVER THE INPUT: true; the input reads as it did. -/
def fnDeepSpec : ChangeSpec := { name := "fnDeep", fn := fun _ => fun
  | [d] => { results := [.lit (.bool true)], args := [d] }
  | _ => none }
def fnDeepRow : OpenClaim := { program := "ythggppjdapmgdaa", sum := "375d6f044dcffd00555af700b9fb8bec1b472f16a7485783cc9bccfa57eb2d97", func := "loop.example/quadraticorbits/laws.FnDeep", spec := "fnDeep", unfollowed := true, recurses := true, apart := false }
def FnDeepSaid : Prop := fnDeepRow.holds Try.pinned (OpenSpec.ofChange fnDeepSpec)

/-- ITS FALSE NEIGHBOUR: 'it returns false'. Refute it at one input. -/
def fnDeepWrong : ChangeSpec := { name := "fnDeep", fn := fun _ => fun
  | [d] => { results := [.lit (.bool false)], args := [d] }
  | _ => none }
def FnDeepWrongFalsely : Prop := fnDeepRow.holds Try.pinned (OpenSpec.ofChange fnDeepWrong)

/-- 'laws.FnState': WHATEVER THE INPUT: true; the input reads as it did. -/
def fnStateSpec : ChangeSpec := { name := "fnState", fn := fun _ => fun
  | [d] => { results := [.lit (.bool true)], args := [d] }
  | _ => none }
def fnStateRow : OpenClaim := { program := "ythggppjdapmgdaa", sum := "375d6f044dcffd00555af700b9fb8bec1b472f16a7485783cc9bccfa57eb2d97", func := "loop.example/quadraticorbits/laws.FnState", spec := "fnState", unfollowed := true, recurses := true, apart := false }
def FnStateSaid : Prop := fnStateRow.holds Try.pinned (OpenSpec.ofChange fnStateSpec)

/-- ITS FALSE NEIGHBOUR: 'it returns false'. Refute it at one input. -/
def fnStateWrong : ChangeSpec := { name := "fnState", fn := fun _ => fun
  | [d] => { results := [.lit (.bool false)], args := [d] }
  | _ => none }
def FnStateWrongFalsely : Prop := fnStateRow.holds Try.pinned (OpenSpec.ofChange fnStateWrong)

/- THE SECOND FORM. 'bulk': how many values and letters a reading holds, each counted each time it is reached (what is shared counts as often as it is met; a slice's spare places count too). A statement '..UptoSaid' is the law's where the arguments, and the package variables that the reading takes, are together of bulk at most 1048576: NARROWER than '..Said'. Prove '..Said' where nothing that the law and all that it calls make is longer than what came in: it says more and counts as full. Else prove '..UptoSaid'. A law counts once. -/
mutual
def uptoBulk {H : Type} : DataW H → Nat
  | .lit (.string bytes) => bytes.length + 1
  | .lit _ => 1
  | .nil => 1
  | .ptr d => uptoBulk d + 1
  | .slice elems spare => uptoBulkAll elems + uptoBulkAll spare + 1
  | .agg parts => uptoBulkAll parts + 1
  | .iface _ d => uptoBulk d + 1
  | .map entries => uptoBulkEntries entries + 1
  | .held _ => 1
def uptoBulkAll {H : Type} : List (DataW H) → Nat
  | [] => 0
  | d :: r => uptoBulk d + uptoBulkAll r
def uptoBulkEntries {H : Type} : List (Lit × DataW H) → Nat
  | [] => 0
  | x :: r => uptoBulkEntry x + uptoBulkEntries r
def uptoBulkEntry {H : Type} : Lit × DataW H → Nat
  | (.string bytes, d) => bytes.length + uptoBulk d + 1
  | (_, d) => uptoBulk d + 1
 end
def uptoSmall : (H : Type) → List (DataW H) → Bool := fun _ ds => decide (uptoBulkAll ds ≤ 1048576)
def OpenSpec.upto (s : _root_.Go.ChangeSpec) : _root_.Go.OpenSpec := { _root_.Go.OpenSpec.ofChange s with cond := some uptoSmall }

/-- 'laws.FnDyadState', WHERE WHAT IT READS IS OF BULK AT MOST 1048576: true; the input reads as it did. -/
def fnDyadStateUptoRow : OpenClaim := { program := "ythggppjdapmgdaa", sum := "375d6f044dcffd00555af700b9fb8bec1b472f16a7485783cc9bccfa57eb2d97", func := "loop.example/quadraticorbits/laws.FnDyadState", spec := "fnDyadState", unfollowed := true, recurses := true, apart := false, narrowed := true }
def FnDyadStateUptoSaid : Prop := fnDyadStateUptoRow.holds Try.pinned (OpenSpec.upto fnDyadStateSpec)

/-- 'laws.FnBoxCut', WHERE WHAT IT READS IS OF BULK AT MOST 1048576: true; the input reads as it did. -/
def fnBoxCutUptoRow : OpenClaim := { program := "ythggppjdapmgdaa", sum := "375d6f044dcffd00555af700b9fb8bec1b472f16a7485783cc9bccfa57eb2d97", func := "loop.example/quadraticorbits/laws.FnBoxCut", spec := "fnBoxCut", apart := false, narrowed := true }
def FnBoxCutUptoSaid : Prop := fnBoxCutUptoRow.holds Try.pinned (OpenSpec.upto fnBoxCutSpec)

/-- 'laws.FnExactBoxEscape', WHERE WHAT IT READS IS OF BULK AT MOST 1048576: true; the input reads as it did. -/
def fnExactBoxEscapeUptoRow : OpenClaim := { program := "ythggppjdapmgdaa", sum := "375d6f044dcffd00555af700b9fb8bec1b472f16a7485783cc9bccfa57eb2d97", func := "loop.example/quadraticorbits/laws.FnExactBoxEscape", spec := "fnExactBoxEscape", unfollowed := true, recurses := true, apart := false, narrowed := true }
def FnExactBoxEscapeUptoSaid : Prop := fnExactBoxEscapeUptoRow.holds Try.pinned (OpenSpec.upto fnExactBoxEscapeSpec)

/-- 'laws.FnExactBoxOrbit', WHERE WHAT IT READS IS OF BULK AT MOST 1048576: true; the input reads as it did. -/
def fnExactBoxOrbitUptoRow : OpenClaim := { program := "ythggppjdapmgdaa", sum := "375d6f044dcffd00555af700b9fb8bec1b472f16a7485783cc9bccfa57eb2d97", func := "loop.example/quadraticorbits/laws.FnExactBoxOrbit", spec := "fnExactBoxOrbit", unfollowed := true, recurses := true, apart := false, narrowed := true }
def FnExactBoxOrbitUptoSaid : Prop := fnExactBoxOrbitUptoRow.holds Try.pinned (OpenSpec.upto fnExactBoxOrbitSpec)

/-- 'laws.FnBoxHas', WHERE WHAT IT READS IS OF BULK AT MOST 1048576: true; the input reads as it did. -/
def fnBoxHasUptoRow : OpenClaim := { program := "ythggppjdapmgdaa", sum := "375d6f044dcffd00555af700b9fb8bec1b472f16a7485783cc9bccfa57eb2d97", func := "loop.example/quadraticorbits/laws.FnBoxHas", spec := "fnBoxHas", apart := false, narrowed := true }
def FnBoxHasUptoSaid : Prop := fnBoxHasUptoRow.holds Try.pinned (OpenSpec.upto fnBoxHasSpec)

/-- 'laws.FnExactCellState', WHERE WHAT IT READS IS OF BULK AT MOST 1048576: true; the input reads as it did. -/
def fnExactCellStateUptoRow : OpenClaim := { program := "ythggppjdapmgdaa", sum := "375d6f044dcffd00555af700b9fb8bec1b472f16a7485783cc9bccfa57eb2d97", func := "loop.example/quadraticorbits/laws.FnExactCellState", spec := "fnExactCellState", unfollowed := true, recurses := true, apart := false, narrowed := true }
def FnExactCellStateUptoSaid : Prop := fnExactCellStateUptoRow.holds Try.pinned (OpenSpec.upto fnExactCellStateSpec)

/-- 'laws.FnBoxOrbit', WHERE WHAT IT READS IS OF BULK AT MOST 1048576: true; the input reads as it did. -/
def fnBoxOrbitUptoRow : OpenClaim := { program := "ythggppjdapmgdaa", sum := "375d6f044dcffd00555af700b9fb8bec1b472f16a7485783cc9bccfa57eb2d97", func := "loop.example/quadraticorbits/laws.FnBoxOrbit", spec := "fnBoxOrbit", unfollowed := true, recurses := true, apart := false, narrowed := true }
def FnBoxOrbitUptoSaid : Prop := fnBoxOrbitUptoRow.holds Try.pinned (OpenSpec.upto fnBoxOrbitSpec)

/-- 'laws.FnExactDyadState', WHERE WHAT IT READS IS OF BULK AT MOST 1048576: true; the input reads as it did. -/
def fnExactDyadStateUptoRow : OpenClaim := { program := "ythggppjdapmgdaa", sum := "375d6f044dcffd00555af700b9fb8bec1b472f16a7485783cc9bccfa57eb2d97", func := "loop.example/quadraticorbits/laws.FnExactDyadState", spec := "fnExactDyadState", unfollowed := true, recurses := true, apart := false, narrowed := true }
def FnExactDyadStateUptoSaid : Prop := fnExactDyadStateUptoRow.holds Try.pinned (OpenSpec.upto fnExactDyadStateSpec)

/-- 'laws.FnBoxEscape', WHERE WHAT IT READS IS OF BULK AT MOST 1048576: true; the input reads as it did. -/
def fnBoxEscapeUptoRow : OpenClaim := { program := "ythggppjdapmgdaa", sum := "375d6f044dcffd00555af700b9fb8bec1b472f16a7485783cc9bccfa57eb2d97", func := "loop.example/quadraticorbits/laws.FnBoxEscape", spec := "fnBoxEscape", unfollowed := true, recurses := true, apart := false, narrowed := true }
def FnBoxEscapeUptoSaid : Prop := fnBoxEscapeUptoRow.holds Try.pinned (OpenSpec.upto fnBoxEscapeSpec)

/-- 'laws.FnExactCellDeep', WHERE WHAT IT READS IS OF BULK AT MOST 1048576: true; the input reads as it did. -/
def fnExactCellDeepUptoRow : OpenClaim := { program := "ythggppjdapmgdaa", sum := "375d6f044dcffd00555af700b9fb8bec1b472f16a7485783cc9bccfa57eb2d97", func := "loop.example/quadraticorbits/laws.FnExactCellDeep", spec := "fnExactCellDeep", unfollowed := true, recurses := true, apart := false, narrowed := true }
def FnExactCellDeepUptoSaid : Prop := fnExactCellDeepUptoRow.holds Try.pinned (OpenSpec.upto fnExactCellDeepSpec)

/-- 'laws.FnDeep', WHERE WHAT IT READS IS OF BULK AT MOST 1048576: true; the input reads as it did. -/
def fnDeepUptoRow : OpenClaim := { program := "ythggppjdapmgdaa", sum := "375d6f044dcffd00555af700b9fb8bec1b472f16a7485783cc9bccfa57eb2d97", func := "loop.example/quadraticorbits/laws.FnDeep", spec := "fnDeep", unfollowed := true, recurses := true, apart := false, narrowed := true }
def FnDeepUptoSaid : Prop := fnDeepUptoRow.holds Try.pinned (OpenSpec.upto fnDeepSpec)

/-- 'laws.FnState', WHERE WHAT IT READS IS OF BULK AT MOST 1048576: true; the input reads as it did. -/
def fnStateUptoRow : OpenClaim := { program := "ythggppjdapmgdaa", sum := "375d6f044dcffd00555af700b9fb8bec1b472f16a7485783cc9bccfa57eb2d97", func := "loop.example/quadraticorbits/laws.FnState", spec := "fnState", unfollowed := true, recurses := true, apart := false, narrowed := true }
def FnStateUptoSaid : Prop := fnStateUptoRow.holds Try.pinned (OpenSpec.upto fnStateSpec)

end Rows
end Go.Proofs.Ythggppjdapmgdaa
