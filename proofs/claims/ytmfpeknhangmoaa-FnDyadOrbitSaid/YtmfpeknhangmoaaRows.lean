/-
  No cell of these rows narrows 'for every input' (looked for: loops, veiled, ifaces, maps, wideKeys, modest, calm, conditions, laid).
  DERIVED. THE GIVEN ROWS OF THIS SEAT. 7 by the template 'for every input the law returns true; each argument reads behind the call as it read before'; 0 by the template 'total and deterministic' (their statements: YtmfpeknhangmoaaTotals.lean).
  GIVEN WITH THE SEED: the statements are not yours to turn. If you find one false, say at which input.
  Laid BY PROGRAM, IN A SANDBOX (cutbox-rows.mjs): the forced cells as the released guide's own fill.sh prints them over the translation e7eb1f586c739d64… (all of the seat's roots in one cut). By AI agents, Wed Nov 11 2026. No macro, syntax, notation, axiom, sorry.
-/
import Derived.Test.YtmfpeknhangmoaaChecked
import GoSem.Claim
import GoSem.ClaimJoined
import GoSem.ClaimMapViews
import Derived.JoinedTies
import Derived.KernelRfl
namespace Go.Proofs.Ytmfpeknhangmoaa
/- THE CELL 'sum', in the pinned program and in every row, IS THE sha256 OF THE DUMP (.gsa) THAT YtmfpeknhangmoaaProg.lean LOADS. Nothing in Lean hashes anything: it is a label: what it is worth is what the hold of that sum in a sandbox is worth. -/
noncomputable def Try.pinned : Pinned := { name := "ytmfpeknhangmoaa", sum := "e7eb1f586c739d644c941bd5973f858137c95cde20bd2fe427de16dcbad0da91", checked := Try.checked }
namespace Rows
def none {H : Type} : Left H := { results := [], args := [] }

/-- 'laws.FnExactDyadMake': WHATEVER THE INPUT: true; the input reads as it did. -/
def fnExactDyadMakeSpec : ChangeSpec := { name := "fnExactDyadMake", fn := fun _ => fun
  | [d1, d2, d3] => { results := [.lit (.bool true)], args := [d1, d2, d3] }
  | _ => none }
def fnExactDyadMakeRow : OpenClaim := { program := "ytmfpeknhangmoaa", sum := "e7eb1f586c739d644c941bd5973f858137c95cde20bd2fe427de16dcbad0da91", func := "loop.example/quadraticorbits/laws.FnExactDyadMake", spec := "fnExactDyadMake", apart := false }
def FnExactDyadMakeSaid : Prop := fnExactDyadMakeRow.holds Try.pinned (OpenSpec.ofChange fnExactDyadMakeSpec)

/-- ITS FALSE NEIGHBOUR: 'it returns false'. Refute it at one input. -/
def fnExactDyadMakeWrong : ChangeSpec := { name := "fnExactDyadMake", fn := fun _ => fun
  | [d1, d2, d3] => { results := [.lit (.bool false)], args := [d1, d2, d3] }
  | _ => none }
def FnExactDyadMakeWrongFalsely : Prop := fnExactDyadMakeRow.holds Try.pinned (OpenSpec.ofChange fnExactDyadMakeWrong)

/-- 'laws.FnExactDyadNorm': WHATEVER THE INPUT: true; the input reads as it did. -/
def fnExactDyadNormSpec : ChangeSpec := { name := "fnExactDyadNorm", fn := fun _ => fun
  | [d] => { results := [.lit (.bool true)], args := [d] }
  | _ => none }
def fnExactDyadNormRow : OpenClaim := { program := "ytmfpeknhangmoaa", sum := "e7eb1f586c739d644c941bd5973f858137c95cde20bd2fe427de16dcbad0da91", func := "loop.example/quadraticorbits/laws.FnExactDyadNorm", spec := "fnExactDyadNorm", apart := false }
def FnExactDyadNormSaid : Prop := fnExactDyadNormRow.holds Try.pinned (OpenSpec.ofChange fnExactDyadNormSpec)

/-- ITS FALSE NEIGHBOUR: 'it returns false'. Refute it at one input. -/
def fnExactDyadNormWrong : ChangeSpec := { name := "fnExactDyadNorm", fn := fun _ => fun
  | [d] => { results := [.lit (.bool false)], args := [d] }
  | _ => none }
def FnExactDyadNormWrongFalsely : Prop := fnExactDyadNormRow.holds Try.pinned (OpenSpec.ofChange fnExactDyadNormWrong)

/-- 'laws.FnExactDyadSquare': WHATEVER THE INPUT: true; the input reads as it did. -/
def fnExactDyadSquareSpec : ChangeSpec := { name := "fnExactDyadSquare", fn := fun _ => fun
  | [d] => { results := [.lit (.bool true)], args := [d] }
  | _ => none }
def fnExactDyadSquareRow : OpenClaim := { program := "ytmfpeknhangmoaa", sum := "e7eb1f586c739d644c941bd5973f858137c95cde20bd2fe427de16dcbad0da91", func := "loop.example/quadraticorbits/laws.FnExactDyadSquare", spec := "fnExactDyadSquare", apart := false }
def FnExactDyadSquareSaid : Prop := fnExactDyadSquareRow.holds Try.pinned (OpenSpec.ofChange fnExactDyadSquareSpec)

/-- ITS FALSE NEIGHBOUR: 'it returns false'. Refute it at one input. -/
def fnExactDyadSquareWrong : ChangeSpec := { name := "fnExactDyadSquare", fn := fun _ => fun
  | [d] => { results := [.lit (.bool false)], args := [d] }
  | _ => none }
def FnExactDyadSquareWrongFalsely : Prop := fnExactDyadSquareRow.holds Try.pinned (OpenSpec.ofChange fnExactDyadSquareWrong)

/-- 'laws.FnMake': WHATEVER THE INPUT: true; the input reads as it did. -/
def fnMakeSpec : ChangeSpec := { name := "fnMake", fn := fun _ => fun
  | [d] => { results := [.lit (.bool true)], args := [d] }
  | _ => none }
def fnMakeRow : OpenClaim := { program := "ytmfpeknhangmoaa", sum := "e7eb1f586c739d644c941bd5973f858137c95cde20bd2fe427de16dcbad0da91", func := "loop.example/quadraticorbits/laws.FnMake", spec := "fnMake", apart := false }
def FnMakeSaid : Prop := fnMakeRow.holds Try.pinned (OpenSpec.ofChange fnMakeSpec)

/-- ITS FALSE NEIGHBOUR: 'it returns false'. Refute it at one input. -/
def fnMakeWrong : ChangeSpec := { name := "fnMake", fn := fun _ => fun
  | [d] => { results := [.lit (.bool false)], args := [d] }
  | _ => none }
def FnMakeWrongFalsely : Prop := fnMakeRow.holds Try.pinned (OpenSpec.ofChange fnMakeWrong)

/-- 'laws.FnExactDyadAdd': WHATEVER THE INPUT: true; the input reads as it did. -/
def fnExactDyadAddSpec : ChangeSpec := { name := "fnExactDyadAdd", fn := fun _ => fun
  | [d1, d2] => { results := [.lit (.bool true)], args := [d1, d2] }
  | _ => none }
def fnExactDyadAddRow : OpenClaim := { program := "ytmfpeknhangmoaa", sum := "e7eb1f586c739d644c941bd5973f858137c95cde20bd2fe427de16dcbad0da91", func := "loop.example/quadraticorbits/laws.FnExactDyadAdd", spec := "fnExactDyadAdd", apart := false }
def FnExactDyadAddSaid : Prop := fnExactDyadAddRow.holds Try.pinned (OpenSpec.ofChange fnExactDyadAddSpec)

/-- ITS FALSE NEIGHBOUR: 'it returns false'. Refute it at one input. -/
def fnExactDyadAddWrong : ChangeSpec := { name := "fnExactDyadAdd", fn := fun _ => fun
  | [d1, d2] => { results := [.lit (.bool false)], args := [d1, d2] }
  | _ => none }
def FnExactDyadAddWrongFalsely : Prop := fnExactDyadAddRow.holds Try.pinned (OpenSpec.ofChange fnExactDyadAddWrong)

/-- 'laws.FnDyadOrbit': WHATEVER THE INPUT: true; the input reads as it did. -/
def fnDyadOrbitSpec : ChangeSpec := { name := "fnDyadOrbit", fn := fun _ => fun
  | [d] => { results := [.lit (.bool true)], args := [d] }
  | _ => none }
def fnDyadOrbitRow : OpenClaim := { program := "ytmfpeknhangmoaa", sum := "e7eb1f586c739d644c941bd5973f858137c95cde20bd2fe427de16dcbad0da91", func := "loop.example/quadraticorbits/laws.FnDyadOrbit", spec := "fnDyadOrbit", apart := false }
def FnDyadOrbitSaid : Prop := fnDyadOrbitRow.holds Try.pinned (OpenSpec.ofChange fnDyadOrbitSpec)

/-- ITS FALSE NEIGHBOUR: 'it returns false'. Refute it at one input. -/
def fnDyadOrbitWrong : ChangeSpec := { name := "fnDyadOrbit", fn := fun _ => fun
  | [d] => { results := [.lit (.bool false)], args := [d] }
  | _ => none }
def FnDyadOrbitWrongFalsely : Prop := fnDyadOrbitRow.holds Try.pinned (OpenSpec.ofChange fnDyadOrbitWrong)

/-- 'laws.FnExactDyadOrbit': WHATEVER THE INPUT: true; the input reads as it did. -/
def fnExactDyadOrbitSpec : ChangeSpec := { name := "fnExactDyadOrbit", fn := fun _ => fun
  | [d1, d2] => { results := [.lit (.bool true)], args := [d1, d2] }
  | _ => none }
def fnExactDyadOrbitRow : OpenClaim := { program := "ytmfpeknhangmoaa", sum := "e7eb1f586c739d644c941bd5973f858137c95cde20bd2fe427de16dcbad0da91", func := "loop.example/quadraticorbits/laws.FnExactDyadOrbit", spec := "fnExactDyadOrbit", apart := false }
def FnExactDyadOrbitSaid : Prop := fnExactDyadOrbitRow.holds Try.pinned (OpenSpec.ofChange fnExactDyadOrbitSpec)

/-- ITS FALSE NEIGHBOUR: 'it returns false'. Refute it at one input. -/
def fnExactDyadOrbitWrong : ChangeSpec := { name := "fnExactDyadOrbit", fn := fun _ => fun
  | [d1, d2] => { results := [.lit (.bool false)], args := [d1, d2] }
  | _ => none }
def FnExactDyadOrbitWrongFalsely : Prop := fnExactDyadOrbitRow.holds Try.pinned (OpenSpec.ofChange fnExactDyadOrbitWrong)

/- THE SECOND FORM. 'bulk': how many values and letters a reading holds, each counted each time it is reached (what is shared counts as often as it is met; a slice's spare places count too). A statement '..UptoSaid' is the law's where the arguments, and the package variables that the reading takes, are together of bulk at most 1048576: NARROWER than '..Said'. Prove '..Said' where nothing that the law and all that it calls make is longer than what came in: it says more and counts as full. Else prove '..UptoSaid'. A law counts once. -/
mutual
def uptoBulk {H : Type} : DataW H → Nat
  | .lit (.string bytes) => bytes.length + 1
  | .lit _ => 1
  | .nil => 1
  | .ptr d => uptoBulk d + 1
  | .slice elems spare => uptoBulkAll elems + uptoBulkAll spare + 1
  | .agg parts => uptoBulkAll parts + 1
  | .iface _ d => uptoBulk d + 1
  | .map entries => uptoBulkEntries entries + 1
  | .held _ => 1
def uptoBulkAll {H : Type} : List (DataW H) → Nat
  | [] => 0
  | d :: r => uptoBulk d + uptoBulkAll r
def uptoBulkEntries {H : Type} : List (Lit × DataW H) → Nat
  | [] => 0
  | x :: r => uptoBulkEntry x + uptoBulkEntries r
def uptoBulkEntry {H : Type} : Lit × DataW H → Nat
  | (.string bytes, d) => bytes.length + uptoBulk d + 1
  | (_, d) => uptoBulk d + 1
 end
def uptoSmall : (H : Type) → List (DataW H) → Bool := fun _ ds => decide (uptoBulkAll ds ≤ 1048576)
def OpenSpec.upto (s : _root_.Go.ChangeSpec) : _root_.Go.OpenSpec := { _root_.Go.OpenSpec.ofChange s with cond := some uptoSmall }

/-- 'laws.FnExactDyadMake', WHERE WHAT IT READS IS OF BULK AT MOST 1048576: true; the input reads as it did. -/
def fnExactDyadMakeUptoRow : OpenClaim := { program := "ytmfpeknhangmoaa", sum := "e7eb1f586c739d644c941bd5973f858137c95cde20bd2fe427de16dcbad0da91", func := "loop.example/quadraticorbits/laws.FnExactDyadMake", spec := "fnExactDyadMake", apart := false, narrowed := true }
def FnExactDyadMakeUptoSaid : Prop := fnExactDyadMakeUptoRow.holds Try.pinned (OpenSpec.upto fnExactDyadMakeSpec)

/-- 'laws.FnExactDyadNorm', WHERE WHAT IT READS IS OF BULK AT MOST 1048576: true; the input reads as it did. -/
def fnExactDyadNormUptoRow : OpenClaim := { program := "ytmfpeknhangmoaa", sum := "e7eb1f586c739d644c941bd5973f858137c95cde20bd2fe427de16dcbad0da91", func := "loop.example/quadraticorbits/laws.FnExactDyadNorm", spec := "fnExactDyadNorm", apart := false, narrowed := true }
def FnExactDyadNormUptoSaid : Prop := fnExactDyadNormUptoRow.holds Try.pinned (OpenSpec.upto fnExactDyadNormSpec)

/-- 'laws.FnExactDyadSquare', WHERE WHAT IT READS IS OF BULK AT MOST 1048576: true; the input reads as it did. -/
def fnExactDyadSquareUptoRow : OpenClaim := { program := "ytmfpeknhangmoaa", sum := "e7eb1f586c739d644c941bd5973f858137c95cde20bd2fe427de16dcbad0da91", func := "loop.example/quadraticorbits/laws.FnExactDyadSquare", spec := "fnExactDyadSquare", apart := false, narrowed := true }
def FnExactDyadSquareUptoSaid : Prop := fnExactDyadSquareUptoRow.holds Try.pinned (OpenSpec.upto fnExactDyadSquareSpec)

/-- 'laws.FnMake', WHERE WHAT IT READS IS OF BULK AT MOST 1048576: true; the input reads as it did. -/
def fnMakeUptoRow : OpenClaim := { program := "ytmfpeknhangmoaa", sum := "e7eb1f586c739d644c941bd5973f858137c95cde20bd2fe427de16dcbad0da91", func := "loop.example/quadraticorbits/laws.FnMake", spec := "fnMake", apart := false, narrowed := true }
def FnMakeUptoSaid : Prop := fnMakeUptoRow.holds Try.pinned (OpenSpec.upto fnMakeSpec)

/-- 'laws.FnExactDyadAdd', WHERE WHAT IT READS IS OF BULK AT MOST 1048576: true; the input reads as it did. -/
def fnExactDyadAddUptoRow : OpenClaim := { program := "ytmfpeknhangmoaa", sum := "e7eb1f586c739d644c941bd5973f858137c95cde20bd2fe427de16dcbad0da91", func := "loop.example/quadraticorbits/laws.FnExactDyadAdd", spec := "fnExactDyadAdd", apart := false, narrowed := true }
def FnExactDyadAddUptoSaid : Prop := fnExactDyadAddUptoRow.holds Try.pinned (OpenSpec.upto fnExactDyadAddSpec)

/-- 'laws.FnDyadOrbit', WHERE WHAT IT READS IS OF BULK AT MOST 1048576: true; the input reads as it did. -/
def fnDyadOrbitUptoRow : OpenClaim := { program := "ytmfpeknhangmoaa", sum := "e7eb1f586c739d644c941bd5973f858137c95cde20bd2fe427de16dcbad0da91", func := "loop.example/quadraticorbits/laws.FnDyadOrbit", spec := "fnDyadOrbit", apart := false, narrowed := true }
def FnDyadOrbitUptoSaid : Prop := fnDyadOrbitUptoRow.holds Try.pinned (OpenSpec.upto fnDyadOrbitSpec)

/-- 'laws.FnExactDyadOrbit', WHERE WHAT IT READS IS OF BULK AT MOST 1048576: true; the input reads as it did. -/
def fnExactDyadOrbitUptoRow : OpenClaim := { program := "ytmfpeknhangmoaa", sum := "e7eb1f586c739d644c941bd5973f858137c95cde20bd2fe427de16dcbad0da91", func := "loop.example/quadraticorbits/laws.FnExactDyadOrbit", spec := "fnExactDyadOrbit", apart := false, narrowed := true }
def FnExactDyadOrbitUptoSaid : Prop := fnExactDyadOrbitUptoRow.holds Try.pinned (OpenSpec.upto fnExactDyadOrbitSpec)

end Rows
end Go.Proofs.Ytmfpeknhangmoaa
