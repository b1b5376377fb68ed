/-
  No cell of these rows narrows 'for every input' (looked for: loops, veiled, ifaces, maps, wideKeys, modest, calm, conditions, laid).
  DERIVED. THE GIVEN ROWS OF THIS SEAT. 7 by the template 'for every input the law returns true; each argument reads behind the call as it read before'; 0 by the template 'total and deterministic' (their statements: YtlochdfemphhfaaTotals.lean).
  GIVEN WITH THE SEED: the statements are not yours to turn. If you find one false, say at which input.
  Laid BY PROGRAM, IN A SANDBOX (cutbox-rows.mjs): the forced cells as the released guide's own fill.sh prints them over the translation e3852abecea4b99f… (all of the seat's roots in one cut). By AI agents, Wed Nov 11 2026. No macro, syntax, notation, axiom, sorry.
-/
import Derived.Test.YtlochdfemphhfaaChecked
import GoSem.Claim
import GoSem.ClaimJoined
import GoSem.ClaimMapViews
import Derived.JoinedTies
import Derived.KernelRfl
namespace Go.Proofs.Ytlochdfemphhfaa
/- THE CELL 'sum', in the pinned program and in every row, IS THE sha256 OF THE DUMP (.gsa) THAT YtlochdfemphhfaaProg.lean LOADS. Nothing in Lean hashes anything: it is a label: what it is worth is what the hold of that sum in a sandbox is worth. -/
noncomputable def Try.pinned : Pinned := { name := "ytlochdfemphhfaa", sum := "e3852abecea4b99fe81b89ab85fdf48712762b585a674ad2f4c5e2f13081222f", checked := Try.checked }
namespace Rows
def none {H : Type} : Left H := { results := [], args := [] }

/-- 'laws.FnExactAngleValid': WHATEVER THE INPUT: true; the input reads as it did. -/
def fnExactAngleValidSpec : ChangeSpec := { name := "fnExactAngleValid", fn := fun _ => fun
  | [d] => { results := [.lit (.bool true)], args := [d] }
  | _ => none }
def fnExactAngleValidRow : OpenClaim := { program := "ytlochdfemphhfaa", sum := "e3852abecea4b99fe81b89ab85fdf48712762b585a674ad2f4c5e2f13081222f", func := "loop.example/quadraticorbits/laws.FnExactAngleValid", spec := "fnExactAngleValid", apart := false }
def FnExactAngleValidSaid : Prop := fnExactAngleValidRow.holds Try.pinned (OpenSpec.ofChange fnExactAngleValidSpec)

/-- ITS FALSE NEIGHBOUR: 'it returns false'. Refute it at one input. -/
def fnExactAngleValidWrong : ChangeSpec := { name := "fnExactAngleValid", fn := fun _ => fun
  | [d] => { results := [.lit (.bool false)], args := [d] }
  | _ => none }
def FnExactAngleValidWrongFalsely : Prop := fnExactAngleValidRow.holds Try.pinned (OpenSpec.ofChange fnExactAngleValidWrong)

/-- 'laws.FnExactAngleMake': WHATEVER THE INPUT: true; the input reads as it did. -/
def fnExactAngleMakeSpec : ChangeSpec := { name := "fnExactAngleMake", fn := fun _ => fun
  | [d1, d2] => { results := [.lit (.bool true)], args := [d1, d2] }
  | _ => none }
def fnExactAngleMakeRow : OpenClaim := { program := "ytlochdfemphhfaa", sum := "e3852abecea4b99fe81b89ab85fdf48712762b585a674ad2f4c5e2f13081222f", func := "loop.example/quadraticorbits/laws.FnExactAngleMake", spec := "fnExactAngleMake", apart := false }
def FnExactAngleMakeSaid : Prop := fnExactAngleMakeRow.holds Try.pinned (OpenSpec.ofChange fnExactAngleMakeSpec)

/-- ITS FALSE NEIGHBOUR: 'it returns false'. Refute it at one input. -/
def fnExactAngleMakeWrong : ChangeSpec := { name := "fnExactAngleMake", fn := fun _ => fun
  | [d1, d2] => { results := [.lit (.bool false)], args := [d1, d2] }
  | _ => none }
def FnExactAngleMakeWrongFalsely : Prop := fnExactAngleMakeRow.holds Try.pinned (OpenSpec.ofChange fnExactAngleMakeWrong)

/-- 'laws.FnExactAngleDouble': WHATEVER THE INPUT: true; the input reads as it did. -/
def fnExactAngleDoubleSpec : ChangeSpec := { name := "fnExactAngleDouble", fn := fun _ => fun
  | [d] => { results := [.lit (.bool true)], args := [d] }
  | _ => none }
def fnExactAngleDoubleRow : OpenClaim := { program := "ytlochdfemphhfaa", sum := "e3852abecea4b99fe81b89ab85fdf48712762b585a674ad2f4c5e2f13081222f", func := "loop.example/quadraticorbits/laws.FnExactAngleDouble", spec := "fnExactAngleDouble", apart := false }
def FnExactAngleDoubleSaid : Prop := fnExactAngleDoubleRow.holds Try.pinned (OpenSpec.ofChange fnExactAngleDoubleSpec)

/-- ITS FALSE NEIGHBOUR: 'it returns false'. Refute it at one input. -/
def fnExactAngleDoubleWrong : ChangeSpec := { name := "fnExactAngleDouble", fn := fun _ => fun
  | [d] => { results := [.lit (.bool false)], args := [d] }
  | _ => none }
def FnExactAngleDoubleWrongFalsely : Prop := fnExactAngleDoubleRow.holds Try.pinned (OpenSpec.ofChange fnExactAngleDoubleWrong)

/-- 'laws.FnExactAngleMirror': WHATEVER THE INPUT: true; the input reads as it did. -/
def fnExactAngleMirrorSpec : ChangeSpec := { name := "fnExactAngleMirror", fn := fun _ => fun
  | [d] => { results := [.lit (.bool true)], args := [d] }
  | _ => none }
def fnExactAngleMirrorRow : OpenClaim := { program := "ytlochdfemphhfaa", sum := "e3852abecea4b99fe81b89ab85fdf48712762b585a674ad2f4c5e2f13081222f", func := "loop.example/quadraticorbits/laws.FnExactAngleMirror", spec := "fnExactAngleMirror", apart := false }
def FnExactAngleMirrorSaid : Prop := fnExactAngleMirrorRow.holds Try.pinned (OpenSpec.ofChange fnExactAngleMirrorSpec)

/-- ITS FALSE NEIGHBOUR: 'it returns false'. Refute it at one input. -/
def fnExactAngleMirrorWrong : ChangeSpec := { name := "fnExactAngleMirror", fn := fun _ => fun
  | [d] => { results := [.lit (.bool false)], args := [d] }
  | _ => none }
def FnExactAngleMirrorWrongFalsely : Prop := fnExactAngleMirrorRow.holds Try.pinned (OpenSpec.ofChange fnExactAngleMirrorWrong)

/-- 'laws.FnMakeAngle': WHATEVER THE INPUT: true; the input reads as it did. -/
def fnMakeAngleSpec : ChangeSpec := { name := "fnMakeAngle", fn := fun _ => fun
  | [d] => { results := [.lit (.bool true)], args := [d] }
  | _ => none }
def fnMakeAngleRow : OpenClaim := { program := "ytlochdfemphhfaa", sum := "e3852abecea4b99fe81b89ab85fdf48712762b585a674ad2f4c5e2f13081222f", func := "loop.example/quadraticorbits/laws.FnMakeAngle", spec := "fnMakeAngle", apart := false }
def FnMakeAngleSaid : Prop := fnMakeAngleRow.holds Try.pinned (OpenSpec.ofChange fnMakeAngleSpec)

/-- ITS FALSE NEIGHBOUR: 'it returns false'. Refute it at one input. -/
def fnMakeAngleWrong : ChangeSpec := { name := "fnMakeAngle", fn := fun _ => fun
  | [d] => { results := [.lit (.bool false)], args := [d] }
  | _ => none }
def FnMakeAngleWrongFalsely : Prop := fnMakeAngleRow.holds Try.pinned (OpenSpec.ofChange fnMakeAngleWrong)

/-- 'laws.FnAngle': WHATEVER THE INPUT: true; the input reads as it did. -/
def fnAngleSpec : ChangeSpec := { name := "fnAngle", fn := fun _ => fun
  | [d] => { results := [.lit (.bool true)], args := [d] }
  | _ => none }
def fnAngleRow : OpenClaim := { program := "ytlochdfemphhfaa", sum := "e3852abecea4b99fe81b89ab85fdf48712762b585a674ad2f4c5e2f13081222f", func := "loop.example/quadraticorbits/laws.FnAngle", spec := "fnAngle", apart := false }
def FnAngleSaid : Prop := fnAngleRow.holds Try.pinned (OpenSpec.ofChange fnAngleSpec)

/-- ITS FALSE NEIGHBOUR: 'it returns false'. Refute it at one input. -/
def fnAngleWrong : ChangeSpec := { name := "fnAngle", fn := fun _ => fun
  | [d] => { results := [.lit (.bool false)], args := [d] }
  | _ => none }
def FnAngleWrongFalsely : Prop := fnAngleRow.holds Try.pinned (OpenSpec.ofChange fnAngleWrong)

/-- 'laws.FnDouble': WHATEVER THE INPUT: true; the input reads as it did. -/
def fnDoubleSpec : ChangeSpec := { name := "fnDouble", fn := fun _ => fun
  | [d] => { results := [.lit (.bool true)], args := [d] }
  | _ => none }
def fnDoubleRow : OpenClaim := { program := "ytlochdfemphhfaa", sum := "e3852abecea4b99fe81b89ab85fdf48712762b585a674ad2f4c5e2f13081222f", func := "loop.example/quadraticorbits/laws.FnDouble", spec := "fnDouble", apart := false }
def FnDoubleSaid : Prop := fnDoubleRow.holds Try.pinned (OpenSpec.ofChange fnDoubleSpec)

/-- ITS FALSE NEIGHBOUR: 'it returns false'. Refute it at one input. -/
def fnDoubleWrong : ChangeSpec := { name := "fnDouble", fn := fun _ => fun
  | [d] => { results := [.lit (.bool false)], args := [d] }
  | _ => none }
def FnDoubleWrongFalsely : Prop := fnDoubleRow.holds Try.pinned (OpenSpec.ofChange fnDoubleWrong)

/- THE SECOND FORM. 'bulk': how many values and letters a reading holds, each counted each time it is reached (what is shared counts as often as it is met; a slice's spare places count too). A statement '..UptoSaid' is the law's where the arguments, and the package variables that the reading takes, are together of bulk at most 1048576: NARROWER than '..Said'. Prove '..Said' where nothing that the law and all that it calls make is longer than what came in: it says more and counts as full. Else prove '..UptoSaid'. A law counts once. -/
mutual
def uptoBulk {H : Type} : DataW H → Nat
  | .lit (.string bytes) => bytes.length + 1
  | .lit _ => 1
  | .nil => 1
  | .ptr d => uptoBulk d + 1
  | .slice elems spare => uptoBulkAll elems + uptoBulkAll spare + 1
  | .agg parts => uptoBulkAll parts + 1
  | .iface _ d => uptoBulk d + 1
  | .map entries => uptoBulkEntries entries + 1
  | .held _ => 1
def uptoBulkAll {H : Type} : List (DataW H) → Nat
  | [] => 0
  | d :: r => uptoBulk d + uptoBulkAll r
def uptoBulkEntries {H : Type} : List (Lit × DataW H) → Nat
  | [] => 0
  | x :: r => uptoBulkEntry x + uptoBulkEntries r
def uptoBulkEntry {H : Type} : Lit × DataW H → Nat
  | (.string bytes, d) => bytes.length + uptoBulk d + 1
  | (_, d) => uptoBulk d + 1
 end
def uptoSmall : (H : Type) → List (DataW H) → Bool := fun _ ds => decide (uptoBulkAll ds ≤ 1048576)
def OpenSpec.upto (s : _root_.Go.ChangeSpec) : _root_.Go.OpenSpec := { _root_.Go.OpenSpec.ofChange s with cond := some uptoSmall }

/-- 'laws.FnExactAngleValid', WHERE WHAT IT READS IS OF BULK AT MOST 1048576: true; the input reads as it did. -/
def fnExactAngleValidUptoRow : OpenClaim := { program := "ytlochdfemphhfaa", sum := "e3852abecea4b99fe81b89ab85fdf48712762b585a674ad2f4c5e2f13081222f", func := "loop.example/quadraticorbits/laws.FnExactAngleValid", spec := "fnExactAngleValid", apart := false, narrowed := true }
def FnExactAngleValidUptoSaid : Prop := fnExactAngleValidUptoRow.holds Try.pinned (OpenSpec.upto fnExactAngleValidSpec)

/-- 'laws.FnExactAngleMake', WHERE WHAT IT READS IS OF BULK AT MOST 1048576: true; the input reads as it did. -/
def fnExactAngleMakeUptoRow : OpenClaim := { program := "ytlochdfemphhfaa", sum := "e3852abecea4b99fe81b89ab85fdf48712762b585a674ad2f4c5e2f13081222f", func := "loop.example/quadraticorbits/laws.FnExactAngleMake", spec := "fnExactAngleMake", apart := false, narrowed := true }
def FnExactAngleMakeUptoSaid : Prop := fnExactAngleMakeUptoRow.holds Try.pinned (OpenSpec.upto fnExactAngleMakeSpec)

/-- 'laws.FnExactAngleDouble', WHERE WHAT IT READS IS OF BULK AT MOST 1048576: true; the input reads as it did. -/
def fnExactAngleDoubleUptoRow : OpenClaim := { program := "ytlochdfemphhfaa", sum := "e3852abecea4b99fe81b89ab85fdf48712762b585a674ad2f4c5e2f13081222f", func := "loop.example/quadraticorbits/laws.FnExactAngleDouble", spec := "fnExactAngleDouble", apart := false, narrowed := true }
def FnExactAngleDoubleUptoSaid : Prop := fnExactAngleDoubleUptoRow.holds Try.pinned (OpenSpec.upto fnExactAngleDoubleSpec)

/-- 'laws.FnExactAngleMirror', WHERE WHAT IT READS IS OF BULK AT MOST 1048576: true; the input reads as it did. -/
def fnExactAngleMirrorUptoRow : OpenClaim := { program := "ytlochdfemphhfaa", sum := "e3852abecea4b99fe81b89ab85fdf48712762b585a674ad2f4c5e2f13081222f", func := "loop.example/quadraticorbits/laws.FnExactAngleMirror", spec := "fnExactAngleMirror", apart := false, narrowed := true }
def FnExactAngleMirrorUptoSaid : Prop := fnExactAngleMirrorUptoRow.holds Try.pinned (OpenSpec.upto fnExactAngleMirrorSpec)

/-- 'laws.FnMakeAngle', WHERE WHAT IT READS IS OF BULK AT MOST 1048576: true; the input reads as it did. -/
def fnMakeAngleUptoRow : OpenClaim := { program := "ytlochdfemphhfaa", sum := "e3852abecea4b99fe81b89ab85fdf48712762b585a674ad2f4c5e2f13081222f", func := "loop.example/quadraticorbits/laws.FnMakeAngle", spec := "fnMakeAngle", apart := false, narrowed := true }
def FnMakeAngleUptoSaid : Prop := fnMakeAngleUptoRow.holds Try.pinned (OpenSpec.upto fnMakeAngleSpec)

/-- 'laws.FnAngle', WHERE WHAT IT READS IS OF BULK AT MOST 1048576: true; the input reads as it did. -/
def fnAngleUptoRow : OpenClaim := { program := "ytlochdfemphhfaa", sum := "e3852abecea4b99fe81b89ab85fdf48712762b585a674ad2f4c5e2f13081222f", func := "loop.example/quadraticorbits/laws.FnAngle", spec := "fnAngle", apart := false, narrowed := true }
def FnAngleUptoSaid : Prop := fnAngleUptoRow.holds Try.pinned (OpenSpec.upto fnAngleSpec)

/-- 'laws.FnDouble', WHERE WHAT IT READS IS OF BULK AT MOST 1048576: true; the input reads as it did. -/
def fnDoubleUptoRow : OpenClaim := { program := "ytlochdfemphhfaa", sum := "e3852abecea4b99fe81b89ab85fdf48712762b585a674ad2f4c5e2f13081222f", func := "loop.example/quadraticorbits/laws.FnDouble", spec := "fnDouble", apart := false, narrowed := true }
def FnDoubleUptoSaid : Prop := fnDoubleUptoRow.holds Try.pinned (OpenSpec.upto fnDoubleSpec)

end Rows
end Go.Proofs.Ytlochdfemphhfaa
