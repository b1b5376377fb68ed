/-
  NARROWER THAN 'FOR EVERY INPUT', by the rows' own cells (each row's printed sentence says how): FnDyad: laid · FnDyadWide: laid · FnDyadSquare: laid · FnDyadNorm: laid · FnDyadOf: laid · FnBoxOf: laid.
  DERIVED. THE GIVEN ROWS OF THIS SEAT. 6 by the template 'for every input the law returns true; each argument reads behind the call as it read before'; 0 by the template 'total and deterministic' (their statements: YtgnkjfafgcbpbaaDoorTotals.lean).
  GIVEN WITH THE SEED: the statements are not yours to turn. If you find one false, say at which input.
  Laid BY PROGRAM, IN A SANDBOX (cutbox-rows.mjs): the forced cells as the released guide's own fill.sh prints them over the translation 1a2dfab772fbe6b3… (all of the seat's roots in one cut). By AI agents, Wed Nov 11 2026. No macro, syntax, notation, axiom, sorry.
-/
import Derived.Test.YtgnkjfafgcbpbaaDoorChecked
import GoSem.Claim
import GoSem.ClaimJoined
import GoSem.ClaimMapViews
import Derived.JoinedTies
import Derived.KernelRfl
namespace Go.Proofs.YtgnkjfafgcbpbaaDoor
/- THE CELL 'sum', in the pinned program and in every row, IS THE sha256 OF THE DUMP (.gsa) THAT YtgnkjfafgcbpbaaDoorProg.lean LOADS. Nothing in Lean hashes anything: it is a label: what it is worth is what the hold of that sum in a sandbox is worth. -/
noncomputable def Tryd.pinned : Pinned := { name := "ytgnkjfafgcbpbaadoor", sum := "1a2dfab772fbe6b3553b765caa6b61b8509b9673746fde09de9afd094d52a0d9", checked := Tryd.checked }
namespace Rows
def none {H : Type} : Left H := { results := [], args := [] }

/- WHAT THE LISTED PACKAGE-LEVEL VARIABLES READ AS WHEN THE CALL BEGINS. Each datum BY PROGRAM (the guide's laid-datum.mjs) off the statement by which the dump's own 'gosem.cut.vars' lays the variable. In a bare row this is a premise. The card (YtgnkjfafgcbpbaaDoorCards.lean) ties it to the program's text. -/
def laid_math_bits_deBruijn64tab {H : Type} : DataW H := .agg [.lit (.int .u8 0), .lit (.int .u8 1), .lit (.int .u8 56), .lit (.int .u8 2), .lit (.int .u8 57), .lit (.int .u8 49), .lit (.int .u8 28), .lit (.int .u8 3), .lit (.int .u8 61), .lit (.int .u8 58), .lit (.int .u8 42), .lit (.int .u8 50), .lit (.int .u8 38), .lit (.int .u8 29), .lit (.int .u8 17), .lit (.int .u8 4), .lit (.int .u8 62), .lit (.int .u8 47), .lit (.int .u8 59), .lit (.int .u8 36), .lit (.int .u8 45), .lit (.int .u8 43), .lit (.int .u8 51), .lit (.int .u8 22), .lit (.int .u8 53), .lit (.int .u8 39), .lit (.int .u8 33), .lit (.int .u8 30), .lit (.int .u8 24), .lit (.int .u8 18), .lit (.int .u8 12), .lit (.int .u8 5), .lit (.int .u8 63), .lit (.int .u8 55), .lit (.int .u8 48), .lit (.int .u8 27), .lit (.int .u8 60), .lit (.int .u8 41), .lit (.int .u8 37), .lit (.int .u8 16), .lit (.int .u8 46), .lit (.int .u8 35), .lit (.int .u8 44), .lit (.int .u8 21), .lit (.int .u8 52), .lit (.int .u8 32), .lit (.int .u8 23), .lit (.int .u8 11), .lit (.int .u8 54), .lit (.int .u8 26), .lit (.int .u8 40), .lit (.int .u8 15), .lit (.int .u8 34), .lit (.int .u8 20), .lit (.int .u8 31), .lit (.int .u8 10), .lit (.int .u8 25), .lit (.int .u8 14), .lit (.int .u8 19), .lit (.int .u8 9), .lit (.int .u8 13), .lit (.int .u8 8), .lit (.int .u8 7), .lit (.int .u8 6)]

/-- 'laws.FnDyad': WHATEVER THE INPUT: true; the input reads as it did. -/
def fnDyadSpec : ChangeSpec := { name := "fnDyad", fn := fun _ => fun
  | [d] => { results := [.lit (.bool true)], args := [d] }
  | _ => none }
def fnDyadRow : OpenClaim := { program := "ytgnkjfafgcbpbaadoor", sum := "1a2dfab772fbe6b3553b765caa6b61b8509b9673746fde09de9afd094d52a0d9", func := "loop.example/quadraticorbits/laws.FnDyad", spec := "fnDyad", inPlace := ["math.Float64bits", "math.Float64frombits"], named := ["math/bits.deBruijn64tab"], apart := false, laid := [("math/bits.deBruijn64tab", laid_math_bits_deBruijn64tab)] }
def FnDyadSaid : Prop := fnDyadRow.holds Tryd.pinned (OpenSpec.ofChange fnDyadSpec)

/-- ITS FALSE NEIGHBOUR: 'it returns false'. Refute it at one input. -/
def fnDyadWrong : ChangeSpec := { name := "fnDyad", fn := fun _ => fun
  | [d] => { results := [.lit (.bool false)], args := [d] }
  | _ => none }
def FnDyadWrongFalsely : Prop := fnDyadRow.holds Tryd.pinned (OpenSpec.ofChange fnDyadWrong)

/-- 'laws.FnDyadWide': WHATEVER THE INPUT: true; the input reads as it did. -/
def fnDyadWideSpec : ChangeSpec := { name := "fnDyadWide", fn := fun _ => fun
  | [d] => { results := [.lit (.bool true)], args := [d] }
  | _ => none }
def fnDyadWideRow : OpenClaim := { program := "ytgnkjfafgcbpbaadoor", sum := "1a2dfab772fbe6b3553b765caa6b61b8509b9673746fde09de9afd094d52a0d9", func := "loop.example/quadraticorbits/laws.FnDyadWide", spec := "fnDyadWide", inPlace := ["math.Float64bits", "math.Float64frombits"], named := ["math/bits.deBruijn64tab"], apart := false, laid := [("math/bits.deBruijn64tab", laid_math_bits_deBruijn64tab)] }
def FnDyadWideSaid : Prop := fnDyadWideRow.holds Tryd.pinned (OpenSpec.ofChange fnDyadWideSpec)

/-- ITS FALSE NEIGHBOUR: 'it returns false'. Refute it at one input. -/
def fnDyadWideWrong : ChangeSpec := { name := "fnDyadWide", fn := fun _ => fun
  | [d] => { results := [.lit (.bool false)], args := [d] }
  | _ => none }
def FnDyadWideWrongFalsely : Prop := fnDyadWideRow.holds Tryd.pinned (OpenSpec.ofChange fnDyadWideWrong)

/-- 'laws.FnDyadSquare': WHATEVER THE INPUT: true; the input reads as it did. -/
def fnDyadSquareSpec : ChangeSpec := { name := "fnDyadSquare", fn := fun _ => fun
  | [d] => { results := [.lit (.bool true)], args := [d] }
  | _ => none }
def fnDyadSquareRow : OpenClaim := { program := "ytgnkjfafgcbpbaadoor", sum := "1a2dfab772fbe6b3553b765caa6b61b8509b9673746fde09de9afd094d52a0d9", func := "loop.example/quadraticorbits/laws.FnDyadSquare", spec := "fnDyadSquare", inPlace := ["math.Float64bits", "math.Float64frombits"], named := ["math/bits.deBruijn64tab"], apart := false, laid := [("math/bits.deBruijn64tab", laid_math_bits_deBruijn64tab)] }
def FnDyadSquareSaid : Prop := fnDyadSquareRow.holds Tryd.pinned (OpenSpec.ofChange fnDyadSquareSpec)

/-- ITS FALSE NEIGHBOUR: 'it returns false'. Refute it at one input. -/
def fnDyadSquareWrong : ChangeSpec := { name := "fnDyadSquare", fn := fun _ => fun
  | [d] => { results := [.lit (.bool false)], args := [d] }
  | _ => none }
def FnDyadSquareWrongFalsely : Prop := fnDyadSquareRow.holds Tryd.pinned (OpenSpec.ofChange fnDyadSquareWrong)

/-- 'laws.FnDyadNorm': WHATEVER THE INPUT: true; the input reads as it did. -/
def fnDyadNormSpec : ChangeSpec := { name := "fnDyadNorm", fn := fun _ => fun
  | [d] => { results := [.lit (.bool true)], args := [d] }
  | _ => none }
def fnDyadNormRow : OpenClaim := { program := "ytgnkjfafgcbpbaadoor", sum := "1a2dfab772fbe6b3553b765caa6b61b8509b9673746fde09de9afd094d52a0d9", func := "loop.example/quadraticorbits/laws.FnDyadNorm", spec := "fnDyadNorm", inPlace := ["math.Float64bits", "math.Float64frombits"], named := ["math/bits.deBruijn64tab"], apart := false, laid := [("math/bits.deBruijn64tab", laid_math_bits_deBruijn64tab)] }
def FnDyadNormSaid : Prop := fnDyadNormRow.holds Tryd.pinned (OpenSpec.ofChange fnDyadNormSpec)

/-- ITS FALSE NEIGHBOUR: 'it returns false'. Refute it at one input. -/
def fnDyadNormWrong : ChangeSpec := { name := "fnDyadNorm", fn := fun _ => fun
  | [d] => { results := [.lit (.bool false)], args := [d] }
  | _ => none }
def FnDyadNormWrongFalsely : Prop := fnDyadNormRow.holds Tryd.pinned (OpenSpec.ofChange fnDyadNormWrong)

/-- 'laws.FnDyadOf': WHATEVER THE INPUT: true; the input reads as it did. -/
def fnDyadOfSpec : ChangeSpec := { name := "fnDyadOf", fn := fun _ => fun
  | [d] => { results := [.lit (.bool true)], args := [d] }
  | _ => none }
def fnDyadOfRow : OpenClaim := { program := "ytgnkjfafgcbpbaadoor", sum := "1a2dfab772fbe6b3553b765caa6b61b8509b9673746fde09de9afd094d52a0d9", func := "loop.example/quadraticorbits/laws.FnDyadOf", spec := "fnDyadOf", inPlace := ["math.Float64bits", "math.Float64frombits"], named := ["math/bits.deBruijn64tab"], apart := false, laid := [("math/bits.deBruijn64tab", laid_math_bits_deBruijn64tab)] }
def FnDyadOfSaid : Prop := fnDyadOfRow.holds Tryd.pinned (OpenSpec.ofChange fnDyadOfSpec)

/-- ITS FALSE NEIGHBOUR: 'it returns false'. Refute it at one input. -/
def fnDyadOfWrong : ChangeSpec := { name := "fnDyadOf", fn := fun _ => fun
  | [d] => { results := [.lit (.bool false)], args := [d] }
  | _ => none }
def FnDyadOfWrongFalsely : Prop := fnDyadOfRow.holds Tryd.pinned (OpenSpec.ofChange fnDyadOfWrong)

/-- 'laws.FnBoxOf': WHATEVER THE INPUT: true; the input reads as it did. -/
def fnBoxOfSpec : ChangeSpec := { name := "fnBoxOf", fn := fun _ => fun
  | [d] => { results := [.lit (.bool true)], args := [d] }
  | _ => none }
def fnBoxOfRow : OpenClaim := { program := "ytgnkjfafgcbpbaadoor", sum := "1a2dfab772fbe6b3553b765caa6b61b8509b9673746fde09de9afd094d52a0d9", func := "loop.example/quadraticorbits/laws.FnBoxOf", spec := "fnBoxOf", inPlace := ["math.archFloor", "math.Float64bits", "math.Float64frombits", "math.archTrunc", "math.archCeil"], named := ["math/bits.deBruijn64tab"], apart := false, laid := [("math/bits.deBruijn64tab", laid_math_bits_deBruijn64tab)] }
def FnBoxOfSaid : Prop := fnBoxOfRow.holds Tryd.pinned (OpenSpec.ofChange fnBoxOfSpec)

/-- ITS FALSE NEIGHBOUR: 'it returns false'. Refute it at one input. -/
def fnBoxOfWrong : ChangeSpec := { name := "fnBoxOf", fn := fun _ => fun
  | [d] => { results := [.lit (.bool false)], args := [d] }
  | _ => none }
def FnBoxOfWrongFalsely : Prop := fnBoxOfRow.holds Tryd.pinned (OpenSpec.ofChange fnBoxOfWrong)

/- THE SECOND FORM. 'bulk': how many values and letters a reading holds, each counted each time it is reached (what is shared counts as often as it is met; a slice's spare places count too). A statement '..UptoSaid' is the law's where the arguments, and the package variables that the reading takes, are together of bulk at most 1048576: NARROWER than '..Said'. Prove '..Said' where nothing that the law and all that it calls make is longer than what came in: it says more and counts as full. Else prove '..UptoSaid'. A law counts once. -/
mutual
def uptoBulk {H : Type} : DataW H → Nat
  | .lit (.string bytes) => bytes.length + 1
  | .lit _ => 1
  | .nil => 1
  | .ptr d => uptoBulk d + 1
  | .slice elems spare => uptoBulkAll elems + uptoBulkAll spare + 1
  | .agg parts => uptoBulkAll parts + 1
  | .iface _ d => uptoBulk d + 1
  | .map entries => uptoBulkEntries entries + 1
  | .held _ => 1
def uptoBulkAll {H : Type} : List (DataW H) → Nat
  | [] => 0
  | d :: r => uptoBulk d + uptoBulkAll r
def uptoBulkEntries {H : Type} : List (Lit × DataW H) → Nat
  | [] => 0
  | x :: r => uptoBulkEntry x + uptoBulkEntries r
def uptoBulkEntry {H : Type} : Lit × DataW H → Nat
  | (.string bytes, d) => bytes.length + uptoBulk d + 1
  | (_, d) => uptoBulk d + 1
 end
def uptoSmall : (H : Type) → List (DataW H) → Bool := fun _ ds => decide (uptoBulkAll ds ≤ 1048576)
def OpenSpec.upto (s : _root_.Go.ChangeSpec) : _root_.Go.OpenSpec := { _root_.Go.OpenSpec.ofChange s with cond := some uptoSmall }

/-- 'laws.FnDyad', WHERE WHAT IT READS IS OF BULK AT MOST 1048576: true; the input reads as it did. -/
def fnDyadUptoRow : OpenClaim := { program := "ytgnkjfafgcbpbaadoor", sum := "1a2dfab772fbe6b3553b765caa6b61b8509b9673746fde09de9afd094d52a0d9", func := "loop.example/quadraticorbits/laws.FnDyad", spec := "fnDyad", inPlace := ["math.Float64bits", "math.Float64frombits"], named := ["math/bits.deBruijn64tab"], apart := false, laid := [("math/bits.deBruijn64tab", laid_math_bits_deBruijn64tab)], narrowed := true }
def FnDyadUptoSaid : Prop := fnDyadUptoRow.holds Tryd.pinned (OpenSpec.upto fnDyadSpec)

/-- 'laws.FnDyadWide', WHERE WHAT IT READS IS OF BULK AT MOST 1048576: true; the input reads as it did. -/
def fnDyadWideUptoRow : OpenClaim := { program := "ytgnkjfafgcbpbaadoor", sum := "1a2dfab772fbe6b3553b765caa6b61b8509b9673746fde09de9afd094d52a0d9", func := "loop.example/quadraticorbits/laws.FnDyadWide", spec := "fnDyadWide", inPlace := ["math.Float64bits", "math.Float64frombits"], named := ["math/bits.deBruijn64tab"], apart := false, laid := [("math/bits.deBruijn64tab", laid_math_bits_deBruijn64tab)], narrowed := true }
def FnDyadWideUptoSaid : Prop := fnDyadWideUptoRow.holds Tryd.pinned (OpenSpec.upto fnDyadWideSpec)

/-- 'laws.FnDyadSquare', WHERE WHAT IT READS IS OF BULK AT MOST 1048576: true; the input reads as it did. -/
def fnDyadSquareUptoRow : OpenClaim := { program := "ytgnkjfafgcbpbaadoor", sum := "1a2dfab772fbe6b3553b765caa6b61b8509b9673746fde09de9afd094d52a0d9", func := "loop.example/quadraticorbits/laws.FnDyadSquare", spec := "fnDyadSquare", inPlace := ["math.Float64bits", "math.Float64frombits"], named := ["math/bits.deBruijn64tab"], apart := false, laid := [("math/bits.deBruijn64tab", laid_math_bits_deBruijn64tab)], narrowed := true }
def FnDyadSquareUptoSaid : Prop := fnDyadSquareUptoRow.holds Tryd.pinned (OpenSpec.upto fnDyadSquareSpec)

/-- 'laws.FnDyadNorm', WHERE WHAT IT READS IS OF BULK AT MOST 1048576: true; the input reads as it did. -/
def fnDyadNormUptoRow : OpenClaim := { program := "ytgnkjfafgcbpbaadoor", sum := "1a2dfab772fbe6b3553b765caa6b61b8509b9673746fde09de9afd094d52a0d9", func := "loop.example/quadraticorbits/laws.FnDyadNorm", spec := "fnDyadNorm", inPlace := ["math.Float64bits", "math.Float64frombits"], named := ["math/bits.deBruijn64tab"], apart := false, laid := [("math/bits.deBruijn64tab", laid_math_bits_deBruijn64tab)], narrowed := true }
def FnDyadNormUptoSaid : Prop := fnDyadNormUptoRow.holds Tryd.pinned (OpenSpec.upto fnDyadNormSpec)

/-- 'laws.FnDyadOf', WHERE WHAT IT READS IS OF BULK AT MOST 1048576: true; the input reads as it did. -/
def fnDyadOfUptoRow : OpenClaim := { program := "ytgnkjfafgcbpbaadoor", sum := "1a2dfab772fbe6b3553b765caa6b61b8509b9673746fde09de9afd094d52a0d9", func := "loop.example/quadraticorbits/laws.FnDyadOf", spec := "fnDyadOf", inPlace := ["math.Float64bits", "math.Float64frombits"], named := ["math/bits.deBruijn64tab"], apart := false, laid := [("math/bits.deBruijn64tab", laid_math_bits_deBruijn64tab)], narrowed := true }
def FnDyadOfUptoSaid : Prop := fnDyadOfUptoRow.holds Tryd.pinned (OpenSpec.upto fnDyadOfSpec)

/-- 'laws.FnBoxOf', WHERE WHAT IT READS IS OF BULK AT MOST 1048576: true; the input reads as it did. -/
def fnBoxOfUptoRow : OpenClaim := { program := "ytgnkjfafgcbpbaadoor", sum := "1a2dfab772fbe6b3553b765caa6b61b8509b9673746fde09de9afd094d52a0d9", func := "loop.example/quadraticorbits/laws.FnBoxOf", spec := "fnBoxOf", inPlace := ["math.archFloor", "math.Float64bits", "math.Float64frombits", "math.archTrunc", "math.archCeil"], named := ["math/bits.deBruijn64tab"], apart := false, laid := [("math/bits.deBruijn64tab", laid_math_bits_deBruijn64tab)], narrowed := true }
def FnBoxOfUptoSaid : Prop := fnBoxOfUptoRow.holds Tryd.pinned (OpenSpec.upto fnBoxOfSpec)

end Rows
end Go.Proofs.YtgnkjfafgcbpbaaDoor
