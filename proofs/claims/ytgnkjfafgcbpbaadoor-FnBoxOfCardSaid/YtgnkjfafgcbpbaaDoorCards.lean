/-
  DERIVED. GIVEN WITH THE SEED: THE CARDS: each row of YtgnkjfafgcbpbaaDoorRows.lean that lists a variable, with what it lists TIED to the program's text (the seventh form; the later family's looks); each row that meets fmt, with fmt's text TOLD by the authors' own Lean function (tested against real Go, not proved from fmt's source: count such statements apart). THE CARD IS WHAT COUNTS. Prove the row's statement (the work); the ties are given (YtgnkjfafgcbpbaaDoorTie.lean); close each card by the builder's one call (the guide's Derived/Test/ToyasCard.lean, 'card_holds'). Laid BY PROGRAM, IN A SANDBOX (cutbox-door.mjs). By AI agents, Wed Nov 11 2026. No macro, syntax, notation, axiom, sorry.
-/
import Derived.Test.YtgnkjfafgcbpbaaDoorRows
import GoSem.ClaimSeven
namespace Go.Proofs.YtgnkjfafgcbpbaaDoor
namespace Rows

/-- THE TIED CARD OF 'laws.FnDyad'. -/
def fnDyadCard : Claim7 := { stood := { row := fnDyadRow, standIns := [], harness := (true, "013d636a3d8d0ef42bf78aa4b715203b116f3313201a06dc8f42f738c341f619"), looks := false }, kinds := [], alts := [], laidByText := true, laidKinds := [.data], laidTests := true, laidLooks := .later }
def FnDyadCardSaid : Prop := Claim7.holds Tryd.pinned (.plain (OpenSpec.ofChange fnDyadSpec)) fnDyadCard

/-- THE TIED CARD OF 'laws.FnDyadWide'. -/
def fnDyadWideCard : Claim7 := { stood := { row := fnDyadWideRow, standIns := [], harness := (true, "013d636a3d8d0ef42bf78aa4b715203b116f3313201a06dc8f42f738c341f619"), looks := false }, kinds := [], alts := [], laidByText := true, laidKinds := [.data], laidTests := true, laidLooks := .later }
def FnDyadWideCardSaid : Prop := Claim7.holds Tryd.pinned (.plain (OpenSpec.ofChange fnDyadWideSpec)) fnDyadWideCard

/-- THE TIED CARD OF 'laws.FnDyadSquare'. -/
def fnDyadSquareCard : Claim7 := { stood := { row := fnDyadSquareRow, standIns := [], harness := (true, "013d636a3d8d0ef42bf78aa4b715203b116f3313201a06dc8f42f738c341f619"), looks := false }, kinds := [], alts := [], laidByText := true, laidKinds := [.data], laidTests := true, laidLooks := .later }
def FnDyadSquareCardSaid : Prop := Claim7.holds Tryd.pinned (.plain (OpenSpec.ofChange fnDyadSquareSpec)) fnDyadSquareCard

/-- THE TIED CARD OF 'laws.FnDyadNorm'. -/
def fnDyadNormCard : Claim7 := { stood := { row := fnDyadNormRow, standIns := [], harness := (true, "013d636a3d8d0ef42bf78aa4b715203b116f3313201a06dc8f42f738c341f619"), looks := false }, kinds := [], alts := [], laidByText := true, laidKinds := [.data], laidTests := true, laidLooks := .later }
def FnDyadNormCardSaid : Prop := Claim7.holds Tryd.pinned (.plain (OpenSpec.ofChange fnDyadNormSpec)) fnDyadNormCard

/-- THE TIED CARD OF 'laws.FnDyadOf'. -/
def fnDyadOfCard : Claim7 := { stood := { row := fnDyadOfRow, standIns := [], harness := (true, "013d636a3d8d0ef42bf78aa4b715203b116f3313201a06dc8f42f738c341f619"), looks := false }, kinds := [], alts := [], laidByText := true, laidKinds := [.data], laidTests := true, laidLooks := .later }
def FnDyadOfCardSaid : Prop := Claim7.holds Tryd.pinned (.plain (OpenSpec.ofChange fnDyadOfSpec)) fnDyadOfCard

/-- THE TIED CARD OF 'laws.FnBoxOf'. -/
def fnBoxOfCard : Claim7 := { stood := { row := fnBoxOfRow, standIns := [], harness := (true, "013d636a3d8d0ef42bf78aa4b715203b116f3313201a06dc8f42f738c341f619"), looks := false }, kinds := [], alts := [], laidByText := true, laidKinds := [.data], laidTests := true, laidLooks := .later }
def FnBoxOfCardSaid : Prop := Claim7.holds Tryd.pinned (.plain (OpenSpec.ofChange fnBoxOfSpec)) fnBoxOfCard

/-- THE SECOND FORM's CARD OF 'laws.FnDyad'. -/
def fnDyadUptoCard : Claim7 := { stood := { row := fnDyadUptoRow, standIns := [], harness := (true, "013d636a3d8d0ef42bf78aa4b715203b116f3313201a06dc8f42f738c341f619"), looks := false }, kinds := [], alts := [], laidByText := true, laidKinds := [.data], laidTests := true, laidLooks := .later }
def FnDyadUptoCardSaid : Prop := Claim7.holds Tryd.pinned (.plain (OpenSpec.upto fnDyadSpec)) fnDyadUptoCard

/-- THE SECOND FORM's CARD OF 'laws.FnDyadWide'. -/
def fnDyadWideUptoCard : Claim7 := { stood := { row := fnDyadWideUptoRow, standIns := [], harness := (true, "013d636a3d8d0ef42bf78aa4b715203b116f3313201a06dc8f42f738c341f619"), looks := false }, kinds := [], alts := [], laidByText := true, laidKinds := [.data], laidTests := true, laidLooks := .later }
def FnDyadWideUptoCardSaid : Prop := Claim7.holds Tryd.pinned (.plain (OpenSpec.upto fnDyadWideSpec)) fnDyadWideUptoCard

/-- THE SECOND FORM's CARD OF 'laws.FnDyadSquare'. -/
def fnDyadSquareUptoCard : Claim7 := { stood := { row := fnDyadSquareUptoRow, standIns := [], harness := (true, "013d636a3d8d0ef42bf78aa4b715203b116f3313201a06dc8f42f738c341f619"), looks := false }, kinds := [], alts := [], laidByText := true, laidKinds := [.data], laidTests := true, laidLooks := .later }
def FnDyadSquareUptoCardSaid : Prop := Claim7.holds Tryd.pinned (.plain (OpenSpec.upto fnDyadSquareSpec)) fnDyadSquareUptoCard

/-- THE SECOND FORM's CARD OF 'laws.FnDyadNorm'. -/
def fnDyadNormUptoCard : Claim7 := { stood := { row := fnDyadNormUptoRow, standIns := [], harness := (true, "013d636a3d8d0ef42bf78aa4b715203b116f3313201a06dc8f42f738c341f619"), looks := false }, kinds := [], alts := [], laidByText := true, laidKinds := [.data], laidTests := true, laidLooks := .later }
def FnDyadNormUptoCardSaid : Prop := Claim7.holds Tryd.pinned (.plain (OpenSpec.upto fnDyadNormSpec)) fnDyadNormUptoCard

/-- THE SECOND FORM's CARD OF 'laws.FnDyadOf'. -/
def fnDyadOfUptoCard : Claim7 := { stood := { row := fnDyadOfUptoRow, standIns := [], harness := (true, "013d636a3d8d0ef42bf78aa4b715203b116f3313201a06dc8f42f738c341f619"), looks := false }, kinds := [], alts := [], laidByText := true, laidKinds := [.data], laidTests := true, laidLooks := .later }
def FnDyadOfUptoCardSaid : Prop := Claim7.holds Tryd.pinned (.plain (OpenSpec.upto fnDyadOfSpec)) fnDyadOfUptoCard

/-- THE SECOND FORM's CARD OF 'laws.FnBoxOf'. -/
def fnBoxOfUptoCard : Claim7 := { stood := { row := fnBoxOfUptoRow, standIns := [], harness := (true, "013d636a3d8d0ef42bf78aa4b715203b116f3313201a06dc8f42f738c341f619"), looks := false }, kinds := [], alts := [], laidByText := true, laidKinds := [.data], laidTests := true, laidLooks := .later }
def FnBoxOfUptoCardSaid : Prop := Claim7.holds Tryd.pinned (.plain (OpenSpec.upto fnBoxOfSpec)) fnBoxOfUptoCard
end Rows
end Go.Proofs.YtgnkjfafgcbpbaaDoor
