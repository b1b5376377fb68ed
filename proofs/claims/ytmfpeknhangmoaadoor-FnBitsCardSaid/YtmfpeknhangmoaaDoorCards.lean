/-
  DERIVED. GIVEN WITH THE SEED: THE CARDS: each row of YtmfpeknhangmoaaDoorRows.lean that lists a variable, with what it lists TIED to the program's text (the seventh form; the later family's looks); each row that meets fmt, with fmt's text TOLD by the authors' own Lean function (tested against real Go, not proved from fmt's source: count such statements apart). THE CARD IS WHAT COUNTS. Prove the row's statement (the work); the ties are given (YtmfpeknhangmoaaDoorTie.lean); close each card by the builder's one call (the guide's Derived/Test/ToyasCard.lean, 'card_holds'). Laid BY PROGRAM, IN A SANDBOX (cutbox-door.mjs). By AI agents, Wed Nov 11 2026. No macro, syntax, notation, axiom, sorry.
-/
import Derived.Test.YtmfpeknhangmoaaDoorRows
import GoSem.ClaimSeven
namespace Go.Proofs.YtmfpeknhangmoaaDoor
namespace Rows

/-- THE TIED CARD OF 'laws.FnExactDyadBits'. -/
def fnExactDyadBitsCard : Claim7 := { stood := { row := fnExactDyadBitsRow, standIns := [], harness := (true, "9a7ebe539939889e990de8fc69711709fb7e846d46721bbdf2007066ce7ad4ae"), looks := false }, kinds := [], alts := [], laidByText := true, laidKinds := [.data], laidTests := true, laidLooks := .later }
def FnExactDyadBitsCardSaid : Prop := Claim7.holds Tryd.pinned (.plain (OpenSpec.ofChange fnExactDyadBitsSpec)) fnExactDyadBitsCard

/-- THE TIED CARD OF 'laws.FnBits'. -/
def fnBitsCard : Claim7 := { stood := { row := fnBitsRow, standIns := [], harness := (true, "9a7ebe539939889e990de8fc69711709fb7e846d46721bbdf2007066ce7ad4ae"), looks := false }, kinds := [], alts := [], laidByText := true, laidKinds := [.data], laidTests := true, laidLooks := .later }
def FnBitsCardSaid : Prop := Claim7.holds Tryd.pinned (.plain (OpenSpec.ofChange fnBitsSpec)) fnBitsCard

/-- THE SECOND FORM's CARD OF 'laws.FnExactDyadBits'. -/
def fnExactDyadBitsUptoCard : Claim7 := { stood := { row := fnExactDyadBitsUptoRow, standIns := [], harness := (true, "9a7ebe539939889e990de8fc69711709fb7e846d46721bbdf2007066ce7ad4ae"), looks := false }, kinds := [], alts := [], laidByText := true, laidKinds := [.data], laidTests := true, laidLooks := .later }
def FnExactDyadBitsUptoCardSaid : Prop := Claim7.holds Tryd.pinned (.plain (OpenSpec.upto fnExactDyadBitsSpec)) fnExactDyadBitsUptoCard

/-- THE SECOND FORM's CARD OF 'laws.FnBits'. -/
def fnBitsUptoCard : Claim7 := { stood := { row := fnBitsUptoRow, standIns := [], harness := (true, "9a7ebe539939889e990de8fc69711709fb7e846d46721bbdf2007066ce7ad4ae"), looks := false }, kinds := [], alts := [], laidByText := true, laidKinds := [.data], laidTests := true, laidLooks := .later }
def FnBitsUptoCardSaid : Prop := Claim7.holds Tryd.pinned (.plain (OpenSpec.upto fnBitsSpec)) fnBitsUptoCard
end Rows
end Go.Proofs.YtmfpeknhangmoaaDoor
