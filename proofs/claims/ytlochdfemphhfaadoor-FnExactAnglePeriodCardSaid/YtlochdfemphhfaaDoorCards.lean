/-
  DERIVED. GIVEN WITH THE SEED: THE CARDS: each row of YtlochdfemphhfaaDoorRows.lean that lists a variable, with what it lists TIED to the program's text (the seventh form; the later family's looks); each row that meets fmt, with fmt's text TOLD by the authors' own Lean function (tested against real Go, not proved from fmt's source: count such statements apart). THE CARD IS WHAT COUNTS. Prove the row's statement (the work); the ties are given (YtlochdfemphhfaaDoorTie.lean); close each card by the builder's one call (the guide's Derived/Test/ToyasCard.lean, 'card_holds'). Laid BY PROGRAM, IN A SANDBOX (cutbox-door.mjs). By AI agents, Wed Nov 11 2026. No macro, syntax, notation, axiom, sorry.
-/
import Derived.Test.YtlochdfemphhfaaDoorRows
import GoSem.ClaimSeven
namespace Go.Proofs.YtlochdfemphhfaaDoor
namespace Rows

/-- THE TIED CARD OF 'laws.FnExactAnglePeriod'. -/
def fnExactAnglePeriodCard : Claim7 := { stood := { row := fnExactAnglePeriodRow, standIns := [], harness := (true, "010aef8f740cea7184ec3cbbd96723f267aa7278a41396df75fc8ef3b6b5333d"), looks := false }, kinds := [], alts := [], laidByText := true, laidKinds := [.data, .data], laidTests := true, laidLooks := .later }
def FnExactAnglePeriodCardSaid : Prop := Claim7.holds Tryd.pinned (.plain (OpenSpec.ofChange fnExactAnglePeriodSpec)) fnExactAnglePeriodCard

/-- THE SECOND FORM's CARD OF 'laws.FnExactAnglePeriod'. -/
def fnExactAnglePeriodUptoCard : Claim7 := { stood := { row := fnExactAnglePeriodUptoRow, standIns := [], harness := (true, "010aef8f740cea7184ec3cbbd96723f267aa7278a41396df75fc8ef3b6b5333d"), looks := false }, kinds := [], alts := [], laidByText := true, laidKinds := [.data, .data], laidTests := true, laidLooks := .later }
def FnExactAnglePeriodUptoCardSaid : Prop := Claim7.holds Tryd.pinned (.plain (OpenSpec.upto fnExactAnglePeriodSpec)) fnExactAnglePeriodUptoCard
end Rows
end Go.Proofs.YtlochdfemphhfaaDoor
