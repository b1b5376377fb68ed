/-
  DERIVED. GIVEN WITH THE SEED: THE CARDS: each row of YtjpmpjcenajmbaaDoorRows.lean that lists a variable, with what it lists TIED to the program's text (the seventh form; the later family's looks); each row that meets fmt, with fmt's text TOLD by the authors' own Lean function (tested against real Go, not proved from fmt's source: count such statements apart). THE CARD IS WHAT COUNTS. Prove the row's statement (the work); the ties are given (YtjpmpjcenajmbaaDoorTie.lean); close each card by the builder's one call (the guide's Derived/Test/ToyasCard.lean, 'card_holds'). Laid BY PROGRAM, IN A SANDBOX (cutbox-door.mjs). By AI agents, Wed Nov 11 2026. No macro, syntax, notation, axiom, sorry.
-/
import Derived.Test.YtjpmpjcenajmbaaDoorRows
import GoSem.ClaimSeven
namespace Go.Proofs.YtjpmpjcenajmbaaDoor
namespace Rows

/-- THE TIED CARD OF 'laws.FnAgree'. -/
def fnAgreeCard : Claim7 := { stood := { row := fnAgreeRow, standIns := [], harness := (true, "ae855fd0f8d628559c4caf97e0144bae148f92f2a43e47984a81ded85c4121a0"), looks := false }, kinds := [], alts := [], laidByText := true, laidKinds := [.data], laidTests := true, laidLooks := .later }
def FnAgreeCardSaid : Prop := Claim7.holds Tryd.pinned (.plain (OpenSpec.ofChange fnAgreeSpec)) fnAgreeCard

/-- THE TIED CARD OF 'laws.FnExactWide'. -/
def fnExactWideCard : Claim7 := { stood := { row := fnExactWideRow, standIns := [], harness := (true, "ae855fd0f8d628559c4caf97e0144bae148f92f2a43e47984a81ded85c4121a0"), looks := false }, kinds := [], alts := [], laidByText := true, laidKinds := [.data], laidTests := true, laidLooks := .later }
def FnExactWideCardSaid : Prop := Claim7.holds Tryd.pinned (.plain (OpenSpec.ofChange fnExactWideSpec)) fnExactWideCard

/-- THE SECOND FORM's CARD OF 'laws.FnAgree'. -/
def fnAgreeUptoCard : Claim7 := { stood := { row := fnAgreeUptoRow, standIns := [], harness := (true, "ae855fd0f8d628559c4caf97e0144bae148f92f2a43e47984a81ded85c4121a0"), looks := false }, kinds := [], alts := [], laidByText := true, laidKinds := [.data], laidTests := true, laidLooks := .later }
def FnAgreeUptoCardSaid : Prop := Claim7.holds Tryd.pinned (.plain (OpenSpec.upto fnAgreeSpec)) fnAgreeUptoCard

/-- THE SECOND FORM's CARD OF 'laws.FnExactWide'. -/
def fnExactWideUptoCard : Claim7 := { stood := { row := fnExactWideUptoRow, standIns := [], harness := (true, "ae855fd0f8d628559c4caf97e0144bae148f92f2a43e47984a81ded85c4121a0"), looks := false }, kinds := [], alts := [], laidByText := true, laidKinds := [.data], laidTests := true, laidLooks := .later }
def FnExactWideUptoCardSaid : Prop := Claim7.holds Tryd.pinned (.plain (OpenSpec.upto fnExactWideSpec)) fnExactWideUptoCard
end Rows
end Go.Proofs.YtjpmpjcenajmbaaDoor
