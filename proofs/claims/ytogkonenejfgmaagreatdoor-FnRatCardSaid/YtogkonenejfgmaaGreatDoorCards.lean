/-
  DERIVED. GIVEN WITH THE SEED: THE CARDS: each row of YtogkonenejfgmaaGreatDoorRows.lean that lists a variable, with what it lists TIED to the program's text (the seventh form; the later family's looks); each row that meets fmt, with fmt's text TOLD by the authors' own Lean function (tested against real Go, not proved from fmt's source: count such statements apart). THE CARD IS WHAT COUNTS. Prove the row's statement (the work); the ties are given (YtogkonenejfgmaaGreatDoorTie.lean); close each card by the builder's one call (the guide's Derived/Test/ToyasCard.lean, 'card_holds'). Laid BY PROGRAM, IN A SANDBOX (cutbox-door.mjs). By AI agents, Wed Nov 11 2026. No macro, syntax, notation, axiom, sorry.
-/
import Derived.Test.YtogkonenejfgmaaGreatDoorRows
import GoSem.ClaimSeven
namespace Go.Proofs.YtogkonenejfgmaaGreatDoor
namespace Rows

/-- THE TIED CARD OF 'laws.FnRat'. -/
def fnRatCard : Claim7 := { stood := { row := fnRatRow, standIns := [], harness := (true, "6684a93498052ff11cfccb47b1228025525bc5437368c84fa834cb2fb456187f"), looks := false }, kinds := [], alts := [], laidByText := true, laidKinds := [.data, .data, .data], laidTests := true, laidLooks := .later }
def FnRatCardSaid : Prop := Claim7.holds Tryz.pinned (.plain (OpenSpec.ofChange fnRatSpec)) fnRatCard

/-- THE SECOND FORM's CARD OF 'laws.FnRat'. -/
def fnRatUptoCard : Claim7 := { stood := { row := fnRatUptoRow, standIns := [], harness := (true, "6684a93498052ff11cfccb47b1228025525bc5437368c84fa834cb2fb456187f"), looks := false }, kinds := [], alts := [], laidByText := true, laidKinds := [.data, .data, .data], laidTests := true, laidLooks := .later }
def FnRatUptoCardSaid : Prop := Claim7.holds Tryz.pinned (.plain (OpenSpec.upto fnRatSpec)) fnRatUptoCard
end Rows
end Go.Proofs.YtogkonenejfgmaaGreatDoor
