/-
  DERIVED. GIVEN WITH THE SEED: THE CARDS: each row of YtmakcgiekfcofaaDoorRows.lean that lists a variable, with what it lists TIED to the program's text (the seventh form; the later family's looks); each row that meets fmt, with fmt's text TOLD by the authors' own Lean function (tested against real Go, not proved from fmt's source: count such statements apart). THE CARD IS WHAT COUNTS. Prove the row's statement (the work); the ties are given (YtmakcgiekfcofaaDoorTie.lean); close each card by the builder's one call (the guide's Derived/Test/ToyasCard.lean, 'card_holds'). Laid BY PROGRAM, IN A SANDBOX (cutbox-door.mjs). By AI agents, Wed Nov 11 2026. No macro, syntax, notation, axiom, sorry.
-/
import Derived.Test.YtmakcgiekfcofaaDoorRows
import GoSem.ClaimSeven
namespace Go.Proofs.YtmakcgiekfcofaaDoor
namespace Rows

/-- THE TIED CARD OF 'laws.FnExactIntText'. -/
def fnExactIntTextCard : Claim7 := { stood := { row := fnExactIntTextRow, standIns := [], harness := (true, "b3284cd137c3dfebdeffcab80f103949ae2191ea951abc9e19d2f74fc684b4c4"), looks := true }, kinds := [], alts := [], laidByText := true, laidKinds := [.data, .data, .data], laidTests := true, laidLooks := .later }
def FnExactIntTextCardSaid : Prop := Claim7.holds Tryd.pinned (.plain (OpenSpec.ofChange fnExactIntTextSpec)) fnExactIntTextCard

/-- THE TIED CARD OF 'laws.FnExactTextInt'. -/
def fnExactTextIntCard : Claim7 := { stood := { row := fnExactTextIntRow, standIns := [], harness := (true, "b3284cd137c3dfebdeffcab80f103949ae2191ea951abc9e19d2f74fc684b4c4"), looks := true }, kinds := [], alts := [], laidByText := true, laidKinds := [.data, .data, .data, .sentinel, .sentinel], laidTests := true, laidLooks := .later }
def FnExactTextIntCardSaid : Prop := Claim7.holds Tryd.pinned (.plain (OpenSpec.ofChange fnExactTextIntSpec)) fnExactTextIntCard

/-- THE TIED CARD OF 'laws.FnExactNatText'. -/
def fnExactNatTextCard : Claim7 := { stood := { row := fnExactNatTextRow, standIns := [], harness := (true, "b3284cd137c3dfebdeffcab80f103949ae2191ea951abc9e19d2f74fc684b4c4"), looks := true }, kinds := [], alts := [], laidByText := true, laidKinds := [.data, .data, .data], laidTests := true, laidLooks := .later }
def FnExactNatTextCardSaid : Prop := Claim7.holds Tryd.pinned (.plain (OpenSpec.ofChange fnExactNatTextSpec)) fnExactNatTextCard

/-- THE TIED CARD OF 'laws.FnExactNatDigits'. -/
def fnExactNatDigitsCard : Claim7 := { stood := { row := fnExactNatDigitsRow, standIns := [], harness := (true, "b3284cd137c3dfebdeffcab80f103949ae2191ea951abc9e19d2f74fc684b4c4"), looks := true }, kinds := [], alts := [], laidByText := true, laidKinds := [.data, .data, .data], laidTests := true, laidLooks := .later }
def FnExactNatDigitsCardSaid : Prop := Claim7.holds Tryd.pinned (.plain (OpenSpec.ofChange fnExactNatDigitsSpec)) fnExactNatDigitsCard

/-- THE TIED CARD OF 'laws.FnExactNatZeros'. -/
def fnExactNatZerosCard : Claim7 := { stood := { row := fnExactNatZerosRow, standIns := [], harness := (true, "b3284cd137c3dfebdeffcab80f103949ae2191ea951abc9e19d2f74fc684b4c4"), looks := true }, kinds := [], alts := [], laidByText := true, laidKinds := [.data, .data, .data], laidTests := true, laidLooks := .later }
def FnExactNatZerosCardSaid : Prop := Claim7.holds Tryd.pinned (.plain (OpenSpec.ofChange fnExactNatZerosSpec)) fnExactNatZerosCard

/-- THE TIED CARD OF 'laws.FnExactIntStr'. -/
def fnExactIntStrCard : Claim7 := { stood := { row := fnExactIntStrRow, standIns := [], harness := (true, "b3284cd137c3dfebdeffcab80f103949ae2191ea951abc9e19d2f74fc684b4c4"), looks := true }, kinds := [], alts := [], laidByText := true, laidKinds := [.data, .data, .data], laidTests := true, laidLooks := .later }
def FnExactIntStrCardSaid : Prop := Claim7.holds Tryd.pinned (.plain (OpenSpec.ofChange fnExactIntStrSpec)) fnExactIntStrCard

/-- THE TIED CARD OF 'laws.FnExactRatText'. -/
def fnExactRatTextCard : Claim7 := { stood := { row := fnExactRatTextRow, standIns := [], harness := (true, "b3284cd137c3dfebdeffcab80f103949ae2191ea951abc9e19d2f74fc684b4c4"), looks := true }, kinds := [], alts := [], laidByText := true, laidKinds := [.data, .data, .data], laidTests := true, laidLooks := .later }
def FnExactRatTextCardSaid : Prop := Claim7.holds Tryd.pinned (.plain (OpenSpec.ofChange fnExactRatTextSpec)) fnExactRatTextCard

/-- THE SECOND FORM's CARD OF 'laws.FnExactIntText'. -/
def fnExactIntTextUptoCard : Claim7 := { stood := { row := fnExactIntTextUptoRow, standIns := [], harness := (true, "b3284cd137c3dfebdeffcab80f103949ae2191ea951abc9e19d2f74fc684b4c4"), looks := true }, kinds := [], alts := [], laidByText := true, laidKinds := [.data, .data, .data], laidTests := true, laidLooks := .later }
def FnExactIntTextUptoCardSaid : Prop := Claim7.holds Tryd.pinned (.plain (OpenSpec.upto fnExactIntTextSpec)) fnExactIntTextUptoCard

/-- THE SECOND FORM's CARD OF 'laws.FnExactTextInt'. -/
def fnExactTextIntUptoCard : Claim7 := { stood := { row := fnExactTextIntUptoRow, standIns := [], harness := (true, "b3284cd137c3dfebdeffcab80f103949ae2191ea951abc9e19d2f74fc684b4c4"), looks := true }, kinds := [], alts := [], laidByText := true, laidKinds := [.data, .data, .data, .sentinel, .sentinel], laidTests := true, laidLooks := .later }
def FnExactTextIntUptoCardSaid : Prop := Claim7.holds Tryd.pinned (.plain (OpenSpec.upto fnExactTextIntSpec)) fnExactTextIntUptoCard

/-- THE SECOND FORM's CARD OF 'laws.FnExactNatText'. -/
def fnExactNatTextUptoCard : Claim7 := { stood := { row := fnExactNatTextUptoRow, standIns := [], harness := (true, "b3284cd137c3dfebdeffcab80f103949ae2191ea951abc9e19d2f74fc684b4c4"), looks := true }, kinds := [], alts := [], laidByText := true, laidKinds := [.data, .data, .data], laidTests := true, laidLooks := .later }
def FnExactNatTextUptoCardSaid : Prop := Claim7.holds Tryd.pinned (.plain (OpenSpec.upto fnExactNatTextSpec)) fnExactNatTextUptoCard

/-- THE SECOND FORM's CARD OF 'laws.FnExactNatDigits'. -/
def fnExactNatDigitsUptoCard : Claim7 := { stood := { row := fnExactNatDigitsUptoRow, standIns := [], harness := (true, "b3284cd137c3dfebdeffcab80f103949ae2191ea951abc9e19d2f74fc684b4c4"), looks := true }, kinds := [], alts := [], laidByText := true, laidKinds := [.data, .data, .data], laidTests := true, laidLooks := .later }
def FnExactNatDigitsUptoCardSaid : Prop := Claim7.holds Tryd.pinned (.plain (OpenSpec.upto fnExactNatDigitsSpec)) fnExactNatDigitsUptoCard

/-- THE SECOND FORM's CARD OF 'laws.FnExactNatZeros'. -/
def fnExactNatZerosUptoCard : Claim7 := { stood := { row := fnExactNatZerosUptoRow, standIns := [], harness := (true, "b3284cd137c3dfebdeffcab80f103949ae2191ea951abc9e19d2f74fc684b4c4"), looks := true }, kinds := [], alts := [], laidByText := true, laidKinds := [.data, .data, .data], laidTests := true, laidLooks := .later }
def FnExactNatZerosUptoCardSaid : Prop := Claim7.holds Tryd.pinned (.plain (OpenSpec.upto fnExactNatZerosSpec)) fnExactNatZerosUptoCard

/-- THE SECOND FORM's CARD OF 'laws.FnExactIntStr'. -/
def fnExactIntStrUptoCard : Claim7 := { stood := { row := fnExactIntStrUptoRow, standIns := [], harness := (true, "b3284cd137c3dfebdeffcab80f103949ae2191ea951abc9e19d2f74fc684b4c4"), looks := true }, kinds := [], alts := [], laidByText := true, laidKinds := [.data, .data, .data], laidTests := true, laidLooks := .later }
def FnExactIntStrUptoCardSaid : Prop := Claim7.holds Tryd.pinned (.plain (OpenSpec.upto fnExactIntStrSpec)) fnExactIntStrUptoCard

/-- THE SECOND FORM's CARD OF 'laws.FnExactRatText'. -/
def fnExactRatTextUptoCard : Claim7 := { stood := { row := fnExactRatTextUptoRow, standIns := [], harness := (true, "b3284cd137c3dfebdeffcab80f103949ae2191ea951abc9e19d2f74fc684b4c4"), looks := true }, kinds := [], alts := [], laidByText := true, laidKinds := [.data, .data, .data], laidTests := true, laidLooks := .later }
def FnExactRatTextUptoCardSaid : Prop := Claim7.holds Tryd.pinned (.plain (OpenSpec.upto fnExactRatTextSpec)) fnExactRatTextUptoCard
end Rows
end Go.Proofs.YtmakcgiekfcofaaDoor
