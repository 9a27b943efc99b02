/-
  DERIVED. GIVEN WITH THE SEED: THE CARDS: each row of YtmidoifdcidjcaaDoorRows.lean that lists a variable, with what it lists TIED to the program's text (the seventh form; the later family's looks); each row that meets fmt, with fmt's text TOLD by the authors' own Lean function (tested against real Go, not proved from fmt's source: count such statements apart). THE CARD IS WHAT COUNTS. Prove the row's statement (the work); the ties are given (YtmidoifdcidjcaaDoorTie.lean); close each card by the builder's one call (the guide's Derived/Test/ToyasCard.lean, 'card_holds'). Laid BY PROGRAM, IN A SANDBOX (cutbox-door.mjs). By AI agents, Wed Nov 11 2026. No macro, syntax, notation, axiom, sorry.
-/
import Derived.Test.YtmidoifdcidjcaaDoorRows
import GoSem.ClaimSeven
namespace Go.Proofs.YtmidoifdcidjcaaDoor
namespace Rows

/-- THE TIED CARD OF 'scriptoriumlaw02.OrdKey'. -/
def ordKeyCard : Claim7 := { stood := { row := ordKeyRow, standIns := [], harness := (true, "729439ea448d1a43cc549b1fd292c59c5ef085bc576564cf1244a5851aac2ba0"), looks := false }, kinds := [], alts := [], laidByText := true, laidKinds := [.data, .pinned], laidTests := true, laidLooks := .later }
def OrdKeyCardSaid : Prop := Claim7.holds Tryd.pinned (.plain (OpenSpec.ofChange ordKeySpec)) ordKeyCard

/-- THE TIED CARD OF 'scriptoriumlaw02.OrdPairs'. -/
def ordPairsCard : Claim7 := { stood := { row := ordPairsRow, standIns := [], harness := (true, "729439ea448d1a43cc549b1fd292c59c5ef085bc576564cf1244a5851aac2ba0"), looks := false }, kinds := [], alts := [], laidByText := true, laidKinds := [.data, .pinned], laidTests := true, laidLooks := .later }
def OrdPairsCardSaid : Prop := Claim7.holds Tryd.pinned (.plain (OpenSpec.ofChange ordPairsSpec)) ordPairsCard

/-- THE TIED CARD OF 'scriptoriumlaw02.OrdStamps'. -/
def ordStampsCard : Claim7 := { stood := { row := ordStampsRow, standIns := [], harness := (true, "729439ea448d1a43cc549b1fd292c59c5ef085bc576564cf1244a5851aac2ba0"), looks := false }, kinds := [], alts := [], laidByText := true, laidKinds := [.data, .pinned], laidTests := true, laidLooks := .later }
def OrdStampsCardSaid : Prop := Claim7.holds Tryd.pinned (.plain (OpenSpec.ofChange ordStampsSpec)) ordStampsCard

/-- THE TIED CARD OF 'scriptoriumlaw02.OrdOrder'. -/
def ordOrderCard : Claim7 := { stood := { row := ordOrderRow, standIns := [], harness := (true, "729439ea448d1a43cc549b1fd292c59c5ef085bc576564cf1244a5851aac2ba0"), looks := false }, kinds := [], alts := [], laidByText := true, laidKinds := [.data, .pinned], laidTests := true, laidLooks := .later }
def OrdOrderCardSaid : Prop := Claim7.holds Tryd.pinned (.plain (OpenSpec.ofChange ordOrderSpec)) ordOrderCard

/-- THE TIED CARD OF 'scriptoriumlaw02.OrdDown'. -/
def ordDownCard : Claim7 := { stood := { row := ordDownRow, standIns := [], harness := (true, "729439ea448d1a43cc549b1fd292c59c5ef085bc576564cf1244a5851aac2ba0"), looks := false }, kinds := [], alts := [], laidByText := true, laidKinds := [.data, .pinned], laidTests := true, laidLooks := .later }
def OrdDownCardSaid : Prop := Claim7.holds Tryd.pinned (.plain (OpenSpec.ofChange ordDownSpec)) ordDownCard

/-- THE TIED CARD OF 'scriptoriumlaw02.OrdBack'. -/
def ordBackCard : Claim7 := { stood := { row := ordBackRow, standIns := [], harness := (true, "729439ea448d1a43cc549b1fd292c59c5ef085bc576564cf1244a5851aac2ba0"), looks := false }, kinds := [], alts := [], laidByText := true, laidKinds := [.data, .pinned], laidTests := true, laidLooks := .later }
def OrdBackCardSaid : Prop := Claim7.holds Tryd.pinned (.plain (OpenSpec.ofChange ordBackSpec)) ordBackCard

/-- THE TIED CARD OF 'scriptoriumlaw02.OrdAgain'. -/
def ordAgainCard : Claim7 := { stood := { row := ordAgainRow, standIns := [], harness := (true, "729439ea448d1a43cc549b1fd292c59c5ef085bc576564cf1244a5851aac2ba0"), looks := false }, kinds := [], alts := [], laidByText := true, laidKinds := [.data, .pinned], laidTests := true, laidLooks := .later }
def OrdAgainCardSaid : Prop := Claim7.holds Tryd.pinned (.plain (OpenSpec.ofChange ordAgainSpec)) ordAgainCard

/-- THE TIED CARD OF 'scriptoriumlaw02.OrdCut'. -/
def ordCutCard : Claim7 := { stood := { row := ordCutRow, standIns := [], harness := (true, "729439ea448d1a43cc549b1fd292c59c5ef085bc576564cf1244a5851aac2ba0"), looks := false }, kinds := [], alts := [], laidByText := true, laidKinds := [.data, .pinned], laidTests := true, laidLooks := .later }
def OrdCutCardSaid : Prop := Claim7.holds Tryd.pinned (.plain (OpenSpec.ofChange ordCutSpec)) ordCutCard

/-- THE TIED CARD OF 'scriptoriumlaw02.OrdKnown'. -/
def ordKnownCard : Claim7 := { stood := { row := ordKnownRow, standIns := [], harness := (true, "729439ea448d1a43cc549b1fd292c59c5ef085bc576564cf1244a5851aac2ba0"), looks := false }, kinds := [], alts := [], laidByText := true, laidKinds := [.data, .pinned], laidTests := true, laidLooks := .later }
def OrdKnownCardSaid : Prop := Claim7.holds Tryd.pinned (.plain (OpenSpec.ofChange ordKnownSpec)) ordKnownCard

/-- THE SECOND FORM's CARD OF 'scriptoriumlaw02.OrdKey'. -/
def ordKeyUptoCard : Claim7 := { stood := { row := ordKeyUptoRow, standIns := [], harness := (true, "729439ea448d1a43cc549b1fd292c59c5ef085bc576564cf1244a5851aac2ba0"), looks := false }, kinds := [], alts := [], laidByText := true, laidKinds := [.data, .pinned], laidTests := true, laidLooks := .later }
def OrdKeyUptoCardSaid : Prop := Claim7.holds Tryd.pinned (.plain (OpenSpec.upto ordKeySpec)) ordKeyUptoCard

/-- THE SECOND FORM's CARD OF 'scriptoriumlaw02.OrdPairs'. -/
def ordPairsUptoCard : Claim7 := { stood := { row := ordPairsUptoRow, standIns := [], harness := (true, "729439ea448d1a43cc549b1fd292c59c5ef085bc576564cf1244a5851aac2ba0"), looks := false }, kinds := [], alts := [], laidByText := true, laidKinds := [.data, .pinned], laidTests := true, laidLooks := .later }
def OrdPairsUptoCardSaid : Prop := Claim7.holds Tryd.pinned (.plain (OpenSpec.upto ordPairsSpec)) ordPairsUptoCard

/-- THE SECOND FORM's CARD OF 'scriptoriumlaw02.OrdStamps'. -/
def ordStampsUptoCard : Claim7 := { stood := { row := ordStampsUptoRow, standIns := [], harness := (true, "729439ea448d1a43cc549b1fd292c59c5ef085bc576564cf1244a5851aac2ba0"), looks := false }, kinds := [], alts := [], laidByText := true, laidKinds := [.data, .pinned], laidTests := true, laidLooks := .later }
def OrdStampsUptoCardSaid : Prop := Claim7.holds Tryd.pinned (.plain (OpenSpec.upto ordStampsSpec)) ordStampsUptoCard

/-- THE SECOND FORM's CARD OF 'scriptoriumlaw02.OrdOrder'. -/
def ordOrderUptoCard : Claim7 := { stood := { row := ordOrderUptoRow, standIns := [], harness := (true, "729439ea448d1a43cc549b1fd292c59c5ef085bc576564cf1244a5851aac2ba0"), looks := false }, kinds := [], alts := [], laidByText := true, laidKinds := [.data, .pinned], laidTests := true, laidLooks := .later }
def OrdOrderUptoCardSaid : Prop := Claim7.holds Tryd.pinned (.plain (OpenSpec.upto ordOrderSpec)) ordOrderUptoCard

/-- THE SECOND FORM's CARD OF 'scriptoriumlaw02.OrdDown'. -/
def ordDownUptoCard : Claim7 := { stood := { row := ordDownUptoRow, standIns := [], harness := (true, "729439ea448d1a43cc549b1fd292c59c5ef085bc576564cf1244a5851aac2ba0"), looks := false }, kinds := [], alts := [], laidByText := true, laidKinds := [.data, .pinned], laidTests := true, laidLooks := .later }
def OrdDownUptoCardSaid : Prop := Claim7.holds Tryd.pinned (.plain (OpenSpec.upto ordDownSpec)) ordDownUptoCard

/-- THE SECOND FORM's CARD OF 'scriptoriumlaw02.OrdBack'. -/
def ordBackUptoCard : Claim7 := { stood := { row := ordBackUptoRow, standIns := [], harness := (true, "729439ea448d1a43cc549b1fd292c59c5ef085bc576564cf1244a5851aac2ba0"), looks := false }, kinds := [], alts := [], laidByText := true, laidKinds := [.data, .pinned], laidTests := true, laidLooks := .later }
def OrdBackUptoCardSaid : Prop := Claim7.holds Tryd.pinned (.plain (OpenSpec.upto ordBackSpec)) ordBackUptoCard

/-- THE SECOND FORM's CARD OF 'scriptoriumlaw02.OrdAgain'. -/
def ordAgainUptoCard : Claim7 := { stood := { row := ordAgainUptoRow, standIns := [], harness := (true, "729439ea448d1a43cc549b1fd292c59c5ef085bc576564cf1244a5851aac2ba0"), looks := false }, kinds := [], alts := [], laidByText := true, laidKinds := [.data, .pinned], laidTests := true, laidLooks := .later }
def OrdAgainUptoCardSaid : Prop := Claim7.holds Tryd.pinned (.plain (OpenSpec.upto ordAgainSpec)) ordAgainUptoCard

/-- THE SECOND FORM's CARD OF 'scriptoriumlaw02.OrdCut'. -/
def ordCutUptoCard : Claim7 := { stood := { row := ordCutUptoRow, standIns := [], harness := (true, "729439ea448d1a43cc549b1fd292c59c5ef085bc576564cf1244a5851aac2ba0"), looks := false }, kinds := [], alts := [], laidByText := true, laidKinds := [.data, .pinned], laidTests := true, laidLooks := .later }
def OrdCutUptoCardSaid : Prop := Claim7.holds Tryd.pinned (.plain (OpenSpec.upto ordCutSpec)) ordCutUptoCard

/-- THE SECOND FORM's CARD OF 'scriptoriumlaw02.OrdKnown'. -/
def ordKnownUptoCard : Claim7 := { stood := { row := ordKnownUptoRow, standIns := [], harness := (true, "729439ea448d1a43cc549b1fd292c59c5ef085bc576564cf1244a5851aac2ba0"), looks := false }, kinds := [], alts := [], laidByText := true, laidKinds := [.data, .pinned], laidTests := true, laidLooks := .later }
def OrdKnownUptoCardSaid : Prop := Claim7.holds Tryd.pinned (.plain (OpenSpec.upto ordKnownSpec)) ordKnownUptoCard
end Rows
end Go.Proofs.YtmidoifdcidjcaaDoor
