/-
  DERIVED. GIVEN WITH THE SEED: THE CARDS: each row of YtpnojkgdjkncbaaDoorRows.lean that lists a variable, with what it lists TIED to the program's text (the seventh form; the later family's looks); each row that meets fmt, with fmt's text TOLD by the authors' own Lean function (tested against real Go, not proved from fmt's source: count such statements apart). THE CARD IS WHAT COUNTS. Prove the row's statement (the work); the ties are given (YtpnojkgdjkncbaaDoorTie.lean); close each card by the builder's one call (the guide's Derived/Test/ToyasCard.lean, 'card_holds'). Laid BY PROGRAM, IN A SANDBOX (cutbox-door.mjs). By AI agents, Wed Nov 11 2026. No macro, syntax, notation, axiom, sorry.
-/
import Derived.Test.YtpnojkgdjkncbaaDoorRows
import GoSem.ClaimSeven
namespace Go.Proofs.YtpnojkgdjkncbaaDoor
namespace Rows

/-- THE TIED CARD OF 'scriptoriumlaw11.CellPlain'. -/
def cellPlainCard : Claim7 := { stood := { row := cellPlainRow, standIns := [], harness := (true, "f4ceeddb56ebac9c3016523ed04a5a2ca7bd6ec37d433ce53710ff75a293ea31"), looks := false }, kinds := [], alts := [], laidByText := true, laidKinds := [.data, .pinned], laidTests := true, laidLooks := .later }
def CellPlainCardSaid : Prop := Claim7.holds Tryd.pinned (.plain (OpenSpec.ofChange cellPlainSpec)) cellPlainCard

/-- THE TIED CARD OF 'scriptoriumlaw11.CellOrder'. -/
def cellOrderCard : Claim7 := { stood := { row := cellOrderRow, standIns := [], harness := (true, "f4ceeddb56ebac9c3016523ed04a5a2ca7bd6ec37d433ce53710ff75a293ea31"), looks := false }, kinds := [], alts := [], laidByText := true, laidKinds := [.data, .pinned], laidTests := true, laidLooks := .later }
def CellOrderCardSaid : Prop := Claim7.holds Tryd.pinned (.plain (OpenSpec.ofChange cellOrderSpec)) cellOrderCard

/-- THE TIED CARD OF 'scriptoriumlaw11.CellIntents'. -/
def cellIntentsCard : Claim7 := { stood := { row := cellIntentsRow, standIns := [], harness := (true, "f4ceeddb56ebac9c3016523ed04a5a2ca7bd6ec37d433ce53710ff75a293ea31"), looks := false }, kinds := [], alts := [], laidByText := true, laidKinds := [.data, .pinned], laidTests := true, laidLooks := .later }
def CellIntentsCardSaid : Prop := Claim7.holds Tryd.pinned (.plain (OpenSpec.ofChange cellIntentsSpec)) cellIntentsCard

/-- THE TIED CARD OF 'scriptoriumlaw11.CellRecords'. -/
def cellRecordsCard : Claim7 := { stood := { row := cellRecordsRow, standIns := [], harness := (true, "f4ceeddb56ebac9c3016523ed04a5a2ca7bd6ec37d433ce53710ff75a293ea31"), looks := false }, kinds := [], alts := [], laidByText := true, laidKinds := [.data, .pinned], laidTests := true, laidLooks := .later }
def CellRecordsCardSaid : Prop := Claim7.holds Tryd.pinned (.plain (OpenSpec.ofChange cellRecordsSpec)) cellRecordsCard

/-- THE TIED CARD OF 'scriptoriumlaw11.CellKinds'. -/
def cellKindsCard : Claim7 := { stood := { row := cellKindsRow, standIns := [], harness := (true, "f4ceeddb56ebac9c3016523ed04a5a2ca7bd6ec37d433ce53710ff75a293ea31"), looks := false }, kinds := [], alts := [], laidByText := true, laidKinds := [.data, .pinned], laidTests := true, laidLooks := .later }
def CellKindsCardSaid : Prop := Claim7.holds Tryd.pinned (.plain (OpenSpec.ofChange cellKindsSpec)) cellKindsCard

/-- THE TIED CARD OF 'scriptoriumlaw11.CellTakes'. -/
def cellTakesCard : Claim7 := { stood := { row := cellTakesRow, standIns := [], harness := (true, "f4ceeddb56ebac9c3016523ed04a5a2ca7bd6ec37d433ce53710ff75a293ea31"), looks := false }, kinds := [], alts := [], laidByText := true, laidKinds := [.data, .pinned], laidTests := true, laidLooks := .later }
def CellTakesCardSaid : Prop := Claim7.holds Tryd.pinned (.plain (OpenSpec.ofChange cellTakesSpec)) cellTakesCard

/-- THE TIED CARD OF 'scriptoriumlaw11.CellBack'. -/
def cellBackCard : Claim7 := { stood := { row := cellBackRow, standIns := [], harness := (true, "f4ceeddb56ebac9c3016523ed04a5a2ca7bd6ec37d433ce53710ff75a293ea31"), looks := false }, kinds := [], alts := [], laidByText := true, laidKinds := [.data, .pinned], laidTests := true, laidLooks := .later }
def CellBackCardSaid : Prop := Claim7.holds Tryd.pinned (.plain (OpenSpec.ofChange cellBackSpec)) cellBackCard

/-- THE TIED CARD OF 'scriptoriumlaw11.CellOnce'. -/
def cellOnceCard : Claim7 := { stood := { row := cellOnceRow, standIns := [], harness := (true, "f4ceeddb56ebac9c3016523ed04a5a2ca7bd6ec37d433ce53710ff75a293ea31"), looks := false }, kinds := [], alts := [], laidByText := true, laidKinds := [.data, .pinned], laidTests := true, laidLooks := .later }
def CellOnceCardSaid : Prop := Claim7.holds Tryd.pinned (.plain (OpenSpec.ofChange cellOnceSpec)) cellOnceCard

/-- THE SECOND FORM's CARD OF 'scriptoriumlaw11.CellPlain'. -/
def cellPlainUptoCard : Claim7 := { stood := { row := cellPlainUptoRow, standIns := [], harness := (true, "f4ceeddb56ebac9c3016523ed04a5a2ca7bd6ec37d433ce53710ff75a293ea31"), looks := false }, kinds := [], alts := [], laidByText := true, laidKinds := [.data, .pinned], laidTests := true, laidLooks := .later }
def CellPlainUptoCardSaid : Prop := Claim7.holds Tryd.pinned (.plain (OpenSpec.upto cellPlainSpec)) cellPlainUptoCard

/-- THE SECOND FORM's CARD OF 'scriptoriumlaw11.CellOrder'. -/
def cellOrderUptoCard : Claim7 := { stood := { row := cellOrderUptoRow, standIns := [], harness := (true, "f4ceeddb56ebac9c3016523ed04a5a2ca7bd6ec37d433ce53710ff75a293ea31"), looks := false }, kinds := [], alts := [], laidByText := true, laidKinds := [.data, .pinned], laidTests := true, laidLooks := .later }
def CellOrderUptoCardSaid : Prop := Claim7.holds Tryd.pinned (.plain (OpenSpec.upto cellOrderSpec)) cellOrderUptoCard

/-- THE SECOND FORM's CARD OF 'scriptoriumlaw11.CellIntents'. -/
def cellIntentsUptoCard : Claim7 := { stood := { row := cellIntentsUptoRow, standIns := [], harness := (true, "f4ceeddb56ebac9c3016523ed04a5a2ca7bd6ec37d433ce53710ff75a293ea31"), looks := false }, kinds := [], alts := [], laidByText := true, laidKinds := [.data, .pinned], laidTests := true, laidLooks := .later }
def CellIntentsUptoCardSaid : Prop := Claim7.holds Tryd.pinned (.plain (OpenSpec.upto cellIntentsSpec)) cellIntentsUptoCard

/-- THE SECOND FORM's CARD OF 'scriptoriumlaw11.CellRecords'. -/
def cellRecordsUptoCard : Claim7 := { stood := { row := cellRecordsUptoRow, standIns := [], harness := (true, "f4ceeddb56ebac9c3016523ed04a5a2ca7bd6ec37d433ce53710ff75a293ea31"), looks := false }, kinds := [], alts := [], laidByText := true, laidKinds := [.data, .pinned], laidTests := true, laidLooks := .later }
def CellRecordsUptoCardSaid : Prop := Claim7.holds Tryd.pinned (.plain (OpenSpec.upto cellRecordsSpec)) cellRecordsUptoCard

/-- THE SECOND FORM's CARD OF 'scriptoriumlaw11.CellKinds'. -/
def cellKindsUptoCard : Claim7 := { stood := { row := cellKindsUptoRow, standIns := [], harness := (true, "f4ceeddb56ebac9c3016523ed04a5a2ca7bd6ec37d433ce53710ff75a293ea31"), looks := false }, kinds := [], alts := [], laidByText := true, laidKinds := [.data, .pinned], laidTests := true, laidLooks := .later }
def CellKindsUptoCardSaid : Prop := Claim7.holds Tryd.pinned (.plain (OpenSpec.upto cellKindsSpec)) cellKindsUptoCard

/-- THE SECOND FORM's CARD OF 'scriptoriumlaw11.CellTakes'. -/
def cellTakesUptoCard : Claim7 := { stood := { row := cellTakesUptoRow, standIns := [], harness := (true, "f4ceeddb56ebac9c3016523ed04a5a2ca7bd6ec37d433ce53710ff75a293ea31"), looks := false }, kinds := [], alts := [], laidByText := true, laidKinds := [.data, .pinned], laidTests := true, laidLooks := .later }
def CellTakesUptoCardSaid : Prop := Claim7.holds Tryd.pinned (.plain (OpenSpec.upto cellTakesSpec)) cellTakesUptoCard

/-- THE SECOND FORM's CARD OF 'scriptoriumlaw11.CellBack'. -/
def cellBackUptoCard : Claim7 := { stood := { row := cellBackUptoRow, standIns := [], harness := (true, "f4ceeddb56ebac9c3016523ed04a5a2ca7bd6ec37d433ce53710ff75a293ea31"), looks := false }, kinds := [], alts := [], laidByText := true, laidKinds := [.data, .pinned], laidTests := true, laidLooks := .later }
def CellBackUptoCardSaid : Prop := Claim7.holds Tryd.pinned (.plain (OpenSpec.upto cellBackSpec)) cellBackUptoCard

/-- THE SECOND FORM's CARD OF 'scriptoriumlaw11.CellOnce'. -/
def cellOnceUptoCard : Claim7 := { stood := { row := cellOnceUptoRow, standIns := [], harness := (true, "f4ceeddb56ebac9c3016523ed04a5a2ca7bd6ec37d433ce53710ff75a293ea31"), looks := false }, kinds := [], alts := [], laidByText := true, laidKinds := [.data, .pinned], laidTests := true, laidLooks := .later }
def CellOnceUptoCardSaid : Prop := Claim7.holds Tryd.pinned (.plain (OpenSpec.upto cellOnceSpec)) cellOnceUptoCard
end Rows
end Go.Proofs.YtpnojkgdjkncbaaDoor
