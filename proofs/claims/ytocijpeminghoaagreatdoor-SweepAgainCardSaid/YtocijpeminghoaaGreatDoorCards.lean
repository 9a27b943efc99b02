/-
  DERIVED. GIVEN WITH THE SEED: THE CARDS: each row of YtocijpeminghoaaGreatDoorRows.lean that lists a variable, with what it lists TIED to the program's text (the seventh form; the later family's looks); each row that meets fmt, with fmt's text TOLD by the authors' own Lean function (tested against real Go, not proved from fmt's source: count such statements apart). THE CARD IS WHAT COUNTS. Prove the row's statement (the work); the ties are given (YtocijpeminghoaaGreatDoorTie.lean); close each card by the builder's one call (the guide's Derived/Test/ToyasCard.lean, 'card_holds'). Laid BY PROGRAM, IN A SANDBOX (cutbox-door.mjs). By AI agents, Wed Nov 11 2026. No macro, syntax, notation, axiom, sorry.
-/
import Derived.Test.YtocijpeminghoaaGreatDoorRows
import GoSem.ClaimSeven
namespace Go.Proofs.YtocijpeminghoaaGreatDoor
namespace Rows

/-- THE TIED CARD OF 'scriptoriumlaw15.SweepReads'. -/
def sweepReadsCard : Claim7 := { stood := { row := sweepReadsRow, standIns := [], harness := (true, "d9b80e58ea771dec010dbdf28b4fcbae381b4f5091e3bf976c8ed8c617ac099e"), looks := false }, kinds := [], alts := [], laidByText := true, laidKinds := [.data, .pinned], laidTests := true, laidLooks := .later }
def SweepReadsCardSaid : Prop := Claim7.holds Tryz.pinned (.plain (OpenSpec.ofChange sweepReadsSpec)) sweepReadsCard

/-- THE TIED CARD OF 'scriptoriumlaw15.SweepAgain'. -/
def sweepAgainCard : Claim7 := { stood := { row := sweepAgainRow, standIns := [], harness := (true, "d9b80e58ea771dec010dbdf28b4fcbae381b4f5091e3bf976c8ed8c617ac099e"), looks := false }, kinds := [], alts := [], laidByText := true, laidKinds := [.data, .pinned], laidTests := true, laidLooks := .later }
def SweepAgainCardSaid : Prop := Claim7.holds Tryz.pinned (.plain (OpenSpec.ofChange sweepAgainSpec)) sweepAgainCard

/-- THE SECOND FORM's CARD OF 'scriptoriumlaw15.SweepReads'. -/
def sweepReadsUptoCard : Claim7 := { stood := { row := sweepReadsUptoRow, standIns := [], harness := (true, "d9b80e58ea771dec010dbdf28b4fcbae381b4f5091e3bf976c8ed8c617ac099e"), looks := false }, kinds := [], alts := [], laidByText := true, laidKinds := [.data, .pinned], laidTests := true, laidLooks := .later }
def SweepReadsUptoCardSaid : Prop := Claim7.holds Tryz.pinned (.plain (OpenSpec.upto sweepReadsSpec)) sweepReadsUptoCard

/-- THE SECOND FORM's CARD OF 'scriptoriumlaw15.SweepAgain'. -/
def sweepAgainUptoCard : Claim7 := { stood := { row := sweepAgainUptoRow, standIns := [], harness := (true, "d9b80e58ea771dec010dbdf28b4fcbae381b4f5091e3bf976c8ed8c617ac099e"), looks := false }, kinds := [], alts := [], laidByText := true, laidKinds := [.data, .pinned], laidTests := true, laidLooks := .later }
def SweepAgainUptoCardSaid : Prop := Claim7.holds Tryz.pinned (.plain (OpenSpec.upto sweepAgainSpec)) sweepAgainUptoCard
end Rows
end Go.Proofs.YtocijpeminghoaaGreatDoor
