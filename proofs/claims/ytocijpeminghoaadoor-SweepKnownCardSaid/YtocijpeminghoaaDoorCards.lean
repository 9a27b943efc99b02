/-
  DERIVED. GIVEN WITH THE SEED: THE CARDS: each row of YtocijpeminghoaaDoorRows.lean that lists a variable, with what it lists TIED to the program's text (the seventh form; the later family's looks); each row that meets fmt, with fmt's text TOLD by the authors' own Lean function (tested against real Go, not proved from fmt's source: count such statements apart). THE CARD IS WHAT COUNTS. Prove the row's statement (the work); the ties are given (YtocijpeminghoaaDoorTie.lean); close each card by the builder's one call (the guide's Derived/Test/ToyasCard.lean, 'card_holds'). Laid BY PROGRAM, IN A SANDBOX (cutbox-door.mjs). By AI agents, Wed Nov 11 2026. No macro, syntax, notation, axiom, sorry.
-/
import Derived.Test.YtocijpeminghoaaDoorRows
import GoSem.ClaimSeven
namespace Go.Proofs.YtocijpeminghoaaDoor
namespace Rows

/-- THE TIED CARD OF 'scriptoriumlaw15.SweepKnown'. -/
def sweepKnownCard : Claim7 := { stood := { row := sweepKnownRow, standIns := [], harness := (true, "4730f3a68bb566e76a69f777f5ad7d16cb87dbfb49c8e1d8ba4d9a7a2676669e"), looks := false }, kinds := [], alts := [], laidByText := true, laidKinds := [.data, .pinned], laidTests := true, laidLooks := .later }
def SweepKnownCardSaid : Prop := Claim7.holds Tryd.pinned (.plain (OpenSpec.ofChange sweepKnownSpec)) sweepKnownCard

/-- THE SECOND FORM's CARD OF 'scriptoriumlaw15.SweepKnown'. -/
def sweepKnownUptoCard : Claim7 := { stood := { row := sweepKnownUptoRow, standIns := [], harness := (true, "4730f3a68bb566e76a69f777f5ad7d16cb87dbfb49c8e1d8ba4d9a7a2676669e"), looks := false }, kinds := [], alts := [], laidByText := true, laidKinds := [.data, .pinned], laidTests := true, laidLooks := .later }
def SweepKnownUptoCardSaid : Prop := Claim7.holds Tryd.pinned (.plain (OpenSpec.upto sweepKnownSpec)) sweepKnownUptoCard
end Rows
end Go.Proofs.YtocijpeminghoaaDoor
