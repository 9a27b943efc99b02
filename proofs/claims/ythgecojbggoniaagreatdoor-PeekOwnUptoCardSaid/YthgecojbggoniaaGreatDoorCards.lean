/-
  DERIVED. GIVEN WITH THE SEED: THE CARDS: each row of YthgecojbggoniaaGreatDoorRows.lean that lists a variable, with what it lists TIED to the program's text (the seventh form; the later family's looks); each row that meets fmt, with fmt's text TOLD by the authors' own Lean function (tested against real Go, not proved from fmt's source: count such statements apart). THE CARD IS WHAT COUNTS. Prove the row's statement (the work); the ties are given (YthgecojbggoniaaGreatDoorTie.lean); close each card by the builder's one call (the guide's Derived/Test/ToyasCard.lean, 'card_holds'). Laid BY PROGRAM, IN A SANDBOX (cutbox-door.mjs). By AI agents, Wed Nov 11 2026. No macro, syntax, notation, axiom, sorry.
-/
import Derived.Test.YthgecojbggoniaaGreatDoorRows
import GoSem.ClaimSeven
namespace Go.Proofs.YthgecojbggoniaaGreatDoor
namespace Rows

/-- THE TIED CARD OF 'scriptoriumlaw12.PeekLater'. -/
def peekLaterCard : Claim7 := { stood := { row := peekLaterRow, standIns := [], harness := (true, "e5278d3afdad1b71a9e0b5934eb54fb2d735285672f8154c43fc372404effdaf"), looks := false }, kinds := [], alts := [], laidByText := true, laidKinds := [.data, .pinned], laidTests := true, laidLooks := .later }
def PeekLaterCardSaid : Prop := Claim7.holds Tryz.pinned (.plain (OpenSpec.ofChange peekLaterSpec)) peekLaterCard

/-- THE TIED CARD OF 'scriptoriumlaw12.PeekGets'. -/
def peekGetsCard : Claim7 := { stood := { row := peekGetsRow, standIns := [], harness := (true, "e5278d3afdad1b71a9e0b5934eb54fb2d735285672f8154c43fc372404effdaf"), looks := false }, kinds := [], alts := [], laidByText := true, laidKinds := [.data, .pinned], laidTests := true, laidLooks := .later }
def PeekGetsCardSaid : Prop := Claim7.holds Tryz.pinned (.plain (OpenSpec.ofChange peekGetsSpec)) peekGetsCard

/-- THE TIED CARD OF 'scriptoriumlaw12.PeekAbove'. -/
def peekAboveCard : Claim7 := { stood := { row := peekAboveRow, standIns := [], harness := (true, "e5278d3afdad1b71a9e0b5934eb54fb2d735285672f8154c43fc372404effdaf"), looks := false }, kinds := [], alts := [], laidByText := true, laidKinds := [.data, .pinned], laidTests := true, laidLooks := .later }
def PeekAboveCardSaid : Prop := Claim7.holds Tryz.pinned (.plain (OpenSpec.ofChange peekAboveSpec)) peekAboveCard

/-- THE TIED CARD OF 'scriptoriumlaw12.PeekOwn'. -/
def peekOwnCard : Claim7 := { stood := { row := peekOwnRow, standIns := [], harness := (true, "e5278d3afdad1b71a9e0b5934eb54fb2d735285672f8154c43fc372404effdaf"), looks := false }, kinds := [], alts := [], laidByText := true, laidKinds := [.data, .pinned], laidTests := true, laidLooks := .later }
def PeekOwnCardSaid : Prop := Claim7.holds Tryz.pinned (.plain (OpenSpec.ofChange peekOwnSpec)) peekOwnCard

/-- THE SECOND FORM's CARD OF 'scriptoriumlaw12.PeekLater'. -/
def peekLaterUptoCard : Claim7 := { stood := { row := peekLaterUptoRow, standIns := [], harness := (true, "e5278d3afdad1b71a9e0b5934eb54fb2d735285672f8154c43fc372404effdaf"), looks := false }, kinds := [], alts := [], laidByText := true, laidKinds := [.data, .pinned], laidTests := true, laidLooks := .later }
def PeekLaterUptoCardSaid : Prop := Claim7.holds Tryz.pinned (.plain (OpenSpec.upto peekLaterSpec)) peekLaterUptoCard

/-- THE SECOND FORM's CARD OF 'scriptoriumlaw12.PeekGets'. -/
def peekGetsUptoCard : Claim7 := { stood := { row := peekGetsUptoRow, standIns := [], harness := (true, "e5278d3afdad1b71a9e0b5934eb54fb2d735285672f8154c43fc372404effdaf"), looks := false }, kinds := [], alts := [], laidByText := true, laidKinds := [.data, .pinned], laidTests := true, laidLooks := .later }
def PeekGetsUptoCardSaid : Prop := Claim7.holds Tryz.pinned (.plain (OpenSpec.upto peekGetsSpec)) peekGetsUptoCard

/-- THE SECOND FORM's CARD OF 'scriptoriumlaw12.PeekAbove'. -/
def peekAboveUptoCard : Claim7 := { stood := { row := peekAboveUptoRow, standIns := [], harness := (true, "e5278d3afdad1b71a9e0b5934eb54fb2d735285672f8154c43fc372404effdaf"), looks := false }, kinds := [], alts := [], laidByText := true, laidKinds := [.data, .pinned], laidTests := true, laidLooks := .later }
def PeekAboveUptoCardSaid : Prop := Claim7.holds Tryz.pinned (.plain (OpenSpec.upto peekAboveSpec)) peekAboveUptoCard

/-- THE SECOND FORM's CARD OF 'scriptoriumlaw12.PeekOwn'. -/
def peekOwnUptoCard : Claim7 := { stood := { row := peekOwnUptoRow, standIns := [], harness := (true, "e5278d3afdad1b71a9e0b5934eb54fb2d735285672f8154c43fc372404effdaf"), looks := false }, kinds := [], alts := [], laidByText := true, laidKinds := [.data, .pinned], laidTests := true, laidLooks := .later }
def PeekOwnUptoCardSaid : Prop := Claim7.holds Tryz.pinned (.plain (OpenSpec.upto peekOwnSpec)) peekOwnUptoCard
end Rows
end Go.Proofs.YthgecojbggoniaaGreatDoor
