/-
  NARROWER THAN 'FOR EVERY INPUT', by the rows' own cells (each row's printed sentence says how): PeekLater: laid · PeekGets: laid · PeekAbove: laid · PeekOwn: laid.
  DERIVED. THE GIVEN ROWS OF THIS SEAT. 4 by the template 'for every input the law returns true; each argument reads behind the call as it read before'; 0 by the template 'total and deterministic' (their statements: YthgecojbggoniaaGreatDoorTotals.lean).
  GIVEN WITH THE SEED: the statements are not yours to turn. If you find one false, say at which input.
  Laid BY PROGRAM, IN A SANDBOX (cutbox-rows.mjs): the forced cells as the released guide's own fill.sh prints them over the translation 0dbd20f2be661ca8… (all of the seat's roots in one cut). By AI agents, Wed Nov 11 2026. No macro, syntax, notation, axiom, sorry.
-/
import Derived.Test.YthgecojbggoniaaGreatDoorChecked
import GoSem.PinnedTables
import GoSem.Claim
import GoSem.ClaimJoined
import GoSem.ClaimMapViews
import Derived.JoinedTies
import Derived.KernelRfl
namespace Go.Proofs.YthgecojbggoniaaGreatDoor
/- THE CELL 'sum', in the pinned program and in every row, IS THE sha256 OF THE DUMP (.gsa) THAT YthgecojbggoniaaGreatDoorProg.lean LOADS. Nothing in Lean hashes anything: it is a label: what it is worth is what the hold of that sum in a sandbox is worth. -/
noncomputable def Tryz.pinned : Pinned := { name := "ythgecojbggoniaagreatdoor", sum := "0dbd20f2be661ca8c0cecd9adec5be9d1957361c6e4b63563e63a71008f935d9", checked := Tryz.checked }
namespace Rows
def none {H : Type} : Left H := { results := [], args := [] }

/- WHAT THE LISTED PACKAGE-LEVEL VARIABLES READ AS WHEN THE CALL BEGINS. Each datum BY PROGRAM (the guide's laid-datum.mjs) off the statement by which the dump's own 'gosem.cut.vars' lays the variable. In a bare row this is a premise. The card (YthgecojbggoniaaGreatDoorCards.lean) ties it to the program's text. -/
def laid_unicode_utf8_acceptRanges {H : Type} : DataW H := .agg [.agg [.lit (.int .u8 128), .lit (.int .u8 191)], .agg [.lit (.int .u8 160), .lit (.int .u8 191)], .agg [.lit (.int .u8 128), .lit (.int .u8 159)], .agg [.lit (.int .u8 144), .lit (.int .u8 191)], .agg [.lit (.int .u8 128), .lit (.int .u8 143)], .agg [.lit (.int .u8 0), .lit (.int .u8 0)], .agg [.lit (.int .u8 0), .lit (.int .u8 0)], .agg [.lit (.int .u8 0), .lit (.int .u8 0)], .agg [.lit (.int .u8 0), .lit (.int .u8 0)], .agg [.lit (.int .u8 0), .lit (.int .u8 0)], .agg [.lit (.int .u8 0), .lit (.int .u8 0)], .agg [.lit (.int .u8 0), .lit (.int .u8 0)], .agg [.lit (.int .u8 0), .lit (.int .u8 0)], .agg [.lit (.int .u8 0), .lit (.int .u8 0)], .agg [.lit (.int .u8 0), .lit (.int .u8 0)], .agg [.lit (.int .u8 0), .lit (.int .u8 0)]]
/-- One of Go's own tables, pinned by name: the form's constant. -/
def laid_unicode_utf8_first : DataW Unit := Go.Pinned.utf8First

/-- 'scriptoriumlaw12.PeekLater': WHATEVER THE INPUT: true; the input reads as it did. -/
def peekLaterSpec : ChangeSpec := { name := "peekLater", fn := fun _ => fun
  | [d1, d2, d3] => { results := [.lit (.bool true)], args := [d1, d2, d3] }
  | _ => none }
def peekLaterRow : OpenClaim := { program := "ythgecojbggoniaagreatdoor", sum := "0dbd20f2be661ca8c0cecd9adec5be9d1957361c6e4b63563e63a71008f935d9", func := "scriptorium/scriptoriumlaw12.PeekLater", spec := "peekLater", inPlace := ["internal/bytealg.CountString", "internal/bytealg.IndexByteString", "internal/bytealg.IndexString", "internal/abi.NoEscape", "internal/bytealg.MakeNoZero"], unfollowed := true, recurses := true, named := ["internal/bytealg.MaxLen", "unicode/utf8.first", "unicode/utf8.acceptRanges"], apart := false, laid := [("unicode/utf8.acceptRanges", laid_unicode_utf8_acceptRanges), ("unicode/utf8.first", laid_unicode_utf8_first)] }
def PeekLaterSaid : Prop := peekLaterRow.holds Tryz.pinned (OpenSpec.ofChange peekLaterSpec)

/-- ITS FALSE NEIGHBOUR: 'it returns false'. Refute it at one input. -/
def peekLaterWrong : ChangeSpec := { name := "peekLater", fn := fun _ => fun
  | [d1, d2, d3] => { results := [.lit (.bool false)], args := [d1, d2, d3] }
  | _ => none }
def PeekLaterWrongFalsely : Prop := peekLaterRow.holds Tryz.pinned (OpenSpec.ofChange peekLaterWrong)

/-- 'scriptoriumlaw12.PeekGets': WHATEVER THE INPUT: true; the input reads as it did. -/
def peekGetsSpec : ChangeSpec := { name := "peekGets", fn := fun _ => fun
  | [d1, d2] => { results := [.lit (.bool true)], args := [d1, d2] }
  | _ => none }
def peekGetsRow : OpenClaim := { program := "ythgecojbggoniaagreatdoor", sum := "0dbd20f2be661ca8c0cecd9adec5be9d1957361c6e4b63563e63a71008f935d9", func := "scriptorium/scriptoriumlaw12.PeekGets", spec := "peekGets", inPlace := ["internal/bytealg.CountString", "internal/bytealg.IndexByteString", "internal/bytealg.IndexString", "internal/abi.NoEscape", "internal/bytealg.MakeNoZero"], unfollowed := true, recurses := true, named := ["internal/bytealg.MaxLen", "unicode/utf8.first", "unicode/utf8.acceptRanges"], apart := false, laid := [("unicode/utf8.acceptRanges", laid_unicode_utf8_acceptRanges), ("unicode/utf8.first", laid_unicode_utf8_first)] }
def PeekGetsSaid : Prop := peekGetsRow.holds Tryz.pinned (OpenSpec.ofChange peekGetsSpec)

/-- ITS FALSE NEIGHBOUR: 'it returns false'. Refute it at one input. -/
def peekGetsWrong : ChangeSpec := { name := "peekGets", fn := fun _ => fun
  | [d1, d2] => { results := [.lit (.bool false)], args := [d1, d2] }
  | _ => none }
def PeekGetsWrongFalsely : Prop := peekGetsRow.holds Tryz.pinned (OpenSpec.ofChange peekGetsWrong)

/-- 'scriptoriumlaw12.PeekAbove': WHATEVER THE INPUT: true; the input reads as it did. -/
def peekAboveSpec : ChangeSpec := { name := "peekAbove", fn := fun _ => fun
  | [d1, d2, d3] => { results := [.lit (.bool true)], args := [d1, d2, d3] }
  | _ => none }
def peekAboveRow : OpenClaim := { program := "ythgecojbggoniaagreatdoor", sum := "0dbd20f2be661ca8c0cecd9adec5be9d1957361c6e4b63563e63a71008f935d9", func := "scriptorium/scriptoriumlaw12.PeekAbove", spec := "peekAbove", inPlace := ["internal/bytealg.CountString", "internal/bytealg.IndexByteString", "internal/bytealg.IndexString", "internal/abi.NoEscape", "internal/bytealg.MakeNoZero"], unfollowed := true, recurses := true, named := ["internal/bytealg.MaxLen", "unicode/utf8.first", "unicode/utf8.acceptRanges"], apart := false, laid := [("unicode/utf8.acceptRanges", laid_unicode_utf8_acceptRanges), ("unicode/utf8.first", laid_unicode_utf8_first)] }
def PeekAboveSaid : Prop := peekAboveRow.holds Tryz.pinned (OpenSpec.ofChange peekAboveSpec)

/-- ITS FALSE NEIGHBOUR: 'it returns false'. Refute it at one input. -/
def peekAboveWrong : ChangeSpec := { name := "peekAbove", fn := fun _ => fun
  | [d1, d2, d3] => { results := [.lit (.bool false)], args := [d1, d2, d3] }
  | _ => none }
def PeekAboveWrongFalsely : Prop := peekAboveRow.holds Tryz.pinned (OpenSpec.ofChange peekAboveWrong)

/-- 'scriptoriumlaw12.PeekOwn': WHATEVER THE INPUT: true; the input reads as it did. -/
def peekOwnSpec : ChangeSpec := { name := "peekOwn", fn := fun _ => fun
  | [d1, d2, d3] => { results := [.lit (.bool true)], args := [d1, d2, d3] }
  | _ => none }
def peekOwnRow : OpenClaim := { program := "ythgecojbggoniaagreatdoor", sum := "0dbd20f2be661ca8c0cecd9adec5be9d1957361c6e4b63563e63a71008f935d9", func := "scriptorium/scriptoriumlaw12.PeekOwn", spec := "peekOwn", inPlace := ["internal/bytealg.CountString", "internal/bytealg.IndexByteString", "internal/bytealg.IndexString", "internal/abi.NoEscape", "internal/bytealg.MakeNoZero"], unfollowed := true, recurses := true, named := ["internal/bytealg.MaxLen", "unicode/utf8.first", "unicode/utf8.acceptRanges"], apart := false, laid := [("unicode/utf8.acceptRanges", laid_unicode_utf8_acceptRanges), ("unicode/utf8.first", laid_unicode_utf8_first)] }
def PeekOwnSaid : Prop := peekOwnRow.holds Tryz.pinned (OpenSpec.ofChange peekOwnSpec)

/-- ITS FALSE NEIGHBOUR: 'it returns false'. Refute it at one input. -/
def peekOwnWrong : ChangeSpec := { name := "peekOwn", fn := fun _ => fun
  | [d1, d2, d3] => { results := [.lit (.bool false)], args := [d1, d2, d3] }
  | _ => none }
def PeekOwnWrongFalsely : Prop := peekOwnRow.holds Tryz.pinned (OpenSpec.ofChange peekOwnWrong)

/- THE SECOND FORM. 'bulk': how many values and letters a reading holds, each counted each time it is reached (what is shared counts as often as it is met; a slice's spare places count too). A statement '..UptoSaid' is the law's where the arguments, and the package variables that the reading takes, are together of bulk at most 1048576: NARROWER than '..Said'. Prove '..Said' where nothing that the law and all that it calls make is longer than what came in: it says more and counts as full. Else prove '..UptoSaid'. A law counts once. -/
mutual
def uptoBulk {H : Type} : DataW H → Nat
  | .lit (.string bytes) => bytes.length + 1
  | .lit _ => 1
  | .nil => 1
  | .ptr d => uptoBulk d + 1
  | .slice elems spare => uptoBulkAll elems + uptoBulkAll spare + 1
  | .agg parts => uptoBulkAll parts + 1
  | .iface _ d => uptoBulk d + 1
  | .map entries => uptoBulkEntries entries + 1
  | .held _ => 1
def uptoBulkAll {H : Type} : List (DataW H) → Nat
  | [] => 0
  | d :: r => uptoBulk d + uptoBulkAll r
def uptoBulkEntries {H : Type} : List (Lit × DataW H) → Nat
  | [] => 0
  | x :: r => uptoBulkEntry x + uptoBulkEntries r
def uptoBulkEntry {H : Type} : Lit × DataW H → Nat
  | (.string bytes, d) => bytes.length + uptoBulk d + 1
  | (_, d) => uptoBulk d + 1
 end
def uptoSmall : (H : Type) → List (DataW H) → Bool := fun _ ds => decide (uptoBulkAll ds ≤ 1048576)
def OpenSpec.upto (s : _root_.Go.ChangeSpec) : _root_.Go.OpenSpec := { _root_.Go.OpenSpec.ofChange s with cond := some uptoSmall }

/-- 'scriptoriumlaw12.PeekLater', WHERE WHAT IT READS IS OF BULK AT MOST 1048576: true; the input reads as it did. -/
def peekLaterUptoRow : OpenClaim := { program := "ythgecojbggoniaagreatdoor", sum := "0dbd20f2be661ca8c0cecd9adec5be9d1957361c6e4b63563e63a71008f935d9", func := "scriptorium/scriptoriumlaw12.PeekLater", spec := "peekLater", inPlace := ["internal/bytealg.CountString", "internal/bytealg.IndexByteString", "internal/bytealg.IndexString", "internal/abi.NoEscape", "internal/bytealg.MakeNoZero"], unfollowed := true, recurses := true, named := ["internal/bytealg.MaxLen", "unicode/utf8.first", "unicode/utf8.acceptRanges"], apart := false, laid := [("unicode/utf8.acceptRanges", laid_unicode_utf8_acceptRanges), ("unicode/utf8.first", laid_unicode_utf8_first)], narrowed := true }
def PeekLaterUptoSaid : Prop := peekLaterUptoRow.holds Tryz.pinned (OpenSpec.upto peekLaterSpec)

/-- 'scriptoriumlaw12.PeekGets', WHERE WHAT IT READS IS OF BULK AT MOST 1048576: true; the input reads as it did. -/
def peekGetsUptoRow : OpenClaim := { program := "ythgecojbggoniaagreatdoor", sum := "0dbd20f2be661ca8c0cecd9adec5be9d1957361c6e4b63563e63a71008f935d9", func := "scriptorium/scriptoriumlaw12.PeekGets", spec := "peekGets", inPlace := ["internal/bytealg.CountString", "internal/bytealg.IndexByteString", "internal/bytealg.IndexString", "internal/abi.NoEscape", "internal/bytealg.MakeNoZero"], unfollowed := true, recurses := true, named := ["internal/bytealg.MaxLen", "unicode/utf8.first", "unicode/utf8.acceptRanges"], apart := false, laid := [("unicode/utf8.acceptRanges", laid_unicode_utf8_acceptRanges), ("unicode/utf8.first", laid_unicode_utf8_first)], narrowed := true }
def PeekGetsUptoSaid : Prop := peekGetsUptoRow.holds Tryz.pinned (OpenSpec.upto peekGetsSpec)

/-- 'scriptoriumlaw12.PeekAbove', WHERE WHAT IT READS IS OF BULK AT MOST 1048576: true; the input reads as it did. -/
def peekAboveUptoRow : OpenClaim := { program := "ythgecojbggoniaagreatdoor", sum := "0dbd20f2be661ca8c0cecd9adec5be9d1957361c6e4b63563e63a71008f935d9", func := "scriptorium/scriptoriumlaw12.PeekAbove", spec := "peekAbove", inPlace := ["internal/bytealg.CountString", "internal/bytealg.IndexByteString", "internal/bytealg.IndexString", "internal/abi.NoEscape", "internal/bytealg.MakeNoZero"], unfollowed := true, recurses := true, named := ["internal/bytealg.MaxLen", "unicode/utf8.first", "unicode/utf8.acceptRanges"], apart := false, laid := [("unicode/utf8.acceptRanges", laid_unicode_utf8_acceptRanges), ("unicode/utf8.first", laid_unicode_utf8_first)], narrowed := true }
def PeekAboveUptoSaid : Prop := peekAboveUptoRow.holds Tryz.pinned (OpenSpec.upto peekAboveSpec)

/-- 'scriptoriumlaw12.PeekOwn', WHERE WHAT IT READS IS OF BULK AT MOST 1048576: true; the input reads as it did. -/
def peekOwnUptoRow : OpenClaim := { program := "ythgecojbggoniaagreatdoor", sum := "0dbd20f2be661ca8c0cecd9adec5be9d1957361c6e4b63563e63a71008f935d9", func := "scriptorium/scriptoriumlaw12.PeekOwn", spec := "peekOwn", inPlace := ["internal/bytealg.CountString", "internal/bytealg.IndexByteString", "internal/bytealg.IndexString", "internal/abi.NoEscape", "internal/bytealg.MakeNoZero"], unfollowed := true, recurses := true, named := ["internal/bytealg.MaxLen", "unicode/utf8.first", "unicode/utf8.acceptRanges"], apart := false, laid := [("unicode/utf8.acceptRanges", laid_unicode_utf8_acceptRanges), ("unicode/utf8.first", laid_unicode_utf8_first)], narrowed := true }
def PeekOwnUptoSaid : Prop := peekOwnUptoRow.holds Tryz.pinned (OpenSpec.upto peekOwnSpec)

end Rows
end Go.Proofs.YthgecojbggoniaaGreatDoor
