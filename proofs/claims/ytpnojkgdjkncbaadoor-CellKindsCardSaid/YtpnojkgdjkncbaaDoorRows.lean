/-
  NARROWER THAN 'FOR EVERY INPUT', by the rows' own cells (each row's printed sentence says how): CellPlain: laid · CellOrder: laid · CellIntents: laid · CellRecords: laid · CellKinds: laid · CellTakes: laid · CellBack: laid · CellOnce: laid.
  DERIVED. THE GIVEN ROWS OF THIS SEAT. 8 by the template 'for every input the law returns true; each argument reads behind the call as it read before'; 0 by the template 'total and deterministic' (their statements: YtpnojkgdjkncbaaDoorTotals.lean).
  GIVEN WITH THE SEED: the statements are not yours to turn. If you find one false, say at which input.
  Laid BY PROGRAM, IN A SANDBOX (cutbox-rows.mjs): the forced cells as the released guide's own fill.sh prints them over the translation d3c7f9c7af9b9b0b… (all of the seat's roots in one cut). By AI agents, Wed Nov 11 2026. No macro, syntax, notation, axiom, sorry.
-/
import Derived.Test.YtpnojkgdjkncbaaDoorChecked
import GoSem.PinnedTables
import GoSem.Claim
import GoSem.ClaimJoined
import GoSem.ClaimMapViews
import Derived.JoinedTies
import Derived.KernelRfl
namespace Go.Proofs.YtpnojkgdjkncbaaDoor
/- THE CELL 'sum', in the pinned program and in every row, IS THE sha256 OF THE DUMP (.gsa) THAT YtpnojkgdjkncbaaDoorProg.lean LOADS. Nothing in Lean hashes anything: it is a label: what it is worth is what the hold of that sum in a sandbox is worth. -/
noncomputable def Tryd.pinned : Pinned := { name := "ytpnojkgdjkncbaadoor", sum := "d3c7f9c7af9b9b0b55a32a0f7b229290fe555349bbe784a61f1dcfa7e8f49162", checked := Tryd.checked }
namespace Rows
def none {H : Type} : Left H := { results := [], args := [] }

/- WHAT THE LISTED PACKAGE-LEVEL VARIABLES READ AS WHEN THE CALL BEGINS. Each datum BY PROGRAM (the guide's laid-datum.mjs) off the statement by which the dump's own 'gosem.cut.vars' lays the variable. In a bare row this is a premise. The card (YtpnojkgdjkncbaaDoorCards.lean) ties it to the program's text. -/
def laid_unicode_utf8_acceptRanges {H : Type} : DataW H := .agg [.agg [.lit (.int .u8 128), .lit (.int .u8 191)], .agg [.lit (.int .u8 160), .lit (.int .u8 191)], .agg [.lit (.int .u8 128), .lit (.int .u8 159)], .agg [.lit (.int .u8 144), .lit (.int .u8 191)], .agg [.lit (.int .u8 128), .lit (.int .u8 143)], .agg [.lit (.int .u8 0), .lit (.int .u8 0)], .agg [.lit (.int .u8 0), .lit (.int .u8 0)], .agg [.lit (.int .u8 0), .lit (.int .u8 0)], .agg [.lit (.int .u8 0), .lit (.int .u8 0)], .agg [.lit (.int .u8 0), .lit (.int .u8 0)], .agg [.lit (.int .u8 0), .lit (.int .u8 0)], .agg [.lit (.int .u8 0), .lit (.int .u8 0)], .agg [.lit (.int .u8 0), .lit (.int .u8 0)], .agg [.lit (.int .u8 0), .lit (.int .u8 0)], .agg [.lit (.int .u8 0), .lit (.int .u8 0)], .agg [.lit (.int .u8 0), .lit (.int .u8 0)]]
/-- One of Go's own tables, pinned by name: the form's constant. -/
def laid_unicode_utf8_first : DataW Unit := Go.Pinned.utf8First

/-- 'scriptoriumlaw11.CellPlain': WHATEVER THE INPUT: true; the input reads as it did. -/
def cellPlainSpec : ChangeSpec := { name := "cellPlain", fn := fun _ => fun
  | [d1, d2, d3] => { results := [.lit (.bool true)], args := [d1, d2, d3] }
  | _ => none }
def cellPlainRow : OpenClaim := { program := "ytpnojkgdjkncbaadoor", sum := "d3c7f9c7af9b9b0b55a32a0f7b229290fe555349bbe784a61f1dcfa7e8f49162", func := "scriptorium/scriptoriumlaw11.CellPlain", spec := "cellPlain", inPlace := ["internal/bytealg.CountString", "internal/bytealg.IndexByteString", "internal/bytealg.IndexString", "internal/abi.NoEscape", "internal/bytealg.MakeNoZero"], named := ["internal/bytealg.MaxLen", "unicode/utf8.first", "unicode/utf8.acceptRanges"], apart := false, laid := [("unicode/utf8.acceptRanges", laid_unicode_utf8_acceptRanges), ("unicode/utf8.first", laid_unicode_utf8_first)] }
def CellPlainSaid : Prop := cellPlainRow.holds Tryd.pinned (OpenSpec.ofChange cellPlainSpec)

/-- ITS FALSE NEIGHBOUR: 'it returns false'. Refute it at one input. -/
def cellPlainWrong : ChangeSpec := { name := "cellPlain", fn := fun _ => fun
  | [d1, d2, d3] => { results := [.lit (.bool false)], args := [d1, d2, d3] }
  | _ => none }
def CellPlainWrongFalsely : Prop := cellPlainRow.holds Tryd.pinned (OpenSpec.ofChange cellPlainWrong)

/-- 'scriptoriumlaw11.CellOrder': WHATEVER THE INPUT: true; the input reads as it did. -/
def cellOrderSpec : ChangeSpec := { name := "cellOrder", fn := fun _ => fun
  | [d1, d2, d3] => { results := [.lit (.bool true)], args := [d1, d2, d3] }
  | _ => none }
def cellOrderRow : OpenClaim := { program := "ytpnojkgdjkncbaadoor", sum := "d3c7f9c7af9b9b0b55a32a0f7b229290fe555349bbe784a61f1dcfa7e8f49162", func := "scriptorium/scriptoriumlaw11.CellOrder", spec := "cellOrder", inPlace := ["internal/bytealg.CountString", "internal/bytealg.IndexByteString", "internal/bytealg.IndexString", "internal/abi.NoEscape", "internal/bytealg.MakeNoZero"], named := ["internal/bytealg.MaxLen", "unicode/utf8.first", "unicode/utf8.acceptRanges"], apart := false, laid := [("unicode/utf8.acceptRanges", laid_unicode_utf8_acceptRanges), ("unicode/utf8.first", laid_unicode_utf8_first)] }
def CellOrderSaid : Prop := cellOrderRow.holds Tryd.pinned (OpenSpec.ofChange cellOrderSpec)

/-- ITS FALSE NEIGHBOUR: 'it returns false'. Refute it at one input. -/
def cellOrderWrong : ChangeSpec := { name := "cellOrder", fn := fun _ => fun
  | [d1, d2, d3] => { results := [.lit (.bool false)], args := [d1, d2, d3] }
  | _ => none }
def CellOrderWrongFalsely : Prop := cellOrderRow.holds Tryd.pinned (OpenSpec.ofChange cellOrderWrong)

/-- 'scriptoriumlaw11.CellIntents': WHATEVER THE INPUT: true; the input reads as it did. -/
def cellIntentsSpec : ChangeSpec := { name := "cellIntents", fn := fun _ => fun
  | [d1, d2] => { results := [.lit (.bool true)], args := [d1, d2] }
  | _ => none }
def cellIntentsRow : OpenClaim := { program := "ytpnojkgdjkncbaadoor", sum := "d3c7f9c7af9b9b0b55a32a0f7b229290fe555349bbe784a61f1dcfa7e8f49162", func := "scriptorium/scriptoriumlaw11.CellIntents", spec := "cellIntents", inPlace := ["internal/bytealg.CountString", "internal/bytealg.IndexByteString", "internal/bytealg.IndexString", "internal/abi.NoEscape", "internal/bytealg.MakeNoZero"], unfollowed := true, recurses := true, named := ["internal/bytealg.MaxLen", "unicode/utf8.first", "unicode/utf8.acceptRanges"], apart := false, laid := [("unicode/utf8.acceptRanges", laid_unicode_utf8_acceptRanges), ("unicode/utf8.first", laid_unicode_utf8_first)] }
def CellIntentsSaid : Prop := cellIntentsRow.holds Tryd.pinned (OpenSpec.ofChange cellIntentsSpec)

/-- ITS FALSE NEIGHBOUR: 'it returns false'. Refute it at one input. -/
def cellIntentsWrong : ChangeSpec := { name := "cellIntents", fn := fun _ => fun
  | [d1, d2] => { results := [.lit (.bool false)], args := [d1, d2] }
  | _ => none }
def CellIntentsWrongFalsely : Prop := cellIntentsRow.holds Tryd.pinned (OpenSpec.ofChange cellIntentsWrong)

/-- 'scriptoriumlaw11.CellRecords': WHATEVER THE INPUT: true; the input reads as it did. -/
def cellRecordsSpec : ChangeSpec := { name := "cellRecords", fn := fun _ => fun
  | [d1, d2] => { results := [.lit (.bool true)], args := [d1, d2] }
  | _ => none }
def cellRecordsRow : OpenClaim := { program := "ytpnojkgdjkncbaadoor", sum := "d3c7f9c7af9b9b0b55a32a0f7b229290fe555349bbe784a61f1dcfa7e8f49162", func := "scriptorium/scriptoriumlaw11.CellRecords", spec := "cellRecords", inPlace := ["internal/bytealg.CountString", "internal/bytealg.IndexByteString", "internal/bytealg.IndexString", "internal/abi.NoEscape", "internal/bytealg.MakeNoZero"], unfollowed := true, recurses := true, named := ["internal/bytealg.MaxLen", "unicode/utf8.first", "unicode/utf8.acceptRanges"], apart := false, laid := [("unicode/utf8.acceptRanges", laid_unicode_utf8_acceptRanges), ("unicode/utf8.first", laid_unicode_utf8_first)] }
def CellRecordsSaid : Prop := cellRecordsRow.holds Tryd.pinned (OpenSpec.ofChange cellRecordsSpec)

/-- ITS FALSE NEIGHBOUR: 'it returns false'. Refute it at one input. -/
def cellRecordsWrong : ChangeSpec := { name := "cellRecords", fn := fun _ => fun
  | [d1, d2] => { results := [.lit (.bool false)], args := [d1, d2] }
  | _ => none }
def CellRecordsWrongFalsely : Prop := cellRecordsRow.holds Tryd.pinned (OpenSpec.ofChange cellRecordsWrong)

/-- 'scriptoriumlaw11.CellKinds': WHATEVER THE INPUT: true; the input reads as it did. -/
def cellKindsSpec : ChangeSpec := { name := "cellKinds", fn := fun _ => fun
  | [d1, d2, d3] => { results := [.lit (.bool true)], args := [d1, d2, d3] }
  | _ => none }
def cellKindsRow : OpenClaim := { program := "ytpnojkgdjkncbaadoor", sum := "d3c7f9c7af9b9b0b55a32a0f7b229290fe555349bbe784a61f1dcfa7e8f49162", func := "scriptorium/scriptoriumlaw11.CellKinds", spec := "cellKinds", inPlace := ["internal/bytealg.CountString", "internal/bytealg.IndexByteString", "internal/bytealg.IndexString", "internal/abi.NoEscape", "internal/bytealg.MakeNoZero"], named := ["internal/bytealg.MaxLen", "unicode/utf8.first", "unicode/utf8.acceptRanges"], apart := false, laid := [("unicode/utf8.acceptRanges", laid_unicode_utf8_acceptRanges), ("unicode/utf8.first", laid_unicode_utf8_first)] }
def CellKindsSaid : Prop := cellKindsRow.holds Tryd.pinned (OpenSpec.ofChange cellKindsSpec)

/-- ITS FALSE NEIGHBOUR: 'it returns false'. Refute it at one input. -/
def cellKindsWrong : ChangeSpec := { name := "cellKinds", fn := fun _ => fun
  | [d1, d2, d3] => { results := [.lit (.bool false)], args := [d1, d2, d3] }
  | _ => none }
def CellKindsWrongFalsely : Prop := cellKindsRow.holds Tryd.pinned (OpenSpec.ofChange cellKindsWrong)

/-- 'scriptoriumlaw11.CellTakes': WHATEVER THE INPUT: true; the input reads as it did. -/
def cellTakesSpec : ChangeSpec := { name := "cellTakes", fn := fun _ => fun
  | [d] => { results := [.lit (.bool true)], args := [d] }
  | _ => none }
def cellTakesRow : OpenClaim := { program := "ytpnojkgdjkncbaadoor", sum := "d3c7f9c7af9b9b0b55a32a0f7b229290fe555349bbe784a61f1dcfa7e8f49162", func := "scriptorium/scriptoriumlaw11.CellTakes", spec := "cellTakes", inPlace := ["internal/bytealg.CountString", "internal/bytealg.IndexByteString", "internal/bytealg.IndexString", "internal/abi.NoEscape", "internal/bytealg.MakeNoZero"], unfollowed := true, recurses := true, named := ["internal/bytealg.MaxLen", "unicode/utf8.first", "unicode/utf8.acceptRanges"], apart := false, laid := [("unicode/utf8.acceptRanges", laid_unicode_utf8_acceptRanges), ("unicode/utf8.first", laid_unicode_utf8_first)] }
def CellTakesSaid : Prop := cellTakesRow.holds Tryd.pinned (OpenSpec.ofChange cellTakesSpec)

/-- ITS FALSE NEIGHBOUR: 'it returns false'. Refute it at one input. -/
def cellTakesWrong : ChangeSpec := { name := "cellTakes", fn := fun _ => fun
  | [d] => { results := [.lit (.bool false)], args := [d] }
  | _ => none }
def CellTakesWrongFalsely : Prop := cellTakesRow.holds Tryd.pinned (OpenSpec.ofChange cellTakesWrong)

/-- 'scriptoriumlaw11.CellBack': WHATEVER THE INPUT: true; the input reads as it did. -/
def cellBackSpec : ChangeSpec := { name := "cellBack", fn := fun _ => fun
  | [d1, d2, d3] => { results := [.lit (.bool true)], args := [d1, d2, d3] }
  | _ => none }
def cellBackRow : OpenClaim := { program := "ytpnojkgdjkncbaadoor", sum := "d3c7f9c7af9b9b0b55a32a0f7b229290fe555349bbe784a61f1dcfa7e8f49162", func := "scriptorium/scriptoriumlaw11.CellBack", spec := "cellBack", inPlace := ["internal/bytealg.CountString", "internal/bytealg.IndexByteString", "internal/bytealg.IndexString", "internal/abi.NoEscape", "internal/bytealg.MakeNoZero"], unfollowed := true, recurses := true, named := ["internal/bytealg.MaxLen", "unicode/utf8.first", "unicode/utf8.acceptRanges"], apart := false, laid := [("unicode/utf8.acceptRanges", laid_unicode_utf8_acceptRanges), ("unicode/utf8.first", laid_unicode_utf8_first)] }
def CellBackSaid : Prop := cellBackRow.holds Tryd.pinned (OpenSpec.ofChange cellBackSpec)

/-- ITS FALSE NEIGHBOUR: 'it returns false'. Refute it at one input. -/
def cellBackWrong : ChangeSpec := { name := "cellBack", fn := fun _ => fun
  | [d1, d2, d3] => { results := [.lit (.bool false)], args := [d1, d2, d3] }
  | _ => none }
def CellBackWrongFalsely : Prop := cellBackRow.holds Tryd.pinned (OpenSpec.ofChange cellBackWrong)

/-- 'scriptoriumlaw11.CellOnce': WHATEVER THE INPUT: true; the input reads as it did. -/
def cellOnceSpec : ChangeSpec := { name := "cellOnce", fn := fun _ => fun
  | [d] => { results := [.lit (.bool true)], args := [d] }
  | _ => none }
def cellOnceRow : OpenClaim := { program := "ytpnojkgdjkncbaadoor", sum := "d3c7f9c7af9b9b0b55a32a0f7b229290fe555349bbe784a61f1dcfa7e8f49162", func := "scriptorium/scriptoriumlaw11.CellOnce", spec := "cellOnce", inPlace := ["internal/bytealg.CountString", "internal/bytealg.IndexByteString", "internal/bytealg.IndexString", "internal/abi.NoEscape", "internal/bytealg.MakeNoZero"], unfollowed := true, recurses := true, named := ["internal/bytealg.MaxLen", "unicode/utf8.first", "unicode/utf8.acceptRanges"], apart := false, laid := [("unicode/utf8.acceptRanges", laid_unicode_utf8_acceptRanges), ("unicode/utf8.first", laid_unicode_utf8_first)] }
def CellOnceSaid : Prop := cellOnceRow.holds Tryd.pinned (OpenSpec.ofChange cellOnceSpec)

/-- ITS FALSE NEIGHBOUR: 'it returns false'. Refute it at one input. -/
def cellOnceWrong : ChangeSpec := { name := "cellOnce", fn := fun _ => fun
  | [d] => { results := [.lit (.bool false)], args := [d] }
  | _ => none }
def CellOnceWrongFalsely : Prop := cellOnceRow.holds Tryd.pinned (OpenSpec.ofChange cellOnceWrong)

/- THE SECOND FORM. 'bulk': how many values and letters a reading holds, each counted each time it is reached (what is shared counts as often as it is met; a slice's spare places count too). A statement '..UptoSaid' is the law's where the arguments, and the package variables that the reading takes, are together of bulk at most 1048576: NARROWER than '..Said'. Prove '..Said' where nothing that the law and all that it calls make is longer than what came in: it says more and counts as full. Else prove '..UptoSaid'. A law counts once. -/
mutual
def uptoBulk {H : Type} : DataW H → Nat
  | .lit (.string bytes) => bytes.length + 1
  | .lit _ => 1
  | .nil => 1
  | .ptr d => uptoBulk d + 1
  | .slice elems spare => uptoBulkAll elems + uptoBulkAll spare + 1
  | .agg parts => uptoBulkAll parts + 1
  | .iface _ d => uptoBulk d + 1
  | .map entries => uptoBulkEntries entries + 1
  | .held _ => 1
def uptoBulkAll {H : Type} : List (DataW H) → Nat
  | [] => 0
  | d :: r => uptoBulk d + uptoBulkAll r
def uptoBulkEntries {H : Type} : List (Lit × DataW H) → Nat
  | [] => 0
  | x :: r => uptoBulkEntry x + uptoBulkEntries r
def uptoBulkEntry {H : Type} : Lit × DataW H → Nat
  | (.string bytes, d) => bytes.length + uptoBulk d + 1
  | (_, d) => uptoBulk d + 1
 end
def uptoSmall : (H : Type) → List (DataW H) → Bool := fun _ ds => decide (uptoBulkAll ds ≤ 1048576)
def OpenSpec.upto (s : _root_.Go.ChangeSpec) : _root_.Go.OpenSpec := { _root_.Go.OpenSpec.ofChange s with cond := some uptoSmall }

/-- 'scriptoriumlaw11.CellPlain', WHERE WHAT IT READS IS OF BULK AT MOST 1048576: true; the input reads as it did. -/
def cellPlainUptoRow : OpenClaim := { program := "ytpnojkgdjkncbaadoor", sum := "d3c7f9c7af9b9b0b55a32a0f7b229290fe555349bbe784a61f1dcfa7e8f49162", func := "scriptorium/scriptoriumlaw11.CellPlain", spec := "cellPlain", inPlace := ["internal/bytealg.CountString", "internal/bytealg.IndexByteString", "internal/bytealg.IndexString", "internal/abi.NoEscape", "internal/bytealg.MakeNoZero"], named := ["internal/bytealg.MaxLen", "unicode/utf8.first", "unicode/utf8.acceptRanges"], apart := false, laid := [("unicode/utf8.acceptRanges", laid_unicode_utf8_acceptRanges), ("unicode/utf8.first", laid_unicode_utf8_first)], narrowed := true }
def CellPlainUptoSaid : Prop := cellPlainUptoRow.holds Tryd.pinned (OpenSpec.upto cellPlainSpec)

/-- 'scriptoriumlaw11.CellOrder', WHERE WHAT IT READS IS OF BULK AT MOST 1048576: true; the input reads as it did. -/
def cellOrderUptoRow : OpenClaim := { program := "ytpnojkgdjkncbaadoor", sum := "d3c7f9c7af9b9b0b55a32a0f7b229290fe555349bbe784a61f1dcfa7e8f49162", func := "scriptorium/scriptoriumlaw11.CellOrder", spec := "cellOrder", inPlace := ["internal/bytealg.CountString", "internal/bytealg.IndexByteString", "internal/bytealg.IndexString", "internal/abi.NoEscape", "internal/bytealg.MakeNoZero"], named := ["internal/bytealg.MaxLen", "unicode/utf8.first", "unicode/utf8.acceptRanges"], apart := false, laid := [("unicode/utf8.acceptRanges", laid_unicode_utf8_acceptRanges), ("unicode/utf8.first", laid_unicode_utf8_first)], narrowed := true }
def CellOrderUptoSaid : Prop := cellOrderUptoRow.holds Tryd.pinned (OpenSpec.upto cellOrderSpec)

/-- 'scriptoriumlaw11.CellIntents', WHERE WHAT IT READS IS OF BULK AT MOST 1048576: true; the input reads as it did. -/
def cellIntentsUptoRow : OpenClaim := { program := "ytpnojkgdjkncbaadoor", sum := "d3c7f9c7af9b9b0b55a32a0f7b229290fe555349bbe784a61f1dcfa7e8f49162", func := "scriptorium/scriptoriumlaw11.CellIntents", spec := "cellIntents", inPlace := ["internal/bytealg.CountString", "internal/bytealg.IndexByteString", "internal/bytealg.IndexString", "internal/abi.NoEscape", "internal/bytealg.MakeNoZero"], unfollowed := true, recurses := true, named := ["internal/bytealg.MaxLen", "unicode/utf8.first", "unicode/utf8.acceptRanges"], apart := false, laid := [("unicode/utf8.acceptRanges", laid_unicode_utf8_acceptRanges), ("unicode/utf8.first", laid_unicode_utf8_first)], narrowed := true }
def CellIntentsUptoSaid : Prop := cellIntentsUptoRow.holds Tryd.pinned (OpenSpec.upto cellIntentsSpec)

/-- 'scriptoriumlaw11.CellRecords', WHERE WHAT IT READS IS OF BULK AT MOST 1048576: true; the input reads as it did. -/
def cellRecordsUptoRow : OpenClaim := { program := "ytpnojkgdjkncbaadoor", sum := "d3c7f9c7af9b9b0b55a32a0f7b229290fe555349bbe784a61f1dcfa7e8f49162", func := "scriptorium/scriptoriumlaw11.CellRecords", spec := "cellRecords", inPlace := ["internal/bytealg.CountString", "internal/bytealg.IndexByteString", "internal/bytealg.IndexString", "internal/abi.NoEscape", "internal/bytealg.MakeNoZero"], unfollowed := true, recurses := true, named := ["internal/bytealg.MaxLen", "unicode/utf8.first", "unicode/utf8.acceptRanges"], apart := false, laid := [("unicode/utf8.acceptRanges", laid_unicode_utf8_acceptRanges), ("unicode/utf8.first", laid_unicode_utf8_first)], narrowed := true }
def CellRecordsUptoSaid : Prop := cellRecordsUptoRow.holds Tryd.pinned (OpenSpec.upto cellRecordsSpec)

/-- 'scriptoriumlaw11.CellKinds', WHERE WHAT IT READS IS OF BULK AT MOST 1048576: true; the input reads as it did. -/
def cellKindsUptoRow : OpenClaim := { program := "ytpnojkgdjkncbaadoor", sum := "d3c7f9c7af9b9b0b55a32a0f7b229290fe555349bbe784a61f1dcfa7e8f49162", func := "scriptorium/scriptoriumlaw11.CellKinds", spec := "cellKinds", inPlace := ["internal/bytealg.CountString", "internal/bytealg.IndexByteString", "internal/bytealg.IndexString", "internal/abi.NoEscape", "internal/bytealg.MakeNoZero"], named := ["internal/bytealg.MaxLen", "unicode/utf8.first", "unicode/utf8.acceptRanges"], apart := false, laid := [("unicode/utf8.acceptRanges", laid_unicode_utf8_acceptRanges), ("unicode/utf8.first", laid_unicode_utf8_first)], narrowed := true }
def CellKindsUptoSaid : Prop := cellKindsUptoRow.holds Tryd.pinned (OpenSpec.upto cellKindsSpec)

/-- 'scriptoriumlaw11.CellTakes', WHERE WHAT IT READS IS OF BULK AT MOST 1048576: true; the input reads as it did. -/
def cellTakesUptoRow : OpenClaim := { program := "ytpnojkgdjkncbaadoor", sum := "d3c7f9c7af9b9b0b55a32a0f7b229290fe555349bbe784a61f1dcfa7e8f49162", func := "scriptorium/scriptoriumlaw11.CellTakes", spec := "cellTakes", inPlace := ["internal/bytealg.CountString", "internal/bytealg.IndexByteString", "internal/bytealg.IndexString", "internal/abi.NoEscape", "internal/bytealg.MakeNoZero"], unfollowed := true, recurses := true, named := ["internal/bytealg.MaxLen", "unicode/utf8.first", "unicode/utf8.acceptRanges"], apart := false, laid := [("unicode/utf8.acceptRanges", laid_unicode_utf8_acceptRanges), ("unicode/utf8.first", laid_unicode_utf8_first)], narrowed := true }
def CellTakesUptoSaid : Prop := cellTakesUptoRow.holds Tryd.pinned (OpenSpec.upto cellTakesSpec)

/-- 'scriptoriumlaw11.CellBack', WHERE WHAT IT READS IS OF BULK AT MOST 1048576: true; the input reads as it did. -/
def cellBackUptoRow : OpenClaim := { program := "ytpnojkgdjkncbaadoor", sum := "d3c7f9c7af9b9b0b55a32a0f7b229290fe555349bbe784a61f1dcfa7e8f49162", func := "scriptorium/scriptoriumlaw11.CellBack", spec := "cellBack", inPlace := ["internal/bytealg.CountString", "internal/bytealg.IndexByteString", "internal/bytealg.IndexString", "internal/abi.NoEscape", "internal/bytealg.MakeNoZero"], unfollowed := true, recurses := true, named := ["internal/bytealg.MaxLen", "unicode/utf8.first", "unicode/utf8.acceptRanges"], apart := false, laid := [("unicode/utf8.acceptRanges", laid_unicode_utf8_acceptRanges), ("unicode/utf8.first", laid_unicode_utf8_first)], narrowed := true }
def CellBackUptoSaid : Prop := cellBackUptoRow.holds Tryd.pinned (OpenSpec.upto cellBackSpec)

/-- 'scriptoriumlaw11.CellOnce', WHERE WHAT IT READS IS OF BULK AT MOST 1048576: true; the input reads as it did. -/
def cellOnceUptoRow : OpenClaim := { program := "ytpnojkgdjkncbaadoor", sum := "d3c7f9c7af9b9b0b55a32a0f7b229290fe555349bbe784a61f1dcfa7e8f49162", func := "scriptorium/scriptoriumlaw11.CellOnce", spec := "cellOnce", inPlace := ["internal/bytealg.CountString", "internal/bytealg.IndexByteString", "internal/bytealg.IndexString", "internal/abi.NoEscape", "internal/bytealg.MakeNoZero"], unfollowed := true, recurses := true, named := ["internal/bytealg.MaxLen", "unicode/utf8.first", "unicode/utf8.acceptRanges"], apart := false, laid := [("unicode/utf8.acceptRanges", laid_unicode_utf8_acceptRanges), ("unicode/utf8.first", laid_unicode_utf8_first)], narrowed := true }
def CellOnceUptoSaid : Prop := cellOnceUptoRow.holds Tryd.pinned (OpenSpec.upto cellOnceSpec)

end Rows
end Go.Proofs.YtpnojkgdjkncbaaDoor
