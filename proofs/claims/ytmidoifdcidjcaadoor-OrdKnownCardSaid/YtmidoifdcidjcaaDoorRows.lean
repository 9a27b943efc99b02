/-
  NARROWER THAN 'FOR EVERY INPUT', by the rows' own cells (each row's printed sentence says how): OrdKey: laid · OrdPairs: laid · OrdStamps: laid · OrdOrder: laid · OrdDown: laid · OrdBack: laid · OrdAgain: laid · OrdCut: laid · OrdKnown: laid.
  DERIVED. THE GIVEN ROWS OF THIS SEAT. 9 by the template 'for every input the law returns true; each argument reads behind the call as it read before'; 0 by the template 'total and deterministic' (their statements: YtmidoifdcidjcaaDoorTotals.lean).
  GIVEN WITH THE SEED: the statements are not yours to turn. If you find one false, say at which input.
  Laid BY PROGRAM, IN A SANDBOX (cutbox-rows.mjs): the forced cells as the released guide's own fill.sh prints them over the translation a5246acc466d3c26… (all of the seat's roots in one cut). By AI agents, Wed Nov 11 2026. No macro, syntax, notation, axiom, sorry.
-/
import Derived.Test.YtmidoifdcidjcaaDoorChecked
import GoSem.PinnedTables
import GoSem.Claim
import GoSem.ClaimJoined
import GoSem.ClaimMapViews
import Derived.JoinedTies
import Derived.KernelRfl
namespace Go.Proofs.YtmidoifdcidjcaaDoor
/- THE CELL 'sum', in the pinned program and in every row, IS THE sha256 OF THE DUMP (.gsa) THAT YtmidoifdcidjcaaDoorProg.lean LOADS. Nothing in Lean hashes anything: it is a label: what it is worth is what the hold of that sum in a sandbox is worth. -/
noncomputable def Tryd.pinned : Pinned := { name := "ytmidoifdcidjcaadoor", sum := "a5246acc466d3c26c7f7dff4c943d81bb0efcb8c8fe9d1f77b0393078d96e6f6", checked := Tryd.checked }
namespace Rows
def none {H : Type} : Left H := { results := [], args := [] }

/- WHAT THE LISTED PACKAGE-LEVEL VARIABLES READ AS WHEN THE CALL BEGINS. Each datum BY PROGRAM (the guide's laid-datum.mjs) off the statement by which the dump's own 'gosem.cut.vars' lays the variable. In a bare row this is a premise. The card (YtmidoifdcidjcaaDoorCards.lean) ties it to the program's text. -/
def laid_unicode_utf8_acceptRanges {H : Type} : DataW H := .agg [.agg [.lit (.int .u8 128), .lit (.int .u8 191)], .agg [.lit (.int .u8 160), .lit (.int .u8 191)], .agg [.lit (.int .u8 128), .lit (.int .u8 159)], .agg [.lit (.int .u8 144), .lit (.int .u8 191)], .agg [.lit (.int .u8 128), .lit (.int .u8 143)], .agg [.lit (.int .u8 0), .lit (.int .u8 0)], .agg [.lit (.int .u8 0), .lit (.int .u8 0)], .agg [.lit (.int .u8 0), .lit (.int .u8 0)], .agg [.lit (.int .u8 0), .lit (.int .u8 0)], .agg [.lit (.int .u8 0), .lit (.int .u8 0)], .agg [.lit (.int .u8 0), .lit (.int .u8 0)], .agg [.lit (.int .u8 0), .lit (.int .u8 0)], .agg [.lit (.int .u8 0), .lit (.int .u8 0)], .agg [.lit (.int .u8 0), .lit (.int .u8 0)], .agg [.lit (.int .u8 0), .lit (.int .u8 0)], .agg [.lit (.int .u8 0), .lit (.int .u8 0)]]
/-- One of Go's own tables, pinned by name: the form's constant. -/
def laid_unicode_utf8_first : DataW Unit := Go.Pinned.utf8First

/-- 'scriptoriumlaw02.OrdKey': WHATEVER THE INPUT: true; the input reads as it did. -/
def ordKeySpec : ChangeSpec := { name := "ordKey", fn := fun _ => fun
  | [d] => { results := [.lit (.bool true)], args := [d] }
  | _ => none }
def ordKeyRow : OpenClaim := { program := "ytmidoifdcidjcaadoor", sum := "a5246acc466d3c26c7f7dff4c943d81bb0efcb8c8fe9d1f77b0393078d96e6f6", func := "scriptorium/scriptoriumlaw02.OrdKey", spec := "ordKey", inPlace := ["internal/bytealg.CountString", "internal/bytealg.IndexByteString", "internal/bytealg.IndexString", "internal/abi.NoEscape", "internal/bytealg.MakeNoZero"], named := ["internal/bytealg.MaxLen", "unicode/utf8.first", "unicode/utf8.acceptRanges"], apart := false, laid := [("unicode/utf8.acceptRanges", laid_unicode_utf8_acceptRanges), ("unicode/utf8.first", laid_unicode_utf8_first)] }
def OrdKeySaid : Prop := ordKeyRow.holds Tryd.pinned (OpenSpec.ofChange ordKeySpec)

/-- ITS FALSE NEIGHBOUR: 'it returns false'. Refute it at one input. -/
def ordKeyWrong : ChangeSpec := { name := "ordKey", fn := fun _ => fun
  | [d] => { results := [.lit (.bool false)], args := [d] }
  | _ => none }
def OrdKeyWrongFalsely : Prop := ordKeyRow.holds Tryd.pinned (OpenSpec.ofChange ordKeyWrong)

/-- 'scriptoriumlaw02.OrdPairs': WHATEVER THE INPUT: true; the input reads as it did. -/
def ordPairsSpec : ChangeSpec := { name := "ordPairs", fn := fun _ => fun
  | [d1, d2] => { results := [.lit (.bool true)], args := [d1, d2] }
  | _ => none }
def ordPairsRow : OpenClaim := { program := "ytmidoifdcidjcaadoor", sum := "a5246acc466d3c26c7f7dff4c943d81bb0efcb8c8fe9d1f77b0393078d96e6f6", func := "scriptorium/scriptoriumlaw02.OrdPairs", spec := "ordPairs", inPlace := ["internal/bytealg.CountString", "internal/bytealg.IndexByteString", "internal/bytealg.IndexString", "internal/abi.NoEscape", "internal/bytealg.MakeNoZero", "internal/bytealg.abigen_runtime_cmpstring"], named := ["internal/bytealg.MaxLen", "unicode/utf8.first", "unicode/utf8.acceptRanges"], apart := false, laid := [("unicode/utf8.acceptRanges", laid_unicode_utf8_acceptRanges), ("unicode/utf8.first", laid_unicode_utf8_first)] }
def OrdPairsSaid : Prop := ordPairsRow.holds Tryd.pinned (OpenSpec.ofChange ordPairsSpec)

/-- ITS FALSE NEIGHBOUR: 'it returns false'. Refute it at one input. -/
def ordPairsWrong : ChangeSpec := { name := "ordPairs", fn := fun _ => fun
  | [d1, d2] => { results := [.lit (.bool false)], args := [d1, d2] }
  | _ => none }
def OrdPairsWrongFalsely : Prop := ordPairsRow.holds Tryd.pinned (OpenSpec.ofChange ordPairsWrong)

/-- 'scriptoriumlaw02.OrdStamps': WHATEVER THE INPUT: true; the input reads as it did. -/
def ordStampsSpec : ChangeSpec := { name := "ordStamps", fn := fun _ => fun
  | [d1, d2] => { results := [.lit (.bool true)], args := [d1, d2] }
  | _ => none }
def ordStampsRow : OpenClaim := { program := "ytmidoifdcidjcaadoor", sum := "a5246acc466d3c26c7f7dff4c943d81bb0efcb8c8fe9d1f77b0393078d96e6f6", func := "scriptorium/scriptoriumlaw02.OrdStamps", spec := "ordStamps", inPlace := ["internal/bytealg.CountString", "internal/bytealg.IndexByteString", "internal/bytealg.IndexString", "internal/abi.NoEscape", "internal/bytealg.MakeNoZero", "internal/bytealg.abigen_runtime_cmpstring"], named := ["internal/bytealg.MaxLen", "unicode/utf8.first", "unicode/utf8.acceptRanges"], apart := false, laid := [("unicode/utf8.acceptRanges", laid_unicode_utf8_acceptRanges), ("unicode/utf8.first", laid_unicode_utf8_first)] }
def OrdStampsSaid : Prop := ordStampsRow.holds Tryd.pinned (OpenSpec.ofChange ordStampsSpec)

/-- ITS FALSE NEIGHBOUR: 'it returns false'. Refute it at one input. -/
def ordStampsWrong : ChangeSpec := { name := "ordStamps", fn := fun _ => fun
  | [d1, d2] => { results := [.lit (.bool false)], args := [d1, d2] }
  | _ => none }
def OrdStampsWrongFalsely : Prop := ordStampsRow.holds Tryd.pinned (OpenSpec.ofChange ordStampsWrong)

/-- 'scriptoriumlaw02.OrdOrder': WHATEVER THE INPUT: true; the input reads as it did. -/
def ordOrderSpec : ChangeSpec := { name := "ordOrder", fn := fun _ => fun
  | [d1, d2] => { results := [.lit (.bool true)], args := [d1, d2] }
  | _ => none }
def ordOrderRow : OpenClaim := { program := "ytmidoifdcidjcaadoor", sum := "a5246acc466d3c26c7f7dff4c943d81bb0efcb8c8fe9d1f77b0393078d96e6f6", func := "scriptorium/scriptoriumlaw02.OrdOrder", spec := "ordOrder", inPlace := ["internal/bytealg.CountString", "internal/bytealg.IndexByteString", "internal/bytealg.IndexString", "internal/abi.NoEscape", "internal/bytealg.MakeNoZero", "internal/bytealg.abigen_runtime_cmpstring"], named := ["internal/bytealg.MaxLen", "unicode/utf8.first", "unicode/utf8.acceptRanges"], apart := false, laid := [("unicode/utf8.acceptRanges", laid_unicode_utf8_acceptRanges), ("unicode/utf8.first", laid_unicode_utf8_first)] }
def OrdOrderSaid : Prop := ordOrderRow.holds Tryd.pinned (OpenSpec.ofChange ordOrderSpec)

/-- ITS FALSE NEIGHBOUR: 'it returns false'. Refute it at one input. -/
def ordOrderWrong : ChangeSpec := { name := "ordOrder", fn := fun _ => fun
  | [d1, d2] => { results := [.lit (.bool false)], args := [d1, d2] }
  | _ => none }
def OrdOrderWrongFalsely : Prop := ordOrderRow.holds Tryd.pinned (OpenSpec.ofChange ordOrderWrong)

/-- 'scriptoriumlaw02.OrdDown': WHATEVER THE INPUT: true; the input reads as it did. -/
def ordDownSpec : ChangeSpec := { name := "ordDown", fn := fun _ => fun
  | [d1, d2] => { results := [.lit (.bool true)], args := [d1, d2] }
  | _ => none }
def ordDownRow : OpenClaim := { program := "ytmidoifdcidjcaadoor", sum := "a5246acc466d3c26c7f7dff4c943d81bb0efcb8c8fe9d1f77b0393078d96e6f6", func := "scriptorium/scriptoriumlaw02.OrdDown", spec := "ordDown", inPlace := ["internal/bytealg.CountString", "internal/bytealg.IndexByteString", "internal/bytealg.IndexString", "internal/abi.NoEscape", "internal/bytealg.MakeNoZero"], named := ["internal/bytealg.MaxLen", "unicode/utf8.first", "unicode/utf8.acceptRanges"], apart := false, laid := [("unicode/utf8.acceptRanges", laid_unicode_utf8_acceptRanges), ("unicode/utf8.first", laid_unicode_utf8_first)] }
def OrdDownSaid : Prop := ordDownRow.holds Tryd.pinned (OpenSpec.ofChange ordDownSpec)

/-- ITS FALSE NEIGHBOUR: 'it returns false'. Refute it at one input. -/
def ordDownWrong : ChangeSpec := { name := "ordDown", fn := fun _ => fun
  | [d1, d2] => { results := [.lit (.bool false)], args := [d1, d2] }
  | _ => none }
def OrdDownWrongFalsely : Prop := ordDownRow.holds Tryd.pinned (OpenSpec.ofChange ordDownWrong)

/-- 'scriptoriumlaw02.OrdBack': WHATEVER THE INPUT: true; the input reads as it did. -/
def ordBackSpec : ChangeSpec := { name := "ordBack", fn := fun _ => fun
  | [d1, d2, d3] => { results := [.lit (.bool true)], args := [d1, d2, d3] }
  | _ => none }
def ordBackRow : OpenClaim := { program := "ytmidoifdcidjcaadoor", sum := "a5246acc466d3c26c7f7dff4c943d81bb0efcb8c8fe9d1f77b0393078d96e6f6", func := "scriptorium/scriptoriumlaw02.OrdBack", spec := "ordBack", inPlace := ["internal/bytealg.CountString", "internal/bytealg.IndexByteString", "internal/bytealg.IndexString", "internal/abi.NoEscape", "internal/bytealg.MakeNoZero"], named := ["internal/bytealg.MaxLen", "unicode/utf8.first", "unicode/utf8.acceptRanges"], apart := false, laid := [("unicode/utf8.acceptRanges", laid_unicode_utf8_acceptRanges), ("unicode/utf8.first", laid_unicode_utf8_first)] }
def OrdBackSaid : Prop := ordBackRow.holds Tryd.pinned (OpenSpec.ofChange ordBackSpec)

/-- ITS FALSE NEIGHBOUR: 'it returns false'. Refute it at one input. -/
def ordBackWrong : ChangeSpec := { name := "ordBack", fn := fun _ => fun
  | [d1, d2, d3] => { results := [.lit (.bool false)], args := [d1, d2, d3] }
  | _ => none }
def OrdBackWrongFalsely : Prop := ordBackRow.holds Tryd.pinned (OpenSpec.ofChange ordBackWrong)

/-- 'scriptoriumlaw02.OrdAgain': WHATEVER THE INPUT: true; the input reads as it did. -/
def ordAgainSpec : ChangeSpec := { name := "ordAgain", fn := fun _ => fun
  | [d] => { results := [.lit (.bool true)], args := [d] }
  | _ => none }
def ordAgainRow : OpenClaim := { program := "ytmidoifdcidjcaadoor", sum := "a5246acc466d3c26c7f7dff4c943d81bb0efcb8c8fe9d1f77b0393078d96e6f6", func := "scriptorium/scriptoriumlaw02.OrdAgain", spec := "ordAgain", inPlace := ["internal/bytealg.CountString", "internal/bytealg.IndexByteString", "internal/bytealg.IndexString", "internal/abi.NoEscape", "internal/bytealg.MakeNoZero"], named := ["internal/bytealg.MaxLen", "unicode/utf8.first", "unicode/utf8.acceptRanges"], apart := false, laid := [("unicode/utf8.acceptRanges", laid_unicode_utf8_acceptRanges), ("unicode/utf8.first", laid_unicode_utf8_first)] }
def OrdAgainSaid : Prop := ordAgainRow.holds Tryd.pinned (OpenSpec.ofChange ordAgainSpec)

/-- ITS FALSE NEIGHBOUR: 'it returns false'. Refute it at one input. -/
def ordAgainWrong : ChangeSpec := { name := "ordAgain", fn := fun _ => fun
  | [d] => { results := [.lit (.bool false)], args := [d] }
  | _ => none }
def OrdAgainWrongFalsely : Prop := ordAgainRow.holds Tryd.pinned (OpenSpec.ofChange ordAgainWrong)

/-- 'scriptoriumlaw02.OrdCut': WHATEVER THE INPUT: true; the input reads as it did. -/
def ordCutSpec : ChangeSpec := { name := "ordCut", fn := fun _ => fun
  | [d1, d2, d3] => { results := [.lit (.bool true)], args := [d1, d2, d3] }
  | _ => none }
def ordCutRow : OpenClaim := { program := "ytmidoifdcidjcaadoor", sum := "a5246acc466d3c26c7f7dff4c943d81bb0efcb8c8fe9d1f77b0393078d96e6f6", func := "scriptorium/scriptoriumlaw02.OrdCut", spec := "ordCut", inPlace := ["internal/bytealg.CountString", "internal/bytealg.IndexByteString", "internal/bytealg.IndexString", "internal/abi.NoEscape", "internal/bytealg.MakeNoZero"], named := ["internal/bytealg.MaxLen", "unicode/utf8.first", "unicode/utf8.acceptRanges"], apart := false, laid := [("unicode/utf8.acceptRanges", laid_unicode_utf8_acceptRanges), ("unicode/utf8.first", laid_unicode_utf8_first)] }
def OrdCutSaid : Prop := ordCutRow.holds Tryd.pinned (OpenSpec.ofChange ordCutSpec)

/-- ITS FALSE NEIGHBOUR: 'it returns false'. Refute it at one input. -/
def ordCutWrong : ChangeSpec := { name := "ordCut", fn := fun _ => fun
  | [d1, d2, d3] => { results := [.lit (.bool false)], args := [d1, d2, d3] }
  | _ => none }
def OrdCutWrongFalsely : Prop := ordCutRow.holds Tryd.pinned (OpenSpec.ofChange ordCutWrong)

/-- 'scriptoriumlaw02.OrdKnown': WHATEVER THE INPUT: true; the input reads as it did. -/
def ordKnownSpec : ChangeSpec := { name := "ordKnown", fn := fun _ => fun
  | [] => { results := [.lit (.bool true)], args := [] }
  | _ => none }
def ordKnownRow : OpenClaim := { program := "ytmidoifdcidjcaadoor", sum := "a5246acc466d3c26c7f7dff4c943d81bb0efcb8c8fe9d1f77b0393078d96e6f6", func := "scriptorium/scriptoriumlaw02.OrdKnown", spec := "ordKnown", inPlace := ["internal/abi.NoEscape", "internal/bytealg.MakeNoZero", "internal/bytealg.CountString", "internal/bytealg.IndexByteString", "internal/bytealg.IndexString"], named := ["internal/bytealg.MaxLen", "unicode/utf8.first", "unicode/utf8.acceptRanges"], apart := false, laid := [("unicode/utf8.acceptRanges", laid_unicode_utf8_acceptRanges), ("unicode/utf8.first", laid_unicode_utf8_first)] }
def OrdKnownSaid : Prop := ordKnownRow.holds Tryd.pinned (OpenSpec.ofChange ordKnownSpec)

/-- ITS FALSE NEIGHBOUR: 'it returns false'. Refute it at one input. -/
def ordKnownWrong : ChangeSpec := { name := "ordKnown", fn := fun _ => fun
  | [] => { results := [.lit (.bool false)], args := [] }
  | _ => none }
def OrdKnownWrongFalsely : Prop := ordKnownRow.holds Tryd.pinned (OpenSpec.ofChange ordKnownWrong)

/- THE SECOND FORM. 'bulk': how many values and letters a reading holds, each counted each time it is reached (what is shared counts as often as it is met; a slice's spare places count too). A statement '..UptoSaid' is the law's where the arguments, and the package variables that the reading takes, are together of bulk at most 1048576: NARROWER than '..Said'. Prove '..Said' where nothing that the law and all that it calls make is longer than what came in: it says more and counts as full. Else prove '..UptoSaid'. A law counts once. -/
mutual
def uptoBulk {H : Type} : DataW H → Nat
  | .lit (.string bytes) => bytes.length + 1
  | .lit _ => 1
  | .nil => 1
  | .ptr d => uptoBulk d + 1
  | .slice elems spare => uptoBulkAll elems + uptoBulkAll spare + 1
  | .agg parts => uptoBulkAll parts + 1
  | .iface _ d => uptoBulk d + 1
  | .map entries => uptoBulkEntries entries + 1
  | .held _ => 1
def uptoBulkAll {H : Type} : List (DataW H) → Nat
  | [] => 0
  | d :: r => uptoBulk d + uptoBulkAll r
def uptoBulkEntries {H : Type} : List (Lit × DataW H) → Nat
  | [] => 0
  | x :: r => uptoBulkEntry x + uptoBulkEntries r
def uptoBulkEntry {H : Type} : Lit × DataW H → Nat
  | (.string bytes, d) => bytes.length + uptoBulk d + 1
  | (_, d) => uptoBulk d + 1
 end
def uptoSmall : (H : Type) → List (DataW H) → Bool := fun _ ds => decide (uptoBulkAll ds ≤ 1048576)
def OpenSpec.upto (s : _root_.Go.ChangeSpec) : _root_.Go.OpenSpec := { _root_.Go.OpenSpec.ofChange s with cond := some uptoSmall }

/-- 'scriptoriumlaw02.OrdKey', WHERE WHAT IT READS IS OF BULK AT MOST 1048576: true; the input reads as it did. -/
def ordKeyUptoRow : OpenClaim := { program := "ytmidoifdcidjcaadoor", sum := "a5246acc466d3c26c7f7dff4c943d81bb0efcb8c8fe9d1f77b0393078d96e6f6", func := "scriptorium/scriptoriumlaw02.OrdKey", spec := "ordKey", inPlace := ["internal/bytealg.CountString", "internal/bytealg.IndexByteString", "internal/bytealg.IndexString", "internal/abi.NoEscape", "internal/bytealg.MakeNoZero"], named := ["internal/bytealg.MaxLen", "unicode/utf8.first", "unicode/utf8.acceptRanges"], apart := false, laid := [("unicode/utf8.acceptRanges", laid_unicode_utf8_acceptRanges), ("unicode/utf8.first", laid_unicode_utf8_first)], narrowed := true }
def OrdKeyUptoSaid : Prop := ordKeyUptoRow.holds Tryd.pinned (OpenSpec.upto ordKeySpec)

/-- 'scriptoriumlaw02.OrdPairs', WHERE WHAT IT READS IS OF BULK AT MOST 1048576: true; the input reads as it did. -/
def ordPairsUptoRow : OpenClaim := { program := "ytmidoifdcidjcaadoor", sum := "a5246acc466d3c26c7f7dff4c943d81bb0efcb8c8fe9d1f77b0393078d96e6f6", func := "scriptorium/scriptoriumlaw02.OrdPairs", spec := "ordPairs", inPlace := ["internal/bytealg.CountString", "internal/bytealg.IndexByteString", "internal/bytealg.IndexString", "internal/abi.NoEscape", "internal/bytealg.MakeNoZero", "internal/bytealg.abigen_runtime_cmpstring"], named := ["internal/bytealg.MaxLen", "unicode/utf8.first", "unicode/utf8.acceptRanges"], apart := false, laid := [("unicode/utf8.acceptRanges", laid_unicode_utf8_acceptRanges), ("unicode/utf8.first", laid_unicode_utf8_first)], narrowed := true }
def OrdPairsUptoSaid : Prop := ordPairsUptoRow.holds Tryd.pinned (OpenSpec.upto ordPairsSpec)

/-- 'scriptoriumlaw02.OrdStamps', WHERE WHAT IT READS IS OF BULK AT MOST 1048576: true; the input reads as it did. -/
def ordStampsUptoRow : OpenClaim := { program := "ytmidoifdcidjcaadoor", sum := "a5246acc466d3c26c7f7dff4c943d81bb0efcb8c8fe9d1f77b0393078d96e6f6", func := "scriptorium/scriptoriumlaw02.OrdStamps", spec := "ordStamps", inPlace := ["internal/bytealg.CountString", "internal/bytealg.IndexByteString", "internal/bytealg.IndexString", "internal/abi.NoEscape", "internal/bytealg.MakeNoZero", "internal/bytealg.abigen_runtime_cmpstring"], named := ["internal/bytealg.MaxLen", "unicode/utf8.first", "unicode/utf8.acceptRanges"], apart := false, laid := [("unicode/utf8.acceptRanges", laid_unicode_utf8_acceptRanges), ("unicode/utf8.first", laid_unicode_utf8_first)], narrowed := true }
def OrdStampsUptoSaid : Prop := ordStampsUptoRow.holds Tryd.pinned (OpenSpec.upto ordStampsSpec)

/-- 'scriptoriumlaw02.OrdOrder', WHERE WHAT IT READS IS OF BULK AT MOST 1048576: true; the input reads as it did. -/
def ordOrderUptoRow : OpenClaim := { program := "ytmidoifdcidjcaadoor", sum := "a5246acc466d3c26c7f7dff4c943d81bb0efcb8c8fe9d1f77b0393078d96e6f6", func := "scriptorium/scriptoriumlaw02.OrdOrder", spec := "ordOrder", inPlace := ["internal/bytealg.CountString", "internal/bytealg.IndexByteString", "internal/bytealg.IndexString", "internal/abi.NoEscape", "internal/bytealg.MakeNoZero", "internal/bytealg.abigen_runtime_cmpstring"], named := ["internal/bytealg.MaxLen", "unicode/utf8.first", "unicode/utf8.acceptRanges"], apart := false, laid := [("unicode/utf8.acceptRanges", laid_unicode_utf8_acceptRanges), ("unicode/utf8.first", laid_unicode_utf8_first)], narrowed := true }
def OrdOrderUptoSaid : Prop := ordOrderUptoRow.holds Tryd.pinned (OpenSpec.upto ordOrderSpec)

/-- 'scriptoriumlaw02.OrdDown', WHERE WHAT IT READS IS OF BULK AT MOST 1048576: true; the input reads as it did. -/
def ordDownUptoRow : OpenClaim := { program := "ytmidoifdcidjcaadoor", sum := "a5246acc466d3c26c7f7dff4c943d81bb0efcb8c8fe9d1f77b0393078d96e6f6", func := "scriptorium/scriptoriumlaw02.OrdDown", spec := "ordDown", inPlace := ["internal/bytealg.CountString", "internal/bytealg.IndexByteString", "internal/bytealg.IndexString", "internal/abi.NoEscape", "internal/bytealg.MakeNoZero"], named := ["internal/bytealg.MaxLen", "unicode/utf8.first", "unicode/utf8.acceptRanges"], apart := false, laid := [("unicode/utf8.acceptRanges", laid_unicode_utf8_acceptRanges), ("unicode/utf8.first", laid_unicode_utf8_first)], narrowed := true }
def OrdDownUptoSaid : Prop := ordDownUptoRow.holds Tryd.pinned (OpenSpec.upto ordDownSpec)

/-- 'scriptoriumlaw02.OrdBack', WHERE WHAT IT READS IS OF BULK AT MOST 1048576: true; the input reads as it did. -/
def ordBackUptoRow : OpenClaim := { program := "ytmidoifdcidjcaadoor", sum := "a5246acc466d3c26c7f7dff4c943d81bb0efcb8c8fe9d1f77b0393078d96e6f6", func := "scriptorium/scriptoriumlaw02.OrdBack", spec := "ordBack", inPlace := ["internal/bytealg.CountString", "internal/bytealg.IndexByteString", "internal/bytealg.IndexString", "internal/abi.NoEscape", "internal/bytealg.MakeNoZero"], named := ["internal/bytealg.MaxLen", "unicode/utf8.first", "unicode/utf8.acceptRanges"], apart := false, laid := [("unicode/utf8.acceptRanges", laid_unicode_utf8_acceptRanges), ("unicode/utf8.first", laid_unicode_utf8_first)], narrowed := true }
def OrdBackUptoSaid : Prop := ordBackUptoRow.holds Tryd.pinned (OpenSpec.upto ordBackSpec)

/-- 'scriptoriumlaw02.OrdAgain', WHERE WHAT IT READS IS OF BULK AT MOST 1048576: true; the input reads as it did. -/
def ordAgainUptoRow : OpenClaim := { program := "ytmidoifdcidjcaadoor", sum := "a5246acc466d3c26c7f7dff4c943d81bb0efcb8c8fe9d1f77b0393078d96e6f6", func := "scriptorium/scriptoriumlaw02.OrdAgain", spec := "ordAgain", inPlace := ["internal/bytealg.CountString", "internal/bytealg.IndexByteString", "internal/bytealg.IndexString", "internal/abi.NoEscape", "internal/bytealg.MakeNoZero"], named := ["internal/bytealg.MaxLen", "unicode/utf8.first", "unicode/utf8.acceptRanges"], apart := false, laid := [("unicode/utf8.acceptRanges", laid_unicode_utf8_acceptRanges), ("unicode/utf8.first", laid_unicode_utf8_first)], narrowed := true }
def OrdAgainUptoSaid : Prop := ordAgainUptoRow.holds Tryd.pinned (OpenSpec.upto ordAgainSpec)

/-- 'scriptoriumlaw02.OrdCut', WHERE WHAT IT READS IS OF BULK AT MOST 1048576: true; the input reads as it did. -/
def ordCutUptoRow : OpenClaim := { program := "ytmidoifdcidjcaadoor", sum := "a5246acc466d3c26c7f7dff4c943d81bb0efcb8c8fe9d1f77b0393078d96e6f6", func := "scriptorium/scriptoriumlaw02.OrdCut", spec := "ordCut", inPlace := ["internal/bytealg.CountString", "internal/bytealg.IndexByteString", "internal/bytealg.IndexString", "internal/abi.NoEscape", "internal/bytealg.MakeNoZero"], named := ["internal/bytealg.MaxLen", "unicode/utf8.first", "unicode/utf8.acceptRanges"], apart := false, laid := [("unicode/utf8.acceptRanges", laid_unicode_utf8_acceptRanges), ("unicode/utf8.first", laid_unicode_utf8_first)], narrowed := true }
def OrdCutUptoSaid : Prop := ordCutUptoRow.holds Tryd.pinned (OpenSpec.upto ordCutSpec)

/-- 'scriptoriumlaw02.OrdKnown', WHERE WHAT IT READS IS OF BULK AT MOST 1048576: true; the input reads as it did. -/
def ordKnownUptoRow : OpenClaim := { program := "ytmidoifdcidjcaadoor", sum := "a5246acc466d3c26c7f7dff4c943d81bb0efcb8c8fe9d1f77b0393078d96e6f6", func := "scriptorium/scriptoriumlaw02.OrdKnown", spec := "ordKnown", inPlace := ["internal/abi.NoEscape", "internal/bytealg.MakeNoZero", "internal/bytealg.CountString", "internal/bytealg.IndexByteString", "internal/bytealg.IndexString"], named := ["internal/bytealg.MaxLen", "unicode/utf8.first", "unicode/utf8.acceptRanges"], apart := false, laid := [("unicode/utf8.acceptRanges", laid_unicode_utf8_acceptRanges), ("unicode/utf8.first", laid_unicode_utf8_first)], narrowed := true }
def OrdKnownUptoSaid : Prop := ordKnownUptoRow.holds Tryd.pinned (OpenSpec.upto ordKnownSpec)

end Rows
end Go.Proofs.YtmidoifdcidjcaaDoor
