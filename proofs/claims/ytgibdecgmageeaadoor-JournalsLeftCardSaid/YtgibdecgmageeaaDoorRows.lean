/-
  NARROWER THAN 'FOR EVERY INPUT', by the rows' own cells (each row's printed sentence says how): JournalsRoom: laid · JournalsMidst: laid · JournalsGraft: laid · JournalsLeft: laid · FilesOrder: laid · FilesPieces: laid · FilesVoid: laid · FilesIdle: laid · FilesThere: laid · FilesGone: laid · FilesMost: laid · JournalsLook: laid.
  DERIVED. THE GIVEN ROWS OF THIS SEAT. 12 by the template 'for every input the law returns true; each argument reads behind the call as it read before'; 0 by the template 'total and deterministic' (their statements: YtgibdecgmageeaaDoorTotals.lean).
  GIVEN WITH THE SEED: the statements are not yours to turn. If you find one false, say at which input.
  Laid BY PROGRAM, IN A SANDBOX (cutbox-rows.mjs): the forced cells as the released guide's own fill.sh prints them over the translation 590b7321fec1f524… (all of the seat's roots in one cut). By AI agents, Wed Nov 11 2026. No macro, syntax, notation, axiom, sorry.
-/
import Derived.Test.YtgibdecgmageeaaDoorChecked
import GoSem.PinnedTables
import GoSem.Claim
import GoSem.ClaimJoined
import GoSem.ClaimMapViews
import Derived.JoinedTies
import Derived.KernelRfl
namespace Go.Proofs.YtgibdecgmageeaaDoor
/- THE CELL 'sum', in the pinned program and in every row, IS THE sha256 OF THE DUMP (.gsa) THAT YtgibdecgmageeaaDoorProg.lean LOADS. Nothing in Lean hashes anything: it is a label: what it is worth is what the hold of that sum in a sandbox is worth. -/
noncomputable def Tryd.pinned : Pinned := { name := "ytgibdecgmageeaadoor", sum := "590b7321fec1f524168e87046255f6cf45c688a6dc83f11b9f3ad846d4598cb5", checked := Tryd.checked }
namespace Rows
def none {H : Type} : Left H := { results := [], args := [] }

/- WHAT THE LISTED PACKAGE-LEVEL VARIABLES READ AS WHEN THE CALL BEGINS. Each datum BY PROGRAM (the guide's laid-datum.mjs) off the statement by which the dump's own 'gosem.cut.vars' lays the variable. In a bare row this is a premise. The card (YtgibdecgmageeaaDoorCards.lean) ties it to the program's text. -/
def laid_unicode_utf8_acceptRanges {H : Type} : DataW H := .agg [.agg [.lit (.int .u8 128), .lit (.int .u8 191)], .agg [.lit (.int .u8 160), .lit (.int .u8 191)], .agg [.lit (.int .u8 128), .lit (.int .u8 159)], .agg [.lit (.int .u8 144), .lit (.int .u8 191)], .agg [.lit (.int .u8 128), .lit (.int .u8 143)], .agg [.lit (.int .u8 0), .lit (.int .u8 0)], .agg [.lit (.int .u8 0), .lit (.int .u8 0)], .agg [.lit (.int .u8 0), .lit (.int .u8 0)], .agg [.lit (.int .u8 0), .lit (.int .u8 0)], .agg [.lit (.int .u8 0), .lit (.int .u8 0)], .agg [.lit (.int .u8 0), .lit (.int .u8 0)], .agg [.lit (.int .u8 0), .lit (.int .u8 0)], .agg [.lit (.int .u8 0), .lit (.int .u8 0)], .agg [.lit (.int .u8 0), .lit (.int .u8 0)], .agg [.lit (.int .u8 0), .lit (.int .u8 0)], .agg [.lit (.int .u8 0), .lit (.int .u8 0)]]
/-- One of Go's own tables, pinned by name: the form's constant. -/
def laid_unicode_utf8_first : DataW Unit := Go.Pinned.utf8First

/-- 'balefirelaw18.JournalsRoom': WHATEVER THE INPUT: true; the input reads as it did. -/
def journalsRoomSpec : ChangeSpec := { name := "journalsRoom", fn := fun _ => fun
  | [d1, d2, d3] => { results := [.lit (.bool true)], args := [d1, d2, d3] }
  | _ => none }
def journalsRoomRow : OpenClaim := { program := "ytgibdecgmageeaadoor", sum := "590b7321fec1f524168e87046255f6cf45c688a6dc83f11b9f3ad846d4598cb5", func := "balefire/balefirelaw18.JournalsRoom", spec := "journalsRoom", inPlace := ["internal/bytealg.IndexByteString", "internal/bytealg.IndexString"], unfollowed := true, recurses := true, named := ["unicode/utf8.first", "unicode/utf8.acceptRanges", "internal/bytealg.MaxLen"], apart := false, laid := [("unicode/utf8.acceptRanges", laid_unicode_utf8_acceptRanges), ("unicode/utf8.first", laid_unicode_utf8_first)] }
def JournalsRoomSaid : Prop := journalsRoomRow.holds Tryd.pinned (OpenSpec.ofChange journalsRoomSpec)

/-- ITS FALSE NEIGHBOUR: 'it returns false'. Refute it at one input. -/
def journalsRoomWrong : ChangeSpec := { name := "journalsRoom", fn := fun _ => fun
  | [d1, d2, d3] => { results := [.lit (.bool false)], args := [d1, d2, d3] }
  | _ => none }
def JournalsRoomWrongFalsely : Prop := journalsRoomRow.holds Tryd.pinned (OpenSpec.ofChange journalsRoomWrong)

/-- 'balefirelaw18.JournalsMidst': WHATEVER THE INPUT: true; the input reads as it did. -/
def journalsMidstSpec : ChangeSpec := { name := "journalsMidst", fn := fun _ => fun
  | [d1, d2] => { results := [.lit (.bool true)], args := [d1, d2] }
  | _ => none }
def journalsMidstRow : OpenClaim := { program := "ytgibdecgmageeaadoor", sum := "590b7321fec1f524168e87046255f6cf45c688a6dc83f11b9f3ad846d4598cb5", func := "balefire/balefirelaw18.JournalsMidst", spec := "journalsMidst", inPlace := ["internal/bytealg.IndexByteString", "internal/bytealg.IndexString"], unfollowed := true, recurses := true, named := ["unicode/utf8.first", "unicode/utf8.acceptRanges", "internal/bytealg.MaxLen"], apart := false, laid := [("unicode/utf8.acceptRanges", laid_unicode_utf8_acceptRanges), ("unicode/utf8.first", laid_unicode_utf8_first)] }
def JournalsMidstSaid : Prop := journalsMidstRow.holds Tryd.pinned (OpenSpec.ofChange journalsMidstSpec)

/-- ITS FALSE NEIGHBOUR: 'it returns false'. Refute it at one input. -/
def journalsMidstWrong : ChangeSpec := { name := "journalsMidst", fn := fun _ => fun
  | [d1, d2] => { results := [.lit (.bool false)], args := [d1, d2] }
  | _ => none }
def JournalsMidstWrongFalsely : Prop := journalsMidstRow.holds Tryd.pinned (OpenSpec.ofChange journalsMidstWrong)

/-- 'balefirelaw18.JournalsGraft': WHATEVER THE INPUT: true; the input reads as it did. -/
def journalsGraftSpec : ChangeSpec := { name := "journalsGraft", fn := fun _ => fun
  | [d1, d2, d3] => { results := [.lit (.bool true)], args := [d1, d2, d3] }
  | _ => none }
def journalsGraftRow : OpenClaim := { program := "ytgibdecgmageeaadoor", sum := "590b7321fec1f524168e87046255f6cf45c688a6dc83f11b9f3ad846d4598cb5", func := "balefire/balefirelaw18.JournalsGraft", spec := "journalsGraft", inPlace := ["internal/bytealg.IndexByteString", "internal/bytealg.IndexString"], unfollowed := true, recurses := true, named := ["unicode/utf8.first", "unicode/utf8.acceptRanges", "internal/bytealg.MaxLen"], apart := false, laid := [("unicode/utf8.acceptRanges", laid_unicode_utf8_acceptRanges), ("unicode/utf8.first", laid_unicode_utf8_first)] }
def JournalsGraftSaid : Prop := journalsGraftRow.holds Tryd.pinned (OpenSpec.ofChange journalsGraftSpec)

/-- ITS FALSE NEIGHBOUR: 'it returns false'. Refute it at one input. -/
def journalsGraftWrong : ChangeSpec := { name := "journalsGraft", fn := fun _ => fun
  | [d1, d2, d3] => { results := [.lit (.bool false)], args := [d1, d2, d3] }
  | _ => none }
def JournalsGraftWrongFalsely : Prop := journalsGraftRow.holds Tryd.pinned (OpenSpec.ofChange journalsGraftWrong)

/-- 'balefirelaw18.JournalsLeft': WHATEVER THE INPUT: true; the input reads as it did. -/
def journalsLeftSpec : ChangeSpec := { name := "journalsLeft", fn := fun _ => fun
  | [d1, d2, d3] => { results := [.lit (.bool true)], args := [d1, d2, d3] }
  | _ => none }
def journalsLeftRow : OpenClaim := { program := "ytgibdecgmageeaadoor", sum := "590b7321fec1f524168e87046255f6cf45c688a6dc83f11b9f3ad846d4598cb5", func := "balefire/balefirelaw18.JournalsLeft", spec := "journalsLeft", inPlace := ["internal/bytealg.IndexByteString", "internal/bytealg.IndexString"], unfollowed := true, recurses := true, named := ["unicode/utf8.first", "unicode/utf8.acceptRanges", "internal/bytealg.MaxLen"], apart := false, laid := [("unicode/utf8.acceptRanges", laid_unicode_utf8_acceptRanges), ("unicode/utf8.first", laid_unicode_utf8_first)] }
def JournalsLeftSaid : Prop := journalsLeftRow.holds Tryd.pinned (OpenSpec.ofChange journalsLeftSpec)

/-- ITS FALSE NEIGHBOUR: 'it returns false'. Refute it at one input. -/
def journalsLeftWrong : ChangeSpec := { name := "journalsLeft", fn := fun _ => fun
  | [d1, d2, d3] => { results := [.lit (.bool false)], args := [d1, d2, d3] }
  | _ => none }
def JournalsLeftWrongFalsely : Prop := journalsLeftRow.holds Tryd.pinned (OpenSpec.ofChange journalsLeftWrong)

/-- 'balefirelaw17.FilesOrder': WHATEVER THE INPUT: true; the input reads as it did. -/
def filesOrderSpec : ChangeSpec := { name := "filesOrder", fn := fun _ => fun
  | [d1, d2, d3] => { results := [.lit (.bool true)], args := [d1, d2, d3] }
  | _ => none }
def filesOrderRow : OpenClaim := { program := "ytgibdecgmageeaadoor", sum := "590b7321fec1f524168e87046255f6cf45c688a6dc83f11b9f3ad846d4598cb5", func := "balefire/balefirelaw17.FilesOrder", spec := "filesOrder", inPlace := ["internal/bytealg.IndexByteString", "internal/bytealg.IndexString"], recurses := true, named := ["unicode/utf8.first", "unicode/utf8.acceptRanges", "internal/bytealg.MaxLen"], apart := false, laid := [("unicode/utf8.acceptRanges", laid_unicode_utf8_acceptRanges), ("unicode/utf8.first", laid_unicode_utf8_first)] }
def FilesOrderSaid : Prop := filesOrderRow.holds Tryd.pinned (OpenSpec.ofChange filesOrderSpec)

/-- ITS FALSE NEIGHBOUR: 'it returns false'. Refute it at one input. -/
def filesOrderWrong : ChangeSpec := { name := "filesOrder", fn := fun _ => fun
  | [d1, d2, d3] => { results := [.lit (.bool false)], args := [d1, d2, d3] }
  | _ => none }
def FilesOrderWrongFalsely : Prop := filesOrderRow.holds Tryd.pinned (OpenSpec.ofChange filesOrderWrong)

/-- 'balefirelaw17.FilesPieces': WHATEVER THE INPUT: true; the input reads as it did. -/
def filesPiecesSpec : ChangeSpec := { name := "filesPieces", fn := fun _ => fun
  | [d1, d2, d3] => { results := [.lit (.bool true)], args := [d1, d2, d3] }
  | _ => none }
def filesPiecesRow : OpenClaim := { program := "ytgibdecgmageeaadoor", sum := "590b7321fec1f524168e87046255f6cf45c688a6dc83f11b9f3ad846d4598cb5", func := "balefire/balefirelaw17.FilesPieces", spec := "filesPieces", inPlace := ["internal/bytealg.IndexByteString", "internal/bytealg.IndexString"], recurses := true, named := ["unicode/utf8.first", "unicode/utf8.acceptRanges", "internal/bytealg.MaxLen"], apart := false, laid := [("unicode/utf8.acceptRanges", laid_unicode_utf8_acceptRanges), ("unicode/utf8.first", laid_unicode_utf8_first)] }
def FilesPiecesSaid : Prop := filesPiecesRow.holds Tryd.pinned (OpenSpec.ofChange filesPiecesSpec)

/-- ITS FALSE NEIGHBOUR: 'it returns false'. Refute it at one input. -/
def filesPiecesWrong : ChangeSpec := { name := "filesPieces", fn := fun _ => fun
  | [d1, d2, d3] => { results := [.lit (.bool false)], args := [d1, d2, d3] }
  | _ => none }
def FilesPiecesWrongFalsely : Prop := filesPiecesRow.holds Tryd.pinned (OpenSpec.ofChange filesPiecesWrong)

/-- 'balefirelaw17.FilesVoid': WHATEVER THE INPUT: true; the input reads as it did. -/
def filesVoidSpec : ChangeSpec := { name := "filesVoid", fn := fun _ => fun
  | [d] => { results := [.lit (.bool true)], args := [d] }
  | _ => none }
def filesVoidRow : OpenClaim := { program := "ytgibdecgmageeaadoor", sum := "590b7321fec1f524168e87046255f6cf45c688a6dc83f11b9f3ad846d4598cb5", func := "balefire/balefirelaw17.FilesVoid", spec := "filesVoid", inPlace := ["internal/bytealg.IndexByteString", "internal/bytealg.IndexString"], recurses := true, named := ["unicode/utf8.first", "unicode/utf8.acceptRanges", "internal/bytealg.MaxLen"], apart := false, laid := [("unicode/utf8.acceptRanges", laid_unicode_utf8_acceptRanges), ("unicode/utf8.first", laid_unicode_utf8_first)] }
def FilesVoidSaid : Prop := filesVoidRow.holds Tryd.pinned (OpenSpec.ofChange filesVoidSpec)

/-- ITS FALSE NEIGHBOUR: 'it returns false'. Refute it at one input. -/
def filesVoidWrong : ChangeSpec := { name := "filesVoid", fn := fun _ => fun
  | [d] => { results := [.lit (.bool false)], args := [d] }
  | _ => none }
def FilesVoidWrongFalsely : Prop := filesVoidRow.holds Tryd.pinned (OpenSpec.ofChange filesVoidWrong)

/-- 'balefirelaw17.FilesIdle': WHATEVER THE INPUT: true; the input reads as it did. -/
def filesIdleSpec : ChangeSpec := { name := "filesIdle", fn := fun _ => fun
  | [d1, d2, d3] => { results := [.lit (.bool true)], args := [d1, d2, d3] }
  | _ => none }
def filesIdleRow : OpenClaim := { program := "ytgibdecgmageeaadoor", sum := "590b7321fec1f524168e87046255f6cf45c688a6dc83f11b9f3ad846d4598cb5", func := "balefire/balefirelaw17.FilesIdle", spec := "filesIdle", inPlace := ["internal/bytealg.IndexByteString", "internal/bytealg.IndexString"], recurses := true, named := ["unicode/utf8.first", "unicode/utf8.acceptRanges", "internal/bytealg.MaxLen"], apart := false, laid := [("unicode/utf8.acceptRanges", laid_unicode_utf8_acceptRanges), ("unicode/utf8.first", laid_unicode_utf8_first)] }
def FilesIdleSaid : Prop := filesIdleRow.holds Tryd.pinned (OpenSpec.ofChange filesIdleSpec)

/-- ITS FALSE NEIGHBOUR: 'it returns false'. Refute it at one input. -/
def filesIdleWrong : ChangeSpec := { name := "filesIdle", fn := fun _ => fun
  | [d1, d2, d3] => { results := [.lit (.bool false)], args := [d1, d2, d3] }
  | _ => none }
def FilesIdleWrongFalsely : Prop := filesIdleRow.holds Tryd.pinned (OpenSpec.ofChange filesIdleWrong)

/-- 'balefirelaw17.FilesThere': WHATEVER THE INPUT: true; the input reads as it did. -/
def filesThereSpec : ChangeSpec := { name := "filesThere", fn := fun _ => fun
  | [d1, d2, d3] => { results := [.lit (.bool true)], args := [d1, d2, d3] }
  | _ => none }
def filesThereRow : OpenClaim := { program := "ytgibdecgmageeaadoor", sum := "590b7321fec1f524168e87046255f6cf45c688a6dc83f11b9f3ad846d4598cb5", func := "balefire/balefirelaw17.FilesThere", spec := "filesThere", inPlace := ["internal/bytealg.IndexByteString", "internal/bytealg.IndexString"], recurses := true, named := ["unicode/utf8.first", "unicode/utf8.acceptRanges", "internal/bytealg.MaxLen"], apart := false, laid := [("unicode/utf8.acceptRanges", laid_unicode_utf8_acceptRanges), ("unicode/utf8.first", laid_unicode_utf8_first)] }
def FilesThereSaid : Prop := filesThereRow.holds Tryd.pinned (OpenSpec.ofChange filesThereSpec)

/-- ITS FALSE NEIGHBOUR: 'it returns false'. Refute it at one input. -/
def filesThereWrong : ChangeSpec := { name := "filesThere", fn := fun _ => fun
  | [d1, d2, d3] => { results := [.lit (.bool false)], args := [d1, d2, d3] }
  | _ => none }
def FilesThereWrongFalsely : Prop := filesThereRow.holds Tryd.pinned (OpenSpec.ofChange filesThereWrong)

/-- 'balefirelaw17.FilesGone': WHATEVER THE INPUT: true; the input reads as it did. -/
def filesGoneSpec : ChangeSpec := { name := "filesGone", fn := fun _ => fun
  | [d1, d2] => { results := [.lit (.bool true)], args := [d1, d2] }
  | _ => none }
def filesGoneRow : OpenClaim := { program := "ytgibdecgmageeaadoor", sum := "590b7321fec1f524168e87046255f6cf45c688a6dc83f11b9f3ad846d4598cb5", func := "balefire/balefirelaw17.FilesGone", spec := "filesGone", inPlace := ["internal/bytealg.IndexByteString", "internal/bytealg.IndexString"], recurses := true, named := ["unicode/utf8.first", "unicode/utf8.acceptRanges", "internal/bytealg.MaxLen"], apart := false, laid := [("unicode/utf8.acceptRanges", laid_unicode_utf8_acceptRanges), ("unicode/utf8.first", laid_unicode_utf8_first)] }
def FilesGoneSaid : Prop := filesGoneRow.holds Tryd.pinned (OpenSpec.ofChange filesGoneSpec)

/-- ITS FALSE NEIGHBOUR: 'it returns false'. Refute it at one input. -/
def filesGoneWrong : ChangeSpec := { name := "filesGone", fn := fun _ => fun
  | [d1, d2] => { results := [.lit (.bool false)], args := [d1, d2] }
  | _ => none }
def FilesGoneWrongFalsely : Prop := filesGoneRow.holds Tryd.pinned (OpenSpec.ofChange filesGoneWrong)

/-- 'balefirelaw17.FilesMost': WHATEVER THE INPUT: true; the input reads as it did. -/
def filesMostSpec : ChangeSpec := { name := "filesMost", fn := fun _ => fun
  | [d1, d2, d3] => { results := [.lit (.bool true)], args := [d1, d2, d3] }
  | _ => none }
def filesMostRow : OpenClaim := { program := "ytgibdecgmageeaadoor", sum := "590b7321fec1f524168e87046255f6cf45c688a6dc83f11b9f3ad846d4598cb5", func := "balefire/balefirelaw17.FilesMost", spec := "filesMost", inPlace := ["internal/bytealg.IndexByteString", "internal/bytealg.IndexString"], recurses := true, named := ["unicode/utf8.first", "unicode/utf8.acceptRanges", "internal/bytealg.MaxLen"], apart := false, laid := [("unicode/utf8.acceptRanges", laid_unicode_utf8_acceptRanges), ("unicode/utf8.first", laid_unicode_utf8_first)] }
def FilesMostSaid : Prop := filesMostRow.holds Tryd.pinned (OpenSpec.ofChange filesMostSpec)

/-- ITS FALSE NEIGHBOUR: 'it returns false'. Refute it at one input. -/
def filesMostWrong : ChangeSpec := { name := "filesMost", fn := fun _ => fun
  | [d1, d2, d3] => { results := [.lit (.bool false)], args := [d1, d2, d3] }
  | _ => none }
def FilesMostWrongFalsely : Prop := filesMostRow.holds Tryd.pinned (OpenSpec.ofChange filesMostWrong)

/-- 'balefirelaw18.JournalsLook': WHATEVER THE INPUT: true; the input reads as it did. -/
def journalsLookSpec : ChangeSpec := { name := "journalsLook", fn := fun _ => fun
  | [d1, d2, d3] => { results := [.lit (.bool true)], args := [d1, d2, d3] }
  | _ => none }
def journalsLookRow : OpenClaim := { program := "ytgibdecgmageeaadoor", sum := "590b7321fec1f524168e87046255f6cf45c688a6dc83f11b9f3ad846d4598cb5", func := "balefire/balefirelaw18.JournalsLook", spec := "journalsLook", inPlace := ["internal/bytealg.IndexByteString", "internal/bytealg.IndexString"], unfollowed := true, recurses := true, named := ["unicode/utf8.first", "unicode/utf8.acceptRanges", "internal/bytealg.MaxLen"], apart := false, laid := [("unicode/utf8.acceptRanges", laid_unicode_utf8_acceptRanges), ("unicode/utf8.first", laid_unicode_utf8_first)] }
def JournalsLookSaid : Prop := journalsLookRow.holds Tryd.pinned (OpenSpec.ofChange journalsLookSpec)

/-- ITS FALSE NEIGHBOUR: 'it returns false'. Refute it at one input. -/
def journalsLookWrong : ChangeSpec := { name := "journalsLook", fn := fun _ => fun
  | [d1, d2, d3] => { results := [.lit (.bool false)], args := [d1, d2, d3] }
  | _ => none }
def JournalsLookWrongFalsely : Prop := journalsLookRow.holds Tryd.pinned (OpenSpec.ofChange journalsLookWrong)

/- THE SECOND FORM. 'bulk': how many values and letters a reading holds, each counted each time it is reached (what is shared counts as often as it is met; a slice's spare places count too). A statement '..UptoSaid' is the law's where the arguments, and the package variables that the reading takes, are together of bulk at most 1048576: NARROWER than '..Said'. Prove '..Said' where nothing that the law and all that it calls make is longer than what came in: it says more and counts as full. Else prove '..UptoSaid'. A law counts once. -/
mutual
def uptoBulk {H : Type} : DataW H → Nat
  | .lit (.string bytes) => bytes.length + 1
  | .lit _ => 1
  | .nil => 1
  | .ptr d => uptoBulk d + 1
  | .slice elems spare => uptoBulkAll elems + uptoBulkAll spare + 1
  | .agg parts => uptoBulkAll parts + 1
  | .iface _ d => uptoBulk d + 1
  | .map entries => uptoBulkEntries entries + 1
  | .held _ => 1
def uptoBulkAll {H : Type} : List (DataW H) → Nat
  | [] => 0
  | d :: r => uptoBulk d + uptoBulkAll r
def uptoBulkEntries {H : Type} : List (Lit × DataW H) → Nat
  | [] => 0
  | x :: r => uptoBulkEntry x + uptoBulkEntries r
def uptoBulkEntry {H : Type} : Lit × DataW H → Nat
  | (.string bytes, d) => bytes.length + uptoBulk d + 1
  | (_, d) => uptoBulk d + 1
 end
def uptoSmall : (H : Type) → List (DataW H) → Bool := fun _ ds => decide (uptoBulkAll ds ≤ 1048576)
def OpenSpec.upto (s : _root_.Go.ChangeSpec) : _root_.Go.OpenSpec := { _root_.Go.OpenSpec.ofChange s with cond := some uptoSmall }

/-- 'balefirelaw18.JournalsRoom', WHERE WHAT IT READS IS OF BULK AT MOST 1048576: true; the input reads as it did. -/
def journalsRoomUptoRow : OpenClaim := { program := "ytgibdecgmageeaadoor", sum := "590b7321fec1f524168e87046255f6cf45c688a6dc83f11b9f3ad846d4598cb5", func := "balefire/balefirelaw18.JournalsRoom", spec := "journalsRoom", inPlace := ["internal/bytealg.IndexByteString", "internal/bytealg.IndexString"], unfollowed := true, recurses := true, named := ["unicode/utf8.first", "unicode/utf8.acceptRanges", "internal/bytealg.MaxLen"], apart := false, laid := [("unicode/utf8.acceptRanges", laid_unicode_utf8_acceptRanges), ("unicode/utf8.first", laid_unicode_utf8_first)], narrowed := true }
def JournalsRoomUptoSaid : Prop := journalsRoomUptoRow.holds Tryd.pinned (OpenSpec.upto journalsRoomSpec)

/-- 'balefirelaw18.JournalsMidst', WHERE WHAT IT READS IS OF BULK AT MOST 1048576: true; the input reads as it did. -/
def journalsMidstUptoRow : OpenClaim := { program := "ytgibdecgmageeaadoor", sum := "590b7321fec1f524168e87046255f6cf45c688a6dc83f11b9f3ad846d4598cb5", func := "balefire/balefirelaw18.JournalsMidst", spec := "journalsMidst", inPlace := ["internal/bytealg.IndexByteString", "internal/bytealg.IndexString"], unfollowed := true, recurses := true, named := ["unicode/utf8.first", "unicode/utf8.acceptRanges", "internal/bytealg.MaxLen"], apart := false, laid := [("unicode/utf8.acceptRanges", laid_unicode_utf8_acceptRanges), ("unicode/utf8.first", laid_unicode_utf8_first)], narrowed := true }
def JournalsMidstUptoSaid : Prop := journalsMidstUptoRow.holds Tryd.pinned (OpenSpec.upto journalsMidstSpec)

/-- 'balefirelaw18.JournalsGraft', WHERE WHAT IT READS IS OF BULK AT MOST 1048576: true; the input reads as it did. -/
def journalsGraftUptoRow : OpenClaim := { program := "ytgibdecgmageeaadoor", sum := "590b7321fec1f524168e87046255f6cf45c688a6dc83f11b9f3ad846d4598cb5", func := "balefire/balefirelaw18.JournalsGraft", spec := "journalsGraft", inPlace := ["internal/bytealg.IndexByteString", "internal/bytealg.IndexString"], unfollowed := true, recurses := true, named := ["unicode/utf8.first", "unicode/utf8.acceptRanges", "internal/bytealg.MaxLen"], apart := false, laid := [("unicode/utf8.acceptRanges", laid_unicode_utf8_acceptRanges), ("unicode/utf8.first", laid_unicode_utf8_first)], narrowed := true }
def JournalsGraftUptoSaid : Prop := journalsGraftUptoRow.holds Tryd.pinned (OpenSpec.upto journalsGraftSpec)

/-- 'balefirelaw18.JournalsLeft', WHERE WHAT IT READS IS OF BULK AT MOST 1048576: true; the input reads as it did. -/
def journalsLeftUptoRow : OpenClaim := { program := "ytgibdecgmageeaadoor", sum := "590b7321fec1f524168e87046255f6cf45c688a6dc83f11b9f3ad846d4598cb5", func := "balefire/balefirelaw18.JournalsLeft", spec := "journalsLeft", inPlace := ["internal/bytealg.IndexByteString", "internal/bytealg.IndexString"], unfollowed := true, recurses := true, named := ["unicode/utf8.first", "unicode/utf8.acceptRanges", "internal/bytealg.MaxLen"], apart := false, laid := [("unicode/utf8.acceptRanges", laid_unicode_utf8_acceptRanges), ("unicode/utf8.first", laid_unicode_utf8_first)], narrowed := true }
def JournalsLeftUptoSaid : Prop := journalsLeftUptoRow.holds Tryd.pinned (OpenSpec.upto journalsLeftSpec)

/-- 'balefirelaw17.FilesOrder', WHERE WHAT IT READS IS OF BULK AT MOST 1048576: true; the input reads as it did. -/
def filesOrderUptoRow : OpenClaim := { program := "ytgibdecgmageeaadoor", sum := "590b7321fec1f524168e87046255f6cf45c688a6dc83f11b9f3ad846d4598cb5", func := "balefire/balefirelaw17.FilesOrder", spec := "filesOrder", inPlace := ["internal/bytealg.IndexByteString", "internal/bytealg.IndexString"], recurses := true, named := ["unicode/utf8.first", "unicode/utf8.acceptRanges", "internal/bytealg.MaxLen"], apart := false, laid := [("unicode/utf8.acceptRanges", laid_unicode_utf8_acceptRanges), ("unicode/utf8.first", laid_unicode_utf8_first)], narrowed := true }
def FilesOrderUptoSaid : Prop := filesOrderUptoRow.holds Tryd.pinned (OpenSpec.upto filesOrderSpec)

/-- 'balefirelaw17.FilesPieces', WHERE WHAT IT READS IS OF BULK AT MOST 1048576: true; the input reads as it did. -/
def filesPiecesUptoRow : OpenClaim := { program := "ytgibdecgmageeaadoor", sum := "590b7321fec1f524168e87046255f6cf45c688a6dc83f11b9f3ad846d4598cb5", func := "balefire/balefirelaw17.FilesPieces", spec := "filesPieces", inPlace := ["internal/bytealg.IndexByteString", "internal/bytealg.IndexString"], recurses := true, named := ["unicode/utf8.first", "unicode/utf8.acceptRanges", "internal/bytealg.MaxLen"], apart := false, laid := [("unicode/utf8.acceptRanges", laid_unicode_utf8_acceptRanges), ("unicode/utf8.first", laid_unicode_utf8_first)], narrowed := true }
def FilesPiecesUptoSaid : Prop := filesPiecesUptoRow.holds Tryd.pinned (OpenSpec.upto filesPiecesSpec)

/-- 'balefirelaw17.FilesVoid', WHERE WHAT IT READS IS OF BULK AT MOST 1048576: true; the input reads as it did. -/
def filesVoidUptoRow : OpenClaim := { program := "ytgibdecgmageeaadoor", sum := "590b7321fec1f524168e87046255f6cf45c688a6dc83f11b9f3ad846d4598cb5", func := "balefire/balefirelaw17.FilesVoid", spec := "filesVoid", inPlace := ["internal/bytealg.IndexByteString", "internal/bytealg.IndexString"], recurses := true, named := ["unicode/utf8.first", "unicode/utf8.acceptRanges", "internal/bytealg.MaxLen"], apart := false, laid := [("unicode/utf8.acceptRanges", laid_unicode_utf8_acceptRanges), ("unicode/utf8.first", laid_unicode_utf8_first)], narrowed := true }
def FilesVoidUptoSaid : Prop := filesVoidUptoRow.holds Tryd.pinned (OpenSpec.upto filesVoidSpec)

/-- 'balefirelaw17.FilesIdle', WHERE WHAT IT READS IS OF BULK AT MOST 1048576: true; the input reads as it did. -/
def filesIdleUptoRow : OpenClaim := { program := "ytgibdecgmageeaadoor", sum := "590b7321fec1f524168e87046255f6cf45c688a6dc83f11b9f3ad846d4598cb5", func := "balefire/balefirelaw17.FilesIdle", spec := "filesIdle", inPlace := ["internal/bytealg.IndexByteString", "internal/bytealg.IndexString"], recurses := true, named := ["unicode/utf8.first", "unicode/utf8.acceptRanges", "internal/bytealg.MaxLen"], apart := false, laid := [("unicode/utf8.acceptRanges", laid_unicode_utf8_acceptRanges), ("unicode/utf8.first", laid_unicode_utf8_first)], narrowed := true }
def FilesIdleUptoSaid : Prop := filesIdleUptoRow.holds Tryd.pinned (OpenSpec.upto filesIdleSpec)

/-- 'balefirelaw17.FilesThere', WHERE WHAT IT READS IS OF BULK AT MOST 1048576: true; the input reads as it did. -/
def filesThereUptoRow : OpenClaim := { program := "ytgibdecgmageeaadoor", sum := "590b7321fec1f524168e87046255f6cf45c688a6dc83f11b9f3ad846d4598cb5", func := "balefire/balefirelaw17.FilesThere", spec := "filesThere", inPlace := ["internal/bytealg.IndexByteString", "internal/bytealg.IndexString"], recurses := true, named := ["unicode/utf8.first", "unicode/utf8.acceptRanges", "internal/bytealg.MaxLen"], apart := false, laid := [("unicode/utf8.acceptRanges", laid_unicode_utf8_acceptRanges), ("unicode/utf8.first", laid_unicode_utf8_first)], narrowed := true }
def FilesThereUptoSaid : Prop := filesThereUptoRow.holds Tryd.pinned (OpenSpec.upto filesThereSpec)

/-- 'balefirelaw17.FilesGone', WHERE WHAT IT READS IS OF BULK AT MOST 1048576: true; the input reads as it did. -/
def filesGoneUptoRow : OpenClaim := { program := "ytgibdecgmageeaadoor", sum := "590b7321fec1f524168e87046255f6cf45c688a6dc83f11b9f3ad846d4598cb5", func := "balefire/balefirelaw17.FilesGone", spec := "filesGone", inPlace := ["internal/bytealg.IndexByteString", "internal/bytealg.IndexString"], recurses := true, named := ["unicode/utf8.first", "unicode/utf8.acceptRanges", "internal/bytealg.MaxLen"], apart := false, laid := [("unicode/utf8.acceptRanges", laid_unicode_utf8_acceptRanges), ("unicode/utf8.first", laid_unicode_utf8_first)], narrowed := true }
def FilesGoneUptoSaid : Prop := filesGoneUptoRow.holds Tryd.pinned (OpenSpec.upto filesGoneSpec)

/-- 'balefirelaw17.FilesMost', WHERE WHAT IT READS IS OF BULK AT MOST 1048576: true; the input reads as it did. -/
def filesMostUptoRow : OpenClaim := { program := "ytgibdecgmageeaadoor", sum := "590b7321fec1f524168e87046255f6cf45c688a6dc83f11b9f3ad846d4598cb5", func := "balefire/balefirelaw17.FilesMost", spec := "filesMost", inPlace := ["internal/bytealg.IndexByteString", "internal/bytealg.IndexString"], recurses := true, named := ["unicode/utf8.first", "unicode/utf8.acceptRanges", "internal/bytealg.MaxLen"], apart := false, laid := [("unicode/utf8.acceptRanges", laid_unicode_utf8_acceptRanges), ("unicode/utf8.first", laid_unicode_utf8_first)], narrowed := true }
def FilesMostUptoSaid : Prop := filesMostUptoRow.holds Tryd.pinned (OpenSpec.upto filesMostSpec)

/-- 'balefirelaw18.JournalsLook', WHERE WHAT IT READS IS OF BULK AT MOST 1048576: true; the input reads as it did. -/
def journalsLookUptoRow : OpenClaim := { program := "ytgibdecgmageeaadoor", sum := "590b7321fec1f524168e87046255f6cf45c688a6dc83f11b9f3ad846d4598cb5", func := "balefire/balefirelaw18.JournalsLook", spec := "journalsLook", inPlace := ["internal/bytealg.IndexByteString", "internal/bytealg.IndexString"], unfollowed := true, recurses := true, named := ["unicode/utf8.first", "unicode/utf8.acceptRanges", "internal/bytealg.MaxLen"], apart := false, laid := [("unicode/utf8.acceptRanges", laid_unicode_utf8_acceptRanges), ("unicode/utf8.first", laid_unicode_utf8_first)], narrowed := true }
def JournalsLookUptoSaid : Prop := journalsLookUptoRow.holds Tryd.pinned (OpenSpec.upto journalsLookSpec)

end Rows
end Go.Proofs.YtgibdecgmageeaaDoor
