/-
  DERIVED. GIVEN WITH THE SEED: THE CARDS: each row of YtgibdecgmageeaaDoorRows.lean that lists a variable, with what it lists TIED to the program's text (the seventh form; the later family's looks); each row that meets fmt, with fmt's text TOLD by the authors' own Lean function (tested against real Go, not proved from fmt's source: count such statements apart). THE CARD IS WHAT COUNTS. Prove the row's statement (the work); the ties are given (YtgibdecgmageeaaDoorTie.lean); close each card by the builder's one call (the guide's Derived/Test/ToyasCard.lean, 'card_holds'). Laid BY PROGRAM, IN A SANDBOX (cutbox-door.mjs). By AI agents, Wed Nov 11 2026. No macro, syntax, notation, axiom, sorry.
-/
import Derived.Test.YtgibdecgmageeaaDoorRows
import GoSem.ClaimSeven
namespace Go.Proofs.YtgibdecgmageeaaDoor
namespace Rows

/-- THE TIED CARD OF 'balefirelaw18.JournalsRoom'. -/
def journalsRoomCard : Claim7 := { stood := { row := journalsRoomRow, standIns := [], harness := (true, "9cb37f0acde3c99ad52e256be4a8957762d29d274d5ea5d7cd57cdec8ba3b3b8"), looks := false }, kinds := [], alts := [], laidByText := true, laidKinds := [.data, .pinned], laidTests := true, laidLooks := .later }
def JournalsRoomCardSaid : Prop := Claim7.holds Tryd.pinned (.plain (OpenSpec.ofChange journalsRoomSpec)) journalsRoomCard

/-- THE TIED CARD OF 'balefirelaw18.JournalsMidst'. -/
def journalsMidstCard : Claim7 := { stood := { row := journalsMidstRow, standIns := [], harness := (true, "9cb37f0acde3c99ad52e256be4a8957762d29d274d5ea5d7cd57cdec8ba3b3b8"), looks := false }, kinds := [], alts := [], laidByText := true, laidKinds := [.data, .pinned], laidTests := true, laidLooks := .later }
def JournalsMidstCardSaid : Prop := Claim7.holds Tryd.pinned (.plain (OpenSpec.ofChange journalsMidstSpec)) journalsMidstCard

/-- THE TIED CARD OF 'balefirelaw18.JournalsGraft'. -/
def journalsGraftCard : Claim7 := { stood := { row := journalsGraftRow, standIns := [], harness := (true, "9cb37f0acde3c99ad52e256be4a8957762d29d274d5ea5d7cd57cdec8ba3b3b8"), looks := false }, kinds := [], alts := [], laidByText := true, laidKinds := [.data, .pinned], laidTests := true, laidLooks := .later }
def JournalsGraftCardSaid : Prop := Claim7.holds Tryd.pinned (.plain (OpenSpec.ofChange journalsGraftSpec)) journalsGraftCard

/-- THE TIED CARD OF 'balefirelaw18.JournalsLeft'. -/
def journalsLeftCard : Claim7 := { stood := { row := journalsLeftRow, standIns := [], harness := (true, "9cb37f0acde3c99ad52e256be4a8957762d29d274d5ea5d7cd57cdec8ba3b3b8"), looks := false }, kinds := [], alts := [], laidByText := true, laidKinds := [.data, .pinned], laidTests := true, laidLooks := .later }
def JournalsLeftCardSaid : Prop := Claim7.holds Tryd.pinned (.plain (OpenSpec.ofChange journalsLeftSpec)) journalsLeftCard

/-- THE TIED CARD OF 'balefirelaw17.FilesOrder'. -/
def filesOrderCard : Claim7 := { stood := { row := filesOrderRow, standIns := [], harness := (true, "9cb37f0acde3c99ad52e256be4a8957762d29d274d5ea5d7cd57cdec8ba3b3b8"), looks := false }, kinds := [], alts := [], laidByText := true, laidKinds := [.data, .pinned], laidTests := true, laidLooks := .later }
def FilesOrderCardSaid : Prop := Claim7.holds Tryd.pinned (.plain (OpenSpec.ofChange filesOrderSpec)) filesOrderCard

/-- THE TIED CARD OF 'balefirelaw17.FilesPieces'. -/
def filesPiecesCard : Claim7 := { stood := { row := filesPiecesRow, standIns := [], harness := (true, "9cb37f0acde3c99ad52e256be4a8957762d29d274d5ea5d7cd57cdec8ba3b3b8"), looks := false }, kinds := [], alts := [], laidByText := true, laidKinds := [.data, .pinned], laidTests := true, laidLooks := .later }
def FilesPiecesCardSaid : Prop := Claim7.holds Tryd.pinned (.plain (OpenSpec.ofChange filesPiecesSpec)) filesPiecesCard

/-- THE TIED CARD OF 'balefirelaw17.FilesVoid'. -/
def filesVoidCard : Claim7 := { stood := { row := filesVoidRow, standIns := [], harness := (true, "9cb37f0acde3c99ad52e256be4a8957762d29d274d5ea5d7cd57cdec8ba3b3b8"), looks := false }, kinds := [], alts := [], laidByText := true, laidKinds := [.data, .pinned], laidTests := true, laidLooks := .later }
def FilesVoidCardSaid : Prop := Claim7.holds Tryd.pinned (.plain (OpenSpec.ofChange filesVoidSpec)) filesVoidCard

/-- THE TIED CARD OF 'balefirelaw17.FilesIdle'. -/
def filesIdleCard : Claim7 := { stood := { row := filesIdleRow, standIns := [], harness := (true, "9cb37f0acde3c99ad52e256be4a8957762d29d274d5ea5d7cd57cdec8ba3b3b8"), looks := false }, kinds := [], alts := [], laidByText := true, laidKinds := [.data, .pinned], laidTests := true, laidLooks := .later }
def FilesIdleCardSaid : Prop := Claim7.holds Tryd.pinned (.plain (OpenSpec.ofChange filesIdleSpec)) filesIdleCard

/-- THE TIED CARD OF 'balefirelaw17.FilesThere'. -/
def filesThereCard : Claim7 := { stood := { row := filesThereRow, standIns := [], harness := (true, "9cb37f0acde3c99ad52e256be4a8957762d29d274d5ea5d7cd57cdec8ba3b3b8"), looks := false }, kinds := [], alts := [], laidByText := true, laidKinds := [.data, .pinned], laidTests := true, laidLooks := .later }
def FilesThereCardSaid : Prop := Claim7.holds Tryd.pinned (.plain (OpenSpec.ofChange filesThereSpec)) filesThereCard

/-- THE TIED CARD OF 'balefirelaw17.FilesGone'. -/
def filesGoneCard : Claim7 := { stood := { row := filesGoneRow, standIns := [], harness := (true, "9cb37f0acde3c99ad52e256be4a8957762d29d274d5ea5d7cd57cdec8ba3b3b8"), looks := false }, kinds := [], alts := [], laidByText := true, laidKinds := [.data, .pinned], laidTests := true, laidLooks := .later }
def FilesGoneCardSaid : Prop := Claim7.holds Tryd.pinned (.plain (OpenSpec.ofChange filesGoneSpec)) filesGoneCard

/-- THE TIED CARD OF 'balefirelaw17.FilesMost'. -/
def filesMostCard : Claim7 := { stood := { row := filesMostRow, standIns := [], harness := (true, "9cb37f0acde3c99ad52e256be4a8957762d29d274d5ea5d7cd57cdec8ba3b3b8"), looks := false }, kinds := [], alts := [], laidByText := true, laidKinds := [.data, .pinned], laidTests := true, laidLooks := .later }
def FilesMostCardSaid : Prop := Claim7.holds Tryd.pinned (.plain (OpenSpec.ofChange filesMostSpec)) filesMostCard

/-- THE TIED CARD OF 'balefirelaw18.JournalsLook'. -/
def journalsLookCard : Claim7 := { stood := { row := journalsLookRow, standIns := [], harness := (true, "9cb37f0acde3c99ad52e256be4a8957762d29d274d5ea5d7cd57cdec8ba3b3b8"), looks := false }, kinds := [], alts := [], laidByText := true, laidKinds := [.data, .pinned], laidTests := true, laidLooks := .later }
def JournalsLookCardSaid : Prop := Claim7.holds Tryd.pinned (.plain (OpenSpec.ofChange journalsLookSpec)) journalsLookCard

/-- THE SECOND FORM's CARD OF 'balefirelaw18.JournalsRoom'. -/
def journalsRoomUptoCard : Claim7 := { stood := { row := journalsRoomUptoRow, standIns := [], harness := (true, "9cb37f0acde3c99ad52e256be4a8957762d29d274d5ea5d7cd57cdec8ba3b3b8"), looks := false }, kinds := [], alts := [], laidByText := true, laidKinds := [.data, .pinned], laidTests := true, laidLooks := .later }
def JournalsRoomUptoCardSaid : Prop := Claim7.holds Tryd.pinned (.plain (OpenSpec.upto journalsRoomSpec)) journalsRoomUptoCard

/-- THE SECOND FORM's CARD OF 'balefirelaw18.JournalsMidst'. -/
def journalsMidstUptoCard : Claim7 := { stood := { row := journalsMidstUptoRow, standIns := [], harness := (true, "9cb37f0acde3c99ad52e256be4a8957762d29d274d5ea5d7cd57cdec8ba3b3b8"), looks := false }, kinds := [], alts := [], laidByText := true, laidKinds := [.data, .pinned], laidTests := true, laidLooks := .later }
def JournalsMidstUptoCardSaid : Prop := Claim7.holds Tryd.pinned (.plain (OpenSpec.upto journalsMidstSpec)) journalsMidstUptoCard

/-- THE SECOND FORM's CARD OF 'balefirelaw18.JournalsGraft'. -/
def journalsGraftUptoCard : Claim7 := { stood := { row := journalsGraftUptoRow, standIns := [], harness := (true, "9cb37f0acde3c99ad52e256be4a8957762d29d274d5ea5d7cd57cdec8ba3b3b8"), looks := false }, kinds := [], alts := [], laidByText := true, laidKinds := [.data, .pinned], laidTests := true, laidLooks := .later }
def JournalsGraftUptoCardSaid : Prop := Claim7.holds Tryd.pinned (.plain (OpenSpec.upto journalsGraftSpec)) journalsGraftUptoCard

/-- THE SECOND FORM's CARD OF 'balefirelaw18.JournalsLeft'. -/
def journalsLeftUptoCard : Claim7 := { stood := { row := journalsLeftUptoRow, standIns := [], harness := (true, "9cb37f0acde3c99ad52e256be4a8957762d29d274d5ea5d7cd57cdec8ba3b3b8"), looks := false }, kinds := [], alts := [], laidByText := true, laidKinds := [.data, .pinned], laidTests := true, laidLooks := .later }
def JournalsLeftUptoCardSaid : Prop := Claim7.holds Tryd.pinned (.plain (OpenSpec.upto journalsLeftSpec)) journalsLeftUptoCard

/-- THE SECOND FORM's CARD OF 'balefirelaw17.FilesOrder'. -/
def filesOrderUptoCard : Claim7 := { stood := { row := filesOrderUptoRow, standIns := [], harness := (true, "9cb37f0acde3c99ad52e256be4a8957762d29d274d5ea5d7cd57cdec8ba3b3b8"), looks := false }, kinds := [], alts := [], laidByText := true, laidKinds := [.data, .pinned], laidTests := true, laidLooks := .later }
def FilesOrderUptoCardSaid : Prop := Claim7.holds Tryd.pinned (.plain (OpenSpec.upto filesOrderSpec)) filesOrderUptoCard

/-- THE SECOND FORM's CARD OF 'balefirelaw17.FilesPieces'. -/
def filesPiecesUptoCard : Claim7 := { stood := { row := filesPiecesUptoRow, standIns := [], harness := (true, "9cb37f0acde3c99ad52e256be4a8957762d29d274d5ea5d7cd57cdec8ba3b3b8"), looks := false }, kinds := [], alts := [], laidByText := true, laidKinds := [.data, .pinned], laidTests := true, laidLooks := .later }
def FilesPiecesUptoCardSaid : Prop := Claim7.holds Tryd.pinned (.plain (OpenSpec.upto filesPiecesSpec)) filesPiecesUptoCard

/-- THE SECOND FORM's CARD OF 'balefirelaw17.FilesVoid'. -/
def filesVoidUptoCard : Claim7 := { stood := { row := filesVoidUptoRow, standIns := [], harness := (true, "9cb37f0acde3c99ad52e256be4a8957762d29d274d5ea5d7cd57cdec8ba3b3b8"), looks := false }, kinds := [], alts := [], laidByText := true, laidKinds := [.data, .pinned], laidTests := true, laidLooks := .later }
def FilesVoidUptoCardSaid : Prop := Claim7.holds Tryd.pinned (.plain (OpenSpec.upto filesVoidSpec)) filesVoidUptoCard

/-- THE SECOND FORM's CARD OF 'balefirelaw17.FilesIdle'. -/
def filesIdleUptoCard : Claim7 := { stood := { row := filesIdleUptoRow, standIns := [], harness := (true, "9cb37f0acde3c99ad52e256be4a8957762d29d274d5ea5d7cd57cdec8ba3b3b8"), looks := false }, kinds := [], alts := [], laidByText := true, laidKinds := [.data, .pinned], laidTests := true, laidLooks := .later }
def FilesIdleUptoCardSaid : Prop := Claim7.holds Tryd.pinned (.plain (OpenSpec.upto filesIdleSpec)) filesIdleUptoCard

/-- THE SECOND FORM's CARD OF 'balefirelaw17.FilesThere'. -/
def filesThereUptoCard : Claim7 := { stood := { row := filesThereUptoRow, standIns := [], harness := (true, "9cb37f0acde3c99ad52e256be4a8957762d29d274d5ea5d7cd57cdec8ba3b3b8"), looks := false }, kinds := [], alts := [], laidByText := true, laidKinds := [.data, .pinned], laidTests := true, laidLooks := .later }
def FilesThereUptoCardSaid : Prop := Claim7.holds Tryd.pinned (.plain (OpenSpec.upto filesThereSpec)) filesThereUptoCard

/-- THE SECOND FORM's CARD OF 'balefirelaw17.FilesGone'. -/
def filesGoneUptoCard : Claim7 := { stood := { row := filesGoneUptoRow, standIns := [], harness := (true, "9cb37f0acde3c99ad52e256be4a8957762d29d274d5ea5d7cd57cdec8ba3b3b8"), looks := false }, kinds := [], alts := [], laidByText := true, laidKinds := [.data, .pinned], laidTests := true, laidLooks := .later }
def FilesGoneUptoCardSaid : Prop := Claim7.holds Tryd.pinned (.plain (OpenSpec.upto filesGoneSpec)) filesGoneUptoCard

/-- THE SECOND FORM's CARD OF 'balefirelaw17.FilesMost'. -/
def filesMostUptoCard : Claim7 := { stood := { row := filesMostUptoRow, standIns := [], harness := (true, "9cb37f0acde3c99ad52e256be4a8957762d29d274d5ea5d7cd57cdec8ba3b3b8"), looks := false }, kinds := [], alts := [], laidByText := true, laidKinds := [.data, .pinned], laidTests := true, laidLooks := .later }
def FilesMostUptoCardSaid : Prop := Claim7.holds Tryd.pinned (.plain (OpenSpec.upto filesMostSpec)) filesMostUptoCard

/-- THE SECOND FORM's CARD OF 'balefirelaw18.JournalsLook'. -/
def journalsLookUptoCard : Claim7 := { stood := { row := journalsLookUptoRow, standIns := [], harness := (true, "9cb37f0acde3c99ad52e256be4a8957762d29d274d5ea5d7cd57cdec8ba3b3b8"), looks := false }, kinds := [], alts := [], laidByText := true, laidKinds := [.data, .pinned], laidTests := true, laidLooks := .later }
def JournalsLookUptoCardSaid : Prop := Claim7.holds Tryd.pinned (.plain (OpenSpec.upto journalsLookSpec)) journalsLookUptoCard
end Rows
end Go.Proofs.YtgibdecgmageeaaDoor
