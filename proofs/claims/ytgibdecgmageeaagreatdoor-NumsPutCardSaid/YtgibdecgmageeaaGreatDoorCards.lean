/-
  DERIVED. GIVEN WITH THE SEED: THE CARDS: each row of YtgibdecgmageeaaGreatDoorRows.lean that lists a variable, with what it lists TIED to the program's text (the seventh form; the later family's looks); each row that meets fmt, with fmt's text TOLD by the authors' own Lean function (tested against real Go, not proved from fmt's source: count such statements apart). THE CARD IS WHAT COUNTS. Prove the row's statement (the work); the ties are given (YtgibdecgmageeaaGreatDoorTie.lean); close each card by the builder's one call (the guide's Derived/Test/ToyasCard.lean, 'card_holds'). Laid BY PROGRAM, IN A SANDBOX (cutbox-door.mjs). By AI agents, Wed Nov 11 2026. No macro, syntax, notation, axiom, sorry.
-/
import Derived.Test.YtgibdecgmageeaaGreatDoorRows
import GoSem.ClaimSeven
namespace Go.Proofs.YtgibdecgmageeaaGreatDoor
namespace Rows

/-- THE TIED CARD OF 'balefirelaw01.NumsGet'. -/
def numsGetCard : Claim7 := { stood := { row := numsGetRow, standIns := [], harness := (true, "df63327eb590c7558c07e1277b9ddc6ff2fac26f8efaf938666ca540c929930c"), looks := false }, kinds := [], alts := [], laidByText := true, laidKinds := [.data, .data, .data], laidTests := true, laidLooks := .later }
def NumsGetCardSaid : Prop := Claim7.holds Tryz.pinned (.plain (OpenSpec.ofChange numsGetSpec)) numsGetCard

/-- THE TIED CARD OF 'balefirelaw01.NumsPut'. -/
def numsPutCard : Claim7 := { stood := { row := numsPutRow, standIns := [], harness := (true, "df63327eb590c7558c07e1277b9ddc6ff2fac26f8efaf938666ca540c929930c"), looks := false }, kinds := [], alts := [], laidByText := true, laidKinds := [.data, .data, .data], laidTests := true, laidLooks := .later }
def NumsPutCardSaid : Prop := Claim7.holds Tryz.pinned (.plain (OpenSpec.ofChange numsPutSpec)) numsPutCard

/-- THE TIED CARD OF 'balefirelaw17.FilesDone'. -/
def filesDoneCard : Claim7 := { stood := { row := filesDoneRow, standIns := [], harness := (true, "df63327eb590c7558c07e1277b9ddc6ff2fac26f8efaf938666ca540c929930c"), looks := false }, kinds := [], alts := [], laidByText := true, laidKinds := [.data, .data, .data, .data, .pinned], laidTests := true, laidLooks := .later }
def FilesDoneCardSaid : Prop := Claim7.holds Tryz.pinned (.plain (OpenSpec.ofChange filesDoneSpec)) filesDoneCard

/-- THE TIED CARD OF 'balefirelaw18.JournalsDone'. -/
def journalsDoneCard : Claim7 := { stood := { row := journalsDoneRow, standIns := [], harness := (true, "df63327eb590c7558c07e1277b9ddc6ff2fac26f8efaf938666ca540c929930c"), looks := false }, kinds := [], alts := [], laidByText := true, laidKinds := [.data, .data, .data, .data, .pinned], laidTests := true, laidLooks := .later }
def JournalsDoneCardSaid : Prop := Claim7.holds Tryz.pinned (.plain (OpenSpec.ofChange journalsDoneSpec)) journalsDoneCard

/-- THE SECOND FORM's CARD OF 'balefirelaw01.NumsGet'. -/
def numsGetUptoCard : Claim7 := { stood := { row := numsGetUptoRow, standIns := [], harness := (true, "df63327eb590c7558c07e1277b9ddc6ff2fac26f8efaf938666ca540c929930c"), looks := false }, kinds := [], alts := [], laidByText := true, laidKinds := [.data, .data, .data], laidTests := true, laidLooks := .later }
def NumsGetUptoCardSaid : Prop := Claim7.holds Tryz.pinned (.plain (OpenSpec.upto numsGetSpec)) numsGetUptoCard

/-- THE SECOND FORM's CARD OF 'balefirelaw01.NumsPut'. -/
def numsPutUptoCard : Claim7 := { stood := { row := numsPutUptoRow, standIns := [], harness := (true, "df63327eb590c7558c07e1277b9ddc6ff2fac26f8efaf938666ca540c929930c"), looks := false }, kinds := [], alts := [], laidByText := true, laidKinds := [.data, .data, .data], laidTests := true, laidLooks := .later }
def NumsPutUptoCardSaid : Prop := Claim7.holds Tryz.pinned (.plain (OpenSpec.upto numsPutSpec)) numsPutUptoCard

/-- THE SECOND FORM's CARD OF 'balefirelaw17.FilesDone'. -/
def filesDoneUptoCard : Claim7 := { stood := { row := filesDoneUptoRow, standIns := [], harness := (true, "df63327eb590c7558c07e1277b9ddc6ff2fac26f8efaf938666ca540c929930c"), looks := false }, kinds := [], alts := [], laidByText := true, laidKinds := [.data, .data, .data, .data, .pinned], laidTests := true, laidLooks := .later }
def FilesDoneUptoCardSaid : Prop := Claim7.holds Tryz.pinned (.plain (OpenSpec.upto filesDoneSpec)) filesDoneUptoCard

/-- THE SECOND FORM's CARD OF 'balefirelaw18.JournalsDone'. -/
def journalsDoneUptoCard : Claim7 := { stood := { row := journalsDoneUptoRow, standIns := [], harness := (true, "df63327eb590c7558c07e1277b9ddc6ff2fac26f8efaf938666ca540c929930c"), looks := false }, kinds := [], alts := [], laidByText := true, laidKinds := [.data, .data, .data, .data, .pinned], laidTests := true, laidLooks := .later }
def JournalsDoneUptoCardSaid : Prop := Claim7.holds Tryz.pinned (.plain (OpenSpec.upto journalsDoneSpec)) journalsDoneUptoCard
end Rows
end Go.Proofs.YtgibdecgmageeaaGreatDoor
