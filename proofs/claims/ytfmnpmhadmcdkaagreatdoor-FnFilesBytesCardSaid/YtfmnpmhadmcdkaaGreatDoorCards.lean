/-
  DERIVED. GIVEN WITH THE SEED: THE CARDS: each row of YtfmnpmhadmcdkaaGreatDoorRows.lean that lists a variable, with what it lists TIED to the program's text (the seventh form; the later family's looks); each row that meets fmt, with fmt's text TOLD by the authors' own Lean function (tested against real Go, not proved from fmt's source: count such statements apart). THE CARD IS WHAT COUNTS. Prove the row's statement (the work); the ties are given (YtfmnpmhadmcdkaaGreatDoorTie.lean); close each card by the builder's one call (the guide's Derived/Test/ToyasCard.lean, 'card_holds'). Laid BY PROGRAM, IN A SANDBOX (cutbox-door.mjs). By AI agents, Wed Nov 11 2026. No macro, syntax, notation, axiom, sorry.
-/
import Derived.Test.YtfmnpmhadmcdkaaGreatDoorRows
import GoSem.ClaimSeven
namespace Go.Proofs.YtfmnpmhadmcdkaaGreatDoor
namespace Rows

/-- THE TIED CARD OF 'laws.FnFilesSeek'. -/
def fnFilesSeekCard : Claim7 := { stood := { row := fnFilesSeekRow, standIns := [], harness := (true, "89478b24b75c62524a8e6da098ca334358bc74bc8ffd6d45d0c80efd4cd48962"), looks := true }, kinds := [], alts := [], laidByText := true, laidKinds := [.data, .data, .data, .data, .sentinel, .sentinel, .pinned], laidTests := true, laidLooks := .later }
def FnFilesSeekCardSaid : Prop := Claim7.holds Tryz.pinned (.plain (OpenSpec.ofChange fnFilesSeekSpec)) fnFilesSeekCard

/-- THE TIED CARD OF 'laws.FnFilesBytes'. -/
def fnFilesBytesCard : Claim7 := { stood := { row := fnFilesBytesRow, standIns := [], harness := (true, "89478b24b75c62524a8e6da098ca334358bc74bc8ffd6d45d0c80efd4cd48962"), looks := true }, kinds := [], alts := [], laidByText := true, laidKinds := [.data, .data, .data, .data, .sentinel, .sentinel, .pinned], laidTests := true, laidLooks := .later }
def FnFilesBytesCardSaid : Prop := Claim7.holds Tryz.pinned (.plain (OpenSpec.ofChange fnFilesBytesSpec)) fnFilesBytesCard

/-- THE SECOND FORM's CARD OF 'laws.FnFilesSeek'. -/
def fnFilesSeekUptoCard : Claim7 := { stood := { row := fnFilesSeekUptoRow, standIns := [], harness := (true, "89478b24b75c62524a8e6da098ca334358bc74bc8ffd6d45d0c80efd4cd48962"), looks := true }, kinds := [], alts := [], laidByText := true, laidKinds := [.data, .data, .data, .data, .sentinel, .sentinel, .pinned], laidTests := true, laidLooks := .later }
def FnFilesSeekUptoCardSaid : Prop := Claim7.holds Tryz.pinned (.plain (OpenSpec.upto fnFilesSeekSpec)) fnFilesSeekUptoCard

/-- THE SECOND FORM's CARD OF 'laws.FnFilesBytes'. -/
def fnFilesBytesUptoCard : Claim7 := { stood := { row := fnFilesBytesUptoRow, standIns := [], harness := (true, "89478b24b75c62524a8e6da098ca334358bc74bc8ffd6d45d0c80efd4cd48962"), looks := true }, kinds := [], alts := [], laidByText := true, laidKinds := [.data, .data, .data, .data, .sentinel, .sentinel, .pinned], laidTests := true, laidLooks := .later }
def FnFilesBytesUptoCardSaid : Prop := Claim7.holds Tryz.pinned (.plain (OpenSpec.upto fnFilesBytesSpec)) fnFilesBytesUptoCard
end Rows
end Go.Proofs.YtfmnpmhadmcdkaaGreatDoor
