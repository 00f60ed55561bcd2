/-
  DERIVED. GIVEN WITH THE SEED: THE CARDS: each row of YtmomkioebognpaaGreatDoorRows.lean that lists a variable, with what it lists TIED to the program's text (the seventh form; the later family's looks); each row that meets fmt, with fmt's text TOLD by the authors' own Lean function (tested against real Go, not proved from fmt's source: count such statements apart). THE CARD IS WHAT COUNTS. Prove the row's statement (the work); the ties are given (YtmomkioebognpaaGreatDoorTie.lean); close each card by the builder's one call (the guide's Derived/Test/ToyasCard.lean, 'card_holds'). Laid BY PROGRAM, IN A SANDBOX (cutbox-door.mjs). By AI agents, Wed Nov 11 2026. No macro, syntax, notation, axiom, sorry.
-/
import Derived.Test.YtmomkioebognpaaGreatDoorRows
import GoSem.ClaimSeven
namespace Go.Proofs.YtmomkioebognpaaGreatDoor
namespace Rows

/-- THE TIED CARD OF 'laws.FnFilesUse'. -/
def fnFilesUseCard : Claim7 := { stood := { row := fnFilesUseRow, standIns := [], harness := (true, "61fbed501d02898b286c66dde975f8a630872a59f364e0c7b8513d1de425a27c"), looks := true }, kinds := [], alts := [], laidByText := true, laidKinds := [.data, .data, .data, .data, .sentinel, .sentinel, .pinned], laidTests := true, laidLooks := .later }
def FnFilesUseCardSaid : Prop := Claim7.holds Tryz.pinned (.plain (OpenSpec.ofChange fnFilesUseSpec)) fnFilesUseCard

/-- THE SECOND FORM's CARD OF 'laws.FnFilesUse'. -/
def fnFilesUseUptoCard : Claim7 := { stood := { row := fnFilesUseUptoRow, standIns := [], harness := (true, "61fbed501d02898b286c66dde975f8a630872a59f364e0c7b8513d1de425a27c"), looks := true }, kinds := [], alts := [], laidByText := true, laidKinds := [.data, .data, .data, .data, .sentinel, .sentinel, .pinned], laidTests := true, laidLooks := .later }
def FnFilesUseUptoCardSaid : Prop := Claim7.holds Tryz.pinned (.plain (OpenSpec.upto fnFilesUseSpec)) fnFilesUseUptoCard
end Rows
end Go.Proofs.YtmomkioebognpaaGreatDoor
