/-
  DERIVED. GIVEN WITH THE SEED: THE CARDS: each row of YtilenknaajikpaaGreatDoorRows.lean that lists a variable, with what it lists TIED to the program's text (the seventh form; the later family's looks); each row that meets fmt, with fmt's text TOLD by the authors' own Lean function (tested against real Go, not proved from fmt's source: count such statements apart). THE CARD IS WHAT COUNTS. Prove the row's statement (the work); the ties are given (YtilenknaajikpaaGreatDoorTie.lean); close each card by the builder's one call (the guide's Derived/Test/ToyasCard.lean, 'card_holds'). Laid BY PROGRAM, IN A SANDBOX (cutbox-door.mjs). By AI agents, Wed Nov 11 2026. No macro, syntax, notation, axiom, sorry.
-/
import Derived.Test.YtilenknaajikpaaGreatDoorRows
import GoSem.ClaimSeven
namespace Go.Proofs.YtilenknaajikpaaGreatDoor
namespace Rows

/-- THE TIED CARD OF 'laws.FnUseParts'. -/
def fnUsePartsCard : Claim7 := { stood := { row := fnUsePartsRow, standIns := [], harness := (true, "540991eb48d7b231a78f7db9d4b295004e58df75891dbe8c032444849b7cc72c"), looks := true }, kinds := [], alts := [], laidByText := true, laidKinds := [.data, .data, .data, .data, .sentinel, .sentinel, .pinned], laidTests := true, laidLooks := .later }
def FnUsePartsCardSaid : Prop := Claim7.holds Tryz.pinned (.plain (OpenSpec.ofChange fnUsePartsSpec)) fnUsePartsCard

/-- THE SECOND FORM's CARD OF 'laws.FnUseParts'. -/
def fnUsePartsUptoCard : Claim7 := { stood := { row := fnUsePartsUptoRow, standIns := [], harness := (true, "540991eb48d7b231a78f7db9d4b295004e58df75891dbe8c032444849b7cc72c"), looks := true }, kinds := [], alts := [], laidByText := true, laidKinds := [.data, .data, .data, .data, .sentinel, .sentinel, .pinned], laidTests := true, laidLooks := .later }
def FnUsePartsUptoCardSaid : Prop := Claim7.holds Tryz.pinned (.plain (OpenSpec.upto fnUsePartsSpec)) fnUsePartsUptoCard
end Rows
end Go.Proofs.YtilenknaajikpaaGreatDoor
