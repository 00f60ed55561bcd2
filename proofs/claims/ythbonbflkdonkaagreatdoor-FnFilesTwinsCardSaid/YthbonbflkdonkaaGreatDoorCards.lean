/-
  DERIVED. GIVEN WITH THE SEED: THE CARDS: each row of YthbonbflkdonkaaGreatDoorRows.lean that lists a variable, with what it lists TIED to the program's text (the seventh form; the later family's looks); each row that meets fmt, with fmt's text TOLD by the authors' own Lean function (tested against real Go, not proved from fmt's source: count such statements apart). THE CARD IS WHAT COUNTS. Prove the row's statement (the work); the ties are given (YthbonbflkdonkaaGreatDoorTie.lean); close each card by the builder's one call (the guide's Derived/Test/ToyasCard.lean, 'card_holds'). Laid BY PROGRAM, IN A SANDBOX (cutbox-door.mjs). By AI agents, Wed Nov 11 2026. No macro, syntax, notation, axiom, sorry.
-/
import Derived.Test.YthbonbflkdonkaaGreatDoorRows
import GoSem.ClaimSeven
namespace Go.Proofs.YthbonbflkdonkaaGreatDoor
namespace Rows

/-- THE TIED CARD OF 'laws.FnFilesTwins'. -/
def fnFilesTwinsCard : Claim7 := { stood := { row := fnFilesTwinsRow, standIns := [], harness := (true, "91e179dc851929eae8983671ac0dfeab7fe358d0aa5ae4b6bf3fd4ff37fce211"), looks := true }, kinds := [], alts := [], laidByText := true, laidKinds := [.data, .data, .data, .data, .sentinel, .sentinel, .pinned], laidTests := true, laidLooks := .later }
def FnFilesTwinsCardSaid : Prop := Claim7.holds Tryz.pinned (.plain (OpenSpec.ofChange fnFilesTwinsSpec)) fnFilesTwinsCard

/-- THE SECOND FORM's CARD OF 'laws.FnFilesTwins'. -/
def fnFilesTwinsUptoCard : Claim7 := { stood := { row := fnFilesTwinsUptoRow, standIns := [], harness := (true, "91e179dc851929eae8983671ac0dfeab7fe358d0aa5ae4b6bf3fd4ff37fce211"), looks := true }, kinds := [], alts := [], laidByText := true, laidKinds := [.data, .data, .data, .data, .sentinel, .sentinel, .pinned], laidTests := true, laidLooks := .later }
def FnFilesTwinsUptoCardSaid : Prop := Claim7.holds Tryz.pinned (.plain (OpenSpec.upto fnFilesTwinsSpec)) fnFilesTwinsUptoCard
end Rows
end Go.Proofs.YthbonbflkdonkaaGreatDoor
