/-
  DERIVED. GIVEN WITH THE SEED: THE CARDS: each row of YtdjkdcokjoiokaaGreatDoorRows.lean that lists a variable, with what it lists TIED to the program's text (the seventh form; the later family's looks); each row that meets fmt, with fmt's text TOLD by the authors' own Lean function (tested against real Go, not proved from fmt's source: count such statements apart). THE CARD IS WHAT COUNTS. Prove the row's statement (the work); the ties are given (YtdjkdcokjoiokaaGreatDoorTie.lean); close each card by the builder's one call (the guide's Derived/Test/ToyasCard.lean, 'card_holds'). Laid BY PROGRAM, IN A SANDBOX (cutbox-door.mjs). By AI agents, Wed Nov 11 2026. No macro, syntax, notation, axiom, sorry.
-/
import Derived.Test.YtdjkdcokjoiokaaGreatDoorRows
import GoSem.ClaimSeven
namespace Go.Proofs.YtdjkdcokjoiokaaGreatDoor
namespace Rows

/-- THE TIED CARD OF 'laws.FnExactPoolForget'. -/
def fnExactPoolForgetCard : Claim7 := { stood := { row := fnExactPoolForgetRow, standIns := [], harness := (true, "9e55266720f0307eba4dad16c2714600fad779fc7b1280a4826d96d4a6371e59"), looks := true }, kinds := [], alts := [], laidByText := true, laidKinds := [.data, .data, .data, .data, .sentinel, .sentinel, .pinned], laidTests := true, laidLooks := .later }
def FnExactPoolForgetCardSaid : Prop := Claim7.holds Tryz.pinned (.plain (OpenSpec.ofChange fnExactPoolForgetSpec)) fnExactPoolForgetCard

/-- THE TIED CARD OF 'laws.FnExactFilesBytes'. -/
def fnExactFilesBytesCard : Claim7 := { stood := { row := fnExactFilesBytesRow, standIns := [], harness := (true, "9e55266720f0307eba4dad16c2714600fad779fc7b1280a4826d96d4a6371e59"), looks := true }, kinds := [], alts := [], laidByText := true, laidKinds := [.data, .data, .data, .data, .sentinel, .sentinel, .pinned], laidTests := true, laidLooks := .later }
def FnExactFilesBytesCardSaid : Prop := Claim7.holds Tryz.pinned (.plain (OpenSpec.ofChange fnExactFilesBytesSpec)) fnExactFilesBytesCard

/-- THE TIED CARD OF 'laws.FnExactFilesUse'. -/
def fnExactFilesUseCard : Claim7 := { stood := { row := fnExactFilesUseRow, standIns := [], harness := (true, "9e55266720f0307eba4dad16c2714600fad779fc7b1280a4826d96d4a6371e59"), looks := true }, kinds := [], alts := [], laidByText := true, laidKinds := [.data, .data, .data, .data, .sentinel, .sentinel, .pinned], laidTests := true, laidLooks := .later }
def FnExactFilesUseCardSaid : Prop := Claim7.holds Tryz.pinned (.plain (OpenSpec.ofChange fnExactFilesUseSpec)) fnExactFilesUseCard

/-- THE TIED CARD OF 'laws.FnExactFilesTwins'. -/
def fnExactFilesTwinsCard : Claim7 := { stood := { row := fnExactFilesTwinsRow, standIns := [], harness := (true, "9e55266720f0307eba4dad16c2714600fad779fc7b1280a4826d96d4a6371e59"), looks := true }, kinds := [], alts := [], laidByText := true, laidKinds := [.data, .data, .data, .data, .sentinel, .sentinel, .pinned], laidTests := true, laidLooks := .later }
def FnExactFilesTwinsCardSaid : Prop := Claim7.holds Tryz.pinned (.plain (OpenSpec.ofChange fnExactFilesTwinsSpec)) fnExactFilesTwinsCard

/-- THE TIED CARD OF 'laws.FnExactFilesSeek'. -/
def fnExactFilesSeekCard : Claim7 := { stood := { row := fnExactFilesSeekRow, standIns := [], harness := (true, "9e55266720f0307eba4dad16c2714600fad779fc7b1280a4826d96d4a6371e59"), looks := true }, kinds := [], alts := [], laidByText := true, laidKinds := [.data, .data, .data, .data, .sentinel, .sentinel, .pinned], laidTests := true, laidLooks := .later }
def FnExactFilesSeekCardSaid : Prop := Claim7.holds Tryz.pinned (.plain (OpenSpec.ofChange fnExactFilesSeekSpec)) fnExactFilesSeekCard

/-- THE TIED CARD OF 'laws.FnExactMarkAhead'. -/
def fnExactMarkAheadCard : Claim7 := { stood := { row := fnExactMarkAheadRow, standIns := [], harness := (true, "9e55266720f0307eba4dad16c2714600fad779fc7b1280a4826d96d4a6371e59"), looks := true }, kinds := [], alts := [], laidByText := true, laidKinds := [.data, .data, .data, .data, .sentinel, .sentinel, .pinned], laidTests := true, laidLooks := .later }
def FnExactMarkAheadCardSaid : Prop := Claim7.holds Tryz.pinned (.plain (OpenSpec.ofChange fnExactMarkAheadSpec)) fnExactMarkAheadCard

/-- THE SECOND FORM's CARD OF 'laws.FnExactPoolForget'. -/
def fnExactPoolForgetUptoCard : Claim7 := { stood := { row := fnExactPoolForgetUptoRow, standIns := [], harness := (true, "9e55266720f0307eba4dad16c2714600fad779fc7b1280a4826d96d4a6371e59"), looks := true }, kinds := [], alts := [], laidByText := true, laidKinds := [.data, .data, .data, .data, .sentinel, .sentinel, .pinned], laidTests := true, laidLooks := .later }
def FnExactPoolForgetUptoCardSaid : Prop := Claim7.holds Tryz.pinned (.plain (OpenSpec.upto fnExactPoolForgetSpec)) fnExactPoolForgetUptoCard

/-- THE SECOND FORM's CARD OF 'laws.FnExactFilesBytes'. -/
def fnExactFilesBytesUptoCard : Claim7 := { stood := { row := fnExactFilesBytesUptoRow, standIns := [], harness := (true, "9e55266720f0307eba4dad16c2714600fad779fc7b1280a4826d96d4a6371e59"), looks := true }, kinds := [], alts := [], laidByText := true, laidKinds := [.data, .data, .data, .data, .sentinel, .sentinel, .pinned], laidTests := true, laidLooks := .later }
def FnExactFilesBytesUptoCardSaid : Prop := Claim7.holds Tryz.pinned (.plain (OpenSpec.upto fnExactFilesBytesSpec)) fnExactFilesBytesUptoCard

/-- THE SECOND FORM's CARD OF 'laws.FnExactFilesUse'. -/
def fnExactFilesUseUptoCard : Claim7 := { stood := { row := fnExactFilesUseUptoRow, standIns := [], harness := (true, "9e55266720f0307eba4dad16c2714600fad779fc7b1280a4826d96d4a6371e59"), looks := true }, kinds := [], alts := [], laidByText := true, laidKinds := [.data, .data, .data, .data, .sentinel, .sentinel, .pinned], laidTests := true, laidLooks := .later }
def FnExactFilesUseUptoCardSaid : Prop := Claim7.holds Tryz.pinned (.plain (OpenSpec.upto fnExactFilesUseSpec)) fnExactFilesUseUptoCard

/-- THE SECOND FORM's CARD OF 'laws.FnExactFilesTwins'. -/
def fnExactFilesTwinsUptoCard : Claim7 := { stood := { row := fnExactFilesTwinsUptoRow, standIns := [], harness := (true, "9e55266720f0307eba4dad16c2714600fad779fc7b1280a4826d96d4a6371e59"), looks := true }, kinds := [], alts := [], laidByText := true, laidKinds := [.data, .data, .data, .data, .sentinel, .sentinel, .pinned], laidTests := true, laidLooks := .later }
def FnExactFilesTwinsUptoCardSaid : Prop := Claim7.holds Tryz.pinned (.plain (OpenSpec.upto fnExactFilesTwinsSpec)) fnExactFilesTwinsUptoCard

/-- THE SECOND FORM's CARD OF 'laws.FnExactFilesSeek'. -/
def fnExactFilesSeekUptoCard : Claim7 := { stood := { row := fnExactFilesSeekUptoRow, standIns := [], harness := (true, "9e55266720f0307eba4dad16c2714600fad779fc7b1280a4826d96d4a6371e59"), looks := true }, kinds := [], alts := [], laidByText := true, laidKinds := [.data, .data, .data, .data, .sentinel, .sentinel, .pinned], laidTests := true, laidLooks := .later }
def FnExactFilesSeekUptoCardSaid : Prop := Claim7.holds Tryz.pinned (.plain (OpenSpec.upto fnExactFilesSeekSpec)) fnExactFilesSeekUptoCard

/-- THE SECOND FORM's CARD OF 'laws.FnExactMarkAhead'. -/
def fnExactMarkAheadUptoCard : Claim7 := { stood := { row := fnExactMarkAheadUptoRow, standIns := [], harness := (true, "9e55266720f0307eba4dad16c2714600fad779fc7b1280a4826d96d4a6371e59"), looks := true }, kinds := [], alts := [], laidByText := true, laidKinds := [.data, .data, .data, .data, .sentinel, .sentinel, .pinned], laidTests := true, laidLooks := .later }
def FnExactMarkAheadUptoCardSaid : Prop := Claim7.holds Tryz.pinned (.plain (OpenSpec.upto fnExactMarkAheadSpec)) fnExactMarkAheadUptoCard
end Rows
end Go.Proofs.YtdjkdcokjoiokaaGreatDoor
