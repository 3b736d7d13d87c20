/-
  DERIVED. GIVEN WITH THE SEED: THE CARDS: each row of YtidlohfkfdeaiaaDoorRows.lean that lists a variable, with what it lists TIED to the program's text (the seventh form; the later family's looks); each row that meets fmt, with fmt's text TOLD by the authors' own Lean function (tested against real Go, not proved from fmt's source: count such statements apart). THE CARD IS WHAT COUNTS. Prove the row's statement (the work); the ties are given (YtidlohfkfdeaiaaDoorTie.lean); close each card by the builder's one call (the guide's Derived/Test/ToyasCard.lean, 'card_holds'). Laid BY PROGRAM, IN A SANDBOX (cutbox-door.mjs). By AI agents, Wed Nov 11 2026. No macro, syntax, notation, axiom, sorry.
-/
import Derived.Test.YtidlohfkfdeaiaaDoorRows
import GoSem.ClaimSeven
namespace Go.Proofs.YtidlohfkfdeaiaaDoor
namespace Rows

/-- THE TIED CARD OF 'custodylaw27.KeysAllowed'. -/
def keysAllowedCard : Claim7 := { stood := { row := keysAllowedRow, standIns := [], harness := (true, "dd3f924b01a442738736f5e9410f70901b5975d4ff7bf1deca97830e9c69989f"), looks := true }, kinds := [], alts := [], laidByText := true, laidKinds := [.data], laidTests := true, laidLooks := .later }
def KeysAllowedCardSaid : Prop := Claim7.holds Tryd.pinned (.plain (OpenSpec.ofChange keysAllowedSpec)) keysAllowedCard

/-- THE TIED CARD OF 'custodylaw27.KeysBoxes'. -/
def keysBoxesCard : Claim7 := { stood := { row := keysBoxesRow, standIns := [], harness := (true, "dd3f924b01a442738736f5e9410f70901b5975d4ff7bf1deca97830e9c69989f"), looks := true }, kinds := [], alts := [], laidByText := true, laidKinds := [.data, .data], laidTests := true, laidLooks := .later }
def KeysBoxesCardSaid : Prop := Claim7.holds Tryd.pinned (.plain (OpenSpec.ofChange keysBoxesSpec)) keysBoxesCard

/-- THE TIED CARD OF 'custodylaw27.KeysUnbox'. -/
def keysUnboxCard : Claim7 := { stood := { row := keysUnboxRow, standIns := [], harness := (true, "dd3f924b01a442738736f5e9410f70901b5975d4ff7bf1deca97830e9c69989f"), looks := true }, kinds := [], alts := [], laidByText := true, laidKinds := [.data, .data], laidTests := true, laidLooks := .later }
def KeysUnboxCardSaid : Prop := Claim7.holds Tryd.pinned (.plain (OpenSpec.ofChange keysUnboxSpec)) keysUnboxCard

/-- THE TIED CARD OF 'custodylaw27.KeysDecode'. -/
def keysDecodeCard : Claim7 := { stood := { row := keysDecodeRow, standIns := [], harness := (true, "dd3f924b01a442738736f5e9410f70901b5975d4ff7bf1deca97830e9c69989f"), looks := true }, kinds := [], alts := [], laidByText := true, laidKinds := [.data], laidTests := true, laidLooks := .later }
def KeysDecodeCardSaid : Prop := Claim7.holds Tryd.pinned (.plain (OpenSpec.ofChange keysDecodeSpec)) keysDecodeCard

/-- THE TIED CARD OF 'custodylaw27.KeysNarrow'. -/
def keysNarrowCard : Claim7 := { stood := { row := keysNarrowRow, standIns := [], harness := (true, "dd3f924b01a442738736f5e9410f70901b5975d4ff7bf1deca97830e9c69989f"), looks := true }, kinds := [], alts := [], laidByText := true, laidKinds := [.data], laidTests := true, laidLooks := .later }
def KeysNarrowCardSaid : Prop := Claim7.holds Tryd.pinned (.plain (OpenSpec.ofChange keysNarrowSpec)) keysNarrowCard

/-- THE TIED CARD OF 'custodylaw27.KeysMatchSpec'. -/
def keysMatchSpecCard : Claim7 := { stood := { row := keysMatchSpecRow, standIns := [], harness := (true, "dd3f924b01a442738736f5e9410f70901b5975d4ff7bf1deca97830e9c69989f"), looks := true }, kinds := [], alts := [], laidByText := true, laidKinds := [.data], laidTests := true, laidLooks := .later }
def KeysMatchSpecCardSaid : Prop := Claim7.holds Tryd.pinned (.plain (OpenSpec.ofChange keysMatchSpecSpec)) keysMatchSpecCard

/-- THE TIED CARD OF 'custodylaw27.KeysIdsOnce'. -/
def keysIdsOnceCard : Claim7 := { stood := { row := keysIdsOnceRow, standIns := [], harness := (true, "dd3f924b01a442738736f5e9410f70901b5975d4ff7bf1deca97830e9c69989f"), looks := true }, kinds := [], alts := [], laidByText := true, laidKinds := [.data], laidTests := true, laidLooks := .later }
def KeysIdsOnceCardSaid : Prop := Claim7.holds Tryd.pinned (.plain (OpenSpec.ofChange keysIdsOnceSpec)) keysIdsOnceCard

/-- THE SECOND FORM's CARD OF 'custodylaw27.KeysAllowed'. -/
def keysAllowedUptoCard : Claim7 := { stood := { row := keysAllowedUptoRow, standIns := [], harness := (true, "dd3f924b01a442738736f5e9410f70901b5975d4ff7bf1deca97830e9c69989f"), looks := true }, kinds := [], alts := [], laidByText := true, laidKinds := [.data], laidTests := true, laidLooks := .later }
def KeysAllowedUptoCardSaid : Prop := Claim7.holds Tryd.pinned (.plain (OpenSpec.upto keysAllowedSpec)) keysAllowedUptoCard

/-- THE SECOND FORM's CARD OF 'custodylaw27.KeysBoxes'. -/
def keysBoxesUptoCard : Claim7 := { stood := { row := keysBoxesUptoRow, standIns := [], harness := (true, "dd3f924b01a442738736f5e9410f70901b5975d4ff7bf1deca97830e9c69989f"), looks := true }, kinds := [], alts := [], laidByText := true, laidKinds := [.data, .data], laidTests := true, laidLooks := .later }
def KeysBoxesUptoCardSaid : Prop := Claim7.holds Tryd.pinned (.plain (OpenSpec.upto keysBoxesSpec)) keysBoxesUptoCard

/-- THE SECOND FORM's CARD OF 'custodylaw27.KeysUnbox'. -/
def keysUnboxUptoCard : Claim7 := { stood := { row := keysUnboxUptoRow, standIns := [], harness := (true, "dd3f924b01a442738736f5e9410f70901b5975d4ff7bf1deca97830e9c69989f"), looks := true }, kinds := [], alts := [], laidByText := true, laidKinds := [.data, .data], laidTests := true, laidLooks := .later }
def KeysUnboxUptoCardSaid : Prop := Claim7.holds Tryd.pinned (.plain (OpenSpec.upto keysUnboxSpec)) keysUnboxUptoCard

/-- THE SECOND FORM's CARD OF 'custodylaw27.KeysDecode'. -/
def keysDecodeUptoCard : Claim7 := { stood := { row := keysDecodeUptoRow, standIns := [], harness := (true, "dd3f924b01a442738736f5e9410f70901b5975d4ff7bf1deca97830e9c69989f"), looks := true }, kinds := [], alts := [], laidByText := true, laidKinds := [.data], laidTests := true, laidLooks := .later }
def KeysDecodeUptoCardSaid : Prop := Claim7.holds Tryd.pinned (.plain (OpenSpec.upto keysDecodeSpec)) keysDecodeUptoCard

/-- THE SECOND FORM's CARD OF 'custodylaw27.KeysNarrow'. -/
def keysNarrowUptoCard : Claim7 := { stood := { row := keysNarrowUptoRow, standIns := [], harness := (true, "dd3f924b01a442738736f5e9410f70901b5975d4ff7bf1deca97830e9c69989f"), looks := true }, kinds := [], alts := [], laidByText := true, laidKinds := [.data], laidTests := true, laidLooks := .later }
def KeysNarrowUptoCardSaid : Prop := Claim7.holds Tryd.pinned (.plain (OpenSpec.upto keysNarrowSpec)) keysNarrowUptoCard

/-- THE SECOND FORM's CARD OF 'custodylaw27.KeysMatchSpec'. -/
def keysMatchSpecUptoCard : Claim7 := { stood := { row := keysMatchSpecUptoRow, standIns := [], harness := (true, "dd3f924b01a442738736f5e9410f70901b5975d4ff7bf1deca97830e9c69989f"), looks := true }, kinds := [], alts := [], laidByText := true, laidKinds := [.data], laidTests := true, laidLooks := .later }
def KeysMatchSpecUptoCardSaid : Prop := Claim7.holds Tryd.pinned (.plain (OpenSpec.upto keysMatchSpecSpec)) keysMatchSpecUptoCard

/-- THE SECOND FORM's CARD OF 'custodylaw27.KeysIdsOnce'. -/
def keysIdsOnceUptoCard : Claim7 := { stood := { row := keysIdsOnceUptoRow, standIns := [], harness := (true, "dd3f924b01a442738736f5e9410f70901b5975d4ff7bf1deca97830e9c69989f"), looks := true }, kinds := [], alts := [], laidByText := true, laidKinds := [.data], laidTests := true, laidLooks := .later }
def KeysIdsOnceUptoCardSaid : Prop := Claim7.holds Tryd.pinned (.plain (OpenSpec.upto keysIdsOnceSpec)) keysIdsOnceUptoCard
end Rows
end Go.Proofs.YtidlohfkfdeaiaaDoor
