/-
  DERIVED. GIVEN WITH THE SEED: THE CARDS: each row of YtbhfbbfifmnniaaDoorRows.lean that lists a variable, with what it lists TIED to the program's text (the seventh form; the later family's looks); each row that meets fmt, with fmt's text TOLD by the authors' own Lean function (tested against real Go, not proved from fmt's source: count such statements apart). THE CARD IS WHAT COUNTS. Prove the row's statement (the work); the ties are given (YtbhfbbfifmnniaaDoorTie.lean); close each card by the builder's one call (the guide's Derived/Test/ToyasCard.lean, 'card_holds'). Laid BY PROGRAM, IN A SANDBOX (cutbox-door.mjs). By AI agents, Wed Nov 11 2026. No macro, syntax, notation, axiom, sorry.
-/
import Derived.Test.YtbhfbbfifmnniaaDoorRows
import GoSem.ClaimSeven
namespace Go.Proofs.YtbhfbbfifmnniaaDoor
namespace Rows

/-- THE TIED CARD OF 'custodylaw13.CheckMatchesSpec'. -/
def checkMatchesSpecCard : Claim7 := { stood := { row := checkMatchesSpecRow, standIns := [], harness := (true, "c93fd8734e8301a52d8775bcf5d894049d2b970ca1eabc949b4850abe2baa37a"), looks := false }, kinds := [], alts := [], laidByText := true, laidKinds := [.widerDeep], laidTests := true, laidLooks := .later }
def CheckMatchesSpecCardSaid : Prop := Claim7.holds Tryd.pinned (.plain (OpenSpec.ofChange checkMatchesSpecSpec)) checkMatchesSpecCard

/-- THE TIED CARD OF 'custodylaw13.CheckSameMatchesSpec'. -/
def checkSameMatchesSpecCard : Claim7 := { stood := { row := checkSameMatchesSpecRow, standIns := [], harness := (true, "c93fd8734e8301a52d8775bcf5d894049d2b970ca1eabc949b4850abe2baa37a"), looks := false }, kinds := [], alts := [], laidByText := true, laidKinds := [.widerDeep], laidTests := true, laidLooks := .later }
def CheckSameMatchesSpecCardSaid : Prop := Claim7.holds Tryd.pinned (.plain (OpenSpec.ofChange checkSameMatchesSpecSpec)) checkSameMatchesSpecCard

/-- THE TIED CARD OF 'custodylaw13.CheckFirst'. -/
def checkFirstCard : Claim7 := { stood := { row := checkFirstRow, standIns := [], harness := (true, "c93fd8734e8301a52d8775bcf5d894049d2b970ca1eabc949b4850abe2baa37a"), looks := false }, kinds := [], alts := [], laidByText := true, laidKinds := [.widerDeep], laidTests := true, laidLooks := .later }
def CheckFirstCardSaid : Prop := Claim7.holds Tryd.pinned (.plain (OpenSpec.ofChange checkFirstSpec)) checkFirstCard

/-- THE TIED CARD OF 'custodylaw13.CheckNormal'. -/
def checkNormalCard : Claim7 := { stood := { row := checkNormalRow, standIns := [], harness := (true, "c93fd8734e8301a52d8775bcf5d894049d2b970ca1eabc949b4850abe2baa37a"), looks := false }, kinds := [], alts := [], laidByText := true, laidKinds := [.widerDeep], laidTests := true, laidLooks := .later }
def CheckNormalCardSaid : Prop := Claim7.holds Tryd.pinned (.plain (OpenSpec.ofChange checkNormalSpec)) checkNormalCard

/-- THE TIED CARD OF 'custodylaw13.CheckReordered'. -/
def checkReorderedCard : Claim7 := { stood := { row := checkReorderedRow, standIns := [], harness := (true, "c93fd8734e8301a52d8775bcf5d894049d2b970ca1eabc949b4850abe2baa37a"), looks := false }, kinds := [], alts := [], laidByText := true, laidKinds := [.widerDeep], laidTests := true, laidLooks := .later }
def CheckReorderedCardSaid : Prop := Claim7.holds Tryd.pinned (.plain (OpenSpec.ofChange checkReorderedSpec)) checkReorderedCard

/-- THE TIED CARD OF 'custodylaw13.CheckDifferent'. -/
def checkDifferentCard : Claim7 := { stood := { row := checkDifferentRow, standIns := [], harness := (true, "c93fd8734e8301a52d8775bcf5d894049d2b970ca1eabc949b4850abe2baa37a"), looks := false }, kinds := [], alts := [], laidByText := true, laidKinds := [.widerDeep], laidTests := true, laidLooks := .later }
def CheckDifferentCardSaid : Prop := Claim7.holds Tryd.pinned (.plain (OpenSpec.ofChange checkDifferentSpec)) checkDifferentCard

/-- THE SECOND FORM's CARD OF 'custodylaw13.CheckMatchesSpec'. -/
def checkMatchesSpecUptoCard : Claim7 := { stood := { row := checkMatchesSpecUptoRow, standIns := [], harness := (true, "c93fd8734e8301a52d8775bcf5d894049d2b970ca1eabc949b4850abe2baa37a"), looks := false }, kinds := [], alts := [], laidByText := true, laidKinds := [.widerDeep], laidTests := true, laidLooks := .later }
def CheckMatchesSpecUptoCardSaid : Prop := Claim7.holds Tryd.pinned (.plain (OpenSpec.upto checkMatchesSpecSpec)) checkMatchesSpecUptoCard

/-- THE SECOND FORM's CARD OF 'custodylaw13.CheckSameMatchesSpec'. -/
def checkSameMatchesSpecUptoCard : Claim7 := { stood := { row := checkSameMatchesSpecUptoRow, standIns := [], harness := (true, "c93fd8734e8301a52d8775bcf5d894049d2b970ca1eabc949b4850abe2baa37a"), looks := false }, kinds := [], alts := [], laidByText := true, laidKinds := [.widerDeep], laidTests := true, laidLooks := .later }
def CheckSameMatchesSpecUptoCardSaid : Prop := Claim7.holds Tryd.pinned (.plain (OpenSpec.upto checkSameMatchesSpecSpec)) checkSameMatchesSpecUptoCard

/-- THE SECOND FORM's CARD OF 'custodylaw13.CheckFirst'. -/
def checkFirstUptoCard : Claim7 := { stood := { row := checkFirstUptoRow, standIns := [], harness := (true, "c93fd8734e8301a52d8775bcf5d894049d2b970ca1eabc949b4850abe2baa37a"), looks := false }, kinds := [], alts := [], laidByText := true, laidKinds := [.widerDeep], laidTests := true, laidLooks := .later }
def CheckFirstUptoCardSaid : Prop := Claim7.holds Tryd.pinned (.plain (OpenSpec.upto checkFirstSpec)) checkFirstUptoCard

/-- THE SECOND FORM's CARD OF 'custodylaw13.CheckNormal'. -/
def checkNormalUptoCard : Claim7 := { stood := { row := checkNormalUptoRow, standIns := [], harness := (true, "c93fd8734e8301a52d8775bcf5d894049d2b970ca1eabc949b4850abe2baa37a"), looks := false }, kinds := [], alts := [], laidByText := true, laidKinds := [.widerDeep], laidTests := true, laidLooks := .later }
def CheckNormalUptoCardSaid : Prop := Claim7.holds Tryd.pinned (.plain (OpenSpec.upto checkNormalSpec)) checkNormalUptoCard

/-- THE SECOND FORM's CARD OF 'custodylaw13.CheckReordered'. -/
def checkReorderedUptoCard : Claim7 := { stood := { row := checkReorderedUptoRow, standIns := [], harness := (true, "c93fd8734e8301a52d8775bcf5d894049d2b970ca1eabc949b4850abe2baa37a"), looks := false }, kinds := [], alts := [], laidByText := true, laidKinds := [.widerDeep], laidTests := true, laidLooks := .later }
def CheckReorderedUptoCardSaid : Prop := Claim7.holds Tryd.pinned (.plain (OpenSpec.upto checkReorderedSpec)) checkReorderedUptoCard

/-- THE SECOND FORM's CARD OF 'custodylaw13.CheckDifferent'. -/
def checkDifferentUptoCard : Claim7 := { stood := { row := checkDifferentUptoRow, standIns := [], harness := (true, "c93fd8734e8301a52d8775bcf5d894049d2b970ca1eabc949b4850abe2baa37a"), looks := false }, kinds := [], alts := [], laidByText := true, laidKinds := [.widerDeep], laidTests := true, laidLooks := .later }
def CheckDifferentUptoCardSaid : Prop := Claim7.holds Tryd.pinned (.plain (OpenSpec.upto checkDifferentSpec)) checkDifferentUptoCard
end Rows
end Go.Proofs.YtbhfbbfifmnniaaDoor
