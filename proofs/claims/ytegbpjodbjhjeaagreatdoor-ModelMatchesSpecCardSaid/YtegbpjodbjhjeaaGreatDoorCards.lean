/-
  DERIVED. GIVEN WITH THE SEED: THE CARDS: each row of YtegbpjodbjhjeaaGreatDoorRows.lean that lists a variable, with what it lists TIED to the program's text (the seventh form; the later family's looks); each row that meets fmt, with fmt's text TOLD by the authors' own Lean function (tested against real Go, not proved from fmt's source: count such statements apart). THE CARD IS WHAT COUNTS. Prove the row's statement (the work); the ties are given (YtegbpjodbjhjeaaGreatDoorTie.lean); close each card by the builder's one call (the guide's Derived/Test/ToyasCard.lean, 'card_holds'). Laid BY PROGRAM, IN A SANDBOX (cutbox-door.mjs). By AI agents, Wed Nov 11 2026. No macro, syntax, notation, axiom, sorry.
-/
import Derived.Test.YtegbpjodbjhjeaaGreatDoorRows
import GoSem.ClaimSeven
namespace Go.Proofs.YtegbpjodbjhjeaaGreatDoor
namespace Rows

/-- THE TIED CARD OF 'custodylaw16.ModelMatchesSpec'. -/
def modelMatchesSpecCard : Claim7 := { stood := { row := modelMatchesSpecRow, standIns := [], harness := (true, "7ef4a4c743678fba876308aa322e8caca97f8cf94ca50ea32ecd2c2d5ad056e1"), looks := true }, kinds := [], alts := [], laidByText := true, laidKinds := [.data, .data, .data, .widerDeep], laidTests := true, laidLooks := .later }
def ModelMatchesSpecCardSaid : Prop := Claim7.holds Tryz.pinned (.plain (OpenSpec.ofChange modelMatchesSpecSpec)) modelMatchesSpecCard

/-- THE TIED CARD OF 'custodylaw16.ModelAppends'. -/
def modelAppendsCard : Claim7 := { stood := { row := modelAppendsRow, standIns := [], harness := (true, "7ef4a4c743678fba876308aa322e8caca97f8cf94ca50ea32ecd2c2d5ad056e1"), looks := true }, kinds := [], alts := [], laidByText := true, laidKinds := [.data, .data, .data, .widerDeep], laidTests := true, laidLooks := .later }
def ModelAppendsCardSaid : Prop := Claim7.holds Tryz.pinned (.plain (OpenSpec.ofChange modelAppendsSpec)) modelAppendsCard

/-- THE TIED CARD OF 'custodylaw16.ModelOrigins'. -/
def modelOriginsCard : Claim7 := { stood := { row := modelOriginsRow, standIns := [], harness := (true, "7ef4a4c743678fba876308aa322e8caca97f8cf94ca50ea32ecd2c2d5ad056e1"), looks := true }, kinds := [], alts := [], laidByText := true, laidKinds := [.data, .data, .data, .widerDeep], laidTests := true, laidLooks := .later }
def ModelOriginsCardSaid : Prop := Claim7.holds Tryz.pinned (.plain (OpenSpec.ofChange modelOriginsSpec)) modelOriginsCard

/-- THE TIED CARD OF 'custodylaw16.ModelKeepsSecrets'. -/
def modelKeepsSecretsCard : Claim7 := { stood := { row := modelKeepsSecretsRow, standIns := [], harness := (true, "7ef4a4c743678fba876308aa322e8caca97f8cf94ca50ea32ecd2c2d5ad056e1"), looks := true }, kinds := [], alts := [], laidByText := true, laidKinds := [.data, .data, .data, .widerDeep], laidTests := true, laidLooks := .later }
def ModelKeepsSecretsCardSaid : Prop := Claim7.holds Tryz.pinned (.plain (OpenSpec.ofChange modelKeepsSecretsSpec)) modelKeepsSecretsCard

/-- THE TIED CARD OF 'custodylaw16.ModelClassical'. -/
def modelClassicalCard : Claim7 := { stood := { row := modelClassicalRow, standIns := [], harness := (true, "7ef4a4c743678fba876308aa322e8caca97f8cf94ca50ea32ecd2c2d5ad056e1"), looks := true }, kinds := [], alts := [], laidByText := true, laidKinds := [.data, .data, .data, .widerDeep], laidTests := true, laidLooks := .later }
def ModelClassicalCardSaid : Prop := Claim7.holds Tryz.pinned (.plain (OpenSpec.ofChange modelClassicalSpec)) modelClassicalCard

/-- THE TIED CARD OF 'custodylaw16.ModelRunsInSteps'. -/
def modelRunsInStepsCard : Claim7 := { stood := { row := modelRunsInStepsRow, standIns := [], harness := (true, "7ef4a4c743678fba876308aa322e8caca97f8cf94ca50ea32ecd2c2d5ad056e1"), looks := true }, kinds := [], alts := [], laidByText := true, laidKinds := [.data, .data, .data, .widerDeep], laidTests := true, laidLooks := .later }
def ModelRunsInStepsCardSaid : Prop := Claim7.holds Tryz.pinned (.plain (OpenSpec.ofChange modelRunsInStepsSpec)) modelRunsInStepsCard

/-- THE SECOND FORM's CARD OF 'custodylaw16.ModelMatchesSpec'. -/
def modelMatchesSpecUptoCard : Claim7 := { stood := { row := modelMatchesSpecUptoRow, standIns := [], harness := (true, "7ef4a4c743678fba876308aa322e8caca97f8cf94ca50ea32ecd2c2d5ad056e1"), looks := true }, kinds := [], alts := [], laidByText := true, laidKinds := [.data, .data, .data, .widerDeep], laidTests := true, laidLooks := .later }
def ModelMatchesSpecUptoCardSaid : Prop := Claim7.holds Tryz.pinned (.plain (OpenSpec.upto modelMatchesSpecSpec)) modelMatchesSpecUptoCard

/-- THE SECOND FORM's CARD OF 'custodylaw16.ModelAppends'. -/
def modelAppendsUptoCard : Claim7 := { stood := { row := modelAppendsUptoRow, standIns := [], harness := (true, "7ef4a4c743678fba876308aa322e8caca97f8cf94ca50ea32ecd2c2d5ad056e1"), looks := true }, kinds := [], alts := [], laidByText := true, laidKinds := [.data, .data, .data, .widerDeep], laidTests := true, laidLooks := .later }
def ModelAppendsUptoCardSaid : Prop := Claim7.holds Tryz.pinned (.plain (OpenSpec.upto modelAppendsSpec)) modelAppendsUptoCard

/-- THE SECOND FORM's CARD OF 'custodylaw16.ModelOrigins'. -/
def modelOriginsUptoCard : Claim7 := { stood := { row := modelOriginsUptoRow, standIns := [], harness := (true, "7ef4a4c743678fba876308aa322e8caca97f8cf94ca50ea32ecd2c2d5ad056e1"), looks := true }, kinds := [], alts := [], laidByText := true, laidKinds := [.data, .data, .data, .widerDeep], laidTests := true, laidLooks := .later }
def ModelOriginsUptoCardSaid : Prop := Claim7.holds Tryz.pinned (.plain (OpenSpec.upto modelOriginsSpec)) modelOriginsUptoCard

/-- THE SECOND FORM's CARD OF 'custodylaw16.ModelKeepsSecrets'. -/
def modelKeepsSecretsUptoCard : Claim7 := { stood := { row := modelKeepsSecretsUptoRow, standIns := [], harness := (true, "7ef4a4c743678fba876308aa322e8caca97f8cf94ca50ea32ecd2c2d5ad056e1"), looks := true }, kinds := [], alts := [], laidByText := true, laidKinds := [.data, .data, .data, .widerDeep], laidTests := true, laidLooks := .later }
def ModelKeepsSecretsUptoCardSaid : Prop := Claim7.holds Tryz.pinned (.plain (OpenSpec.upto modelKeepsSecretsSpec)) modelKeepsSecretsUptoCard

/-- THE SECOND FORM's CARD OF 'custodylaw16.ModelClassical'. -/
def modelClassicalUptoCard : Claim7 := { stood := { row := modelClassicalUptoRow, standIns := [], harness := (true, "7ef4a4c743678fba876308aa322e8caca97f8cf94ca50ea32ecd2c2d5ad056e1"), looks := true }, kinds := [], alts := [], laidByText := true, laidKinds := [.data, .data, .data, .widerDeep], laidTests := true, laidLooks := .later }
def ModelClassicalUptoCardSaid : Prop := Claim7.holds Tryz.pinned (.plain (OpenSpec.upto modelClassicalSpec)) modelClassicalUptoCard

/-- THE SECOND FORM's CARD OF 'custodylaw16.ModelRunsInSteps'. -/
def modelRunsInStepsUptoCard : Claim7 := { stood := { row := modelRunsInStepsUptoRow, standIns := [], harness := (true, "7ef4a4c743678fba876308aa322e8caca97f8cf94ca50ea32ecd2c2d5ad056e1"), looks := true }, kinds := [], alts := [], laidByText := true, laidKinds := [.data, .data, .data, .widerDeep], laidTests := true, laidLooks := .later }
def ModelRunsInStepsUptoCardSaid : Prop := Claim7.holds Tryz.pinned (.plain (OpenSpec.upto modelRunsInStepsSpec)) modelRunsInStepsUptoCard
end Rows
end Go.Proofs.YtegbpjodbjhjeaaGreatDoor
