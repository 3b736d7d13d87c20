/-
  DERIVED. GIVEN WITH THE SEED: THE CARDS: each row of YtloppcgcepgbnaaGreatDoorRows.lean that lists a variable, with what it lists TIED to the program's text (the seventh form; the later family's looks); each row that meets fmt, with fmt's text TOLD by the authors' own Lean function (tested against real Go, not proved from fmt's source: count such statements apart). THE CARD IS WHAT COUNTS. Prove the row's statement (the work); the ties are given (YtloppcgcepgbnaaGreatDoorTie.lean); close each card by the builder's one call (the guide's Derived/Test/ToyasCard.lean, 'card_holds'). Laid BY PROGRAM, IN A SANDBOX (cutbox-door.mjs). By AI agents, Wed Nov 11 2026. No macro, syntax, notation, axiom, sorry.
-/
import Derived.Test.YtloppcgcepgbnaaGreatDoorRows
import GoSem.ClaimSeven
namespace Go.Proofs.YtloppcgcepgbnaaGreatDoor
namespace Rows

/-- THE TIED CARD OF 'custodylaw19.CertMatchesSpec'. -/
def certMatchesSpecCard : Claim7 := { stood := { row := certMatchesSpecRow, standIns := [], harness := (true, "eb039201b9d36260411601f5ca5a538c8b00586629e9e6e2f55954fa89427a95"), looks := false }, kinds := [], alts := [], laidByText := true, laidKinds := [.widerDeep], laidTests := true, laidLooks := .later }
def CertMatchesSpecCardSaid : Prop := Claim7.holds Tryz.pinned (.plain (OpenSpec.ofChange certMatchesSpecSpec)) certMatchesSpecCard

/-- THE TIED CARD OF 'custodylaw19.CertCompilesAsSpecified'. -/
def certCompilesAsSpecifiedCard : Claim7 := { stood := { row := certCompilesAsSpecifiedRow, standIns := [], harness := (true, "eb039201b9d36260411601f5ca5a538c8b00586629e9e6e2f55954fa89427a95"), looks := false }, kinds := [], alts := [], laidByText := true, laidKinds := [.widerDeep], laidTests := true, laidLooks := .later }
def CertCompilesAsSpecifiedCardSaid : Prop := Claim7.holds Tryz.pinned (.plain (OpenSpec.ofChange certCompilesAsSpecifiedSpec)) certCompilesAsSpecifiedCard

/-- THE TIED CARD OF 'custodylaw19.CertRoundTrip'. -/
def certRoundTripCard : Claim7 := { stood := { row := certRoundTripRow, standIns := [], harness := (true, "eb039201b9d36260411601f5ca5a538c8b00586629e9e6e2f55954fa89427a95"), looks := false }, kinds := [], alts := [], laidByText := true, laidKinds := [.widerDeep], laidTests := true, laidLooks := .later }
def CertRoundTripCardSaid : Prop := Claim7.holds Tryz.pinned (.plain (OpenSpec.ofChange certRoundTripSpec)) certRoundTripCard

/-- THE TIED CARD OF 'custodylaw19.CertMinimal'. -/
def certMinimalCard : Claim7 := { stood := { row := certMinimalRow, standIns := [], harness := (true, "eb039201b9d36260411601f5ca5a538c8b00586629e9e6e2f55954fa89427a95"), looks := false }, kinds := [], alts := [], laidByText := true, laidKinds := [.widerDeep], laidTests := true, laidLooks := .later }
def CertMinimalCardSaid : Prop := Claim7.holds Tryz.pinned (.plain (OpenSpec.ofChange certMinimalSpec)) certMinimalCard

/-- THE TIED CARD OF 'custodylaw19.CertFewerRights'. -/
def certFewerRightsCard : Claim7 := { stood := { row := certFewerRightsRow, standIns := [], harness := (true, "eb039201b9d36260411601f5ca5a538c8b00586629e9e6e2f55954fa89427a95"), looks := false }, kinds := [], alts := [], laidByText := true, laidKinds := [.widerDeep], laidTests := true, laidLooks := .later }
def CertFewerRightsCardSaid : Prop := Claim7.holds Tryz.pinned (.plain (OpenSpec.ofChange certFewerRightsSpec)) certFewerRightsCard

/-- THE SECOND FORM's CARD OF 'custodylaw19.CertMatchesSpec'. -/
def certMatchesSpecUptoCard : Claim7 := { stood := { row := certMatchesSpecUptoRow, standIns := [], harness := (true, "eb039201b9d36260411601f5ca5a538c8b00586629e9e6e2f55954fa89427a95"), looks := false }, kinds := [], alts := [], laidByText := true, laidKinds := [.widerDeep], laidTests := true, laidLooks := .later }
def CertMatchesSpecUptoCardSaid : Prop := Claim7.holds Tryz.pinned (.plain (OpenSpec.upto certMatchesSpecSpec)) certMatchesSpecUptoCard

/-- THE SECOND FORM's CARD OF 'custodylaw19.CertCompilesAsSpecified'. -/
def certCompilesAsSpecifiedUptoCard : Claim7 := { stood := { row := certCompilesAsSpecifiedUptoRow, standIns := [], harness := (true, "eb039201b9d36260411601f5ca5a538c8b00586629e9e6e2f55954fa89427a95"), looks := false }, kinds := [], alts := [], laidByText := true, laidKinds := [.widerDeep], laidTests := true, laidLooks := .later }
def CertCompilesAsSpecifiedUptoCardSaid : Prop := Claim7.holds Tryz.pinned (.plain (OpenSpec.upto certCompilesAsSpecifiedSpec)) certCompilesAsSpecifiedUptoCard

/-- THE SECOND FORM's CARD OF 'custodylaw19.CertRoundTrip'. -/
def certRoundTripUptoCard : Claim7 := { stood := { row := certRoundTripUptoRow, standIns := [], harness := (true, "eb039201b9d36260411601f5ca5a538c8b00586629e9e6e2f55954fa89427a95"), looks := false }, kinds := [], alts := [], laidByText := true, laidKinds := [.widerDeep], laidTests := true, laidLooks := .later }
def CertRoundTripUptoCardSaid : Prop := Claim7.holds Tryz.pinned (.plain (OpenSpec.upto certRoundTripSpec)) certRoundTripUptoCard

/-- THE SECOND FORM's CARD OF 'custodylaw19.CertMinimal'. -/
def certMinimalUptoCard : Claim7 := { stood := { row := certMinimalUptoRow, standIns := [], harness := (true, "eb039201b9d36260411601f5ca5a538c8b00586629e9e6e2f55954fa89427a95"), looks := false }, kinds := [], alts := [], laidByText := true, laidKinds := [.widerDeep], laidTests := true, laidLooks := .later }
def CertMinimalUptoCardSaid : Prop := Claim7.holds Tryz.pinned (.plain (OpenSpec.upto certMinimalSpec)) certMinimalUptoCard

/-- THE SECOND FORM's CARD OF 'custodylaw19.CertFewerRights'. -/
def certFewerRightsUptoCard : Claim7 := { stood := { row := certFewerRightsUptoRow, standIns := [], harness := (true, "eb039201b9d36260411601f5ca5a538c8b00586629e9e6e2f55954fa89427a95"), looks := false }, kinds := [], alts := [], laidByText := true, laidKinds := [.widerDeep], laidTests := true, laidLooks := .later }
def CertFewerRightsUptoCardSaid : Prop := Claim7.holds Tryz.pinned (.plain (OpenSpec.upto certFewerRightsSpec)) certFewerRightsUptoCard
end Rows
end Go.Proofs.YtloppcgcepgbnaaGreatDoor
