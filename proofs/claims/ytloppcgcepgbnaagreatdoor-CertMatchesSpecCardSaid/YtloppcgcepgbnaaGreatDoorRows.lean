/-
  NARROWER THAN 'FOR EVERY INPUT', by the rows' own cells (each row's printed sentence says how): CertMatchesSpec: laid · CertCompilesAsSpecified: laid · CertRoundTrip: laid · CertMinimal: laid · CertFewerRights: laid.
  DERIVED. THE GIVEN ROWS OF THIS SEAT. 5 by the template 'for every input the law returns true; each argument reads behind the call as it read before'; 0 by the template 'total and deterministic' (their statements: YtloppcgcepgbnaaGreatDoorTotals.lean).
  GIVEN WITH THE SEED: the statements are not yours to turn. If you find one false, say at which input.
  Laid BY PROGRAM, IN A SANDBOX (cutbox-rows.mjs): the forced cells as the released guide's own fill.sh prints them over the translation 30f602388e3379f6… (all of the seat's roots in one cut). By AI agents, Wed Nov 11 2026. No macro, syntax, notation, axiom, sorry.
-/
import Derived.Test.YtloppcgcepgbnaaGreatDoorChecked
import GoSem.Claim
import GoSem.ClaimJoined
import GoSem.ClaimMapViews
import Derived.JoinedTies
import Derived.KernelRfl
namespace Go.Proofs.YtloppcgcepgbnaaGreatDoor
/- THE CELL 'sum', in the pinned program and in every row, IS THE sha256 OF THE DUMP (.gsa) THAT YtloppcgcepgbnaaGreatDoorProg.lean LOADS. Nothing in Lean hashes anything: it is a label: what it is worth is what the hold of that sum in a sandbox is worth. -/
noncomputable def Tryz.pinned : Pinned := { name := "ytloppcgcepgbnaagreatdoor", sum := "30f602388e3379f66643cbc2c6b927eaea676836b3c1ad6d7d6e7fb75a475842", checked := Tryz.checked }
namespace Rows
def none {H : Type} : Left H := { results := [], args := [] }

/- WHAT THE LISTED PACKAGE-LEVEL VARIABLES READ AS WHEN THE CALL BEGINS. Each datum BY PROGRAM (the guide's laid-datum.mjs) off the statement by which the dump's own 'gosem.cut.vars' lays the variable. In a bare row this is a premise. The card (YtloppcgcepgbnaaGreatDoorCards.lean) ties it to the program's text. -/
def laid_custody_check_own {H : Type} : DataW H := .agg [.lit (.int .i64 23), .lit (.int .i64 24), .lit (.int .i64 25)]

/-- 'custodylaw19.CertMatchesSpec': WHATEVER THE INPUT: true; the input reads as it did. -/
def certMatchesSpecSpec : ChangeSpec := { name := "certMatchesSpec", fn := fun _ => fun
  | [d1, d2, d3] => { results := [.lit (.bool true)], args := [d1, d2, d3] }
  | _ => none }
def certMatchesSpecRow : OpenClaim := { program := "ytloppcgcepgbnaagreatdoor", sum := "30f602388e3379f66643cbc2c6b927eaea676836b3c1ad6d7d6e7fb75a475842", func := "custody/custodylaw19.CertMatchesSpec", spec := "certMatchesSpec", unfollowed := true, recurses := true, named := ["custody/check.own"], plainKeys := false, apart := false, laid := [("custody/check.own", laid_custody_check_own)] }
def CertMatchesSpecSaid : Prop := certMatchesSpecRow.holds Tryz.pinned (OpenSpec.ofChange certMatchesSpecSpec)

/-- ITS FALSE NEIGHBOUR: 'it returns false'. Refute it at one input. -/
def certMatchesSpecWrong : ChangeSpec := { name := "certMatchesSpec", fn := fun _ => fun
  | [d1, d2, d3] => { results := [.lit (.bool false)], args := [d1, d2, d3] }
  | _ => none }
def CertMatchesSpecWrongFalsely : Prop := certMatchesSpecRow.holds Tryz.pinned (OpenSpec.ofChange certMatchesSpecWrong)

/-- 'custodylaw19.CertCompilesAsSpecified': WHATEVER THE INPUT: true; the input reads as it did. -/
def certCompilesAsSpecifiedSpec : ChangeSpec := { name := "certCompilesAsSpecified", fn := fun _ => fun
  | [d] => { results := [.lit (.bool true)], args := [d] }
  | _ => none }
def certCompilesAsSpecifiedRow : OpenClaim := { program := "ytloppcgcepgbnaagreatdoor", sum := "30f602388e3379f66643cbc2c6b927eaea676836b3c1ad6d7d6e7fb75a475842", func := "custody/custodylaw19.CertCompilesAsSpecified", spec := "certCompilesAsSpecified", unfollowed := true, recurses := true, named := ["custody/check.own"], plainKeys := false, apart := false, laid := [("custody/check.own", laid_custody_check_own)] }
def CertCompilesAsSpecifiedSaid : Prop := certCompilesAsSpecifiedRow.holds Tryz.pinned (OpenSpec.ofChange certCompilesAsSpecifiedSpec)

/-- ITS FALSE NEIGHBOUR: 'it returns false'. Refute it at one input. -/
def certCompilesAsSpecifiedWrong : ChangeSpec := { name := "certCompilesAsSpecified", fn := fun _ => fun
  | [d] => { results := [.lit (.bool false)], args := [d] }
  | _ => none }
def CertCompilesAsSpecifiedWrongFalsely : Prop := certCompilesAsSpecifiedRow.holds Tryz.pinned (OpenSpec.ofChange certCompilesAsSpecifiedWrong)

/-- 'custodylaw19.CertRoundTrip': WHATEVER THE INPUT: true; the input reads as it did. -/
def certRoundTripSpec : ChangeSpec := { name := "certRoundTrip", fn := fun _ => fun
  | [d1, d2] => { results := [.lit (.bool true)], args := [d1, d2] }
  | _ => none }
def certRoundTripRow : OpenClaim := { program := "ytloppcgcepgbnaagreatdoor", sum := "30f602388e3379f66643cbc2c6b927eaea676836b3c1ad6d7d6e7fb75a475842", func := "custody/custodylaw19.CertRoundTrip", spec := "certRoundTrip", unfollowed := true, recurses := true, named := ["custody/check.own"], plainKeys := false, apart := false, laid := [("custody/check.own", laid_custody_check_own)] }
def CertRoundTripSaid : Prop := certRoundTripRow.holds Tryz.pinned (OpenSpec.ofChange certRoundTripSpec)

/-- ITS FALSE NEIGHBOUR: 'it returns false'. Refute it at one input. -/
def certRoundTripWrong : ChangeSpec := { name := "certRoundTrip", fn := fun _ => fun
  | [d1, d2] => { results := [.lit (.bool false)], args := [d1, d2] }
  | _ => none }
def CertRoundTripWrongFalsely : Prop := certRoundTripRow.holds Tryz.pinned (OpenSpec.ofChange certRoundTripWrong)

/-- 'custodylaw19.CertMinimal': WHATEVER THE INPUT: true; the input reads as it did. -/
def certMinimalSpec : ChangeSpec := { name := "certMinimal", fn := fun _ => fun
  | [d1, d2] => { results := [.lit (.bool true)], args := [d1, d2] }
  | _ => none }
def certMinimalRow : OpenClaim := { program := "ytloppcgcepgbnaagreatdoor", sum := "30f602388e3379f66643cbc2c6b927eaea676836b3c1ad6d7d6e7fb75a475842", func := "custody/custodylaw19.CertMinimal", spec := "certMinimal", unfollowed := true, recurses := true, named := ["custody/check.own"], plainKeys := false, apart := false, laid := [("custody/check.own", laid_custody_check_own)] }
def CertMinimalSaid : Prop := certMinimalRow.holds Tryz.pinned (OpenSpec.ofChange certMinimalSpec)

/-- ITS FALSE NEIGHBOUR: 'it returns false'. Refute it at one input. -/
def certMinimalWrong : ChangeSpec := { name := "certMinimal", fn := fun _ => fun
  | [d1, d2] => { results := [.lit (.bool false)], args := [d1, d2] }
  | _ => none }
def CertMinimalWrongFalsely : Prop := certMinimalRow.holds Tryz.pinned (OpenSpec.ofChange certMinimalWrong)

/-- 'custodylaw19.CertFewerRights': WHATEVER THE INPUT: true; the input reads as it did. -/
def certFewerRightsSpec : ChangeSpec := { name := "certFewerRights", fn := fun _ => fun
  | [d1, d2, d3, d4, d5] => { results := [.lit (.bool true)], args := [d1, d2, d3, d4, d5] }
  | _ => none }
def certFewerRightsRow : OpenClaim := { program := "ytloppcgcepgbnaagreatdoor", sum := "30f602388e3379f66643cbc2c6b927eaea676836b3c1ad6d7d6e7fb75a475842", func := "custody/custodylaw19.CertFewerRights", spec := "certFewerRights", unfollowed := true, recurses := true, named := ["custody/check.own"], plainKeys := false, apart := false, laid := [("custody/check.own", laid_custody_check_own)] }
def CertFewerRightsSaid : Prop := certFewerRightsRow.holds Tryz.pinned (OpenSpec.ofChange certFewerRightsSpec)

/-- ITS FALSE NEIGHBOUR: 'it returns false'. Refute it at one input. -/
def certFewerRightsWrong : ChangeSpec := { name := "certFewerRights", fn := fun _ => fun
  | [d1, d2, d3, d4, d5] => { results := [.lit (.bool false)], args := [d1, d2, d3, d4, d5] }
  | _ => none }
def CertFewerRightsWrongFalsely : Prop := certFewerRightsRow.holds Tryz.pinned (OpenSpec.ofChange certFewerRightsWrong)

/- THE SECOND FORM. 'bulk': how many values and letters a reading holds, each counted each time it is reached (what is shared counts as often as it is met; a slice's spare places count too). A statement '..UptoSaid' is the law's where the arguments, and the package variables that the reading takes, are together of bulk at most 1048576: NARROWER than '..Said'. Prove '..Said' where nothing that the law and all that it calls make is longer than what came in: it says more and counts as full. Else prove '..UptoSaid'. A law counts once. -/
mutual
def uptoBulk {H : Type} : DataW H → Nat
  | .lit (.string bytes) => bytes.length + 1
  | .lit _ => 1
  | .nil => 1
  | .ptr d => uptoBulk d + 1
  | .slice elems spare => uptoBulkAll elems + uptoBulkAll spare + 1
  | .agg parts => uptoBulkAll parts + 1
  | .iface _ d => uptoBulk d + 1
  | .map entries => uptoBulkEntries entries + 1
  | .held _ => 1
def uptoBulkAll {H : Type} : List (DataW H) → Nat
  | [] => 0
  | d :: r => uptoBulk d + uptoBulkAll r
def uptoBulkEntries {H : Type} : List (Lit × DataW H) → Nat
  | [] => 0
  | x :: r => uptoBulkEntry x + uptoBulkEntries r
def uptoBulkEntry {H : Type} : Lit × DataW H → Nat
  | (.string bytes, d) => bytes.length + uptoBulk d + 1
  | (_, d) => uptoBulk d + 1
 end
def uptoSmall : (H : Type) → List (DataW H) → Bool := fun _ ds => decide (uptoBulkAll ds ≤ 1048576)
def OpenSpec.upto (s : _root_.Go.ChangeSpec) : _root_.Go.OpenSpec := { _root_.Go.OpenSpec.ofChange s with cond := some uptoSmall }

/-- 'custodylaw19.CertMatchesSpec', WHERE WHAT IT READS IS OF BULK AT MOST 1048576: true; the input reads as it did. -/
def certMatchesSpecUptoRow : OpenClaim := { program := "ytloppcgcepgbnaagreatdoor", sum := "30f602388e3379f66643cbc2c6b927eaea676836b3c1ad6d7d6e7fb75a475842", func := "custody/custodylaw19.CertMatchesSpec", spec := "certMatchesSpec", unfollowed := true, recurses := true, named := ["custody/check.own"], plainKeys := false, apart := false, laid := [("custody/check.own", laid_custody_check_own)], narrowed := true }
def CertMatchesSpecUptoSaid : Prop := certMatchesSpecUptoRow.holds Tryz.pinned (OpenSpec.upto certMatchesSpecSpec)

/-- 'custodylaw19.CertCompilesAsSpecified', WHERE WHAT IT READS IS OF BULK AT MOST 1048576: true; the input reads as it did. -/
def certCompilesAsSpecifiedUptoRow : OpenClaim := { program := "ytloppcgcepgbnaagreatdoor", sum := "30f602388e3379f66643cbc2c6b927eaea676836b3c1ad6d7d6e7fb75a475842", func := "custody/custodylaw19.CertCompilesAsSpecified", spec := "certCompilesAsSpecified", unfollowed := true, recurses := true, named := ["custody/check.own"], plainKeys := false, apart := false, laid := [("custody/check.own", laid_custody_check_own)], narrowed := true }
def CertCompilesAsSpecifiedUptoSaid : Prop := certCompilesAsSpecifiedUptoRow.holds Tryz.pinned (OpenSpec.upto certCompilesAsSpecifiedSpec)

/-- 'custodylaw19.CertRoundTrip', WHERE WHAT IT READS IS OF BULK AT MOST 1048576: true; the input reads as it did. -/
def certRoundTripUptoRow : OpenClaim := { program := "ytloppcgcepgbnaagreatdoor", sum := "30f602388e3379f66643cbc2c6b927eaea676836b3c1ad6d7d6e7fb75a475842", func := "custody/custodylaw19.CertRoundTrip", spec := "certRoundTrip", unfollowed := true, recurses := true, named := ["custody/check.own"], plainKeys := false, apart := false, laid := [("custody/check.own", laid_custody_check_own)], narrowed := true }
def CertRoundTripUptoSaid : Prop := certRoundTripUptoRow.holds Tryz.pinned (OpenSpec.upto certRoundTripSpec)

/-- 'custodylaw19.CertMinimal', WHERE WHAT IT READS IS OF BULK AT MOST 1048576: true; the input reads as it did. -/
def certMinimalUptoRow : OpenClaim := { program := "ytloppcgcepgbnaagreatdoor", sum := "30f602388e3379f66643cbc2c6b927eaea676836b3c1ad6d7d6e7fb75a475842", func := "custody/custodylaw19.CertMinimal", spec := "certMinimal", unfollowed := true, recurses := true, named := ["custody/check.own"], plainKeys := false, apart := false, laid := [("custody/check.own", laid_custody_check_own)], narrowed := true }
def CertMinimalUptoSaid : Prop := certMinimalUptoRow.holds Tryz.pinned (OpenSpec.upto certMinimalSpec)

/-- 'custodylaw19.CertFewerRights', WHERE WHAT IT READS IS OF BULK AT MOST 1048576: true; the input reads as it did. -/
def certFewerRightsUptoRow : OpenClaim := { program := "ytloppcgcepgbnaagreatdoor", sum := "30f602388e3379f66643cbc2c6b927eaea676836b3c1ad6d7d6e7fb75a475842", func := "custody/custodylaw19.CertFewerRights", spec := "certFewerRights", unfollowed := true, recurses := true, named := ["custody/check.own"], plainKeys := false, apart := false, laid := [("custody/check.own", laid_custody_check_own)], narrowed := true }
def CertFewerRightsUptoSaid : Prop := certFewerRightsUptoRow.holds Tryz.pinned (OpenSpec.upto certFewerRightsSpec)

end Rows
end Go.Proofs.YtloppcgcepgbnaaGreatDoor
