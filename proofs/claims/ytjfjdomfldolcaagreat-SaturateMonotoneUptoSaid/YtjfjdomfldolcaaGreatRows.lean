/-
  No cell of these rows narrows 'for every input' (looked for: loops, veiled, ifaces, maps, wideKeys, modest, calm, conditions, laid).
  DERIVED. THE GIVEN ROWS OF THIS SEAT. 5 by the template 'for every input the law returns true; each argument reads behind the call as it read before'; 0 by the template 'total and deterministic' (their statements: YtjfjdomfldolcaaGreatTotals.lean).
  GIVEN WITH THE SEED: the statements are not yours to turn. If you find one false, say at which input.
  Laid BY PROGRAM, IN A SANDBOX (cutbox-rows.mjs): the forced cells as the released guide's own fill.sh prints them over the translation 9a5f7d5733f0d7fe… (all of the seat's roots in one cut). By AI agents, Wed Nov 11 2026. No macro, syntax, notation, axiom, sorry.
-/
import Derived.Test.YtjfjdomfldolcaaGreatChecked
import GoSem.Claim
import GoSem.ClaimJoined
import GoSem.ClaimMapViews
import Derived.JoinedTies
import Derived.KernelRfl
namespace Go.Proofs.YtjfjdomfldolcaaGreat
/- THE CELL 'sum', in the pinned program and in every row, IS THE sha256 OF THE DUMP (.gsa) THAT YtjfjdomfldolcaaGreatProg.lean LOADS. Nothing in Lean hashes anything: it is a label: what it is worth is what the hold of that sum in a sandbox is worth. -/
noncomputable def Tryz.pinned : Pinned := { name := "ytjfjdomfldolcaagreat", sum := "9a5f7d5733f0d7fe80e2d527e9071f8bb8d2b1aa88ddb116542462c7345aa583", checked := Tryz.checked }
namespace Rows
def none {H : Type} : Left H := { results := [], args := [] }

/-- 'custodylaw18.SaturateMatchesSpec': WHATEVER THE INPUT: true; the input reads as it did. -/
def saturateMatchesSpecSpec : ChangeSpec := { name := "saturateMatchesSpec", fn := fun _ => fun
  | [d1, d2] => { results := [.lit (.bool true)], args := [d1, d2] }
  | _ => none }
def saturateMatchesSpecRow : OpenClaim := { program := "ytjfjdomfldolcaagreat", sum := "9a5f7d5733f0d7fe80e2d527e9071f8bb8d2b1aa88ddb116542462c7345aa583", func := "custody/custodylaw18.SaturateMatchesSpec", spec := "saturateMatchesSpec", unfollowed := true, recurses := true, plainKeys := false, apart := false }
def SaturateMatchesSpecSaid : Prop := saturateMatchesSpecRow.holds Tryz.pinned (OpenSpec.ofChange saturateMatchesSpecSpec)

/-- ITS FALSE NEIGHBOUR: 'it returns false'. Refute it at one input. -/
def saturateMatchesSpecWrong : ChangeSpec := { name := "saturateMatchesSpec", fn := fun _ => fun
  | [d1, d2] => { results := [.lit (.bool false)], args := [d1, d2] }
  | _ => none }
def SaturateMatchesSpecWrongFalsely : Prop := saturateMatchesSpecRow.holds Tryz.pinned (OpenSpec.ofChange saturateMatchesSpecWrong)

/-- 'custodylaw18.SaturateIsClosed': WHATEVER THE INPUT: true; the input reads as it did. -/
def saturateIsClosedSpec : ChangeSpec := { name := "saturateIsClosed", fn := fun _ => fun
  | [d] => { results := [.lit (.bool true)], args := [d] }
  | _ => none }
def saturateIsClosedRow : OpenClaim := { program := "ytjfjdomfldolcaagreat", sum := "9a5f7d5733f0d7fe80e2d527e9071f8bb8d2b1aa88ddb116542462c7345aa583", func := "custody/custodylaw18.SaturateIsClosed", spec := "saturateIsClosed", unfollowed := true, recurses := true, plainKeys := false, apart := false }
def SaturateIsClosedSaid : Prop := saturateIsClosedRow.holds Tryz.pinned (OpenSpec.ofChange saturateIsClosedSpec)

/-- ITS FALSE NEIGHBOUR: 'it returns false'. Refute it at one input. -/
def saturateIsClosedWrong : ChangeSpec := { name := "saturateIsClosed", fn := fun _ => fun
  | [d] => { results := [.lit (.bool false)], args := [d] }
  | _ => none }
def SaturateIsClosedWrongFalsely : Prop := saturateIsClosedRow.holds Tryz.pinned (OpenSpec.ofChange saturateIsClosedWrong)

/-- 'custodylaw18.SaturateDerives': WHATEVER THE INPUT: true; the input reads as it did. -/
def saturateDerivesSpec : ChangeSpec := { name := "saturateDerives", fn := fun _ => fun
  | [d] => { results := [.lit (.bool true)], args := [d] }
  | _ => none }
def saturateDerivesRow : OpenClaim := { program := "ytjfjdomfldolcaagreat", sum := "9a5f7d5733f0d7fe80e2d527e9071f8bb8d2b1aa88ddb116542462c7345aa583", func := "custody/custodylaw18.SaturateDerives", spec := "saturateDerives", unfollowed := true, recurses := true, plainKeys := false, apart := false }
def SaturateDerivesSaid : Prop := saturateDerivesRow.holds Tryz.pinned (OpenSpec.ofChange saturateDerivesSpec)

/-- ITS FALSE NEIGHBOUR: 'it returns false'. Refute it at one input. -/
def saturateDerivesWrong : ChangeSpec := { name := "saturateDerives", fn := fun _ => fun
  | [d] => { results := [.lit (.bool false)], args := [d] }
  | _ => none }
def SaturateDerivesWrongFalsely : Prop := saturateDerivesRow.holds Tryz.pinned (OpenSpec.ofChange saturateDerivesWrong)

/-- 'custodylaw18.SaturateMonotone': WHATEVER THE INPUT: true; the input reads as it did. -/
def saturateMonotoneSpec : ChangeSpec := { name := "saturateMonotone", fn := fun _ => fun
  | [d1, d2, d3, d4] => { results := [.lit (.bool true)], args := [d1, d2, d3, d4] }
  | _ => none }
def saturateMonotoneRow : OpenClaim := { program := "ytjfjdomfldolcaagreat", sum := "9a5f7d5733f0d7fe80e2d527e9071f8bb8d2b1aa88ddb116542462c7345aa583", func := "custody/custodylaw18.SaturateMonotone", spec := "saturateMonotone", unfollowed := true, recurses := true, plainKeys := false, apart := false }
def SaturateMonotoneSaid : Prop := saturateMonotoneRow.holds Tryz.pinned (OpenSpec.ofChange saturateMonotoneSpec)

/-- ITS FALSE NEIGHBOUR: 'it returns false'. Refute it at one input. -/
def saturateMonotoneWrong : ChangeSpec := { name := "saturateMonotone", fn := fun _ => fun
  | [d1, d2, d3, d4] => { results := [.lit (.bool false)], args := [d1, d2, d3, d4] }
  | _ => none }
def SaturateMonotoneWrongFalsely : Prop := saturateMonotoneRow.holds Tryz.pinned (OpenSpec.ofChange saturateMonotoneWrong)

/-- 'custodylaw18.SaturateReaches': WHATEVER THE INPUT: true; the input reads as it did. -/
def saturateReachesSpec : ChangeSpec := { name := "saturateReaches", fn := fun _ => fun
  | [d] => { results := [.lit (.bool true)], args := [d] }
  | _ => none }
def saturateReachesRow : OpenClaim := { program := "ytjfjdomfldolcaagreat", sum := "9a5f7d5733f0d7fe80e2d527e9071f8bb8d2b1aa88ddb116542462c7345aa583", func := "custody/custodylaw18.SaturateReaches", spec := "saturateReaches", unfollowed := true, recurses := true, plainKeys := false, apart := false }
def SaturateReachesSaid : Prop := saturateReachesRow.holds Tryz.pinned (OpenSpec.ofChange saturateReachesSpec)

/-- ITS FALSE NEIGHBOUR: 'it returns false'. Refute it at one input. -/
def saturateReachesWrong : ChangeSpec := { name := "saturateReaches", fn := fun _ => fun
  | [d] => { results := [.lit (.bool false)], args := [d] }
  | _ => none }
def SaturateReachesWrongFalsely : Prop := saturateReachesRow.holds Tryz.pinned (OpenSpec.ofChange saturateReachesWrong)

/- THE SECOND FORM. 'bulk': how many values and letters a reading holds, each counted each time it is reached (what is shared counts as often as it is met; a slice's spare places count too). A statement '..UptoSaid' is the law's where the arguments, and the package variables that the reading takes, are together of bulk at most 1048576: NARROWER than '..Said'. Prove '..Said' where nothing that the law and all that it calls make is longer than what came in: it says more and counts as full. Else prove '..UptoSaid'. A law counts once. -/
mutual
def uptoBulk {H : Type} : DataW H → Nat
  | .lit (.string bytes) => bytes.length + 1
  | .lit _ => 1
  | .nil => 1
  | .ptr d => uptoBulk d + 1
  | .slice elems spare => uptoBulkAll elems + uptoBulkAll spare + 1
  | .agg parts => uptoBulkAll parts + 1
  | .iface _ d => uptoBulk d + 1
  | .map entries => uptoBulkEntries entries + 1
  | .held _ => 1
def uptoBulkAll {H : Type} : List (DataW H) → Nat
  | [] => 0
  | d :: r => uptoBulk d + uptoBulkAll r
def uptoBulkEntries {H : Type} : List (Lit × DataW H) → Nat
  | [] => 0
  | x :: r => uptoBulkEntry x + uptoBulkEntries r
def uptoBulkEntry {H : Type} : Lit × DataW H → Nat
  | (.string bytes, d) => bytes.length + uptoBulk d + 1
  | (_, d) => uptoBulk d + 1
 end
def uptoSmall : (H : Type) → List (DataW H) → Bool := fun _ ds => decide (uptoBulkAll ds ≤ 1048576)
def OpenSpec.upto (s : _root_.Go.ChangeSpec) : _root_.Go.OpenSpec := { _root_.Go.OpenSpec.ofChange s with cond := some uptoSmall }

/-- 'custodylaw18.SaturateMatchesSpec', WHERE WHAT IT READS IS OF BULK AT MOST 1048576: true; the input reads as it did. -/
def saturateMatchesSpecUptoRow : OpenClaim := { program := "ytjfjdomfldolcaagreat", sum := "9a5f7d5733f0d7fe80e2d527e9071f8bb8d2b1aa88ddb116542462c7345aa583", func := "custody/custodylaw18.SaturateMatchesSpec", spec := "saturateMatchesSpec", unfollowed := true, recurses := true, plainKeys := false, apart := false, narrowed := true }
def SaturateMatchesSpecUptoSaid : Prop := saturateMatchesSpecUptoRow.holds Tryz.pinned (OpenSpec.upto saturateMatchesSpecSpec)

/-- 'custodylaw18.SaturateIsClosed', WHERE WHAT IT READS IS OF BULK AT MOST 1048576: true; the input reads as it did. -/
def saturateIsClosedUptoRow : OpenClaim := { program := "ytjfjdomfldolcaagreat", sum := "9a5f7d5733f0d7fe80e2d527e9071f8bb8d2b1aa88ddb116542462c7345aa583", func := "custody/custodylaw18.SaturateIsClosed", spec := "saturateIsClosed", unfollowed := true, recurses := true, plainKeys := false, apart := false, narrowed := true }
def SaturateIsClosedUptoSaid : Prop := saturateIsClosedUptoRow.holds Tryz.pinned (OpenSpec.upto saturateIsClosedSpec)

/-- 'custodylaw18.SaturateDerives', WHERE WHAT IT READS IS OF BULK AT MOST 1048576: true; the input reads as it did. -/
def saturateDerivesUptoRow : OpenClaim := { program := "ytjfjdomfldolcaagreat", sum := "9a5f7d5733f0d7fe80e2d527e9071f8bb8d2b1aa88ddb116542462c7345aa583", func := "custody/custodylaw18.SaturateDerives", spec := "saturateDerives", unfollowed := true, recurses := true, plainKeys := false, apart := false, narrowed := true }
def SaturateDerivesUptoSaid : Prop := saturateDerivesUptoRow.holds Tryz.pinned (OpenSpec.upto saturateDerivesSpec)

/-- 'custodylaw18.SaturateMonotone', WHERE WHAT IT READS IS OF BULK AT MOST 1048576: true; the input reads as it did. -/
def saturateMonotoneUptoRow : OpenClaim := { program := "ytjfjdomfldolcaagreat", sum := "9a5f7d5733f0d7fe80e2d527e9071f8bb8d2b1aa88ddb116542462c7345aa583", func := "custody/custodylaw18.SaturateMonotone", spec := "saturateMonotone", unfollowed := true, recurses := true, plainKeys := false, apart := false, narrowed := true }
def SaturateMonotoneUptoSaid : Prop := saturateMonotoneUptoRow.holds Tryz.pinned (OpenSpec.upto saturateMonotoneSpec)

/-- 'custodylaw18.SaturateReaches', WHERE WHAT IT READS IS OF BULK AT MOST 1048576: true; the input reads as it did. -/
def saturateReachesUptoRow : OpenClaim := { program := "ytjfjdomfldolcaagreat", sum := "9a5f7d5733f0d7fe80e2d527e9071f8bb8d2b1aa88ddb116542462c7345aa583", func := "custody/custodylaw18.SaturateReaches", spec := "saturateReaches", unfollowed := true, recurses := true, plainKeys := false, apart := false, narrowed := true }
def SaturateReachesUptoSaid : Prop := saturateReachesUptoRow.holds Tryz.pinned (OpenSpec.upto saturateReachesSpec)

end Rows
end Go.Proofs.YtjfjdomfldolcaaGreat
