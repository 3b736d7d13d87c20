/-
  NARROWER THAN 'FOR EVERY INPUT', by the rows' own cells (each row's printed sentence says how): CheckMatchesSpec: laid · CheckSameMatchesSpec: laid · CheckFirst: laid · CheckNormal: laid · CheckReordered: laid · CheckDifferent: laid.
  DERIVED. THE GIVEN ROWS OF THIS SEAT. 6 by the template 'for every input the law returns true; each argument reads behind the call as it read before'; 0 by the template 'total and deterministic' (their statements: YtbhfbbfifmnniaaDoorTotals.lean).
  GIVEN WITH THE SEED: the statements are not yours to turn. If you find one false, say at which input.
  Laid BY PROGRAM, IN A SANDBOX (cutbox-rows.mjs): the forced cells as the released guide's own fill.sh prints them over the translation 27e70fd9d7620bcc… (all of the seat's roots in one cut). By AI agents, Wed Nov 11 2026. No macro, syntax, notation, axiom, sorry.
-/
import Derived.Test.YtbhfbbfifmnniaaDoorChecked
import GoSem.Claim
import GoSem.ClaimJoined
import GoSem.ClaimMapViews
import Derived.JoinedTies
import Derived.KernelRfl
namespace Go.Proofs.YtbhfbbfifmnniaaDoor
/- THE CELL 'sum', in the pinned program and in every row, IS THE sha256 OF THE DUMP (.gsa) THAT YtbhfbbfifmnniaaDoorProg.lean LOADS. Nothing in Lean hashes anything: it is a label: what it is worth is what the hold of that sum in a sandbox is worth. -/
noncomputable def Tryd.pinned : Pinned := { name := "ytbhfbbfifmnniaadoor", sum := "27e70fd9d7620bcc25ab4c6dc156c00c6ce87947bfd5b021c658b6525e65bdb5", checked := Tryd.checked }
namespace Rows
def none {H : Type} : Left H := { results := [], args := [] }

/- WHAT THE LISTED PACKAGE-LEVEL VARIABLES READ AS WHEN THE CALL BEGINS. Each datum BY PROGRAM (the guide's laid-datum.mjs) off the statement by which the dump's own 'gosem.cut.vars' lays the variable. In a bare row this is a premise. The card (YtbhfbbfifmnniaaDoorCards.lean) ties it to the program's text. -/
def laid_custody_check_own {H : Type} : DataW H := .agg [.lit (.int .i64 23), .lit (.int .i64 24), .lit (.int .i64 25)]

/-- 'custodylaw13.CheckMatchesSpec': WHATEVER THE INPUT: true; the input reads as it did. -/
def checkMatchesSpecSpec : ChangeSpec := { name := "checkMatchesSpec", fn := fun _ => fun
  | [d1, d2] => { results := [.lit (.bool true)], args := [d1, d2] }
  | _ => none }
def checkMatchesSpecRow : OpenClaim := { program := "ytbhfbbfifmnniaadoor", sum := "27e70fd9d7620bcc25ab4c6dc156c00c6ce87947bfd5b021c658b6525e65bdb5", func := "custody/custodylaw13.CheckMatchesSpec", spec := "checkMatchesSpec", unfollowed := true, recurses := true, named := ["custody/check.own"], plainKeys := false, apart := false, laid := [("custody/check.own", laid_custody_check_own)] }
def CheckMatchesSpecSaid : Prop := checkMatchesSpecRow.holds Tryd.pinned (OpenSpec.ofChange checkMatchesSpecSpec)

/-- ITS FALSE NEIGHBOUR: 'it returns false'. Refute it at one input. -/
def checkMatchesSpecWrong : ChangeSpec := { name := "checkMatchesSpec", fn := fun _ => fun
  | [d1, d2] => { results := [.lit (.bool false)], args := [d1, d2] }
  | _ => none }
def CheckMatchesSpecWrongFalsely : Prop := checkMatchesSpecRow.holds Tryd.pinned (OpenSpec.ofChange checkMatchesSpecWrong)

/-- 'custodylaw13.CheckSameMatchesSpec': WHATEVER THE INPUT: true; the input reads as it did. -/
def checkSameMatchesSpecSpec : ChangeSpec := { name := "checkSameMatchesSpec", fn := fun _ => fun
  | [d1, d2] => { results := [.lit (.bool true)], args := [d1, d2] }
  | _ => none }
def checkSameMatchesSpecRow : OpenClaim := { program := "ytbhfbbfifmnniaadoor", sum := "27e70fd9d7620bcc25ab4c6dc156c00c6ce87947bfd5b021c658b6525e65bdb5", func := "custody/custodylaw13.CheckSameMatchesSpec", spec := "checkSameMatchesSpec", unfollowed := true, recurses := true, named := ["custody/check.own"], plainKeys := false, apart := false, laid := [("custody/check.own", laid_custody_check_own)] }
def CheckSameMatchesSpecSaid : Prop := checkSameMatchesSpecRow.holds Tryd.pinned (OpenSpec.ofChange checkSameMatchesSpecSpec)

/-- ITS FALSE NEIGHBOUR: 'it returns false'. Refute it at one input. -/
def checkSameMatchesSpecWrong : ChangeSpec := { name := "checkSameMatchesSpec", fn := fun _ => fun
  | [d1, d2] => { results := [.lit (.bool false)], args := [d1, d2] }
  | _ => none }
def CheckSameMatchesSpecWrongFalsely : Prop := checkSameMatchesSpecRow.holds Tryd.pinned (OpenSpec.ofChange checkSameMatchesSpecWrong)

/-- 'custodylaw13.CheckFirst': WHATEVER THE INPUT: true; the input reads as it did. -/
def checkFirstSpec : ChangeSpec := { name := "checkFirst", fn := fun _ => fun
  | [d1, d2] => { results := [.lit (.bool true)], args := [d1, d2] }
  | _ => none }
def checkFirstRow : OpenClaim := { program := "ytbhfbbfifmnniaadoor", sum := "27e70fd9d7620bcc25ab4c6dc156c00c6ce87947bfd5b021c658b6525e65bdb5", func := "custody/custodylaw13.CheckFirst", spec := "checkFirst", unfollowed := true, recurses := true, named := ["custody/check.own"], plainKeys := false, apart := false, laid := [("custody/check.own", laid_custody_check_own)] }
def CheckFirstSaid : Prop := checkFirstRow.holds Tryd.pinned (OpenSpec.ofChange checkFirstSpec)

/-- ITS FALSE NEIGHBOUR: 'it returns false'. Refute it at one input. -/
def checkFirstWrong : ChangeSpec := { name := "checkFirst", fn := fun _ => fun
  | [d1, d2] => { results := [.lit (.bool false)], args := [d1, d2] }
  | _ => none }
def CheckFirstWrongFalsely : Prop := checkFirstRow.holds Tryd.pinned (OpenSpec.ofChange checkFirstWrong)

/-- 'custodylaw13.CheckNormal': WHATEVER THE INPUT: true; the input reads as it did. -/
def checkNormalSpec : ChangeSpec := { name := "checkNormal", fn := fun _ => fun
  | [d] => { results := [.lit (.bool true)], args := [d] }
  | _ => none }
def checkNormalRow : OpenClaim := { program := "ytbhfbbfifmnniaadoor", sum := "27e70fd9d7620bcc25ab4c6dc156c00c6ce87947bfd5b021c658b6525e65bdb5", func := "custody/custodylaw13.CheckNormal", spec := "checkNormal", unfollowed := true, recurses := true, named := ["custody/check.own"], plainKeys := false, apart := false, laid := [("custody/check.own", laid_custody_check_own)] }
def CheckNormalSaid : Prop := checkNormalRow.holds Tryd.pinned (OpenSpec.ofChange checkNormalSpec)

/-- ITS FALSE NEIGHBOUR: 'it returns false'. Refute it at one input. -/
def checkNormalWrong : ChangeSpec := { name := "checkNormal", fn := fun _ => fun
  | [d] => { results := [.lit (.bool false)], args := [d] }
  | _ => none }
def CheckNormalWrongFalsely : Prop := checkNormalRow.holds Tryd.pinned (OpenSpec.ofChange checkNormalWrong)

/-- 'custodylaw13.CheckReordered': WHATEVER THE INPUT: true; the input reads as it did. -/
def checkReorderedSpec : ChangeSpec := { name := "checkReordered", fn := fun _ => fun
  | [d1, d2, d3, d4, d5] => { results := [.lit (.bool true)], args := [d1, d2, d3, d4, d5] }
  | _ => none }
def checkReorderedRow : OpenClaim := { program := "ytbhfbbfifmnniaadoor", sum := "27e70fd9d7620bcc25ab4c6dc156c00c6ce87947bfd5b021c658b6525e65bdb5", func := "custody/custodylaw13.CheckReordered", spec := "checkReordered", unfollowed := true, recurses := true, named := ["custody/check.own"], plainKeys := false, apart := false, laid := [("custody/check.own", laid_custody_check_own)] }
def CheckReorderedSaid : Prop := checkReorderedRow.holds Tryd.pinned (OpenSpec.ofChange checkReorderedSpec)

/-- ITS FALSE NEIGHBOUR: 'it returns false'. Refute it at one input. -/
def checkReorderedWrong : ChangeSpec := { name := "checkReordered", fn := fun _ => fun
  | [d1, d2, d3, d4, d5] => { results := [.lit (.bool false)], args := [d1, d2, d3, d4, d5] }
  | _ => none }
def CheckReorderedWrongFalsely : Prop := checkReorderedRow.holds Tryd.pinned (OpenSpec.ofChange checkReorderedWrong)

/-- 'custodylaw13.CheckDifferent': WHATEVER THE INPUT: true; the input reads as it did. -/
def checkDifferentSpec : ChangeSpec := { name := "checkDifferent", fn := fun _ => fun
  | [d1, d2] => { results := [.lit (.bool true)], args := [d1, d2] }
  | _ => none }
def checkDifferentRow : OpenClaim := { program := "ytbhfbbfifmnniaadoor", sum := "27e70fd9d7620bcc25ab4c6dc156c00c6ce87947bfd5b021c658b6525e65bdb5", func := "custody/custodylaw13.CheckDifferent", spec := "checkDifferent", unfollowed := true, recurses := true, named := ["custody/check.own"], plainKeys := false, apart := false, laid := [("custody/check.own", laid_custody_check_own)] }
def CheckDifferentSaid : Prop := checkDifferentRow.holds Tryd.pinned (OpenSpec.ofChange checkDifferentSpec)

/-- ITS FALSE NEIGHBOUR: 'it returns false'. Refute it at one input. -/
def checkDifferentWrong : ChangeSpec := { name := "checkDifferent", fn := fun _ => fun
  | [d1, d2] => { results := [.lit (.bool false)], args := [d1, d2] }
  | _ => none }
def CheckDifferentWrongFalsely : Prop := checkDifferentRow.holds Tryd.pinned (OpenSpec.ofChange checkDifferentWrong)

/- THE SECOND FORM. 'bulk': how many values and letters a reading holds, each counted each time it is reached (what is shared counts as often as it is met; a slice's spare places count too). A statement '..UptoSaid' is the law's where the arguments, and the package variables that the reading takes, are together of bulk at most 1048576: NARROWER than '..Said'. Prove '..Said' where nothing that the law and all that it calls make is longer than what came in: it says more and counts as full. Else prove '..UptoSaid'. A law counts once. -/
mutual
def uptoBulk {H : Type} : DataW H → Nat
  | .lit (.string bytes) => bytes.length + 1
  | .lit _ => 1
  | .nil => 1
  | .ptr d => uptoBulk d + 1
  | .slice elems spare => uptoBulkAll elems + uptoBulkAll spare + 1
  | .agg parts => uptoBulkAll parts + 1
  | .iface _ d => uptoBulk d + 1
  | .map entries => uptoBulkEntries entries + 1
  | .held _ => 1
def uptoBulkAll {H : Type} : List (DataW H) → Nat
  | [] => 0
  | d :: r => uptoBulk d + uptoBulkAll r
def uptoBulkEntries {H : Type} : List (Lit × DataW H) → Nat
  | [] => 0
  | x :: r => uptoBulkEntry x + uptoBulkEntries r
def uptoBulkEntry {H : Type} : Lit × DataW H → Nat
  | (.string bytes, d) => bytes.length + uptoBulk d + 1
  | (_, d) => uptoBulk d + 1
 end
def uptoSmall : (H : Type) → List (DataW H) → Bool := fun _ ds => decide (uptoBulkAll ds ≤ 1048576)
def OpenSpec.upto (s : _root_.Go.ChangeSpec) : _root_.Go.OpenSpec := { _root_.Go.OpenSpec.ofChange s with cond := some uptoSmall }

/-- 'custodylaw13.CheckMatchesSpec', WHERE WHAT IT READS IS OF BULK AT MOST 1048576: true; the input reads as it did. -/
def checkMatchesSpecUptoRow : OpenClaim := { program := "ytbhfbbfifmnniaadoor", sum := "27e70fd9d7620bcc25ab4c6dc156c00c6ce87947bfd5b021c658b6525e65bdb5", func := "custody/custodylaw13.CheckMatchesSpec", spec := "checkMatchesSpec", unfollowed := true, recurses := true, named := ["custody/check.own"], plainKeys := false, apart := false, laid := [("custody/check.own", laid_custody_check_own)], narrowed := true }
def CheckMatchesSpecUptoSaid : Prop := checkMatchesSpecUptoRow.holds Tryd.pinned (OpenSpec.upto checkMatchesSpecSpec)

/-- 'custodylaw13.CheckSameMatchesSpec', WHERE WHAT IT READS IS OF BULK AT MOST 1048576: true; the input reads as it did. -/
def checkSameMatchesSpecUptoRow : OpenClaim := { program := "ytbhfbbfifmnniaadoor", sum := "27e70fd9d7620bcc25ab4c6dc156c00c6ce87947bfd5b021c658b6525e65bdb5", func := "custody/custodylaw13.CheckSameMatchesSpec", spec := "checkSameMatchesSpec", unfollowed := true, recurses := true, named := ["custody/check.own"], plainKeys := false, apart := false, laid := [("custody/check.own", laid_custody_check_own)], narrowed := true }
def CheckSameMatchesSpecUptoSaid : Prop := checkSameMatchesSpecUptoRow.holds Tryd.pinned (OpenSpec.upto checkSameMatchesSpecSpec)

/-- 'custodylaw13.CheckFirst', WHERE WHAT IT READS IS OF BULK AT MOST 1048576: true; the input reads as it did. -/
def checkFirstUptoRow : OpenClaim := { program := "ytbhfbbfifmnniaadoor", sum := "27e70fd9d7620bcc25ab4c6dc156c00c6ce87947bfd5b021c658b6525e65bdb5", func := "custody/custodylaw13.CheckFirst", spec := "checkFirst", unfollowed := true, recurses := true, named := ["custody/check.own"], plainKeys := false, apart := false, laid := [("custody/check.own", laid_custody_check_own)], narrowed := true }
def CheckFirstUptoSaid : Prop := checkFirstUptoRow.holds Tryd.pinned (OpenSpec.upto checkFirstSpec)

/-- 'custodylaw13.CheckNormal', WHERE WHAT IT READS IS OF BULK AT MOST 1048576: true; the input reads as it did. -/
def checkNormalUptoRow : OpenClaim := { program := "ytbhfbbfifmnniaadoor", sum := "27e70fd9d7620bcc25ab4c6dc156c00c6ce87947bfd5b021c658b6525e65bdb5", func := "custody/custodylaw13.CheckNormal", spec := "checkNormal", unfollowed := true, recurses := true, named := ["custody/check.own"], plainKeys := false, apart := false, laid := [("custody/check.own", laid_custody_check_own)], narrowed := true }
def CheckNormalUptoSaid : Prop := checkNormalUptoRow.holds Tryd.pinned (OpenSpec.upto checkNormalSpec)

/-- 'custodylaw13.CheckReordered', WHERE WHAT IT READS IS OF BULK AT MOST 1048576: true; the input reads as it did. -/
def checkReorderedUptoRow : OpenClaim := { program := "ytbhfbbfifmnniaadoor", sum := "27e70fd9d7620bcc25ab4c6dc156c00c6ce87947bfd5b021c658b6525e65bdb5", func := "custody/custodylaw13.CheckReordered", spec := "checkReordered", unfollowed := true, recurses := true, named := ["custody/check.own"], plainKeys := false, apart := false, laid := [("custody/check.own", laid_custody_check_own)], narrowed := true }
def CheckReorderedUptoSaid : Prop := checkReorderedUptoRow.holds Tryd.pinned (OpenSpec.upto checkReorderedSpec)

/-- 'custodylaw13.CheckDifferent', WHERE WHAT IT READS IS OF BULK AT MOST 1048576: true; the input reads as it did. -/
def checkDifferentUptoRow : OpenClaim := { program := "ytbhfbbfifmnniaadoor", sum := "27e70fd9d7620bcc25ab4c6dc156c00c6ce87947bfd5b021c658b6525e65bdb5", func := "custody/custodylaw13.CheckDifferent", spec := "checkDifferent", unfollowed := true, recurses := true, named := ["custody/check.own"], plainKeys := false, apart := false, laid := [("custody/check.own", laid_custody_check_own)], narrowed := true }
def CheckDifferentUptoSaid : Prop := checkDifferentUptoRow.holds Tryd.pinned (OpenSpec.upto checkDifferentSpec)

end Rows
end Go.Proofs.YtbhfbbfifmnniaaDoor
