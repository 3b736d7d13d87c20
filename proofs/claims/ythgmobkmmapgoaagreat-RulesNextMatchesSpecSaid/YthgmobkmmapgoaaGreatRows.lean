/-
  No cell of these rows narrows 'for every input' (looked for: loops, veiled, ifaces, maps, wideKeys, modest, calm, conditions, laid).
  DERIVED. THE GIVEN ROWS OF THIS SEAT. 7 by the template 'for every input the law returns true; each argument reads behind the call as it read before'; 0 by the template 'total and deterministic' (their statements: YthgmobkmmapgoaaGreatTotals.lean).
  GIVEN WITH THE SEED: the statements are not yours to turn. If you find one false, say at which input.
  Laid BY PROGRAM, IN A SANDBOX (cutbox-rows.mjs): the forced cells as the released guide's own fill.sh prints them over the translation 266540f2346957a4… (all of the seat's roots in one cut). By AI agents, Wed Nov 11 2026. No macro, syntax, notation, axiom, sorry.
-/
import Derived.Test.YthgmobkmmapgoaaGreatChecked
import GoSem.Claim
import GoSem.ClaimJoined
import GoSem.ClaimMapViews
import Derived.JoinedTies
import Derived.KernelRfl
namespace Go.Proofs.YthgmobkmmapgoaaGreat
/- THE CELL 'sum', in the pinned program and in every row, IS THE sha256 OF THE DUMP (.gsa) THAT YthgmobkmmapgoaaGreatProg.lean LOADS. Nothing in Lean hashes anything: it is a label: what it is worth is what the hold of that sum in a sandbox is worth. -/
noncomputable def Tryz.pinned : Pinned := { name := "ythgmobkmmapgoaagreat", sum := "266540f2346957a49196476a18566cbf03bf510cd1fdccf66361289a62dd2c72", checked := Tryz.checked }
namespace Rows
def none {H : Type} : Left H := { results := [], args := [] }

/-- 'custodylaw17.RulesFactsMatchSpec': WHATEVER THE INPUT: true; the input reads as it did. -/
def rulesFactsMatchSpecSpec : ChangeSpec := { name := "rulesFactsMatchSpec", fn := fun _ => fun
  | [d1, d2, d3] => { results := [.lit (.bool true)], args := [d1, d2, d3] }
  | _ => none }
def rulesFactsMatchSpecRow : OpenClaim := { program := "ythgmobkmmapgoaagreat", sum := "266540f2346957a49196476a18566cbf03bf510cd1fdccf66361289a62dd2c72", func := "custody/custodylaw17.RulesFactsMatchSpec", spec := "rulesFactsMatchSpec", unfollowed := true, recurses := true, plainKeys := false, apart := false }
def RulesFactsMatchSpecSaid : Prop := rulesFactsMatchSpecRow.holds Tryz.pinned (OpenSpec.ofChange rulesFactsMatchSpecSpec)

/-- ITS FALSE NEIGHBOUR: 'it returns false'. Refute it at one input. -/
def rulesFactsMatchSpecWrong : ChangeSpec := { name := "rulesFactsMatchSpec", fn := fun _ => fun
  | [d1, d2, d3] => { results := [.lit (.bool false)], args := [d1, d2, d3] }
  | _ => none }
def RulesFactsMatchSpecWrongFalsely : Prop := rulesFactsMatchSpecRow.holds Tryz.pinned (OpenSpec.ofChange rulesFactsMatchSpecWrong)

/-- 'custodylaw17.RulesInstancesMatchSpec': WHATEVER THE INPUT: true; the input reads as it did. -/
def rulesInstancesMatchSpecSpec : ChangeSpec := { name := "rulesInstancesMatchSpec", fn := fun _ => fun
  | [d1, d2, d3] => { results := [.lit (.bool true)], args := [d1, d2, d3] }
  | _ => none }
def rulesInstancesMatchSpecRow : OpenClaim := { program := "ythgmobkmmapgoaagreat", sum := "266540f2346957a49196476a18566cbf03bf510cd1fdccf66361289a62dd2c72", func := "custody/custodylaw17.RulesInstancesMatchSpec", spec := "rulesInstancesMatchSpec", unfollowed := true, recurses := true, plainKeys := false, apart := false }
def RulesInstancesMatchSpecSaid : Prop := rulesInstancesMatchSpecRow.holds Tryz.pinned (OpenSpec.ofChange rulesInstancesMatchSpecSpec)

/-- ITS FALSE NEIGHBOUR: 'it returns false'. Refute it at one input. -/
def rulesInstancesMatchSpecWrong : ChangeSpec := { name := "rulesInstancesMatchSpec", fn := fun _ => fun
  | [d1, d2, d3] => { results := [.lit (.bool false)], args := [d1, d2, d3] }
  | _ => none }
def RulesInstancesMatchSpecWrongFalsely : Prop := rulesInstancesMatchSpecRow.holds Tryz.pinned (OpenSpec.ofChange rulesInstancesMatchSpecWrong)

/-- 'custodylaw17.RulesNextMatchesSpec': WHATEVER THE INPUT: true; the input reads as it did. -/
def rulesNextMatchesSpecSpec : ChangeSpec := { name := "rulesNextMatchesSpec", fn := fun _ => fun
  | [d1, d2] => { results := [.lit (.bool true)], args := [d1, d2] }
  | _ => none }
def rulesNextMatchesSpecRow : OpenClaim := { program := "ythgmobkmmapgoaagreat", sum := "266540f2346957a49196476a18566cbf03bf510cd1fdccf66361289a62dd2c72", func := "custody/custodylaw17.RulesNextMatchesSpec", spec := "rulesNextMatchesSpec", unfollowed := true, recurses := true, plainKeys := false, apart := false }
def RulesNextMatchesSpecSaid : Prop := rulesNextMatchesSpecRow.holds Tryz.pinned (OpenSpec.ofChange rulesNextMatchesSpecSpec)

/-- ITS FALSE NEIGHBOUR: 'it returns false'. Refute it at one input. -/
def rulesNextMatchesSpecWrong : ChangeSpec := { name := "rulesNextMatchesSpec", fn := fun _ => fun
  | [d1, d2] => { results := [.lit (.bool false)], args := [d1, d2] }
  | _ => none }
def RulesNextMatchesSpecWrongFalsely : Prop := rulesNextMatchesSpecRow.holds Tryz.pinned (OpenSpec.ofChange rulesNextMatchesSpecWrong)

/-- 'custodylaw17.RulesNextIsMonotone': WHATEVER THE INPUT: true; the input reads as it did. -/
def rulesNextIsMonotoneSpec : ChangeSpec := { name := "rulesNextIsMonotone", fn := fun _ => fun
  | [d1, d2, d3, d4] => { results := [.lit (.bool true)], args := [d1, d2, d3, d4] }
  | _ => none }
def rulesNextIsMonotoneRow : OpenClaim := { program := "ythgmobkmmapgoaagreat", sum := "266540f2346957a49196476a18566cbf03bf510cd1fdccf66361289a62dd2c72", func := "custody/custodylaw17.RulesNextIsMonotone", spec := "rulesNextIsMonotone", unfollowed := true, recurses := true, plainKeys := false, apart := false }
def RulesNextIsMonotoneSaid : Prop := rulesNextIsMonotoneRow.holds Tryz.pinned (OpenSpec.ofChange rulesNextIsMonotoneSpec)

/-- ITS FALSE NEIGHBOUR: 'it returns false'. Refute it at one input. -/
def rulesNextIsMonotoneWrong : ChangeSpec := { name := "rulesNextIsMonotone", fn := fun _ => fun
  | [d1, d2, d3, d4] => { results := [.lit (.bool false)], args := [d1, d2, d3, d4] }
  | _ => none }
def RulesNextIsMonotoneWrongFalsely : Prop := rulesNextIsMonotoneRow.holds Tryz.pinned (OpenSpec.ofChange rulesNextIsMonotoneWrong)

/-- 'custodylaw17.RulesStayValid': WHATEVER THE INPUT: true; the input reads as it did. -/
def rulesStayValidSpec : ChangeSpec := { name := "rulesStayValid", fn := fun _ => fun
  | [d] => { results := [.lit (.bool true)], args := [d] }
  | _ => none }
def rulesStayValidRow : OpenClaim := { program := "ythgmobkmmapgoaagreat", sum := "266540f2346957a49196476a18566cbf03bf510cd1fdccf66361289a62dd2c72", func := "custody/custodylaw17.RulesStayValid", spec := "rulesStayValid", unfollowed := true, recurses := true, plainKeys := false, apart := false }
def RulesStayValidSaid : Prop := rulesStayValidRow.holds Tryz.pinned (OpenSpec.ofChange rulesStayValidSpec)

/-- ITS FALSE NEIGHBOUR: 'it returns false'. Refute it at one input. -/
def rulesStayValidWrong : ChangeSpec := { name := "rulesStayValid", fn := fun _ => fun
  | [d] => { results := [.lit (.bool false)], args := [d] }
  | _ => none }
def RulesStayValidWrongFalsely : Prop := rulesStayValidRow.holds Tryz.pinned (OpenSpec.ofChange rulesStayValidWrong)

/-- 'custodylaw17.RulesUsingIsComplete': WHATEVER THE INPUT: true; the input reads as it did. -/
def rulesUsingIsCompleteSpec : ChangeSpec := { name := "rulesUsingIsComplete", fn := fun _ => fun
  | [d1, d2, d3] => { results := [.lit (.bool true)], args := [d1, d2, d3] }
  | _ => none }
def rulesUsingIsCompleteRow : OpenClaim := { program := "ythgmobkmmapgoaagreat", sum := "266540f2346957a49196476a18566cbf03bf510cd1fdccf66361289a62dd2c72", func := "custody/custodylaw17.RulesUsingIsComplete", spec := "rulesUsingIsComplete", unfollowed := true, recurses := true, plainKeys := false, apart := false }
def RulesUsingIsCompleteSaid : Prop := rulesUsingIsCompleteRow.holds Tryz.pinned (OpenSpec.ofChange rulesUsingIsCompleteSpec)

/-- ITS FALSE NEIGHBOUR: 'it returns false'. Refute it at one input. -/
def rulesUsingIsCompleteWrong : ChangeSpec := { name := "rulesUsingIsComplete", fn := fun _ => fun
  | [d1, d2, d3] => { results := [.lit (.bool false)], args := [d1, d2, d3] }
  | _ => none }
def RulesUsingIsCompleteWrongFalsely : Prop := rulesUsingIsCompleteRow.holds Tryz.pinned (OpenSpec.ofChange rulesUsingIsCompleteWrong)

/-- 'custodylaw17.RulesSetsMatchSpec': WHATEVER THE INPUT: true; the input reads as it did. -/
def rulesSetsMatchSpecSpec : ChangeSpec := { name := "rulesSetsMatchSpec", fn := fun _ => fun
  | [d1, d2, d3] => { results := [.lit (.bool true)], args := [d1, d2, d3] }
  | _ => none }
def rulesSetsMatchSpecRow : OpenClaim := { program := "ythgmobkmmapgoaagreat", sum := "266540f2346957a49196476a18566cbf03bf510cd1fdccf66361289a62dd2c72", func := "custody/custodylaw17.RulesSetsMatchSpec", spec := "rulesSetsMatchSpec", unfollowed := true, recurses := true, plainKeys := false, apart := false }
def RulesSetsMatchSpecSaid : Prop := rulesSetsMatchSpecRow.holds Tryz.pinned (OpenSpec.ofChange rulesSetsMatchSpecSpec)

/-- ITS FALSE NEIGHBOUR: 'it returns false'. Refute it at one input. -/
def rulesSetsMatchSpecWrong : ChangeSpec := { name := "rulesSetsMatchSpec", fn := fun _ => fun
  | [d1, d2, d3] => { results := [.lit (.bool false)], args := [d1, d2, d3] }
  | _ => none }
def RulesSetsMatchSpecWrongFalsely : Prop := rulesSetsMatchSpecRow.holds Tryz.pinned (OpenSpec.ofChange rulesSetsMatchSpecWrong)

/- THE SECOND FORM. 'bulk': how many values and letters a reading holds, each counted each time it is reached (what is shared counts as often as it is met; a slice's spare places count too). A statement '..UptoSaid' is the law's where the arguments, and the package variables that the reading takes, are together of bulk at most 1048576: NARROWER than '..Said'. Prove '..Said' where nothing that the law and all that it calls make is longer than what came in: it says more and counts as full. Else prove '..UptoSaid'. A law counts once. -/
mutual
def uptoBulk {H : Type} : DataW H → Nat
  | .lit (.string bytes) => bytes.length + 1
  | .lit _ => 1
  | .nil => 1
  | .ptr d => uptoBulk d + 1
  | .slice elems spare => uptoBulkAll elems + uptoBulkAll spare + 1
  | .agg parts => uptoBulkAll parts + 1
  | .iface _ d => uptoBulk d + 1
  | .map entries => uptoBulkEntries entries + 1
  | .held _ => 1
def uptoBulkAll {H : Type} : List (DataW H) → Nat
  | [] => 0
  | d :: r => uptoBulk d + uptoBulkAll r
def uptoBulkEntries {H : Type} : List (Lit × DataW H) → Nat
  | [] => 0
  | x :: r => uptoBulkEntry x + uptoBulkEntries r
def uptoBulkEntry {H : Type} : Lit × DataW H → Nat
  | (.string bytes, d) => bytes.length + uptoBulk d + 1
  | (_, d) => uptoBulk d + 1
 end
def uptoSmall : (H : Type) → List (DataW H) → Bool := fun _ ds => decide (uptoBulkAll ds ≤ 1048576)
def OpenSpec.upto (s : _root_.Go.ChangeSpec) : _root_.Go.OpenSpec := { _root_.Go.OpenSpec.ofChange s with cond := some uptoSmall }

/-- 'custodylaw17.RulesFactsMatchSpec', WHERE WHAT IT READS IS OF BULK AT MOST 1048576: true; the input reads as it did. -/
def rulesFactsMatchSpecUptoRow : OpenClaim := { program := "ythgmobkmmapgoaagreat", sum := "266540f2346957a49196476a18566cbf03bf510cd1fdccf66361289a62dd2c72", func := "custody/custodylaw17.RulesFactsMatchSpec", spec := "rulesFactsMatchSpec", unfollowed := true, recurses := true, plainKeys := false, apart := false, narrowed := true }
def RulesFactsMatchSpecUptoSaid : Prop := rulesFactsMatchSpecUptoRow.holds Tryz.pinned (OpenSpec.upto rulesFactsMatchSpecSpec)

/-- 'custodylaw17.RulesInstancesMatchSpec', WHERE WHAT IT READS IS OF BULK AT MOST 1048576: true; the input reads as it did. -/
def rulesInstancesMatchSpecUptoRow : OpenClaim := { program := "ythgmobkmmapgoaagreat", sum := "266540f2346957a49196476a18566cbf03bf510cd1fdccf66361289a62dd2c72", func := "custody/custodylaw17.RulesInstancesMatchSpec", spec := "rulesInstancesMatchSpec", unfollowed := true, recurses := true, plainKeys := false, apart := false, narrowed := true }
def RulesInstancesMatchSpecUptoSaid : Prop := rulesInstancesMatchSpecUptoRow.holds Tryz.pinned (OpenSpec.upto rulesInstancesMatchSpecSpec)

/-- 'custodylaw17.RulesNextMatchesSpec', WHERE WHAT IT READS IS OF BULK AT MOST 1048576: true; the input reads as it did. -/
def rulesNextMatchesSpecUptoRow : OpenClaim := { program := "ythgmobkmmapgoaagreat", sum := "266540f2346957a49196476a18566cbf03bf510cd1fdccf66361289a62dd2c72", func := "custody/custodylaw17.RulesNextMatchesSpec", spec := "rulesNextMatchesSpec", unfollowed := true, recurses := true, plainKeys := false, apart := false, narrowed := true }
def RulesNextMatchesSpecUptoSaid : Prop := rulesNextMatchesSpecUptoRow.holds Tryz.pinned (OpenSpec.upto rulesNextMatchesSpecSpec)

/-- 'custodylaw17.RulesNextIsMonotone', WHERE WHAT IT READS IS OF BULK AT MOST 1048576: true; the input reads as it did. -/
def rulesNextIsMonotoneUptoRow : OpenClaim := { program := "ythgmobkmmapgoaagreat", sum := "266540f2346957a49196476a18566cbf03bf510cd1fdccf66361289a62dd2c72", func := "custody/custodylaw17.RulesNextIsMonotone", spec := "rulesNextIsMonotone", unfollowed := true, recurses := true, plainKeys := false, apart := false, narrowed := true }
def RulesNextIsMonotoneUptoSaid : Prop := rulesNextIsMonotoneUptoRow.holds Tryz.pinned (OpenSpec.upto rulesNextIsMonotoneSpec)

/-- 'custodylaw17.RulesStayValid', WHERE WHAT IT READS IS OF BULK AT MOST 1048576: true; the input reads as it did. -/
def rulesStayValidUptoRow : OpenClaim := { program := "ythgmobkmmapgoaagreat", sum := "266540f2346957a49196476a18566cbf03bf510cd1fdccf66361289a62dd2c72", func := "custody/custodylaw17.RulesStayValid", spec := "rulesStayValid", unfollowed := true, recurses := true, plainKeys := false, apart := false, narrowed := true }
def RulesStayValidUptoSaid : Prop := rulesStayValidUptoRow.holds Tryz.pinned (OpenSpec.upto rulesStayValidSpec)

/-- 'custodylaw17.RulesUsingIsComplete', WHERE WHAT IT READS IS OF BULK AT MOST 1048576: true; the input reads as it did. -/
def rulesUsingIsCompleteUptoRow : OpenClaim := { program := "ythgmobkmmapgoaagreat", sum := "266540f2346957a49196476a18566cbf03bf510cd1fdccf66361289a62dd2c72", func := "custody/custodylaw17.RulesUsingIsComplete", spec := "rulesUsingIsComplete", unfollowed := true, recurses := true, plainKeys := false, apart := false, narrowed := true }
def RulesUsingIsCompleteUptoSaid : Prop := rulesUsingIsCompleteUptoRow.holds Tryz.pinned (OpenSpec.upto rulesUsingIsCompleteSpec)

/-- 'custodylaw17.RulesSetsMatchSpec', WHERE WHAT IT READS IS OF BULK AT MOST 1048576: true; the input reads as it did. -/
def rulesSetsMatchSpecUptoRow : OpenClaim := { program := "ythgmobkmmapgoaagreat", sum := "266540f2346957a49196476a18566cbf03bf510cd1fdccf66361289a62dd2c72", func := "custody/custodylaw17.RulesSetsMatchSpec", spec := "rulesSetsMatchSpec", unfollowed := true, recurses := true, plainKeys := false, apart := false, narrowed := true }
def RulesSetsMatchSpecUptoSaid : Prop := rulesSetsMatchSpecUptoRow.holds Tryz.pinned (OpenSpec.upto rulesSetsMatchSpecSpec)

end Rows
end Go.Proofs.YthgmobkmmapgoaaGreat
