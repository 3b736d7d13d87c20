/-
  NARROWER THAN 'FOR EVERY INPUT', by the rows' own cells (each row's printed sentence says how): KeysAllowed: laid · KeysBoxes: laid · KeysUnbox: laid · KeysDecode: laid · KeysNarrow: laid · KeysMatchSpec: laid · KeysIdsOnce: laid.
  DERIVED. THE GIVEN ROWS OF THIS SEAT. 7 by the template 'for every input the law returns true; each argument reads behind the call as it read before'; 0 by the template 'total and deterministic' (their statements: YtidlohfkfdeaiaaDoorTotals.lean).
  GIVEN WITH THE SEED: the statements are not yours to turn. If you find one false, say at which input.
  Laid BY PROGRAM, IN A SANDBOX (cutbox-rows.mjs): the forced cells as the released guide's own fill.sh prints them over the translation 528061f2f9878f18… (all of the seat's roots in one cut). By AI agents, Wed Nov 11 2026. No macro, syntax, notation, axiom, sorry.
-/
import Derived.Test.YtidlohfkfdeaiaaDoorChecked
import GoSem.Claim
import GoSem.ClaimJoined
import GoSem.ClaimMapViews
import Derived.JoinedTies
import Derived.KernelRfl
namespace Go.Proofs.YtidlohfkfdeaiaaDoor
/- THE CELL 'sum', in the pinned program and in every row, IS THE sha256 OF THE DUMP (.gsa) THAT YtidlohfkfdeaiaaDoorProg.lean LOADS. Nothing in Lean hashes anything: it is a label: what it is worth is what the hold of that sum in a sandbox is worth. -/
noncomputable def Tryd.pinned : Pinned := { name := "ytidlohfkfdeaiaadoor", sum := "528061f2f9878f18093381434eab04e8c767c79d8a29121129c1472779553d37", checked := Tryd.checked }
namespace Rows
def none {H : Type} : Left H := { results := [], args := [] }

/- WHAT THE LISTED PACKAGE-LEVEL VARIABLES READ AS WHEN THE CALL BEGINS. Each datum BY PROGRAM (the guide's laid-datum.mjs) off the statement by which the dump's own 'gosem.cut.vars' lays the variable. In a bare row this is a premise. The card (YtidlohfkfdeaiaaDoorCards.lean) ties it to the program's text. -/
def laid_custody_hash_constants {H : Type} : DataW H := .agg [.lit (.int .u32 1116352408), .lit (.int .u32 1899447441), .lit (.int .u32 3049323471), .lit (.int .u32 3921009573), .lit (.int .u32 961987163), .lit (.int .u32 1508970993), .lit (.int .u32 2453635748), .lit (.int .u32 2870763221), .lit (.int .u32 3624381080), .lit (.int .u32 310598401), .lit (.int .u32 607225278), .lit (.int .u32 1426881987), .lit (.int .u32 1925078388), .lit (.int .u32 2162078206), .lit (.int .u32 2614888103), .lit (.int .u32 3248222580), .lit (.int .u32 3835390401), .lit (.int .u32 4022224774), .lit (.int .u32 264347078), .lit (.int .u32 604807628), .lit (.int .u32 770255983), .lit (.int .u32 1249150122), .lit (.int .u32 1555081692), .lit (.int .u32 1996064986), .lit (.int .u32 2554220882), .lit (.int .u32 2821834349), .lit (.int .u32 2952996808), .lit (.int .u32 3210313671), .lit (.int .u32 3336571891), .lit (.int .u32 3584528711), .lit (.int .u32 113926993), .lit (.int .u32 338241895), .lit (.int .u32 666307205), .lit (.int .u32 773529912), .lit (.int .u32 1294757372), .lit (.int .u32 1396182291), .lit (.int .u32 1695183700), .lit (.int .u32 1986661051), .lit (.int .u32 2177026350), .lit (.int .u32 2456956037), .lit (.int .u32 2730485921), .lit (.int .u32 2820302411), .lit (.int .u32 3259730800), .lit (.int .u32 3345764771), .lit (.int .u32 3516065817), .lit (.int .u32 3600352804), .lit (.int .u32 4094571909), .lit (.int .u32 275423344), .lit (.int .u32 430227734), .lit (.int .u32 506948616), .lit (.int .u32 659060556), .lit (.int .u32 883997877), .lit (.int .u32 958139571), .lit (.int .u32 1322822218), .lit (.int .u32 1537002063), .lit (.int .u32 1747873779), .lit (.int .u32 1955562222), .lit (.int .u32 2024104815), .lit (.int .u32 2227730452), .lit (.int .u32 2361852424), .lit (.int .u32 2428436474), .lit (.int .u32 2756734187), .lit (.int .u32 3204031479), .lit (.int .u32 3329325298)]
def laid_custody_custodyref02_constants {H : Type} : DataW H := .agg [.lit (.int .u32 1116352408), .lit (.int .u32 1899447441), .lit (.int .u32 3049323471), .lit (.int .u32 3921009573), .lit (.int .u32 961987163), .lit (.int .u32 1508970993), .lit (.int .u32 2453635748), .lit (.int .u32 2870763221), .lit (.int .u32 3624381080), .lit (.int .u32 310598401), .lit (.int .u32 607225278), .lit (.int .u32 1426881987), .lit (.int .u32 1925078388), .lit (.int .u32 2162078206), .lit (.int .u32 2614888103), .lit (.int .u32 3248222580), .lit (.int .u32 3835390401), .lit (.int .u32 4022224774), .lit (.int .u32 264347078), .lit (.int .u32 604807628), .lit (.int .u32 770255983), .lit (.int .u32 1249150122), .lit (.int .u32 1555081692), .lit (.int .u32 1996064986), .lit (.int .u32 2554220882), .lit (.int .u32 2821834349), .lit (.int .u32 2952996808), .lit (.int .u32 3210313671), .lit (.int .u32 3336571891), .lit (.int .u32 3584528711), .lit (.int .u32 113926993), .lit (.int .u32 338241895), .lit (.int .u32 666307205), .lit (.int .u32 773529912), .lit (.int .u32 1294757372), .lit (.int .u32 1396182291), .lit (.int .u32 1695183700), .lit (.int .u32 1986661051), .lit (.int .u32 2177026350), .lit (.int .u32 2456956037), .lit (.int .u32 2730485921), .lit (.int .u32 2820302411), .lit (.int .u32 3259730800), .lit (.int .u32 3345764771), .lit (.int .u32 3516065817), .lit (.int .u32 3600352804), .lit (.int .u32 4094571909), .lit (.int .u32 275423344), .lit (.int .u32 430227734), .lit (.int .u32 506948616), .lit (.int .u32 659060556), .lit (.int .u32 883997877), .lit (.int .u32 958139571), .lit (.int .u32 1322822218), .lit (.int .u32 1537002063), .lit (.int .u32 1747873779), .lit (.int .u32 1955562222), .lit (.int .u32 2024104815), .lit (.int .u32 2227730452), .lit (.int .u32 2361852424), .lit (.int .u32 2428436474), .lit (.int .u32 2756734187), .lit (.int .u32 3204031479), .lit (.int .u32 3329325298)]

/-- 'custodylaw27.KeysAllowed': WHATEVER THE INPUT: true; the input reads as it did. -/
def keysAllowedSpec : ChangeSpec := { name := "keysAllowed", fn := fun _ => fun
  | [d1, d2, d3, d4, d5] => { results := [.lit (.bool true)], args := [d1, d2, d3, d4, d5] }
  | _ => none }
def keysAllowedRow : OpenClaim := { program := "ytidlohfkfdeaiaadoor", sum := "528061f2f9878f18093381434eab04e8c767c79d8a29121129c1472779553d37", func := "custody/custodylaw27.KeysAllowed", spec := "keysAllowed", inPlace := ["internal/abi.NoEscape", "internal/bytealg.MakeNoZero"], unfollowed := true, recurses := true, named := ["custody/hash.constants"], apart := false, laid := [("custody/hash.constants", laid_custody_hash_constants)] }
def KeysAllowedSaid : Prop := keysAllowedRow.holds Tryd.pinned (OpenSpec.ofChange keysAllowedSpec)

/-- ITS FALSE NEIGHBOUR: 'it returns false'. Refute it at one input. -/
def keysAllowedWrong : ChangeSpec := { name := "keysAllowed", fn := fun _ => fun
  | [d1, d2, d3, d4, d5] => { results := [.lit (.bool false)], args := [d1, d2, d3, d4, d5] }
  | _ => none }
def KeysAllowedWrongFalsely : Prop := keysAllowedRow.holds Tryd.pinned (OpenSpec.ofChange keysAllowedWrong)

/-- 'custodylaw27.KeysBoxes': WHATEVER THE INPUT: true; the input reads as it did. -/
def keysBoxesSpec : ChangeSpec := { name := "keysBoxes", fn := fun _ => fun
  | [d1, d2] => { results := [.lit (.bool true)], args := [d1, d2] }
  | _ => none }
def keysBoxesRow : OpenClaim := { program := "ytidlohfkfdeaiaadoor", sum := "528061f2f9878f18093381434eab04e8c767c79d8a29121129c1472779553d37", func := "custody/custodylaw27.KeysBoxes", spec := "keysBoxes", inPlace := ["internal/abi.NoEscape", "internal/bytealg.MakeNoZero"], unfollowed := true, recurses := true, named := ["custody/hash.constants", "custody/custodyref02.constants"], apart := false, laid := [("custody/custodyref02.constants", laid_custody_custodyref02_constants), ("custody/hash.constants", laid_custody_hash_constants)] }
def KeysBoxesSaid : Prop := keysBoxesRow.holds Tryd.pinned (OpenSpec.ofChange keysBoxesSpec)

/-- ITS FALSE NEIGHBOUR: 'it returns false'. Refute it at one input. -/
def keysBoxesWrong : ChangeSpec := { name := "keysBoxes", fn := fun _ => fun
  | [d1, d2] => { results := [.lit (.bool false)], args := [d1, d2] }
  | _ => none }
def KeysBoxesWrongFalsely : Prop := keysBoxesRow.holds Tryd.pinned (OpenSpec.ofChange keysBoxesWrong)

/-- 'custodylaw27.KeysUnbox': WHATEVER THE INPUT: true; the input reads as it did. -/
def keysUnboxSpec : ChangeSpec := { name := "keysUnbox", fn := fun _ => fun
  | [d1, d2] => { results := [.lit (.bool true)], args := [d1, d2] }
  | _ => none }
def keysUnboxRow : OpenClaim := { program := "ytidlohfkfdeaiaadoor", sum := "528061f2f9878f18093381434eab04e8c767c79d8a29121129c1472779553d37", func := "custody/custodylaw27.KeysUnbox", spec := "keysUnbox", inPlace := ["internal/abi.NoEscape", "internal/bytealg.MakeNoZero"], unfollowed := true, recurses := true, named := ["custody/hash.constants", "custody/custodyref02.constants"], apart := false, laid := [("custody/custodyref02.constants", laid_custody_custodyref02_constants), ("custody/hash.constants", laid_custody_hash_constants)] }
def KeysUnboxSaid : Prop := keysUnboxRow.holds Tryd.pinned (OpenSpec.ofChange keysUnboxSpec)

/-- ITS FALSE NEIGHBOUR: 'it returns false'. Refute it at one input. -/
def keysUnboxWrong : ChangeSpec := { name := "keysUnbox", fn := fun _ => fun
  | [d1, d2] => { results := [.lit (.bool false)], args := [d1, d2] }
  | _ => none }
def KeysUnboxWrongFalsely : Prop := keysUnboxRow.holds Tryd.pinned (OpenSpec.ofChange keysUnboxWrong)

/-- 'custodylaw27.KeysDecode': WHATEVER THE INPUT: true; the input reads as it did. -/
def keysDecodeSpec : ChangeSpec := { name := "keysDecode", fn := fun _ => fun
  | [d1, d2] => { results := [.lit (.bool true)], args := [d1, d2] }
  | _ => none }
def keysDecodeRow : OpenClaim := { program := "ytidlohfkfdeaiaadoor", sum := "528061f2f9878f18093381434eab04e8c767c79d8a29121129c1472779553d37", func := "custody/custodylaw27.KeysDecode", spec := "keysDecode", inPlace := ["internal/abi.NoEscape", "internal/bytealg.MakeNoZero"], unfollowed := true, recurses := true, named := ["custody/hash.constants"], apart := false, laid := [("custody/hash.constants", laid_custody_hash_constants)] }
def KeysDecodeSaid : Prop := keysDecodeRow.holds Tryd.pinned (OpenSpec.ofChange keysDecodeSpec)

/-- ITS FALSE NEIGHBOUR: 'it returns false'. Refute it at one input. -/
def keysDecodeWrong : ChangeSpec := { name := "keysDecode", fn := fun _ => fun
  | [d1, d2] => { results := [.lit (.bool false)], args := [d1, d2] }
  | _ => none }
def KeysDecodeWrongFalsely : Prop := keysDecodeRow.holds Tryd.pinned (OpenSpec.ofChange keysDecodeWrong)

/-- 'custodylaw27.KeysNarrow': WHATEVER THE INPUT: true; the input reads as it did. -/
def keysNarrowSpec : ChangeSpec := { name := "keysNarrow", fn := fun _ => fun
  | [d1, d2, d3, d4, d5, d6, d7, d8] => { results := [.lit (.bool true)], args := [d1, d2, d3, d4, d5, d6, d7, d8] }
  | _ => none }
def keysNarrowRow : OpenClaim := { program := "ytidlohfkfdeaiaadoor", sum := "528061f2f9878f18093381434eab04e8c767c79d8a29121129c1472779553d37", func := "custody/custodylaw27.KeysNarrow", spec := "keysNarrow", inPlace := ["internal/abi.NoEscape", "internal/bytealg.MakeNoZero"], unfollowed := true, recurses := true, named := ["custody/hash.constants"], apart := false, laid := [("custody/hash.constants", laid_custody_hash_constants)] }
def KeysNarrowSaid : Prop := keysNarrowRow.holds Tryd.pinned (OpenSpec.ofChange keysNarrowSpec)

/-- ITS FALSE NEIGHBOUR: 'it returns false'. Refute it at one input. -/
def keysNarrowWrong : ChangeSpec := { name := "keysNarrow", fn := fun _ => fun
  | [d1, d2, d3, d4, d5, d6, d7, d8] => { results := [.lit (.bool false)], args := [d1, d2, d3, d4, d5, d6, d7, d8] }
  | _ => none }
def KeysNarrowWrongFalsely : Prop := keysNarrowRow.holds Tryd.pinned (OpenSpec.ofChange keysNarrowWrong)

/-- 'custodylaw27.KeysMatchSpec': WHATEVER THE INPUT: true; the input reads as it did. -/
def keysMatchSpecSpec : ChangeSpec := { name := "keysMatchSpec", fn := fun _ => fun
  | [d1, d2, d3] => { results := [.lit (.bool true)], args := [d1, d2, d3] }
  | _ => none }
def keysMatchSpecRow : OpenClaim := { program := "ytidlohfkfdeaiaadoor", sum := "528061f2f9878f18093381434eab04e8c767c79d8a29121129c1472779553d37", func := "custody/custodylaw27.KeysMatchSpec", spec := "keysMatchSpec", inPlace := ["internal/abi.NoEscape", "internal/bytealg.MakeNoZero"], unfollowed := true, recurses := true, named := ["custody/hash.constants"], apart := false, laid := [("custody/hash.constants", laid_custody_hash_constants)] }
def KeysMatchSpecSaid : Prop := keysMatchSpecRow.holds Tryd.pinned (OpenSpec.ofChange keysMatchSpecSpec)

/-- ITS FALSE NEIGHBOUR: 'it returns false'. Refute it at one input. -/
def keysMatchSpecWrong : ChangeSpec := { name := "keysMatchSpec", fn := fun _ => fun
  | [d1, d2, d3] => { results := [.lit (.bool false)], args := [d1, d2, d3] }
  | _ => none }
def KeysMatchSpecWrongFalsely : Prop := keysMatchSpecRow.holds Tryd.pinned (OpenSpec.ofChange keysMatchSpecWrong)

/-- 'custodylaw27.KeysIdsOnce': WHATEVER THE INPUT: true; the input reads as it did. -/
def keysIdsOnceSpec : ChangeSpec := { name := "keysIdsOnce", fn := fun _ => fun
  | [d] => { results := [.lit (.bool true)], args := [d] }
  | _ => none }
def keysIdsOnceRow : OpenClaim := { program := "ytidlohfkfdeaiaadoor", sum := "528061f2f9878f18093381434eab04e8c767c79d8a29121129c1472779553d37", func := "custody/custodylaw27.KeysIdsOnce", spec := "keysIdsOnce", inPlace := ["internal/abi.NoEscape", "internal/bytealg.MakeNoZero"], unfollowed := true, recurses := true, named := ["custody/hash.constants"], apart := false, laid := [("custody/hash.constants", laid_custody_hash_constants)] }
def KeysIdsOnceSaid : Prop := keysIdsOnceRow.holds Tryd.pinned (OpenSpec.ofChange keysIdsOnceSpec)

/-- ITS FALSE NEIGHBOUR: 'it returns false'. Refute it at one input. -/
def keysIdsOnceWrong : ChangeSpec := { name := "keysIdsOnce", fn := fun _ => fun
  | [d] => { results := [.lit (.bool false)], args := [d] }
  | _ => none }
def KeysIdsOnceWrongFalsely : Prop := keysIdsOnceRow.holds Tryd.pinned (OpenSpec.ofChange keysIdsOnceWrong)

/- THE SECOND FORM. 'bulk': how many values and letters a reading holds, each counted each time it is reached (what is shared counts as often as it is met; a slice's spare places count too). A statement '..UptoSaid' is the law's where the arguments, and the package variables that the reading takes, are together of bulk at most 1048576: NARROWER than '..Said'. Prove '..Said' where nothing that the law and all that it calls make is longer than what came in: it says more and counts as full. Else prove '..UptoSaid'. A law counts once. -/
mutual
def uptoBulk {H : Type} : DataW H → Nat
  | .lit (.string bytes) => bytes.length + 1
  | .lit _ => 1
  | .nil => 1
  | .ptr d => uptoBulk d + 1
  | .slice elems spare => uptoBulkAll elems + uptoBulkAll spare + 1
  | .agg parts => uptoBulkAll parts + 1
  | .iface _ d => uptoBulk d + 1
  | .map entries => uptoBulkEntries entries + 1
  | .held _ => 1
def uptoBulkAll {H : Type} : List (DataW H) → Nat
  | [] => 0
  | d :: r => uptoBulk d + uptoBulkAll r
def uptoBulkEntries {H : Type} : List (Lit × DataW H) → Nat
  | [] => 0
  | x :: r => uptoBulkEntry x + uptoBulkEntries r
def uptoBulkEntry {H : Type} : Lit × DataW H → Nat
  | (.string bytes, d) => bytes.length + uptoBulk d + 1
  | (_, d) => uptoBulk d + 1
 end
def uptoSmall : (H : Type) → List (DataW H) → Bool := fun _ ds => decide (uptoBulkAll ds ≤ 1048576)
def OpenSpec.upto (s : _root_.Go.ChangeSpec) : _root_.Go.OpenSpec := { _root_.Go.OpenSpec.ofChange s with cond := some uptoSmall }

/-- 'custodylaw27.KeysAllowed', WHERE WHAT IT READS IS OF BULK AT MOST 1048576: true; the input reads as it did. -/
def keysAllowedUptoRow : OpenClaim := { program := "ytidlohfkfdeaiaadoor", sum := "528061f2f9878f18093381434eab04e8c767c79d8a29121129c1472779553d37", func := "custody/custodylaw27.KeysAllowed", spec := "keysAllowed", inPlace := ["internal/abi.NoEscape", "internal/bytealg.MakeNoZero"], unfollowed := true, recurses := true, named := ["custody/hash.constants"], apart := false, laid := [("custody/hash.constants", laid_custody_hash_constants)], narrowed := true }
def KeysAllowedUptoSaid : Prop := keysAllowedUptoRow.holds Tryd.pinned (OpenSpec.upto keysAllowedSpec)

/-- 'custodylaw27.KeysBoxes', WHERE WHAT IT READS IS OF BULK AT MOST 1048576: true; the input reads as it did. -/
def keysBoxesUptoRow : OpenClaim := { program := "ytidlohfkfdeaiaadoor", sum := "528061f2f9878f18093381434eab04e8c767c79d8a29121129c1472779553d37", func := "custody/custodylaw27.KeysBoxes", spec := "keysBoxes", inPlace := ["internal/abi.NoEscape", "internal/bytealg.MakeNoZero"], unfollowed := true, recurses := true, named := ["custody/hash.constants", "custody/custodyref02.constants"], apart := false, laid := [("custody/custodyref02.constants", laid_custody_custodyref02_constants), ("custody/hash.constants", laid_custody_hash_constants)], narrowed := true }
def KeysBoxesUptoSaid : Prop := keysBoxesUptoRow.holds Tryd.pinned (OpenSpec.upto keysBoxesSpec)

/-- 'custodylaw27.KeysUnbox', WHERE WHAT IT READS IS OF BULK AT MOST 1048576: true; the input reads as it did. -/
def keysUnboxUptoRow : OpenClaim := { program := "ytidlohfkfdeaiaadoor", sum := "528061f2f9878f18093381434eab04e8c767c79d8a29121129c1472779553d37", func := "custody/custodylaw27.KeysUnbox", spec := "keysUnbox", inPlace := ["internal/abi.NoEscape", "internal/bytealg.MakeNoZero"], unfollowed := true, recurses := true, named := ["custody/hash.constants", "custody/custodyref02.constants"], apart := false, laid := [("custody/custodyref02.constants", laid_custody_custodyref02_constants), ("custody/hash.constants", laid_custody_hash_constants)], narrowed := true }
def KeysUnboxUptoSaid : Prop := keysUnboxUptoRow.holds Tryd.pinned (OpenSpec.upto keysUnboxSpec)

/-- 'custodylaw27.KeysDecode', WHERE WHAT IT READS IS OF BULK AT MOST 1048576: true; the input reads as it did. -/
def keysDecodeUptoRow : OpenClaim := { program := "ytidlohfkfdeaiaadoor", sum := "528061f2f9878f18093381434eab04e8c767c79d8a29121129c1472779553d37", func := "custody/custodylaw27.KeysDecode", spec := "keysDecode", inPlace := ["internal/abi.NoEscape", "internal/bytealg.MakeNoZero"], unfollowed := true, recurses := true, named := ["custody/hash.constants"], apart := false, laid := [("custody/hash.constants", laid_custody_hash_constants)], narrowed := true }
def KeysDecodeUptoSaid : Prop := keysDecodeUptoRow.holds Tryd.pinned (OpenSpec.upto keysDecodeSpec)

/-- 'custodylaw27.KeysNarrow', WHERE WHAT IT READS IS OF BULK AT MOST 1048576: true; the input reads as it did. -/
def keysNarrowUptoRow : OpenClaim := { program := "ytidlohfkfdeaiaadoor", sum := "528061f2f9878f18093381434eab04e8c767c79d8a29121129c1472779553d37", func := "custody/custodylaw27.KeysNarrow", spec := "keysNarrow", inPlace := ["internal/abi.NoEscape", "internal/bytealg.MakeNoZero"], unfollowed := true, recurses := true, named := ["custody/hash.constants"], apart := false, laid := [("custody/hash.constants", laid_custody_hash_constants)], narrowed := true }
def KeysNarrowUptoSaid : Prop := keysNarrowUptoRow.holds Tryd.pinned (OpenSpec.upto keysNarrowSpec)

/-- 'custodylaw27.KeysMatchSpec', WHERE WHAT IT READS IS OF BULK AT MOST 1048576: true; the input reads as it did. -/
def keysMatchSpecUptoRow : OpenClaim := { program := "ytidlohfkfdeaiaadoor", sum := "528061f2f9878f18093381434eab04e8c767c79d8a29121129c1472779553d37", func := "custody/custodylaw27.KeysMatchSpec", spec := "keysMatchSpec", inPlace := ["internal/abi.NoEscape", "internal/bytealg.MakeNoZero"], unfollowed := true, recurses := true, named := ["custody/hash.constants"], apart := false, laid := [("custody/hash.constants", laid_custody_hash_constants)], narrowed := true }
def KeysMatchSpecUptoSaid : Prop := keysMatchSpecUptoRow.holds Tryd.pinned (OpenSpec.upto keysMatchSpecSpec)

/-- 'custodylaw27.KeysIdsOnce', WHERE WHAT IT READS IS OF BULK AT MOST 1048576: true; the input reads as it did. -/
def keysIdsOnceUptoRow : OpenClaim := { program := "ytidlohfkfdeaiaadoor", sum := "528061f2f9878f18093381434eab04e8c767c79d8a29121129c1472779553d37", func := "custody/custodylaw27.KeysIdsOnce", spec := "keysIdsOnce", inPlace := ["internal/abi.NoEscape", "internal/bytealg.MakeNoZero"], unfollowed := true, recurses := true, named := ["custody/hash.constants"], apart := false, laid := [("custody/hash.constants", laid_custody_hash_constants)], narrowed := true }
def KeysIdsOnceUptoSaid : Prop := keysIdsOnceUptoRow.holds Tryd.pinned (OpenSpec.upto keysIdsOnceSpec)

end Rows
end Go.Proofs.YtidlohfkfdeaiaaDoor
