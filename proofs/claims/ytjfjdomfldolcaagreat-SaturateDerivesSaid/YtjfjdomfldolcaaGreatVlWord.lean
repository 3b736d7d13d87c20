/- Values without memory: words of 32 bits and bytes as bit vectors: the operations without side conditions. -/
import Derived.Test.YtjfjdomfldolcaaGreatVlPack
import Derived.Laws.BitsAllLaws
set_option linter.all false
namespace Go.Vl
open Go Go.RowKit
abbrev W:=BitVec 32
section
variable {P:Program} {K:V→Prop} {a b:W} {T U:TypeId}
variable {x y:UInt8}
end
abbrev B:=List UInt8
def cl {α:Type} (f:α→C) (l:List α):List V:=l.map fun x=>.c (f x)
section
variable {P:Program} {G:Gl} {tr:List Nat} {fr:Nat→V} {bx:Nat→List V} {nb:Nat} {K:S→Prop} {KV:V→Prop} {α:Type} {f:α→C} {L:List α}
end
open Go
def val (l:B):Nat:=l.foldl (fun m c=>256*m+c.toNat) 0
def I64 (n:Int):Prop:=-9223372036854775808≤n∧n≤9223372036854775807
