/- Layer 17, the specification: ruled, add. -/
import Derived.Test.YtloppcgcepgbnaaGreatDoorVlR5
import Derived.Test.YtloppcgcepgbnaaGreatDoorVlRunB
set_option linter.all false
namespace Go.Proofs.YtloppcgcepgbnaaGreatDoor
open Go Go.Vl
variable {G:Gl}
set_option maxRecDepth 4000
def owR (l:List Ru):V:=.ow (if l.isEmpty then none else some (120,3)) (l.map ruC)
theorem aje {l:List Ru}:(owR l).isOw=true:=rfl
section
variable {r:Ru} {nb q:Nat} {K:V→Prop}
