/- Layer 17, the specification: the rules 6 to 10. Printed by genr8.py. -/
import Derived.Test.YtloppcgcepgbnaaGreatDoorVlR8
set_option linter.all false
namespace Go.Proofs.YtloppcgcepgbnaaGreatDoor
open Go Go.Vl
variable {G:Gl}
set_option maxRecDepth 4000
section
variable {p:Pol} {es:List In} {x:In} {v:Value} {E:Option (TypeId×Nat)} {l:List (List C)} {y:V} {nb q:Nat} {K:V→Prop}
