/- Layer 17, the specification: the rules 1 to 5. Printed by genr8.py. -/
import Derived.Test.YtloppcgcepgbnaaGreatDoorVlR7
set_option linter.all false
namespace Go.Proofs.YtloppcgcepgbnaaGreatDoor
open Go Go.Vl
variable {G:Gl}
set_option maxRecDepth 4000
