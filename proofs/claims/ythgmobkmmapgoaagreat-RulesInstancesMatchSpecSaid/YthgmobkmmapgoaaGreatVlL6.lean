/- Layer 17: the law RulesNextMatchesSpec, as a contract. -/
import Derived.Test.YthgmobkmmapgoaaGreatVlN5
import Derived.Test.YthgmobkmmapgoaaGreatVlL2
set_option linter.unusedSimpArgs false
set_option linter.unusedVariables false
namespace Go.Proofs.YthgmobkmmapgoaaGreat
open Go Go.Vl
variable {G : Gl}
set_option maxRecDepth 10000
