/- Layer 17: the law RulesFactsMatchSpec, as a contract. -/
import Derived.Test.YthgmobkmmapgoaaGreatVlS2
set_option linter.unusedSimpArgs false
set_option linter.unusedVariables false
namespace Go.Proofs.YthgmobkmmapgoaaGreat
open Go Go.Vl
variable {G : Gl}
set_option maxRecDepth 10000
