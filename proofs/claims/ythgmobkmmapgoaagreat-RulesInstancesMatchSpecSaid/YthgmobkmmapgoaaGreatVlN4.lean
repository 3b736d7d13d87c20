/- Layer 17, plain laws: what follows; the order of the instances. -/
import Derived.Test.YthgmobkmmapgoaaGreatVlN3
set_option linter.unusedSimpArgs false
set_option linter.unusedVariables false
namespace Go.Proofs.YthgmobkmmapgoaaGreat
open Go Go.Vl
set_option maxRecDepth 10000
