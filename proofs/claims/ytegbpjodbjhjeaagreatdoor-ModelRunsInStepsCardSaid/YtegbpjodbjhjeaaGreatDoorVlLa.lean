/- Layer 16: the law of the classical example. -/
import Derived.Test.YtegbpjodbjhjeaaGreatDoorVlLk
import Derived.Test.YtegbpjodbjhjeaaGreatDoorVlCA
set_option linter.all false
namespace Go.Proofs.YtegbpjodbjhjeaaGreatDoor
open Go Go.Vl
open Kp (Pol Ty poC tyC)
set_option maxRecDepth 10000
variable {G:Gl}
