/- What the statements of layer 17 share: the types of their arguments, the door. -/
import Derived.Test.YthgmobkmmapgoaaGreatVlCA
import Derived.Test.YthgmobkmmapgoaaGreatRows
import Derived.JoinedOf
import Derived.MakeChecks
set_option linter.unusedSimpArgs false
set_option linter.unusedVariables false
namespace Go.Proofs.YthgmobkmmapgoaaGreat
open Go Go.Vl Go.RowKit Go.ChangeShapes
set_option maxRecDepth 100000
def argTypes : List TypeId := [26, 9, 3, 22, 23, 24, 66, 55, 143, 27, 29, 5]
theorem plain_args : plainS Tryz.prog argTypes = true := by kernel_rfl
theorem laidOut_P : laidOutB Tryz.prog = true := by kernel_rfl
theorem own_P : ownKnob Tryz.prog.godebug = none := by kernel_rfl
def laidL : List (String × DataW Unit) := []
def gl : Gl := fun _ => none
theorem gl_ok {W : World} : GOK gl (allI W) W := by
 intro g cs hg
 cases hg
theorem door_met (os : Os) (args : Array Value) : laidMetH Tryz.prog laidL ((World.doorLaid Tryz.prog 400 os).forCall (fun _ _ => 0) ⟨#[], args, []⟩).memory :=
 laidMetH_of_parts3 (fuel := 8) (laidMet_of_run' 8 (by kernel_rfl) (by kernel_rfl)) (by kernel_rfl) (by kernel_rfl)
def pol0 : Value := .agg #[.string ⟨#[]⟩, .slice none 0 0, .slice none 0 0, .slice none 0 0]
