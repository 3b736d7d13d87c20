/- What the statements of layer 27 share: the types of their arguments, the variable, the door. -/
import Derived.Test.YtidlohfkfdeaiaaDoorVlSp
import Derived.Test.YtidlohfkfdeaiaaDoorCards
import Derived.Test.YtidlohfkfdeaiaaDoorTie
import Derived.SevenTiedAt
import Derived.JoinedOf
import Derived.MakeChecks
set_option linter.unusedSimpArgs false
set_option linter.unusedVariables false
namespace Go.Proofs.YtidlohfkfdeaiaaDoor
open Go Go.Vl Go.RowKit Go.ChangeShapes

/-- The types of the laws' arguments. -/
def argTypes : List TypeId := [24, 26, 3, 9, 22, 4, 145, 99, 65, 67]
theorem plain_args : plainS Tryd.prog argTypes = true := by kernel_rfl
theorem laidOut_P : laidOutB Tryd.prog = true := by kernel_rfl
theorem own_P : ownKnob Tryd.prog.godebug = none := by kernel_rfl

def laidL : List (String × DataW Unit) := [("custody/hash.constants", Rows.laid_custody_hash_constants)]
theorem gOwn : Tryd.prog.globalNamed "custody/hash.constants" = some 0 := by kernel_rfl
theorem tOwn : (Tryd.prog.globals[0]?).map (·.type) = some 145 := by kernel_rfl
theorem kW_dat : datC (Rows.laid_custody_hash_constants : DataW Unit) = some (kW.map wc) := by kernel_rfl
set_option maxRecDepth 100000 in
/-- The variable, in a world that meets the rows' condition. -/
theorem gl_ok {W : World} (h : laidMetH Tryd.prog laidL W) : GOK gl (allI W) W := by
  have h' : laidMet Tryd.prog laidL W := by
    rw [Go.MakeChecks.laidMetH_plain _ _ _ (by kernel_rfl)] at h; exact h
  intro g cs hg
  unfold gl at hg
  split at hg
  · simp only [Option.some.injEq] at hg; subst hg
    obtain ⟨ps, hv, _⟩ := h'
    exact laid_var plain_args gOwn tOwn (by simp [argTypes]) (d := Rows.laid_custody_hash_constants) kW_dat laidL ps hv (by simp [laidL])
  · cases hg

theorem door_met (os : Os) (args : Array Value) : laidMetH Tryd.prog laidL ((World.doorLaid Tryd.prog 400 os).forCall (fun _ _ => 0) ⟨#[], args, []⟩).memory :=
  laidMetH_of_parts3 (fuel := 8) (laidMet_of_run' 8 (by kernel_rfl) (by kernel_rfl)) (by kernel_rfl) (by kernel_rfl)

/-- A table without anything, a key without anything. -/
def tab0 : Value := .agg #[.int .i64 0, .slice none 0 0]
set_option maxRecDepth 100000 in
theorem args_two {x : List V} {a b : TypeId} (h : ArgsShp Tryd.prog [a, b] x) : ∃ u v, x = [u, v] ∧ (∃ n cs, Shp Tryd.prog n a cs ∧ u = absV Tryd.prog a cs) ∧ (∃ n cs, Shp Tryd.prog n b cs ∧ v = absV Tryd.prog b cs) := by
  match x, h with
  | [u, v], h => exact ⟨u, v, rfl, h.1, h.2.1⟩
end Go.Proofs.YtidlohfkfdeaiaaDoor
