/- What the statements share that reach both variables (the specification's too). -/
import Derived.Test.YtidlohfkfdeaiaaDoorVlCB
import Derived.Test.YtidlohfkfdeaiaaDoorVlQ6
set_option linter.unusedSimpArgs false
set_option linter.unusedVariables false
namespace Go.Proofs.YtidlohfkfdeaiaaDoor
open Go Go.Vl Go.RowKit Go.ChangeShapes

def laidL2 : List (String × DataW Unit) := [("custody/custodyref02.constants", Rows.laid_custody_custodyref02_constants), ("custody/hash.constants", Rows.laid_custody_hash_constants)]
theorem gOwn1 : Tryd.prog.globalNamed "custody/custodyref02.constants" = some 1 := by kernel_rfl
theorem tOwn1 : (Tryd.prog.globals[1]?).map (·.type) = some 145 := by kernel_rfl
theorem kW_dat1 : datC (Rows.laid_custody_custodyref02_constants : DataW Unit) = some (kW.map wc) := by kernel_rfl
set_option maxRecDepth 100000 in
/-- The variables, in a world that meets the rows' condition. -/
theorem gl_ok2 {W : World} (h : laidMetH Tryd.prog laidL2 W) : GOK gl2 (allI W) W := by
  have h' : laidMet Tryd.prog laidL2 W := by
    rw [Go.MakeChecks.laidMetH_plain _ _ _ (by kernel_rfl)] at h; exact h
  intro g cs hg
  obtain ⟨ps, hv, _⟩ := h'
  unfold gl2 at hg
  split at hg
  · simp only [Option.some.injEq] at hg; subst hg
    exact laid_var plain_args gOwn tOwn (by simp [argTypes]) (d := Rows.laid_custody_hash_constants) kW_dat laidL2 ps hv (List.mem_cons_of_mem _ (List.mem_cons_self ..))
  · simp only [Option.some.injEq] at hg; subst hg
    exact laid_var plain_args gOwn1 tOwn1 (by simp [argTypes]) (d := Rows.laid_custody_custodyref02_constants) kW_dat1 laidL2 ps hv (List.mem_cons_self ..)
  · cases hg

theorem door_met2 (os : Os) (args : Array Value) : laidMetH Tryd.prog laidL2 ((World.doorLaid Tryd.prog 400 os).forCall (fun _ _ => 0) ⟨#[], args, []⟩).memory :=
  laidMetH_of_parts3 (fuel := 8) (laidMet_of_run' 8 (by kernel_rfl) (by kernel_rfl)) (by kernel_rfl) (by kernel_rfl)
end Go.Proofs.YtidlohfkfdeaiaaDoor
