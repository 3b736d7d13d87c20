/- What the statements of layer 13 share: the types of their arguments, the variable, the door. -/
import Derived.Test.YtbhfbbfifmnniaaDoorVlSan
import Derived.Test.YtbhfbbfifmnniaaDoorVlShape
import Derived.Test.YtbhfbbfifmnniaaDoorCards
import Derived.Test.YtbhfbbfifmnniaaDoorTie
import Derived.SevenTiedAt
import Derived.JoinedOf
import Derived.MakeChecks
set_option linter.unusedSimpArgs false
set_option linter.unusedVariables false
namespace Go.Proofs.YtbhfbbfifmnniaaDoor
open Go Go.Vl Go.RowKit Go.ChangeShapes

/-- The types of the laws' arguments. -/
def argTypes : List TypeId := [26, 9, 3, 22, 23, 24, 46, 40, 42, 72, 5]
theorem plain_args : plainS Tryd.prog argTypes = true := by kernel_rfl
theorem laidOut_P : laidOutB Tryd.prog = true := by kernel_rfl
theorem own_P : ownKnob Tryd.prog.godebug = none := by kernel_rfl

def laidL : List (String × DataW Unit) := [("custody/check.own", Rows.laid_custody_check_own)]
theorem gOwn : Tryd.prog.globalNamed "custody/check.own" = some 0 := by kernel_rfl
theorem tOwn : (Tryd.prog.globals[0]?).map (·.type) = some 72 := by kernel_rfl

/-- The variable, in a world that meets the rows' condition. -/
theorem gl_ok {W : World} (h : laidMetH Tryd.prog laidL W) : GOK gl (allI W) W := by
  have h' : laidMet Tryd.prog laidL W := by
    rw [Go.MakeChecks.laidMetH_plain _ _ _ (by kernel_rfl)] at h; exact h
  intro g cs hg
  unfold gl at hg
  split at hg
  · simp only [Option.some.injEq] at hg; subst hg
    obtain ⟨ps, hv, _⟩ := h'
    exact laid_var plain_args gOwn tOwn (by simp [argTypes]) (d := Rows.laid_custody_check_own) (by simp [Rows.laid_custody_check_own, datC, datCs]) laidL ps hv (by simp [laidL])
  · cases hg

theorem door_met (os : Os) (args : Array Value) : laidMetH Tryd.prog laidL ((World.doorLaid Tryd.prog 400 os).forCall (fun _ _ => 0) ⟨#[], args, []⟩).memory :=
  laidMetH_of_parts3 (fuel := 8) (laidMet_of_run' 8 (by kernel_rfl) (by kernel_rfl)) (by kernel_rfl) (by kernel_rfl)

/-- A policy without anything. -/
def pol0 : Value := .agg #[.string ⟨#[]⟩, .slice none 0 0, .slice none 0 0, .slice none 0 0]

theorem args_one {x : List V} {a : TypeId} (h : ArgsShp Tryd.prog [a] x) : ∃ u, x = [u] ∧ (∃ n cs, Shp Tryd.prog n a cs ∧ u = absV Tryd.prog a cs) := by
  match x, h with
  | [u], h => exact ⟨u, rfl, h.1⟩
theorem args_two {x : List V} {a b : TypeId} (h : ArgsShp Tryd.prog [a, b] x) : ∃ u v, x = [u, v] ∧ (∃ n cs, Shp Tryd.prog n a cs ∧ u = absV Tryd.prog a cs) ∧ (∃ n cs, Shp Tryd.prog n b cs ∧ v = absV Tryd.prog b cs) := by
  match x, h with
  | [u, v], h => exact ⟨u, v, rfl, h.1, h.2.1⟩
theorem args_five {x : List V} {a b c d e : TypeId} (h : ArgsShp Tryd.prog [a, b, c, d, e] x) : ∃ u v w y z, x = [u, v, w, y, z] ∧ (∃ n cs, Shp Tryd.prog n a cs ∧ u = absV Tryd.prog a cs) ∧ (∃ n cs, Shp Tryd.prog n b cs ∧ v = absV Tryd.prog b cs) ∧
    (∃ n cs, Shp Tryd.prog n c cs ∧ w = absV Tryd.prog c cs) ∧ (∃ n cs, Shp Tryd.prog n d cs ∧ y = absV Tryd.prog d cs) ∧ (∃ n cs, Shp Tryd.prog n e cs ∧ z = absV Tryd.prog e cs) := by
  match x, h with
  | [u, v, w, y, z], h => exact ⟨u, v, w, y, z, rfl, h.1, h.2.1, h.2.2.1, h.2.2.2.1, h.2.2.2.2.1⟩
theorem agg_u8 : isAggB Tryd.prog 5 = false := by kernel_rfl
theorem arg_u8 {x : V} (h : ∃ n cs, Shp Tryd.prog n 5 cs ∧ x = absV Tryd.prog 5 cs) : ∃ n : Int, x = .c (.lit (.int .u8 n)) ∧ 0 ≤ n ∧ n ≤ 255 := by
  obtain ⟨n, cs, h, rfl⟩ := h
  obtain ⟨m, rfl, hm⟩ := shp_int Tryd.underlying5 (⟨n, h⟩ : ShpE Tryd.prog 5 cs)
  refine ⟨m, by unfold absV; rw [agg_u8]; rfl, ?_⟩
  have h2 : IntKind.u8.min ≤ m ∧ m ≤ IntKind.u8.max := by simpa [Lit.wf] using hm
  have e1 : IntKind.u8.min = 0 := by decide
  have e2 : IntKind.u8.max = 255 := by decide
  rw [e1, e2] at h2; exact h2
end Go.Proofs.YtbhfbbfifmnniaaDoor
