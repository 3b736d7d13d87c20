/- Layer 17: for all arguments the law RulesNextMatchesSpec returns true: its statement. Conditions: none beyond those that the given row prints. -/
import Derived.Test.YthgmobkmmapgoaaGreatVlCB
import Derived.Test.YthgmobkmmapgoaaGreatVlL6
set_option linter.unusedSimpArgs false
set_option linter.unusedVariables false
namespace Go.Proofs.YthgmobkmmapgoaaGreat
open Go Go.Vl Go.RowKit Go.ChangeShapes
set_option maxRecDepth 100000 in
theorem args_two {x : List V} {a b : TypeId} (h : ArgsShp Tryz.prog [a, b] x) : ∃ u v, x = [u, v] ∧ (∃ n cs, Shp Tryz.prog n a cs ∧ u = absV Tryz.prog a cs) ∧ (∃ n cs, Shp Tryz.prog n b cs ∧ v = absV Tryz.prog b cs) := by
 match x, h with
 | [u, v], h => exact ⟨u, v, rfl, h.1, h.2.1⟩
set_option maxRecDepth 100000 in
theorem rulesNextMatchesSpec_lifted (os : Os) (started : os.Started) (H : Type) (enc : TypeId × Value → H) :
  ReturnsInHanded {} Tryz.checked os 5 .any (fun w args => (Rows.rulesNextMatchesSpecSpec.pre enc Tryz.prog Tryz.f5 [] false w args ∧ laidMetH Tryz.prog laidL w) ∧ sizedMet enc Tryz.prog Tryz.f5 (OpenSpec.ofChange Rows.rulesNextMatchesSpecSpec) false w args)
   (Rows.rulesNextMatchesSpecSpec.post enc Tryz.prog Tryz.f5 false true false false) := by
 refine law_lift (C := Tryz.checked) (laid := laidL) (gl := gl) (L := argTypes) (ts := [26, 27]) (tb := 4) own_P started (by kernel_rfl) Tryz.func5
  (ChangeSpec.witness_shaped (enc := enc) (C := Tryz.checked) (os := os) (X := fun w _ => laidMetH Tryz.prog laidL w) false (World.doorLaid Tryz.prog 400 os) #[pol0, .slice none 0 0] 8 rfl (World.shaped_of_RefB (by kernel_rfl) (by kernel_rfl)) (by kernel_rfl) (by kernel_rfl) (by kernel_rfl) (door_met os _))
  plain_args rfl (by simp [argTypes]) laidOut_P (fun t ht => ?_) rfl (fun ds h => ?_) rfl Tryz.underlying4 (fun _ _ => gl_ok) (fun xs hxs => ?_)
 ·have : t = 26 ∨ t = 27 := by simpa using ht
  rcases this with rfl | rfl <;> exact ⟨by kernel_rfl, of_decide_eq_true (by kernel_rfl)⟩
 ·match ds, h with
  | [d0, d1], _ => rfl
 ·obtain ⟨u0, u1, rfl, h0, h1⟩ := args_two hxs
  obtain ⟨x0, rfl, p0⟩ := arg_po h0
  obtain ⟨x1, rfl, p1⟩ := arg_fs h1
  exact lawNext_ok x0 x1
theorem rulesNextMatchesSpec_holds : Rows.RulesNextMatchesSpecSaid :=
 OpenClaim.holds_of_wide 5 Tryz.f5 rfl rfl rfl rfl rfl rfl rfl ⟨rfl, rfl, rfl, rfl, rfl⟩ rfl rfl rfl rfl rfl (by kernel_rfl) Tryz.func5 (by kernel_rfl)
  (of_decide_eq_true (by kernel_rfl)) (by unfold Func.isWrapper; first | (rw [if_pos (by decide +kernel)]; kernel_rfl) | (rw [if_neg (by decide +kernel)]; exact ⟨rfl, rfl⟩))
  (fun os started H enc _ => by rw [OpenClaim.pre_eq_preRow]; exact rulesNextMatchesSpec_lifted os started H enc)
#print axioms rulesNextMatchesSpec_holds
