/- Layer 17: for all arguments the law RulesInstancesMatchSpec returns true: its statement. Conditions: none beyond those that the given row prints. -/
import Derived.Test.YthgmobkmmapgoaaGreatVlCB
import Derived.Test.YthgmobkmmapgoaaGreatVlL7
set_option linter.unusedSimpArgs false
set_option linter.unusedVariables false
namespace Go.Proofs.YthgmobkmmapgoaaGreat
open Go Go.Vl Go.RowKit Go.ChangeShapes
set_option maxRecDepth 100000 in
theorem rulesInstancesMatchSpec_lifted (os : Os) (started : os.Started) (H : Type) (enc : TypeId × Value → H) :
  ReturnsInHanded {} Tryz.checked os 4 .any (fun w args => (Rows.rulesInstancesMatchSpecSpec.pre enc Tryz.prog Tryz.f4 [] false w args ∧ laidMetH Tryz.prog laidL w) ∧ sizedMet enc Tryz.prog Tryz.f4 (OpenSpec.ofChange Rows.rulesInstancesMatchSpecSpec) false w args)
   (Rows.rulesInstancesMatchSpecSpec.post enc Tryz.prog Tryz.f4 false true false false) := by
 refine law_lift (C := Tryz.checked) (laid := laidL) (gl := gl) (L := argTypes) (ts := [26, 29, 5]) (tb := 4) own_P started (by kernel_rfl) Tryz.func4
  (ChangeSpec.witness_shaped (enc := enc) (C := Tryz.checked) (os := os) (X := fun w _ => laidMetH Tryz.prog laidL w) false (World.doorLaid Tryz.prog 400 os) #[pol0, fac0, .int .u8 0] 8 rfl (World.shaped_of_RefB (by kernel_rfl) (by kernel_rfl)) (by kernel_rfl) (by kernel_rfl) (by kernel_rfl) (door_met os _))
  plain_args rfl (by simp [argTypes]) laidOut_P (fun t ht => ?_) rfl (fun ds h => ?_) rfl Tryz.underlying4 (fun _ _ => gl_ok) (fun xs hxs => ?_)
 ·have : t = 26 ∨ t = 29 ∨ t = 5 := by simpa using ht
  rcases this with rfl | rfl | rfl <;> exact ⟨by kernel_rfl, of_decide_eq_true (by kernel_rfl)⟩
 ·match ds, h with
  | [d0, d1, d2], _ => rfl
 ·obtain ⟨u0, u1, u2, rfl, h0, h1, h2⟩ := args_three hxs
  obtain ⟨x0, rfl, p0⟩ := arg_po h0
  obtain ⟨x1, rfl, p1⟩ := arg_fa h1
  obtain ⟨x2, rfl, p2⟩ := arg_u8 h2
  exact lawInst_ok x0 x1 x2 p2
theorem rulesInstancesMatchSpec_holds : Rows.RulesInstancesMatchSpecSaid :=
 OpenClaim.holds_of_wide 4 Tryz.f4 rfl rfl rfl rfl rfl rfl rfl ⟨rfl, rfl, rfl, rfl, rfl⟩ rfl rfl rfl rfl rfl (by kernel_rfl) Tryz.func4 (by kernel_rfl)
  (of_decide_eq_true (by kernel_rfl)) (by unfold Func.isWrapper; first | (rw [if_pos (by decide +kernel)]; kernel_rfl) | (rw [if_neg (by decide +kernel)]; exact ⟨rfl, rfl⟩))
  (fun os started H enc _ => by rw [OpenClaim.pre_eq_preRow]; exact rulesInstancesMatchSpec_lifted os started H enc)
#print axioms rulesInstancesMatchSpec_holds
