/- Layer 17: for all arguments the law RulesUsingIsComplete returns true: its statement. Conditions: none beyond those that the given row prints. -/
import Derived.Test.YthgmobkmmapgoaaGreatVlCB
import Derived.Test.YthgmobkmmapgoaaGreatVlL4
set_option linter.unusedSimpArgs false
set_option linter.unusedVariables false
namespace Go.Proofs.YthgmobkmmapgoaaGreat
open Go Go.Vl Go.RowKit Go.ChangeShapes

set_option maxRecDepth 100000 in
theorem rulesUsingIsComplete_lifted (os : Os) (started : os.Started) (H : Type) (enc : TypeId × Value → H) :
    ReturnsInHanded {} Tryz.checked os 8 .any (fun w args => (Rows.rulesUsingIsCompleteSpec.pre enc Tryz.prog Tryz.f8 [] false w args ∧ laidMetH Tryz.prog laidL w) ∧ sizedMet enc Tryz.prog Tryz.f8 (OpenSpec.ofChange Rows.rulesUsingIsCompleteSpec) false w args)
      (Rows.rulesUsingIsCompleteSpec.post enc Tryz.prog Tryz.f8 false true false false) := by
  refine law_lift (C := Tryz.checked) (laid := laidL) (gl := gl) (L := argTypes) (ts := [26, 27, 29]) (tb := 4) own_P started (by kernel_rfl) Tryz.func8
    (ChangeSpec.witness_shaped (enc := enc) (C := Tryz.checked) (os := os) (X := fun w _ => laidMetH Tryz.prog laidL w) false (World.doorLaid Tryz.prog 400 os) #[pol0, .slice none 0 0, fac0] 8 rfl (World.shaped_of_RefB (by kernel_rfl) (by kernel_rfl)) (by kernel_rfl) (by kernel_rfl) (by kernel_rfl) (door_met os _))
    plain_args rfl (by simp [argTypes]) laidOut_P (fun t ht => ?_) rfl (fun ds h => ?_) rfl Tryz.underlying4 (fun _ _ => gl_ok) (fun xs hxs => ?_)
  · have : t = 26 ∨ t = 27 ∨ t = 29 := by simpa using ht
    rcases this with rfl | rfl | rfl <;> exact ⟨by kernel_rfl, of_decide_eq_true (by kernel_rfl)⟩
  · match ds, h with
    | [d0, d1, d2], _ => rfl
  · obtain ⟨u0, u1, u2, rfl, h0, h1, h2⟩ := args_three hxs
    obtain ⟨x0, rfl, p0⟩ := arg_po h0
    obtain ⟨x1, rfl, p1⟩ := arg_fs h1
    obtain ⟨x2, rfl, p2⟩ := arg_fa h2
    exact (lawUsing_ok x0 x1 x2)

/-- The statement. -/
theorem rulesUsingIsComplete_holds : Rows.RulesUsingIsCompleteSaid :=
  OpenClaim.holds_of_wide 8 Tryz.f8 rfl rfl rfl rfl rfl rfl rfl ⟨rfl, rfl, rfl, rfl, rfl⟩ rfl rfl rfl rfl rfl (by kernel_rfl) Tryz.func8 (by kernel_rfl)
    (of_decide_eq_true (by kernel_rfl)) (by unfold Func.isWrapper; first | (rw [if_pos (by decide +kernel)]; kernel_rfl) | (rw [if_neg (by decide +kernel)]; exact ⟨rfl, rfl⟩))
    (fun os started H enc _ => by rw [OpenClaim.pre_eq_preRow]; exact rulesUsingIsComplete_lifted os started H enc)
#print axioms rulesUsingIsComplete_holds
end Go.Proofs.YthgmobkmmapgoaaGreat
