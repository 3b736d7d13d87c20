/- Layer 17: for all arguments the law RulesNextIsMonotone returns true: its statement. Conditions: none beyond those that the given row prints. -/
import Derived.Test.YthgmobkmmapgoaaGreatVlCB
import Derived.Test.YthgmobkmmapgoaaGreatVlL5
set_option linter.unusedSimpArgs false
set_option linter.unusedVariables false
namespace Go.Proofs.YthgmobkmmapgoaaGreat
open Go Go.Vl Go.RowKit Go.ChangeShapes

set_option maxRecDepth 100000 in
theorem rulesNextIsMonotone_lifted (os : Os) (started : os.Started) (H : Type) (enc : TypeId × Value → H) :
    ReturnsInHanded {} Tryz.checked os 6 .any (fun w args => (Rows.rulesNextIsMonotoneSpec.pre enc Tryz.prog Tryz.f6 [] false w args ∧ laidMetH Tryz.prog laidL w) ∧ sizedMet enc Tryz.prog Tryz.f6 (OpenSpec.ofChange Rows.rulesNextIsMonotoneSpec) false w args)
      (Rows.rulesNextIsMonotoneSpec.post enc Tryz.prog Tryz.f6 false true false false) := by
  refine law_lift (C := Tryz.checked) (laid := laidL) (gl := gl) (L := argTypes) (ts := [26, 27, 27, 55]) (tb := 4) own_P started (by kernel_rfl) Tryz.func6
    (ChangeSpec.witness_shaped (enc := enc) (C := Tryz.checked) (os := os) (X := fun w _ => laidMetH Tryz.prog laidL w) false (World.doorLaid Tryz.prog 400 os) #[pol0, .slice none 0 0, .slice none 0 0, fac0] 8 rfl (World.shaped_of_RefB (by kernel_rfl) (by kernel_rfl)) (by kernel_rfl) (by kernel_rfl) (by kernel_rfl) (door_met os _))
    plain_args rfl (by simp [argTypes]) laidOut_P (fun t ht => ?_) rfl (fun ds h => ?_) rfl Tryz.underlying4 (fun _ _ => gl_ok) (fun xs hxs => ?_)
  · have : t = 26 ∨ t = 27 ∨ t = 55 := by simpa using ht
    rcases this with rfl | rfl | rfl <;> exact ⟨by kernel_rfl, of_decide_eq_true (by kernel_rfl)⟩
  · match ds, h with
    | [d0, d1, d2, d3], _ => rfl
  · obtain ⟨u0, u1, u2, u3, rfl, h0, h1, h2, h3⟩ := args_four hxs
    obtain ⟨x0, rfl, p0⟩ := arg_po h0
    obtain ⟨x1, rfl, p1⟩ := arg_fs h1
    obtain ⟨x2, rfl, p2⟩ := arg_fs h2
    obtain ⟨x3, rfl, p3⟩ := arg_ru h3
    exact (lawMono_ok x0 x1 x2 x3)

/-- The statement. -/
theorem rulesNextIsMonotone_holds : Rows.RulesNextIsMonotoneSaid :=
  OpenClaim.holds_of_wide 6 Tryz.f6 rfl rfl rfl rfl rfl rfl rfl ⟨rfl, rfl, rfl, rfl, rfl⟩ rfl rfl rfl rfl rfl (by kernel_rfl) Tryz.func6 (by kernel_rfl)
    (of_decide_eq_true (by kernel_rfl)) (by unfold Func.isWrapper; first | (rw [if_pos (by decide +kernel)]; kernel_rfl) | (rw [if_neg (by decide +kernel)]; exact ⟨rfl, rfl⟩))
    (fun os started H enc _ => by rw [OpenClaim.pre_eq_preRow]; exact rulesNextIsMonotone_lifted os started H enc)
#print axioms rulesNextIsMonotone_holds
end Go.Proofs.YthgmobkmmapgoaaGreat
