/- Layer 17: for all arguments the law RulesStayValid returns true: its statement. Conditions: none beyond those that the given row prints. -/
import Derived.Test.YthgmobkmmapgoaaGreatVlCB
import Derived.Test.YthgmobkmmapgoaaGreatVlL3
set_option linter.unusedSimpArgs false
set_option linter.unusedVariables false
namespace Go.Proofs.YthgmobkmmapgoaaGreat
open Go Go.Vl Go.RowKit Go.ChangeShapes

set_option maxRecDepth 100000 in
theorem rulesStayValid_lifted (os : Os) (started : os.Started) (H : Type) (enc : TypeId × Value → H) :
    ReturnsInHanded {} Tryz.checked os 7 .any (fun w args => (Rows.rulesStayValidSpec.pre enc Tryz.prog Tryz.f7 [] false w args ∧ laidMetH Tryz.prog laidL w) ∧ sizedMet enc Tryz.prog Tryz.f7 (OpenSpec.ofChange Rows.rulesStayValidSpec) false w args)
      (Rows.rulesStayValidSpec.post enc Tryz.prog Tryz.f7 false true false false) := by
  refine law_lift (C := Tryz.checked) (laid := laidL) (gl := gl) (L := argTypes) (ts := [26]) (tb := 4) own_P started (by kernel_rfl) Tryz.func7
    (ChangeSpec.witness_shaped (enc := enc) (C := Tryz.checked) (os := os) (X := fun w _ => laidMetH Tryz.prog laidL w) false (World.doorLaid Tryz.prog 400 os) #[pol0] 8 rfl (World.shaped_of_RefB (by kernel_rfl) (by kernel_rfl)) (by kernel_rfl) (by kernel_rfl) (by kernel_rfl) (door_met os _))
    plain_args rfl (by simp [argTypes]) laidOut_P (fun t ht => ?_) rfl (fun ds h => ?_) rfl Tryz.underlying4 (fun _ _ => gl_ok) (fun xs hxs => ?_)
  · have : t = 26 := by simpa using ht
    subst this; exact ⟨by kernel_rfl, of_decide_eq_true (by kernel_rfl)⟩
  · match ds, h with
    | [d0], _ => rfl
  · obtain ⟨u0, rfl, h0⟩ := args_one hxs
    obtain ⟨x0, rfl, p0⟩ := arg_po h0
    exact (lawStay_ok x0)

/-- The statement. -/
theorem rulesStayValid_holds : Rows.RulesStayValidSaid :=
  OpenClaim.holds_of_wide 7 Tryz.f7 rfl rfl rfl rfl rfl rfl rfl ⟨rfl, rfl, rfl, rfl, rfl⟩ rfl rfl rfl rfl rfl (by kernel_rfl) Tryz.func7 (by kernel_rfl)
    (of_decide_eq_true (by kernel_rfl)) (by unfold Func.isWrapper; first | (rw [if_pos (by decide +kernel)]; kernel_rfl) | (rw [if_neg (by decide +kernel)]; exact ⟨rfl, rfl⟩))
    (fun os started H enc _ => by rw [OpenClaim.pre_eq_preRow]; exact rulesStayValid_lifted os started H enc)
#print axioms rulesStayValid_holds
end Go.Proofs.YthgmobkmmapgoaaGreat
