/- Layer 27: for all arguments the law KeysUnbox returns true: its tied card. Conditions: none beyond those that the given row prints (the variables custody/hash.constants and custody/custodyref02.constants as the program's text lays them). -/
import Derived.Test.YtidlohfkfdeaiaaDoorVlCB2
import Derived.Test.YtidlohfkfdeaiaaDoorVlLawU
set_option linter.unusedSimpArgs false
set_option linter.unusedVariables false
namespace Go.Proofs.YtidlohfkfdeaiaaDoor
open Go Go.Vl Go.RowKit Go.ChangeShapes

set_option maxRecDepth 100000 in
theorem keysUnbox_lifted (os : Os) (started : os.Started) (H : Type) (enc : TypeId × Value → H) :
    ReturnsInHanded {} Tryd.checked os 5 .any (fun w args => (Rows.keysUnboxSpec.pre enc Tryd.prog Tryd.f5 [] false w args ∧ laidMetH Tryd.prog laidL2 w) ∧ sizedMet enc Tryd.prog Tryd.f5 (OpenSpec.ofChange Rows.keysUnboxSpec) false w args)
      (Rows.keysUnboxSpec.post enc Tryd.prog Tryd.f5 false true false false) := by
  refine law_lift (C := Tryd.checked) (laid := laidL2) (gl := gl2) (L := argTypes) (ts := [9, 9]) (tb := 4) own_P started (by kernel_rfl) Tryd.func5
    (ChangeSpec.witness_shaped (enc := enc) (C := Tryd.checked) (os := os) (X := fun w _ => laidMetH Tryd.prog laidL2 w) false (World.doorLaid Tryd.prog 400 os) #[.string ⟨#[]⟩, .string ⟨#[]⟩] 8 rfl (World.shaped_of_RefB (by kernel_rfl) (by kernel_rfl)) (by kernel_rfl) (by kernel_rfl) (by kernel_rfl) (door_met2 os _))
    plain_args rfl (by simp [argTypes]) laidOut_P (fun t ht => ?_) rfl (fun ds h => ?_) rfl Tryd.underlying4 (fun W h => gl_ok2 h) (fun xs hxs => ?_)
  · have : t = 9 := by simpa using ht
    subst this; exact ⟨by kernel_rfl, of_decide_eq_true (by kernel_rfl)⟩
  · match ds, h with
    | [d0, d1], _ => rfl
  · obtain ⟨u0, u1, rfl, h0, h1⟩ := args_two hxs
    obtain ⟨x0, rfl⟩ := arg_str h0
    obtain ⟨x1, rfl⟩ := arg_str h1
    exact lawUnbox_ok x0 x1

theorem keysUnbox_holds : Rows.KeysUnboxSaid :=
  OpenClaim.holds_of_wide 5 Tryd.f5 rfl rfl rfl rfl rfl rfl rfl ⟨rfl, rfl, rfl, rfl, rfl⟩ rfl rfl rfl rfl rfl (by kernel_rfl) Tryd.func5 (by kernel_rfl)
    (of_decide_eq_true (by kernel_rfl)) (by unfold Func.isWrapper; first | (rw [if_pos (by decide +kernel)]; kernel_rfl) | (rw [if_neg (by decide +kernel)]; exact ⟨rfl, rfl⟩))
    (fun os started H enc _ => keysUnbox_lifted os started H enc)

/-- The tied card. -/
theorem keysUnbox_card : Rows.KeysUnboxCardSaid :=
  Claim7.holds_tied_plain_at .later [] [.data, .data] true (true, "dd3f924b01a442738736f5e9410f70901b5975d4ff7bf1deca97830e9c69989f") true
    keysUnbox_holds (fun _ h => by cases h) (by kernel_rfl) (fun _ h => by cases h) keysUnbox_row_tie rfl ⟨rfl, rfl⟩ (by kernel_rfl) rfl
    (fun f fn hf hfn => by
      obtain rfl : f = 5 := Option.some.inj ((show Tryd.prog.funcNamed "custody/custodylaw27.KeysUnbox" = some 5 by kernel_rfl).symm.trans hf) |>.symm
      obtain rfl : fn = Tryd.f5 := (Option.some.inj (Tryd.func5.symm.trans hfn)).symm
      exact ⟨by kernel_rfl, fun j t ht => by
        have hm : t ∈ [9, 9] := by
          have := Array.mem_of_getElem? ht
          rw [Tryd.params5] at this
          simpa using this
        have hall : ([9, 9].all fun u => !Tryd.prog.wantsStandIn u) = true := by kernel_rfl
        exact (show Tryd.prog.wantsStandIn t = false by simpa using List.all_eq_true.1 hall t hm)⟩)
    (by kernel_rfl)
#print axioms keysUnbox_card
end Go.Proofs.YtidlohfkfdeaiaaDoor
