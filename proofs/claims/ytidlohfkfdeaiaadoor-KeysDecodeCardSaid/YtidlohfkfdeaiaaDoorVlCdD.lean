/- Layer 27: for all arguments the law KeysDecode returns true: its tied card. Conditions: none beyond those that the given row prints (the variable custody/hash.constants as the program's text lays it). -/
import Derived.Test.YtidlohfkfdeaiaaDoorVlCB
import Derived.Test.YtidlohfkfdeaiaaDoorVlLawD
set_option linter.unusedSimpArgs true
set_option linter.unusedVariables false
namespace Go.Proofs.YtidlohfkfdeaiaaDoor
open Go Go.Vl Go.RowKit Go.ChangeShapes

set_option maxRecDepth 100000 in
theorem keysDecode_lifted (os : Os) (started : os.Started) (H : Type) (enc : TypeId × Value → H) :
    ReturnsInHanded {} Tryd.checked os 6 .any (fun w args => (Rows.keysDecodeSpec.pre enc Tryd.prog Tryd.f6 [] false w args ∧ laidMetH Tryd.prog laidL w) ∧ sizedMet enc Tryd.prog Tryd.f6 (OpenSpec.ofChange Rows.keysDecodeSpec) false w args)
      (Rows.keysDecodeSpec.post enc Tryd.prog Tryd.f6 false true false false) := by
  refine law_lift (C := Tryd.checked) (laid := laidL) (gl := gl) (L := argTypes) (ts := [9, 24]) (tb := 4) own_P started (by kernel_rfl) Tryd.func6
    (ChangeSpec.witness_shaped (enc := enc) (C := Tryd.checked) (os := os) (X := fun w _ => laidMetH Tryd.prog laidL w) false (World.doorLaid Tryd.prog 400 os) #[.string ⟨#[]⟩, tab0] 8 rfl (World.shaped_of_RefB (by kernel_rfl) (by kernel_rfl)) (by kernel_rfl) (by kernel_rfl) (by kernel_rfl) (door_met os _))
    plain_args rfl (by simp [argTypes]) laidOut_P (fun t ht => ?_) rfl (fun ds h => ?_) rfl Tryd.underlying4 (fun W h => gl_ok h) (fun xs hxs => ?_)
  · have : t = 9 ∨ t = 24 := by simpa using ht
    rcases this with rfl | rfl <;> exact ⟨by kernel_rfl, of_decide_eq_true (by kernel_rfl)⟩
  · match ds, h with
    | [d0, d1], _ => rfl
  · obtain ⟨u0, u1, rfl, h0, h1⟩ := args_two hxs
    obtain ⟨x0, rfl⟩ := arg_str h0
    obtain ⟨x1, rfl, p1⟩ := arg_tb h1
    exact lawDecode_ok x0 x1 p1.1 p1.2

theorem keysDecode_holds : Rows.KeysDecodeSaid :=
  OpenClaim.holds_of_wide 6 Tryd.f6 rfl rfl rfl rfl rfl rfl rfl ⟨rfl, rfl, rfl, rfl, rfl⟩ rfl rfl rfl rfl rfl (by kernel_rfl) Tryd.func6 (by kernel_rfl)
    (of_decide_eq_true (by kernel_rfl)) (by unfold Func.isWrapper; first | (rw [if_pos (by decide +kernel)]; kernel_rfl) | (rw [if_neg (by decide +kernel)]; exact ⟨rfl, rfl⟩))
    (fun os started H enc _ => keysDecode_lifted os started H enc)

/-- The tied card. -/
theorem keysDecode_card : Rows.KeysDecodeCardSaid :=
  Claim7.holds_tied_plain_at .later [] [.data] true (true, "dd3f924b01a442738736f5e9410f70901b5975d4ff7bf1deca97830e9c69989f") true
    keysDecode_holds (fun _ h => by cases h) (by kernel_rfl) (fun _ h => by cases h) keysDecode_row_tie rfl ⟨rfl, rfl⟩ (by kernel_rfl) rfl
    (fun f fn hf hfn => by
      obtain rfl : f = 6 := Option.some.inj ((show Tryd.prog.funcNamed "custody/custodylaw27.KeysDecode" = some 6 by kernel_rfl).symm.trans hf) |>.symm
      obtain rfl : fn = Tryd.f6 := (Option.some.inj (Tryd.func6.symm.trans hfn)).symm
      exact ⟨by kernel_rfl, fun j t ht => by
        have hm : t ∈ [9, 24] := by
          have := Array.mem_of_getElem? ht
          rw [Tryd.params6] at this
          simpa using this
        have hall : ([9, 24].all fun u => !Tryd.prog.wantsStandIn u) = true := by kernel_rfl
        exact (show Tryd.prog.wantsStandIn t = false by simpa using List.all_eq_true.1 hall t hm)⟩)
    (by kernel_rfl)
#print axioms keysDecode_card
end Go.Proofs.YtidlohfkfdeaiaaDoor
