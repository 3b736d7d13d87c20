/- Layer 27: for all arguments the law KeysIdsOnce returns true: its tied card. Conditions: none beyond those that the given row prints (the variable custody/hash.constants as the program's text lays it). -/
import Derived.Test.YtidlohfkfdeaiaaDoorVlCB
import Derived.Test.YtidlohfkfdeaiaaDoorVlSo
set_option linter.unusedSimpArgs false
set_option linter.unusedVariables false
namespace Go.Proofs.YtidlohfkfdeaiaaDoor
open Go Go.Vl Go.RowKit Go.ChangeShapes

set_option maxRecDepth 100000 in
theorem keysIdsOnce_lifted (os : Os) (started : os.Started) (H : Type) (enc : TypeId × Value → H) :
    ReturnsInHanded {} Tryd.checked os 9 .any (fun w args => (Rows.keysIdsOnceSpec.pre enc Tryd.prog Tryd.f9 [] false w args ∧ laidMetH Tryd.prog laidL w) ∧ sizedMet enc Tryd.prog Tryd.f9 (OpenSpec.ofChange Rows.keysIdsOnceSpec) false w args)
      (Rows.keysIdsOnceSpec.post enc Tryd.prog Tryd.f9 false true false false) := by
  refine law_lift (C := Tryd.checked) (laid := laidL) (gl := gl) (L := argTypes) (ts := [65]) (tb := 4) own_P started (by kernel_rfl) Tryd.func9
    (ChangeSpec.witness_shaped (enc := enc) (C := Tryd.checked) (os := os) (X := fun w _ => laidMetH Tryd.prog laidL w) false (World.doorLaid Tryd.prog 400 os) #[.slice none 0 0] 8 rfl (World.shaped_of_RefB (by kernel_rfl) (by kernel_rfl)) (by kernel_rfl) (by kernel_rfl) (by kernel_rfl) (door_met os _))
    plain_args rfl (by simp [argTypes]) laidOut_P (fun t ht => ?_) rfl (fun ds h => ?_) rfl Tryd.underlying4 (fun W h => gl_ok h) (fun xs hxs => ?_)
  · have : t = 65 := by simpa using ht
    subst this; exact ⟨by kernel_rfl, of_decide_eq_true (by kernel_rfl)⟩
  · match ds, h with
    | [d0], _ => rfl
  · obtain ⟨u0, rfl, h0⟩ := args_one hxs
    obtain ⟨x0, rfl, p0⟩ := arg_os h0
    exact lawIds_ok x0 p0

theorem keysIdsOnce_holds : Rows.KeysIdsOnceSaid :=
  OpenClaim.holds_of_wide 9 Tryd.f9 rfl rfl rfl rfl rfl rfl rfl ⟨rfl, rfl, rfl, rfl, rfl⟩ rfl rfl rfl rfl rfl (by kernel_rfl) Tryd.func9 (by kernel_rfl)
    (of_decide_eq_true (by kernel_rfl)) (by unfold Func.isWrapper; first | (rw [if_pos (by decide +kernel)]; kernel_rfl) | (rw [if_neg (by decide +kernel)]; exact ⟨rfl, rfl⟩))
    (fun os started H enc _ => keysIdsOnce_lifted os started H enc)

/-- The tied card. -/
theorem keysIdsOnce_card : Rows.KeysIdsOnceCardSaid :=
  Claim7.holds_tied_plain_at .later [] [.data] true (true, "dd3f924b01a442738736f5e9410f70901b5975d4ff7bf1deca97830e9c69989f") true
    keysIdsOnce_holds (fun _ h => by cases h) (by kernel_rfl) (fun _ h => by cases h) keysIdsOnce_row_tie rfl ⟨rfl, rfl⟩ (by kernel_rfl) rfl
    (fun f fn hf hfn => by
      obtain rfl : f = 9 := Option.some.inj ((show Tryd.prog.funcNamed "custody/custodylaw27.KeysIdsOnce" = some 9 by kernel_rfl).symm.trans hf) |>.symm
      obtain rfl : fn = Tryd.f9 := (Option.some.inj (Tryd.func9.symm.trans hfn)).symm
      exact ⟨by kernel_rfl, fun j t ht => by
        have hm : t ∈ [65] := by
          have := Array.mem_of_getElem? ht
          rw [Tryd.params9] at this
          simpa using this
        have hall : ([65].all fun u => !Tryd.prog.wantsStandIn u) = true := by kernel_rfl
        exact (show Tryd.prog.wantsStandIn t = false by simpa using List.all_eq_true.1 hall t hm)⟩)
    (by kernel_rfl)
#print axioms keysIdsOnce_card
end Go.Proofs.YtidlohfkfdeaiaaDoor
