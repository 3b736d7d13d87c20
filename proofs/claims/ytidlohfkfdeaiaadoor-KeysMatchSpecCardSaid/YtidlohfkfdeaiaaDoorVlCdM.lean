/- Layer 27: for all arguments the law KeysMatchSpec returns true: its tied card. Conditions: none beyond those that the given row prints (the variable custody/hash.constants as the program's text lays it). -/
import Derived.Test.YtidlohfkfdeaiaaDoorVlCB
import Derived.Test.YtidlohfkfdeaiaaDoorVlLawM
set_option linter.unusedSimpArgs false
set_option linter.unusedVariables false
namespace Go.Proofs.YtidlohfkfdeaiaaDoor
open Go Go.Vl Go.RowKit Go.ChangeShapes

set_option maxRecDepth 100000 in
theorem keysMatchSpec_lifted (os : Os) (started : os.Started) (H : Type) (enc : TypeId × Value → H) :
    ReturnsInHanded {} Tryd.checked os 8 .any (fun w args => (Rows.keysMatchSpecSpec.pre enc Tryd.prog Tryd.f8 [] false w args ∧ laidMetH Tryd.prog laidL w) ∧ sizedMet enc Tryd.prog Tryd.f8 (OpenSpec.ofChange Rows.keysMatchSpecSpec) false w args)
      (Rows.keysMatchSpecSpec.post enc Tryd.prog Tryd.f8 false true false false) := by
  refine law_lift (C := Tryd.checked) (laid := laidL) (gl := gl) (L := argTypes) (ts := [24, 26, 3]) (tb := 4) own_P started (by kernel_rfl) Tryd.func8
    (ChangeSpec.witness_shaped (enc := enc) (C := Tryd.checked) (os := os) (X := fun w _ => laidMetH Tryd.prog laidL w) false (World.doorLaid Tryd.prog 400 os) #[tab0, key0, .int .i64 0] 8 rfl (World.shaped_of_RefB (by kernel_rfl) (by kernel_rfl)) (by kernel_rfl) (by kernel_rfl) (by kernel_rfl) (door_met os _))
    plain_args rfl (by simp [argTypes]) laidOut_P (fun t ht => ?_) rfl (fun ds h => ?_) rfl Tryd.underlying4 (fun W h => gl_ok h) (fun xs hxs => ?_)
  · have : t = 24 ∨ t = 26 ∨ t = 3 := by simpa using ht
    rcases this with rfl | rfl | rfl <;> exact ⟨by kernel_rfl, of_decide_eq_true (by kernel_rfl)⟩
  · match ds, h with
    | [d0, d1, d2], _ => rfl
  · obtain ⟨u0, u1, u2, rfl, h0, h1, h2⟩ := args_three hxs
    obtain ⟨x0, rfl, p0⟩ := arg_tb h0
    obtain ⟨x1, rfl, p1⟩ := arg_key h1
    obtain ⟨x2, rfl, p2⟩ := arg_int h2
    exact lawMatch_ok x0 x1 x2 p0.1 p1 p0.2

theorem keysMatchSpec_holds : Rows.KeysMatchSpecSaid :=
  OpenClaim.holds_of_wide 8 Tryd.f8 rfl rfl rfl rfl rfl rfl rfl ⟨rfl, rfl, rfl, rfl, rfl⟩ rfl rfl rfl rfl rfl (by kernel_rfl) Tryd.func8 (by kernel_rfl)
    (of_decide_eq_true (by kernel_rfl)) (by unfold Func.isWrapper; first | (rw [if_pos (by decide +kernel)]; kernel_rfl) | (rw [if_neg (by decide +kernel)]; exact ⟨rfl, rfl⟩))
    (fun os started H enc _ => keysMatchSpec_lifted os started H enc)

/-- The tied card. -/
theorem keysMatchSpec_card : Rows.KeysMatchSpecCardSaid :=
  Claim7.holds_tied_plain_at .later [] [.data] true (true, "dd3f924b01a442738736f5e9410f70901b5975d4ff7bf1deca97830e9c69989f") true
    keysMatchSpec_holds (fun _ h => by cases h) (by kernel_rfl) (fun _ h => by cases h) keysMatchSpec_row_tie rfl ⟨rfl, rfl⟩ (by kernel_rfl) rfl
    (fun f fn hf hfn => by
      obtain rfl : f = 8 := Option.some.inj ((show Tryd.prog.funcNamed "custody/custodylaw27.KeysMatchSpec" = some 8 by kernel_rfl).symm.trans hf) |>.symm
      obtain rfl : fn = Tryd.f8 := (Option.some.inj (Tryd.func8.symm.trans hfn)).symm
      exact ⟨by kernel_rfl, fun j t ht => by
        have hm : t ∈ [24, 26, 3] := by
          have := Array.mem_of_getElem? ht
          rw [Tryd.params8] at this
          simpa using this
        have hall : ([24, 26, 3].all fun u => !Tryd.prog.wantsStandIn u) = true := by kernel_rfl
        exact (show Tryd.prog.wantsStandIn t = false by simpa using List.all_eq_true.1 hall t hm)⟩)
    (by kernel_rfl)
#print axioms keysMatchSpec_card
end Go.Proofs.YtidlohfkfdeaiaaDoor
