/- Layer 13: for all arguments the law CheckReordered returns true: its tied card. Conditions: none beyond those that the given row prints (the variable custody/check.own as the program's text lays it). -/
import Derived.Test.YtbhfbbfifmnniaaDoorVlCardBase
import Derived.Test.YtbhfbbfifmnniaaDoorVlReord
set_option linter.unusedSimpArgs false
set_option linter.unusedVariables false
namespace Go.Proofs.YtbhfbbfifmnniaaDoor
open Go Go.Vl Go.RowKit Go.ChangeShapes

set_option maxRecDepth 100000 in
theorem checkReordered_lifted (os : Os) (started : os.Started) (H : Type) (enc : TypeId × Value → H) :
    ReturnsInHanded {} Tryd.checked os 7 .any (fun w args => (Rows.checkReorderedSpec.pre enc Tryd.prog Tryd.f7 [] false w args ∧ laidMetH Tryd.prog laidL w) ∧ sizedMet enc Tryd.prog Tryd.f7 (OpenSpec.ofChange Rows.checkReorderedSpec) false w args)
      (Rows.checkReorderedSpec.post enc Tryd.prog Tryd.f7 false true false false) := by
  refine law_lift (C := Tryd.checked) (laid := laidL) (gl := gl) (L := argTypes) (ts := [26, 5, 5, 5, 5]) (tb := 4) own_P started (by kernel_rfl) Tryd.func7
    (ChangeSpec.witness_shaped (enc := enc) (C := Tryd.checked) (os := os) (X := fun w _ => laidMetH Tryd.prog laidL w) false (World.doorLaid Tryd.prog 400 os) #[pol0, .int .u8 0, .int .u8 0, .int .u8 0, .int .u8 0] 8 rfl (World.shaped_of_RefB (by kernel_rfl) (by kernel_rfl)) (by kernel_rfl) (by kernel_rfl) (by kernel_rfl) (door_met os _))
    plain_args rfl (by simp [argTypes]) laidOut_P (fun t ht => ?_) rfl (fun ds h => ?_) rfl Tryd.underlying4 (fun W h => gl_ok h) (fun xs hxs => ?_)
  · have : t = 26 ∨ t = 5 := by simpa using ht
    rcases this with rfl | rfl <;> exact ⟨by kernel_rfl, of_decide_eq_true (by kernel_rfl)⟩
  · match ds, h with
    | [d0, d1, d2, d3, d4], _ => rfl
  · obtain ⟨u0, u1, u2, u3, u4, rfl, h0, h1, h2, h3, h4⟩ := args_five hxs
    obtain ⟨x0, rfl, p0⟩ := arg_po h0
    obtain ⟨x1, rfl, p1⟩ := arg_u8 h1
    obtain ⟨x2, rfl, p2⟩ := arg_u8 h2
    obtain ⟨x3, rfl, p3⟩ := arg_u8 h3
    obtain ⟨x4, rfl, p4⟩ := arg_u8 h4
    exact lawReord x0 x1 x2 x3 x4 p0 p1 p2 p3 p4

theorem checkReordered_holds : Rows.CheckReorderedSaid :=
  OpenClaim.holds_of_wide 7 Tryd.f7 rfl rfl rfl rfl rfl rfl rfl ⟨rfl, rfl, rfl, rfl, rfl⟩ rfl rfl rfl rfl rfl (by kernel_rfl) Tryd.func7 (by kernel_rfl)
    (of_decide_eq_true (by kernel_rfl)) (by unfold Func.isWrapper; first | (rw [if_pos (by decide +kernel)]; kernel_rfl) | (rw [if_neg (by decide +kernel)]; exact ⟨rfl, rfl⟩))
    (fun os started H enc _ => checkReordered_lifted os started H enc)

/-- The tied card. -/
theorem checkReordered_card : Rows.CheckReorderedCardSaid :=
  Claim7.holds_tied_plain_at .later [] [.widerDeep] true (true, "c93fd8734e8301a52d8775bcf5d894049d2b970ca1eabc949b4850abe2baa37a") false
    checkReordered_holds (fun _ h => by cases h) (by kernel_rfl) (fun _ h => by cases h) checkReordered_row_tie rfl ⟨rfl, rfl⟩ (by kernel_rfl) rfl
    (fun f fn hf hfn => by
      obtain rfl : f = 7 := Option.some.inj ((show Tryd.prog.funcNamed "custody/custodylaw13.CheckReordered" = some 7 by kernel_rfl).symm.trans hf) |>.symm
      obtain rfl : fn = Tryd.f7 := (Option.some.inj (Tryd.func7.symm.trans hfn)).symm
      exact ⟨by kernel_rfl, fun j t ht => by
        have hm : t ∈ [26, 5, 5, 5, 5] := by
          have := Array.mem_of_getElem? ht
          rw [Tryd.params7] at this
          simpa using this
        have hall : ([26, 5, 5, 5, 5].all fun u => !Tryd.prog.wantsStandIn u) = true := by kernel_rfl
        exact (show Tryd.prog.wantsStandIn t = false by simpa using List.all_eq_true.1 hall t hm)⟩)
    (by kernel_rfl)
#print axioms checkReordered_card
end Go.Proofs.YtbhfbbfifmnniaaDoor
