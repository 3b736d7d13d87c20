/- Layer 27: for all arguments the law KeysNarrow returns true: its tied card. Conditions: none beyond those that the given row prints (the variable custody/hash.constants as the program's text lays it). -/
import Derived.Test.YtidlohfkfdeaiaaDoorVlCB
import Derived.Test.YtidlohfkfdeaiaaDoorVlLawN
set_option linter.unusedSimpArgs false
set_option linter.unusedVariables false
namespace Go.Proofs.YtidlohfkfdeaiaaDoor
open Go Go.Vl Go.RowKit Go.ChangeShapes

set_option maxRecDepth 100000 in
theorem keysNarrow_lifted (os : Os) (started : os.Started) (H : Type) (enc : TypeId × Value → H) :
    ReturnsInHanded {} Tryd.checked os 7 .any (fun w args => (Rows.keysNarrowSpec.pre enc Tryd.prog Tryd.f7 [] false w args ∧ laidMetH Tryd.prog laidL w) ∧ sizedMet enc Tryd.prog Tryd.f7 (OpenSpec.ofChange Rows.keysNarrowSpec) false w args)
      (Rows.keysNarrowSpec.post enc Tryd.prog Tryd.f7 false true false false) := by
  refine law_lift (C := Tryd.checked) (laid := laidL) (gl := gl) (L := argTypes) (ts := [24, 3, 3, 3, 3, 3, 3, 3]) (tb := 4) own_P started (by kernel_rfl) Tryd.func7
    (ChangeSpec.witness_shaped (enc := enc) (C := Tryd.checked) (os := os) (X := fun w _ => laidMetH Tryd.prog laidL w) false (World.doorLaid Tryd.prog 400 os) #[tab0, .int .i64 0, .int .i64 0, .int .i64 0, .int .i64 0, .int .i64 0, .int .i64 0, .int .i64 0] 8 rfl (World.shaped_of_RefB (by kernel_rfl) (by kernel_rfl)) (by kernel_rfl) (by kernel_rfl) (by kernel_rfl) (door_met os _))
    plain_args rfl (by simp [argTypes]) laidOut_P (fun t ht => ?_) rfl (fun ds h => ?_) rfl Tryd.underlying4 (fun W h => gl_ok h) (fun xs hxs => ?_)
  · have : t = 24 ∨ t = 3 := by simpa using ht
    rcases this with rfl | rfl <;> exact ⟨by kernel_rfl, of_decide_eq_true (by kernel_rfl)⟩
  · match ds, h with
    | [d0, d1, d2, d3, d4, d5, d6, d7], _ => rfl
  · obtain ⟨u0, u1, u2, u3, u4, u5, u6, u7, rfl, h0, h1, h2, h3, h4, h5, h6, h7⟩ := args_eight hxs
    obtain ⟨x0, rfl, p0⟩ := arg_tb h0
    obtain ⟨x1, rfl, p1⟩ := arg_int h1
    obtain ⟨x2, rfl, p2⟩ := arg_int h2
    obtain ⟨x3, rfl, p3⟩ := arg_int h3
    obtain ⟨x4, rfl, p4⟩ := arg_int h4
    obtain ⟨x5, rfl, p5⟩ := arg_int h5
    obtain ⟨x6, rfl, p6⟩ := arg_int h6
    obtain ⟨x7, rfl, p7⟩ := arg_int h7
    exact lawNarrow_ok x0 x1 x2 x3 x4 x5 x6 x7 p0.1 p0.2

theorem keysNarrow_holds : Rows.KeysNarrowSaid :=
  OpenClaim.holds_of_wide 7 Tryd.f7 rfl rfl rfl rfl rfl rfl rfl ⟨rfl, rfl, rfl, rfl, rfl⟩ rfl rfl rfl rfl rfl (by kernel_rfl) Tryd.func7 (by kernel_rfl)
    (of_decide_eq_true (by kernel_rfl)) (by unfold Func.isWrapper; first | (rw [if_pos (by decide +kernel)]; kernel_rfl) | (rw [if_neg (by decide +kernel)]; exact ⟨rfl, rfl⟩))
    (fun os started H enc _ => keysNarrow_lifted os started H enc)

/-- The tied card. -/
theorem keysNarrow_card : Rows.KeysNarrowCardSaid :=
  Claim7.holds_tied_plain_at .later [] [.data] true (true, "dd3f924b01a442738736f5e9410f70901b5975d4ff7bf1deca97830e9c69989f") true
    keysNarrow_holds (fun _ h => by cases h) (by kernel_rfl) (fun _ h => by cases h) keysNarrow_row_tie rfl ⟨rfl, rfl⟩ (by kernel_rfl) rfl
    (fun f fn hf hfn => by
      obtain rfl : f = 7 := Option.some.inj ((show Tryd.prog.funcNamed "custody/custodylaw27.KeysNarrow" = some 7 by kernel_rfl).symm.trans hf) |>.symm
      obtain rfl : fn = Tryd.f7 := (Option.some.inj (Tryd.func7.symm.trans hfn)).symm
      exact ⟨by kernel_rfl, fun j t ht => by
        have hm : t ∈ [24, 3, 3, 3, 3, 3, 3, 3] := by
          have := Array.mem_of_getElem? ht
          rw [Tryd.params7] at this
          simpa using this
        have hall : ([24, 3, 3, 3, 3, 3, 3, 3].all fun u => !Tryd.prog.wantsStandIn u) = true := by kernel_rfl
        exact (show Tryd.prog.wantsStandIn t = false by simpa using List.all_eq_true.1 hall t hm)⟩)
    (by kernel_rfl)
#print axioms keysNarrow_card
end Go.Proofs.YtidlohfkfdeaiaaDoor
