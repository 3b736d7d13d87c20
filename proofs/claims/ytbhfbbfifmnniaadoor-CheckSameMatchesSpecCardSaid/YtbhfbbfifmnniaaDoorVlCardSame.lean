/- The statement of CheckSameMatchesSpec. -/
import Derived.Test.YtbhfbbfifmnniaaDoorVlLawSame
import Derived.Test.YtbhfbbfifmnniaaDoorVlShape
import Derived.Test.YtbhfbbfifmnniaaDoorCards
import Derived.Test.YtbhfbbfifmnniaaDoorTie
import Derived.SevenTiedAt
import Derived.JoinedOf
import Derived.MakeChecks
namespace Go.Proofs.YtbhfbbfifmnniaaDoor
open Go Go.Vl Go.RowKit Go.ChangeShapes

/-- The types of the laws' arguments. -/
def argTypes : List TypeId := [26, 9, 3, 22, 23, 24, 46, 40, 42, 72]
theorem plain_args : plainS Tryd.prog argTypes = true := by kernel_rfl
theorem laidOut_P : laidOutB Tryd.prog = true := by kernel_rfl
theorem own_P : ownKnob Tryd.prog.godebug = none := by kernel_rfl

def laidL : List (String × DataW Unit) := [("custody/check.own", Rows.laid_custody_check_own)]
theorem gOwn : Tryd.prog.globalNamed "custody/check.own" = some 0 := by kernel_rfl
theorem tOwn : (Tryd.prog.globals[0]?).map (·.type) = some 72 := by kernel_rfl

/-- The variable, in a world that meets the rows' condition. -/
theorem gl_ok {W : World} (h : laidMetH Tryd.prog laidL W) : GOK gl (allI W) W := by
  have h' : laidMet Tryd.prog laidL W := by
    rw [Go.MakeChecks.laidMetH_plain _ _ _ (by kernel_rfl)] at h; exact h
  intro g cs hg
  unfold gl at hg
  split at hg
  · simp only [Option.some.injEq] at hg; subst hg
    obtain ⟨ps, hv, _⟩ := h'
    exact laid_var plain_args gOwn tOwn (by simp [argTypes]) (d := Rows.laid_custody_check_own) (by simp [Rows.laid_custody_check_own, datC, datCs]) laidL ps hv (by simp [laidL])
  · cases hg

theorem door_met (os : Os) (args : Array Value) : laidMetH Tryd.prog laidL ((World.doorLaid Tryd.prog 400 os).forCall (fun _ _ => 0) ⟨#[], args, []⟩).memory :=
  laidMetH_of_parts3 (fuel := 8) (laidMet_of_run' 8 (by kernel_rfl) (by kernel_rfl)) (by kernel_rfl) (by kernel_rfl)

/-- A policy without anything. -/
def pol0 : Value := .agg #[.string ⟨#[]⟩, .slice none 0 0, .slice none 0 0, .slice none 0 0]

theorem args_two {x : List V} {a b : TypeId} (h : ArgsShp Tryd.prog [a, b] x) : ∃ u v, x = [u, v] ∧ (∃ n cs, Shp Tryd.prog n a cs ∧ u = absV Tryd.prog a cs) ∧ (∃ n cs, Shp Tryd.prog n b cs ∧ v = absV Tryd.prog b cs) := by
  match x, h with
  | [u, v], h => exact ⟨u, v, rfl, h.1, h.2.1⟩

set_option maxRecDepth 100000 in
theorem same_lifted (os : Os) (started : os.Started) (H : Type) (enc : TypeId × Value → H) :
    ReturnsInHanded {} Tryd.checked os 4 .any (fun w args => (Rows.checkSameMatchesSpecSpec.pre enc Tryd.prog Tryd.f4 [] false w args ∧ laidMetH Tryd.prog laidL w) ∧ sizedMet enc Tryd.prog Tryd.f4 (OpenSpec.ofChange Rows.checkSameMatchesSpecSpec) false w args)
      (Rows.checkSameMatchesSpecSpec.post enc Tryd.prog Tryd.f4 false true false false) := by
  refine law_lift (C := Tryd.checked) (laid := laidL) (gl := gl) (L := argTypes) (ts := [26, 26]) (tb := 4) own_P started (by kernel_rfl) Tryd.func4
    (ChangeSpec.witness_shaped (enc := enc) (C := Tryd.checked) (os := os) (X := fun w _ => laidMetH Tryd.prog laidL w) false (World.doorLaid Tryd.prog 400 os) #[pol0, pol0] 8 rfl (World.shaped_of_RefB (by kernel_rfl) (by kernel_rfl)) (by kernel_rfl) (by kernel_rfl) (by kernel_rfl) (door_met os _))
    plain_args rfl (by simp [argTypes]) laidOut_P (fun t ht => ?_) rfl (fun ds h => ?_) rfl Tryd.underlying4 (fun W h => gl_ok h) (fun xs hxs => ?_)
  · have : t = 26 := by simpa using ht
    subst this; exact ⟨by kernel_rfl, of_decide_eq_true (by kernel_rfl)⟩
  · match ds, h with
    | [d1, d2], _ => rfl
  · obtain ⟨u, v, rfl, h1, h2⟩ := args_two hxs
    obtain ⟨a, rfl, ha⟩ := arg_po h1
    obtain ⟨b, rfl, hb⟩ := arg_po h2
    exact lawSame_ok a b ha.ok hb.ok

theorem same_holds : Rows.CheckSameMatchesSpecSaid :=
  OpenClaim.holds_of_wide 4 Tryd.f4 rfl rfl rfl rfl rfl rfl rfl ⟨rfl, rfl, rfl, rfl, rfl⟩ rfl rfl rfl rfl rfl (by kernel_rfl) Tryd.func4 (by kernel_rfl)
    (of_decide_eq_true (by kernel_rfl)) (by unfold Func.isWrapper; first | (rw [if_pos (by decide +kernel)]; kernel_rfl) | (rw [if_neg (by decide +kernel)]; exact ⟨rfl, rfl⟩))
    (fun os started H enc _ => same_lifted os started H enc)

/-- The tied card. -/
theorem same_card : Rows.CheckSameMatchesSpecCardSaid :=
  Claim7.holds_tied_plain_at .later [] [.widerDeep] true (true, "c93fd8734e8301a52d8775bcf5d894049d2b970ca1eabc949b4850abe2baa37a") false
    same_holds (fun _ h => by cases h) (by kernel_rfl) (fun _ h => by cases h) checkSameMatchesSpec_row_tie rfl ⟨rfl, rfl⟩ (by kernel_rfl) rfl
    (fun f fn hf hfn => by
      obtain rfl : f = 4 := Option.some.inj ((show Tryd.prog.funcNamed "custody/custodylaw13.CheckSameMatchesSpec" = some 4 by kernel_rfl).symm.trans hf) |>.symm
      obtain rfl : fn = Tryd.f4 := (Option.some.inj (Tryd.func4.symm.trans hfn)).symm
      exact ⟨by kernel_rfl, fun j t ht => by
        have hm : t ∈ [26, 26] := by
          have := Array.mem_of_getElem? ht
          rw [Tryd.params4] at this
          simpa using this
        have hall : ([26, 26].all fun u => !Tryd.prog.wantsStandIn u) = true := by kernel_rfl
        exact (show Tryd.prog.wantsStandIn t = false by simpa using List.all_eq_true.1 hall t hm)⟩)
    (by kernel_rfl)
#print axioms same_card
end Go.Proofs.YtbhfbbfifmnniaaDoor
