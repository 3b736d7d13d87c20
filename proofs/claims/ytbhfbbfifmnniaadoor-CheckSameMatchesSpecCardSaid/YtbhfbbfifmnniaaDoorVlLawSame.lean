/- The law CheckSameMatchesSpec, as a contract. -/
import Derived.Test.YtbhfbbfifmnniaaDoorVlSame
import Derived.Test.YtbhfbbfifmnniaaDoorVlSan
namespace Go.Proofs.YtbhfbbfifmnniaaDoor
open Go Go.Vl

set_option maxHeartbeats 1000000 in
theorem lawSame_ok (a b : Pol) (ha : PolOk a) (hb : PolOk b) : FnOK Tryd.prog gl 4 [.agg (poC a), .agg (poC b)] (bo true) := by
  refine FnOK_by (rs := [.tmp 4]) false [] mixed Tryd.func4 rfl rfl rfl rfl (by kernel_rfl) (by simp) rfl rfl ?_
  repeat' first
    | (simp -implicitDefEqProofs only [pkA, ptA, ↓reduceIte, Nat.reduceEqDiff, Nat.reduceAdd, Nat.reduceLT, pkP])
    | refine vgd_of (fun h => ?_) (fun h => ?_)
    | refine vcond_of (fun h => ?_) (fun h => ?_)
    | refine call_fn rfl (few_ok _) (by simp [V.boxy]) ?_
    | refine call_fn rfl sanity_ok (by simp [V.boxy]) ?_
    | refine call_fn rfl (Same_ok _ _ (by assumption) (by assumption)) (by simp [V.boxy]) ?_
    | refine call_fn rfl (refSame_ok _ _ (by assumption) (by assumption)) (by simp [V.boxy]) ?_
  all_goals first | (simp_all; done) | trace_state
end Go.Proofs.YtbhfbbfifmnniaaDoor
