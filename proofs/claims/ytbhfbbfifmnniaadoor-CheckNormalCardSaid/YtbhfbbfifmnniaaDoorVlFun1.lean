/- Contracts of small functions. -/
import Derived.Test.YtbhfbbfifmnniaaDoorVlGen
set_option linter.unusedSimpArgs false
set_option linter.unusedVariables false
namespace Go.Proofs.YtbhfbbfifmnniaaDoor
open Go Go.Vl

variable {G : Gl}

set_option maxHeartbeats 1000000 in
theorem within_ok (a b c : Int) : FnOK Tryd.prog G 48 [i64 a, i64 b, i64 c] (bo (decide (b ≤ a) && decide (a ≤ c))) := by
  refine FnOK_by (rs := [.tmp 6]) false [] mixed Tryd.func48 rfl rfl rfl rfl (by kernel_rfl) (by simp) rfl rfl ?_
  repeat' first
    | (simp -implicitDefEqProofs only [pkA, ptA, ↓reduceIte, Nat.reduceEqDiff, Nat.reduceAdd, Nat.reduceBEq, Nat.reduceMul, Nat.reduceLT, Nat.reduceLeDiff])
    | refine vgd_of (fun h => ?_) (fun h => ?_)
    | refine vcond_of (fun h => ?_) (fun h => ?_)
  all_goals (simp_all <;> omega)

set_option maxHeartbeats 1000000 in
theorem isNaN_ok (a : Int) : FnOK Tryd.prog G 51 [i64 a] (bo false) := by
  refine FnOK_by (rs := [.tmp 2]) false [] mixed Tryd.func51 rfl rfl rfl rfl (by kernel_rfl) (by simp) rfl rfl ?_
  repeat' first
    | (simp -implicitDefEqProofs only [pkA, ptA, ↓reduceIte, Nat.reduceEqDiff, Nat.reduceAdd, Nat.reduceBEq, Nat.reduceMul, Nat.reduceLT, Nat.reduceLeDiff])
    | refine vgd_of (fun h => ?_) (fun h => ?_)
    | refine vcond_of (fun h => ?_) (fun h => ?_)
  all_goals simp_all

/-- The order of numbers, as a number. -/
def cmpI (a b : Int) : Int := if a < b then -1 else if b < a then 1 else 0

set_option maxHeartbeats 1000000 in
theorem Compare_ok (a b : Int) : FnOK Tryd.prog G 34 [i64 a, i64 b] (i64 (cmpI a b)) := by
  refine FnOK_by (rs := [.tmp 4]) false [] mixed Tryd.func34 rfl rfl rfl rfl (by kernel_rfl) (by simp) rfl rfl ?_
  simp -implicitDefEqProofs only [pkA, ptA, ↓reduceIte, Nat.reduceEqDiff, Nat.reduceAdd, Nat.reduceBEq, Nat.reduceMul, Nat.reduceLT, Nat.reduceLeDiff]
  refine call_fn rfl (isNaN_ok a) (by simp [V.boxy]) ?_
  simp -implicitDefEqProofs only [pkA, ptA, ↓reduceIte, Nat.reduceEqDiff, Nat.reduceAdd, Nat.reduceBEq, Nat.reduceMul, Nat.reduceLT, Nat.reduceLeDiff]
  refine call_fn rfl (isNaN_ok b) (by simp [V.boxy]) ?_
  repeat' first
    | (simp -implicitDefEqProofs only [pkA, ptA, ↓reduceIte, Nat.reduceEqDiff, Nat.reduceAdd, Nat.reduceBEq, Nat.reduceMul, Nat.reduceLT, Nat.reduceLeDiff])
    | refine vgd_of (fun h => ?_) (fun h => ?_)
    | refine vcond_of (fun h => ?_) (fun h => ?_)
  all_goals (simp_all [cmpI] <;> omega)
end Go.Proofs.YtbhfbbfifmnniaaDoor
