/- The law CheckMatchesSpec of layer 13, as a contract. -/
import Derived.Test.YtbhfbbfifmnniaaDoorVlRefN
import Derived.Test.YtbhfbbfifmnniaaDoorVlSan
set_option linter.unusedSimpArgs false
set_option linter.unusedVariables false
namespace Go.Proofs.YtbhfbbfifmnniaaDoor
open Go Go.Vl

theorem few_sm {p : Pol} (h : fewB p = true) : PolSm p := by
  simp only [fewB, Bool.and_eq_true, decide_eq_true_eq] at h; unfold PolSm; omega
theorem few_it {p : Pol} (h : fewB p = true) : items p ≤ 4611686018427387904 := by
  simp only [fewB, Bool.and_eq_true, decide_eq_true_eq] at h; unfold items; omega
theorem normP_ok {p : Pol} (h : PolOk p) : PolOk (normP p) := by
  unfold PolOk normP at *; simp only [ssort_len]; exact h

set_option maxRecDepth 100000 in
set_option maxHeartbeats 4000000 in
theorem lawMatch (p : Pol) (s : ByteArray) (hp : PolIn p) (hs : s.size ≤ maxLen) : FnOK Tryd.prog gl 3 [.agg (poC p), .c (.lit (.string s))] (bo true) := by
  refine FnOK_by (rs := [.tmp 4]) false [] mixed Tryd.func3 rfl rfl rfl rfl (by kernel_rfl) (by simp) rfl rfl ?_
  have hs' : s.size ≤ 9223372036854775807 := by unfold maxLen at hs; omega
  cases hf : fewB p with
  | false =>
    repeat' first
      | (simp -implicitDefEqProofs only [pkA, ptA, ↓reduceIte, Nat.reduceEqDiff, Nat.reduceAdd, Nat.reduceBEq, Nat.reduceMul, Nat.reduceLT, Nat.reduceLeDiff, pkP, List.length_map, hf])
      | refine call_fn rfl (few_ok _) (fun _ => rfl) ?_
      | refine call_fn rfl sanity_ok (fun _ => rfl) ?_
  | true =>
    have h1 := few_sm hf
    have h2 := few_it hf
    have h3 := normP_ok hp.ok
    have hS := refSame_ok (G := gl) (normP p) (normP p) h3 h3
    rw [decide_eq_true rfl] at hS
    repeat' first
      | (simp -implicitDefEqProofs only [pkA, ptA, ↓reduceIte, Nat.reduceEqDiff, Nat.reduceAdd, Nat.reduceBEq, Nat.reduceMul, Nat.reduceLT, Nat.reduceLeDiff, pkP, List.length_map, hf, decide_true, beq_self_eq_true])
      | refine vgd_of (fun h => ?_) (fun h => ?_)
      | refine vcond_of (fun h => ?_) (fun h => ?_)
      | refine call_fn rfl (few_ok _) (fun _ => rfl) ?_
      | refine call_fn rfl sanity_ok (fun _ => rfl) ?_
      | refine call_fn rfl (Check_ok rfl p hp h2) (fun h => by cases h) ?_
      | refine call_fn rfl (refCheck_ok p hp h2) (fun h => by cases h) ?_
      | refine call_fn rfl (Valid_ok rfl p hp h2) (fun _ => rfl) ?_
      | refine call_fn rfl (refValid_ok p hp h2) (fun _ => rfl) ?_
      | refine call_fn rfl (Name_ok s hs') (fun _ => rfl) ?_
      | refine call_fn rfl (refName_ok s hs') (fun _ => rfl) ?_
      | refine call_fn rfl (Normal_ok p h1) (fun h => by cases h) ?_
      | refine call_fn rfl (refNormal_ok p h1) (fun h => by cases h) ?_
      | refine call_fn rfl hS (fun _ => rfl) ?_
end Go.Proofs.YtbhfbbfifmnniaaDoor
