/- Tables that are valid have their keys in order; few keys. -/
import Derived.Test.YtidlohfkfdeaiaaDoorVlSan
set_option linter.unusedSimpArgs false
set_option linter.unusedVariables false
namespace Go.Proofs.YtidlohfkfdeaiaaDoor
open Go Go.Vl

def fewB (t : Tb) : Bool := if 60 < t.ks.length then false else validTR t
set_option maxRecDepth 100000 in
theorem few_ok {G : Gl} (t : Tb) (ht : t.ok) (hl : t.ks.length ≤ 9223372036854775807) : FnOK Tryd.prog G 10 [tv t] (bo (fewB t)) := by
  refine FnOK_by (rs := [.tmp 2]) false [] mixed Tryd.func10 rfl rfl rfl rfl (by kernel_rfl) (by simp) rfl rfl ?_
  have hv := rValidT_ok (G := G) t hl ht
  obtain ⟨nx, ks⟩ := t
  simp only at hl
  have hf : fewB ⟨nx, ks⟩ = if 60 < ks.length then false else validTR ⟨nx, ks⟩ := rfl
  rw [hf]
  simp -implicitDefEqProofs only [pkA, ptA, ↓reduceIte, Nat.reduceEqDiff, Nat.reduceAdd, Nat.reduceMul, Nat.reduceLT, Nat.zero_add, decide_true, tC, List.length_map]
  by_cases h : 60 < ks.length
  · have d : decide ((60 : Int) < (ks.length : Nat)) = true := decide_eq_true (by omega)
    rw [if_pos h]
    simp -implicitDefEqProofs only [pkA, ↓reduceIte, Nat.reduceAdd, d]
  · have d : decide ((60 : Int) < (ks.length : Nat)) = false := decide_eq_false (by omega)
    rw [if_neg h]
    simp -implicitDefEqProofs only [pkA, ptA, ↓reduceIte, Nat.reduceEqDiff, Nat.reduceAdd, Nat.reduceMul, Nat.reduceLT, Nat.zero_add, decide_true, d]
    exact call_fn («as» := [tv ⟨nx, ks⟩]) rfl hv (fun _ => rfl) (by simp -implicitDefEqProofs only [pkA, ↓reduceIte])
end Go.Proofs.YtidlohfkfdeaiaaDoor
