/- Layer 17: the law RulesNextMatchesSpec, as a contract. -/
import Derived.Test.YthgmobkmmapgoaaGreatVlN5
import Derived.Test.YthgmobkmmapgoaaGreatVlL2
set_option linter.unusedSimpArgs false
set_option linter.unusedVariables false
namespace Go.Proofs.YthgmobkmmapgoaaGreat
open Go Go.Vl
variable {G : Gl}
set_option maxRecDepth 10000
theorem next_lenR {p : Pol} {l : List Fa} (h : (allL p none).length ≤ 20000) : (nextF p l).length ≤ 40000 := Nat.le_trans next_len (by omega)
theorem closedR_sm {p : Pol} {l : List Fa} : InSm (closedR l (allL p none)).1 := by
 unfold closedR
 cases h : (allL p none).find? (goesR l) with
 | none => exact ⟨by simp [in0], by simp [in0]⟩
 | some x =>
  have := small2_all (p := p) x (List.mem_of_find?_eq_some h)
  exact ⟨by simp only; omega, by simp only; omega⟩
set_option maxHeartbeats 4000000 in
theorem lawNext_ok (p : Pol) (l : List Fa) : FnOK Tryz.prog G 5 [.agg (poC p), .c (fsC l)] (bo true) := by
 refine FnOK_by (rs := [.tmp 4]) false [] mixed Tryz.func5 rfl rfl rfl rfl (by kernel_rfl) (by simp) rfl rfl ?_
 simp -implicitDefEqProofs only [pkA, ↓reduceIte, Nat.reduceAdd]
 refine call_fn rfl sanity_ok (fun _ => rfl) ?_
 simp -implicitDefEqProofs only [pkA, ptA, ↓reduceIte, Nat.reduceEqDiff, Nat.reduceAdd, Nat.reduceMul, Nat.reduceLT, pkU]
 refine call_fn rfl (Small_ok p) (fun _ => rfl) ?_
 cases hs : (decide ((p.types.length : Int) ≤ 7) && decide ((p.rules.length : Int) ≤ 14))
 ·simp -implicitDefEqProofs only [pkA, ↓reduceIte, Nat.reduceEqDiff, Nat.reduceAdd]
 have hs : (p.types.length : Int) ≤ 7 ∧ (p.rules.length : Int) ≤ 14 := by simpa using hs
 have hs1 : p.types.length ≤ 7 := by omega
 have hs2 : p.rules.length ≤ 14 := by omega
 simp -implicitDefEqProofs only [pkA, ↓reduceIte, Nat.reduceEqDiff, Nat.reduceAdd, pkU]
 cases h2 : decide ((60 : Int) < l.length)
 ·have h2' : l.length ≤ 60 := by simp at h2; omega
  have hlen := @allL_len p none hs1 (by omega)
  simp -implicitDefEqProofs only [pkA, ptA, ↓reduceIte, Nat.reduceEqDiff, Nat.reduceAdd, Nat.reduceMul, Nat.reduceLT, pkU]
  refine call_fn rfl (Next_ok p l (by omega) (by omega) hlen small2_all (by omega)) (fun h => by cases h) ?_
  have hnl := next_lenR (l := l) hlen
  simp -implicitDefEqProofs only [pkA, ptA, ↓reduceIte, Nat.reduceEqDiff, Nat.reduceAdd, Nat.reduceMul, Nat.reduceLT, pkU]
  refine call_fn rfl (Closed_ok p l (by omega) (by omega) small2_all (by omega)) (fun h => by cases h) ?_
  have hc2 : (closedR l (allL p none)).2 = decide (((nextF p l).length : Int) = 0) := by rw [← closed_twin]; exact closed_next
  rw [closed_twin, hc2]
  have hq : ∀ (x : In) (a b c : V), setV [a, b, c] 0 ((inC x).map .c) = (inC x).map .c := fun _ _ _ _ => rfl
  simp -implicitDefEqProofs only [pkA, ptA, ↓reduceIte, Nat.reduceEqDiff, Nat.reduceAdd, Nat.reduceMul, Nat.reduceLT, Nat.reduceLeDiff, pkU, hq]
  refine call_fn («as» := [.agg (poC p), .c (fsC l)]) rfl (rClosed_ok p l (by omega) (by omega) hlen small2_all (by omega)) (fun h => by cases h) ?_
  rw [hc2]
  simp -implicitDefEqProofs only [pkA, ptA, ↓reduceIte, Nat.reduceEqDiff, Nat.reduceAdd, Nat.reduceMul, Nat.reduceLT, Nat.reduceLeDiff, pkU, hq]
  refine call_fn («as» := [.agg (poC p), .c (fsC l)]) rfl (rNext_ok p l (by omega) (by omega) hlen small2_all (by omega)) (fun h => by cases h) ?_
  rw [← next_twin]
  simp -implicitDefEqProofs only [pkA, ↓reduceIte, Nat.reduceEqDiff, Nat.reduceAdd]
  refine call_fn («as» := [.c (fsC (nextF p l)), .c (fsC (nextF p l))]) rfl (Same_ok _ _ (by omega)) (fun _ => rfl) ?_
  simp -implicitDefEqProofs only [pkA, ptA, ↓reduceIte, Nat.reduceEqDiff, Nat.reduceAdd, Nat.reduceMul, Nat.reduceLT, pkU]
  refine call_fn («as» := [.agg (inC (closedR l (allL p none)).1), .agg (inC (closedR l (allL p none)).1)]) rfl (SameIn_ok _ _ closedR_sm closedR_sm) (fun _ => rfl) ?_
  rw [decide_eq_true rfl]
  have hbb : ∀ (b : Bool), (b == b) = true := by decide
  simp -implicitDefEqProofs only [pkA, ↓reduceIte, Nat.reduceEqDiff, Nat.reduceAdd, pkU, hbb, decide_true]
 ·simp -implicitDefEqProofs only [pkA, ↓reduceIte, Nat.reduceEqDiff, Nat.reduceAdd]
