/- Layer 15: the law's short terms, few, its sanity example. -/
import Derived.Test.YtkbkajabchhbeaaDoorVlUt
set_option linter.unusedSimpArgs false
set_option linter.unusedVariables false
namespace Go.Proofs.YtkbkajabchhbeaaDoor
open Go Go.Vl
set_option maxRecDepth 10000
section
variable {G : Gl}
def keyF (n : Int) : Tm := .mk 2 n []
def dataF (n : Int) : Tm := .mk 1 n []
def sealF (a b : Tm) : Tm := .mk 3 0 [a, b]
theorem key_ok (n : Int) : FnOK Tryd.prog G 30 [i64 n] (.agg (tmC (keyF n))) := by
 refine FnOK_by (rs := [.cell 2 24]) false [] mixed Tryd.func30 rfl rfl rfl rfl (by kernel_rfl) (by simp) rfl rfl ?_
 simp -implicitDefEqProofs only [pkA, ptA, ↓reduceIte, Nat.reduceEqDiff, Nat.reduceAdd, Nat.reduceBEq, Nat.reduceMul, Nat.reduceLT, Nat.reduceLeDiff, pkT]
 exact ⟨rfl, by decide, ⟨rfl, rfl⟩, rfl⟩
theorem data_ok (n : Int) : FnOK Tryd.prog G 39 [i64 n] (.agg (tmC (dataF n))) := by
 refine FnOK_by (rs := [.cell 2 24]) false [] mixed Tryd.func39 rfl rfl rfl rfl (by kernel_rfl) (by simp) rfl rfl ?_
 simp -implicitDefEqProofs only [pkA, ptA, ↓reduceIte, Nat.reduceEqDiff, Nat.reduceAdd, Nat.reduceBEq, Nat.reduceMul, Nat.reduceLT, Nat.reduceLeDiff, pkT]
 exact ⟨rfl, by decide, ⟨rfl, rfl⟩, rfl⟩
theorem seal_ok (a b : Tm) : FnOK Tryd.prog G 32 [.agg (tmC a), .agg (tmC b)] (.agg (tmC (sealF a b))) := by
 refine FnOK_by (rs := [.cell 4 24]) false [] mixed Tryd.func32 rfl rfl rfl rfl (by kernel_rfl) (by simp) rfl rfl ?_
 simp -implicitDefEqProofs only [pkA, ptA, ↓reduceIte, Nat.reduceEqDiff, Nat.reduceAdd, Nat.reduceBEq, Nat.reduceMul, Nat.reduceLT, Nat.reduceLeDiff, pkT]
 exact ⟨rfl, by decide, ⟨rfl, rfl⟩, rfl⟩
theorem few_ok (l : List Tm) (t : Tm) (hs : sizeL l + sizeT t ≤ 900000000) : FnOK Tryd.prog G 12 [.c (tsC l), .agg (tmC t)] (bo (smallL (l ++ [t]))) := by
 have hll := sizeL_len l
 have hsz : sizeL (l ++ [t]) = sizeL l + sizeT t := by rw [sizeL_append]; simp [sizeL]
 refine FnOK_by (rs := [.tmp 4]) false [6, 9] mixed Tryd.func12 rfl rfl rfl rfl (by kernel_rfl) (by simp) rfl rfl ?_
 simp -implicitDefEqProofs only [pkA, ptA, ↓reduceIte, Nat.reduceEqDiff, Nat.reduceAdd, Nat.reduceBEq, Nat.reduceMul, Nat.reduceLT, Nat.reduceLeDiff, pkT, tsC, isGh_some, owT_ow, owT_fz]
 refine appT (l := []) (m := l) (by simp; omega) ?_
 simp -implicitDefEqProofs only [pkA, ptA, ↓reduceIte, Nat.reduceEqDiff, Nat.reduceAdd, Nat.reduceBEq, Nat.reduceMul, Nat.reduceLT, Nat.reduceLeDiff, pkT, tsC, isGh_some, owT_ow, owT_fz, List.nil_append]
 refine appT1 (by have := sizeT_pos t; omega) ?_
 simp -implicitDefEqProofs only [pkA, ptA, ↓reduceIte, Nat.reduceEqDiff, Nat.reduceAdd, Nat.reduceBEq, Nat.reduceMul, Nat.reduceLT, Nat.reduceLeDiff, pkT, tsC, isGh_some, owT_ow, owT_fz]
 refine call_fn rfl (RSmall_ok (l ++ [t]) (by omega)) (fun h => by cases h) ?_
 simp -implicitDefEqProofs only [pkA, ptA, ↓reduceIte, Nat.reduceEqDiff, Nat.reduceAdd, Nat.reduceBEq, Nat.reduceMul, Nat.reduceLT, Nat.reduceLeDiff, pkT, tsC, isGh_some]
end
end Go.Proofs.YtkbkajabchhbeaaDoor
/- Layer 15: the law's sanity example. -/
namespace Go.Proofs.YtkbkajabchhbeaaDoor
open Go Go.Vl
set_option maxRecDepth 10000
def eA : Tm := sealF (keyF 1) (keyF 2)
def eB : Tm := sealF (keyF 2) (dataF 0)
def eC : Tm := .mk 5 2 [keyF 1]
def eX : Tm := .mk 4 3 [keyF 1, dataF 0]
theorem s1 : closeF [eA, eB] = [eA, eB] := by decide +kernel
theorem s2 : closeF [eA, eB, keyF 1] = [dataF 0, keyF 1, keyF 2, eA, eB] := by decide +kernel
theorem s3 : builtT (inP (closeF [keyF 1])) eC = true := by decide +kernel
theorem s4 : builtT (inP (closeF [keyF 1])) (keyF 2) = false := by decide +kernel
theorem s5 : builtT (inP (closeF [sealF eC (keyF 2), keyF 1])) (keyF 2) = true := by decide +kernel
theorem s6 : textT eX = [98, 111, 120, 51, 40, 107, 49, 44, 100, 48, 41] := by decide +kernel
theorem s7 : sizeT eX = 3 := by decide +kernel
theorem s8 : cmpT eA eB = -1 := by decide +kernel
theorem s9 : (rsubsT eA).length = 3 := by decide +kernel
theorem v1 : ∀ t ∈ [eA, eB, keyF 1], validT t = true := by decide +kernel
theorem v2 : ∀ t ∈ [keyF 1], validT t = true := by decide +kernel
theorem v3 : ∀ t ∈ [sealF eC (keyF 2), keyF 1], validT t = true := by decide +kernel
set_option maxHeartbeats 8000000 in
theorem sanity_ok : FnOK Tryd.prog glT 13 [] (bo true) := by
 have cl1 := Close_ok [eA, eB] (fun t ht => v1 t (by simp at ht ⊢; rcases ht with h | h <;> simp [h])) (by decide)
 rw [s1] at cl1
 have cl2 := Close_ok [eA, eB, keyF 1] v1 (by decide)
 rw [s2] at cl2
 have k1 := Knows_ok [keyF 1] eC v2 (by decide) (by decide +kernel) (by decide)
 rw [s3] at k1
 have k2 := Knows_ok [keyF 1] (keyF 2) v2 (by decide) (by decide +kernel) (by decide)
 rw [s4] at k2
 have k3 := Knows_ok [sealF eC (keyF 2), keyF 1] (keyF 2) v3 (by decide) (by decide +kernel) (by decide)
 rw [s5] at k3
 have tx := Text_ok eX (by decide +kernel) (by decide)
 rw [s6] at tx
 have sz := Size_ok (G := glT) eX (by decide)
 rw [s7, show ((3 : Nat) : Int) = 3 from rfl] at sz
 have va := Valid_ok (G := glT) eX
 rw [show validT eX = true by decide +kernel] at va
 have ik := IsKey_ok (G := glT) eC
 rw [show isKeyT eC = true by decide +kernel] at ik
 have ik2 := IsKey_ok (G := glT) eX
 rw [show isKeyT eX = false by decide +kernel] at ik2
 have cm := Compare_ok (G := glT) eA eB (by decide) (by decide)
 rw [s8] at cm
 have sb := Subterms_ok eA (by decide +kernel) (by decide)
 have hsb := s9
 have rs1 := RSame_ok (G := glT) [eA, eB] [eA, eB] (by decide) (by decide)
 rw [decide_eq_true rfl] at rs1
 have rs2 := RSame_ok (G := glT) [dataF 0, keyF 1, keyF 2, eA, eB] [dataF 0, keyF 1, keyF 2, eA, eB] (by decide) (by decide)
 rw [decide_eq_true rfl] at rs2
 generalize rsubsT eA = rs at sb hsb
 refine FnOK_by (rs := [.tmp 0]) false [] mixed Tryd.func13 rfl rfl rfl rfl (by kernel_rfl) (by simp) rfl rfl ?_
 simp -implicitDefEqProofs only [pkA, ptA, ↓reduceIte, Nat.reduceEqDiff, Nat.reduceAdd, Nat.reduceBEq, Nat.reduceMul, Nat.reduceLT, Nat.reduceLeDiff, pkT, pkU, true_and, tsC, List.append_eq, List.cons_append, List.nil_append]
 refine call_fn rfl (key_ok 1) (by first | exact (fun h => by cases h) | exact fun _ => rfl) ?_
 simp -implicitDefEqProofs only [pkA, ptA, ↓reduceIte, Nat.reduceEqDiff, Nat.reduceAdd, Nat.reduceBEq, Nat.reduceMul, Nat.reduceLT, Nat.reduceLeDiff, pkT, pkU, true_and, tsC, List.append_eq, List.cons_append, List.nil_append]
 refine call_fn rfl (key_ok 2) (by first | exact (fun h => by cases h) | exact fun _ => rfl) ?_
 simp -implicitDefEqProofs only [pkA, ptA, ↓reduceIte, Nat.reduceEqDiff, Nat.reduceAdd, Nat.reduceBEq, Nat.reduceMul, Nat.reduceLT, Nat.reduceLeDiff, pkT, pkU, true_and, tsC, List.append_eq, List.cons_append, List.nil_append]
 refine call_fn rfl (seal_ok (keyF 1) (keyF 2)) (by first | exact (fun h => by cases h) | exact fun _ => rfl) ?_
 simp -implicitDefEqProofs only [pkA, ptA, ↓reduceIte, Nat.reduceEqDiff, Nat.reduceAdd, Nat.reduceBEq, Nat.reduceMul, Nat.reduceLT, Nat.reduceLeDiff, pkT, pkU, true_and, tsC, List.append_eq, List.cons_append, List.nil_append]
 refine call_fn rfl (key_ok 2) (by first | exact (fun h => by cases h) | exact fun _ => rfl) ?_
 simp -implicitDefEqProofs only [pkA, ptA, ↓reduceIte, Nat.reduceEqDiff, Nat.reduceAdd, Nat.reduceBEq, Nat.reduceMul, Nat.reduceLT, Nat.reduceLeDiff, pkT, pkU, true_and, tsC, List.append_eq, List.cons_append, List.nil_append]
 refine call_fn rfl (data_ok 0) (by first | exact (fun h => by cases h) | exact fun _ => rfl) ?_
 simp -implicitDefEqProofs only [pkA, ptA, ↓reduceIte, Nat.reduceEqDiff, Nat.reduceAdd, Nat.reduceBEq, Nat.reduceMul, Nat.reduceLT, Nat.reduceLeDiff, pkT, pkU, true_and, tsC, List.append_eq, List.cons_append, List.nil_append]
 refine call_fn rfl (seal_ok (keyF 2) (dataF 0)) (by first | exact (fun h => by cases h) | exact fun _ => rfl) ?_
 simp -implicitDefEqProofs only [pkA, ptA, ↓reduceIte, Nat.reduceEqDiff, Nat.reduceAdd, Nat.reduceBEq, Nat.reduceMul, Nat.reduceLT, Nat.reduceLeDiff, pkT, pkU, true_and, tsC, List.append_eq, List.cons_append, List.nil_append]
 refine call_fn rfl (key_ok 1) (by first | exact (fun h => by cases h) | exact fun _ => rfl) ?_
 simp -implicitDefEqProofs only [pkA, ptA, ↓reduceIte, Nat.reduceEqDiff, Nat.reduceAdd, Nat.reduceBEq, Nat.reduceMul, Nat.reduceLT, Nat.reduceLeDiff, pkT, pkU, true_and, tsC, List.append_eq, List.cons_append, List.nil_append]
 refine call_fn rfl (key_ok 1) (by first | exact (fun h => by cases h) | exact fun _ => rfl) ?_
 simp -implicitDefEqProofs only [pkA, ptA, ↓reduceIte, Nat.reduceEqDiff, Nat.reduceAdd, Nat.reduceBEq, Nat.reduceMul, Nat.reduceLT, Nat.reduceLeDiff, pkT, pkU, true_and, tsC, List.append_eq, List.cons_append, List.nil_append]
 refine call_fn rfl (data_ok 0) (by first | exact (fun h => by cases h) | exact fun _ => rfl) ?_
 simp -implicitDefEqProofs only [pkA, ptA, ↓reduceIte, Nat.reduceEqDiff, Nat.reduceAdd, Nat.reduceBEq, Nat.reduceMul, Nat.reduceLT, Nat.reduceLeDiff, pkT, pkU, true_and, tsC, List.append_eq, List.cons_append, List.nil_append]
 refine call_fn rfl (cl1) (by first | exact (fun h => by cases h) | exact fun _ => rfl) ?_
 simp -implicitDefEqProofs only [pkA, ptA, ↓reduceIte, Nat.reduceEqDiff, Nat.reduceAdd, Nat.reduceBEq, Nat.reduceMul, Nat.reduceLT, Nat.reduceLeDiff, pkT, pkU, true_and, tsC, List.append_eq, List.cons_append, List.nil_append]
 refine call_fn rfl (key_ok 1) (by first | exact (fun h => by cases h) | exact fun _ => rfl) ?_
 simp -implicitDefEqProofs only [pkA, ptA, ↓reduceIte, Nat.reduceEqDiff, Nat.reduceAdd, Nat.reduceBEq, Nat.reduceMul, Nat.reduceLT, Nat.reduceLeDiff, pkT, pkU, true_and, tsC, List.append_eq, List.cons_append, List.nil_append]
 refine call_fn rfl (cl2) (by first | exact (fun h => by cases h) | exact fun _ => rfl) ?_
 simp -implicitDefEqProofs only [pkA, ptA, ↓reduceIte, Nat.reduceEqDiff, Nat.reduceAdd, Nat.reduceBEq, Nat.reduceMul, Nat.reduceLT, Nat.reduceLeDiff, pkT, pkU, true_and, tsC, List.append_eq, List.cons_append, List.nil_append]
 refine call_fn rfl rs1 (by first | exact (fun h => by cases h) | exact fun _ => rfl) ?_
 simp -implicitDefEqProofs only [pkA, ptA, ↓reduceIte, Nat.reduceEqDiff, Nat.reduceAdd, Nat.reduceBEq, Nat.reduceMul, Nat.reduceLT, Nat.reduceLeDiff, pkT, pkU, true_and, tsC, List.append_eq, List.cons_append, List.nil_append]
 refine call_fn rfl (data_ok 0) (by first | exact (fun h => by cases h) | exact fun _ => rfl) ?_
 simp -implicitDefEqProofs only [pkA, ptA, ↓reduceIte, Nat.reduceEqDiff, Nat.reduceAdd, Nat.reduceBEq, Nat.reduceMul, Nat.reduceLT, Nat.reduceLeDiff, pkT, pkU, true_and, tsC, List.append_eq, List.cons_append, List.nil_append]
 refine call_fn rfl (key_ok 1) (by first | exact (fun h => by cases h) | exact fun _ => rfl) ?_
 simp -implicitDefEqProofs only [pkA, ptA, ↓reduceIte, Nat.reduceEqDiff, Nat.reduceAdd, Nat.reduceBEq, Nat.reduceMul, Nat.reduceLT, Nat.reduceLeDiff, pkT, pkU, true_and, tsC, List.append_eq, List.cons_append, List.nil_append]
 refine call_fn rfl (key_ok 2) (by first | exact (fun h => by cases h) | exact fun _ => rfl) ?_
 simp -implicitDefEqProofs only [pkA, ptA, ↓reduceIte, Nat.reduceEqDiff, Nat.reduceAdd, Nat.reduceBEq, Nat.reduceMul, Nat.reduceLT, Nat.reduceLeDiff, pkT, pkU, true_and, tsC, List.append_eq, List.cons_append, List.nil_append]
 refine call_fn rfl rs2 (by first | exact (fun h => by cases h) | exact fun _ => rfl) ?_
 simp -implicitDefEqProofs only [pkA, ptA, ↓reduceIte, Nat.reduceEqDiff, Nat.reduceAdd, Nat.reduceBEq, Nat.reduceMul, Nat.reduceLT, Nat.reduceLeDiff, pkT, pkU, true_and, tsC, List.append_eq, List.cons_append, List.nil_append]
 refine call_fn rfl (key_ok 1) (by first | exact (fun h => by cases h) | exact fun _ => rfl) ?_
 simp -implicitDefEqProofs only [pkA, ptA, ↓reduceIte, Nat.reduceEqDiff, Nat.reduceAdd, Nat.reduceBEq, Nat.reduceMul, Nat.reduceLT, Nat.reduceLeDiff, pkT, pkU, true_and, tsC, List.append_eq, List.cons_append, List.nil_append]
 refine call_fn rfl (k1) (by first | exact (fun h => by cases h) | exact fun _ => rfl) ?_
 simp -implicitDefEqProofs only [pkA, ptA, ↓reduceIte, Nat.reduceEqDiff, Nat.reduceAdd, Nat.reduceBEq, Nat.reduceMul, Nat.reduceLT, Nat.reduceLeDiff, pkT, pkU, true_and, tsC, List.append_eq, List.cons_append, List.nil_append]
 refine call_fn rfl (key_ok 1) (by first | exact (fun h => by cases h) | exact fun _ => rfl) ?_
 simp -implicitDefEqProofs only [pkA, ptA, ↓reduceIte, Nat.reduceEqDiff, Nat.reduceAdd, Nat.reduceBEq, Nat.reduceMul, Nat.reduceLT, Nat.reduceLeDiff, pkT, pkU, true_and, tsC, List.append_eq, List.cons_append, List.nil_append]
 refine call_fn rfl (key_ok 2) (by first | exact (fun h => by cases h) | exact fun _ => rfl) ?_
 simp -implicitDefEqProofs only [pkA, ptA, ↓reduceIte, Nat.reduceEqDiff, Nat.reduceAdd, Nat.reduceBEq, Nat.reduceMul, Nat.reduceLT, Nat.reduceLeDiff, pkT, pkU, true_and, tsC, List.append_eq, List.cons_append, List.nil_append]
 refine call_fn rfl (k2) (by first | exact (fun h => by cases h) | exact fun _ => rfl) ?_
 simp -implicitDefEqProofs only [pkA, ptA, ↓reduceIte, Nat.reduceEqDiff, Nat.reduceAdd, Nat.reduceBEq, Nat.reduceMul, Nat.reduceLT, Nat.reduceLeDiff, pkT, pkU, true_and, tsC, List.append_eq, List.cons_append, List.nil_append]
 refine call_fn rfl (key_ok 2) (by first | exact (fun h => by cases h) | exact fun _ => rfl) ?_
 simp -implicitDefEqProofs only [pkA, ptA, ↓reduceIte, Nat.reduceEqDiff, Nat.reduceAdd, Nat.reduceBEq, Nat.reduceMul, Nat.reduceLT, Nat.reduceLeDiff, pkT, pkU, true_and, tsC, List.append_eq, List.cons_append, List.nil_append]
 refine call_fn rfl (seal_ok eC (keyF 2)) (by first | exact (fun h => by cases h) | exact fun _ => rfl) ?_
 simp -implicitDefEqProofs only [pkA, ptA, ↓reduceIte, Nat.reduceEqDiff, Nat.reduceAdd, Nat.reduceBEq, Nat.reduceMul, Nat.reduceLT, Nat.reduceLeDiff, pkT, pkU, true_and, tsC, List.append_eq, List.cons_append, List.nil_append]
 refine call_fn rfl (key_ok 1) (by first | exact (fun h => by cases h) | exact fun _ => rfl) ?_
 simp -implicitDefEqProofs only [pkA, ptA, ↓reduceIte, Nat.reduceEqDiff, Nat.reduceAdd, Nat.reduceBEq, Nat.reduceMul, Nat.reduceLT, Nat.reduceLeDiff, pkT, pkU, true_and, tsC, List.append_eq, List.cons_append, List.nil_append]
 refine call_fn rfl (key_ok 2) (by first | exact (fun h => by cases h) | exact fun _ => rfl) ?_
 simp -implicitDefEqProofs only [pkA, ptA, ↓reduceIte, Nat.reduceEqDiff, Nat.reduceAdd, Nat.reduceBEq, Nat.reduceMul, Nat.reduceLT, Nat.reduceLeDiff, pkT, pkU, true_and, tsC, List.append_eq, List.cons_append, List.nil_append]
 refine call_fn rfl (k3) (by first | exact (fun h => by cases h) | exact fun _ => rfl) ?_
 simp -implicitDefEqProofs only [pkA, ptA, ↓reduceIte, Nat.reduceEqDiff, Nat.reduceAdd, Nat.reduceBEq, Nat.reduceMul, Nat.reduceLT, Nat.reduceLeDiff, pkT, pkU, true_and, tsC, List.append_eq, List.cons_append, List.nil_append]
 refine call_fn rfl (tx) (by first | exact (fun h => by cases h) | exact fun _ => rfl) ?_
 simp -implicitDefEqProofs only [pkA, ptA, ↓reduceIte, Nat.reduceEqDiff, Nat.reduceAdd, Nat.reduceBEq, Nat.reduceMul, Nat.reduceLT, Nat.reduceLeDiff, pkT, pkU, true_and, tsC, List.append_eq, List.cons_append, List.nil_append]
 refine vgd_of (fun _ => ?_) (fun h => ?_)
 rotate_left
 ·exfalso; revert h; decide +kernel
 simp -implicitDefEqProofs only [pkA, ptA, ↓reduceIte, Nat.reduceEqDiff, Nat.reduceAdd, Nat.reduceBEq, Nat.reduceMul, Nat.reduceLT, Nat.reduceLeDiff, pkT, pkU, true_and, tsC, List.append_eq, List.cons_append, List.nil_append]
 refine call_fn rfl (sz) (by first | exact (fun h => by cases h) | exact fun _ => rfl) ?_
 simp -implicitDefEqProofs only [pkA, ptA, ↓reduceIte, Nat.reduceEqDiff, Nat.reduceAdd, Nat.reduceBEq, Nat.reduceMul, Nat.reduceLT, Nat.reduceLeDiff, pkT, pkU, true_and, tsC, List.append_eq, List.cons_append, List.nil_append]
 refine vgd_of (fun _ => ?_) (fun h => ?_)
 rotate_left
 ·exfalso; revert h; decide +kernel
 simp -implicitDefEqProofs only [pkA, ptA, ↓reduceIte, Nat.reduceEqDiff, Nat.reduceAdd, Nat.reduceBEq, Nat.reduceMul, Nat.reduceLT, Nat.reduceLeDiff, pkT, pkU, true_and, tsC, List.append_eq, List.cons_append, List.nil_append]
 refine call_fn rfl (va) (by first | exact (fun h => by cases h) | exact fun _ => rfl) ?_
 simp -implicitDefEqProofs only [pkA, ptA, ↓reduceIte, Nat.reduceEqDiff, Nat.reduceAdd, Nat.reduceBEq, Nat.reduceMul, Nat.reduceLT, Nat.reduceLeDiff, pkT, pkU, true_and, tsC, List.append_eq, List.cons_append, List.nil_append]
 refine call_fn rfl (ik) (by first | exact (fun h => by cases h) | exact fun _ => rfl) ?_
 simp -implicitDefEqProofs only [pkA, ptA, ↓reduceIte, Nat.reduceEqDiff, Nat.reduceAdd, Nat.reduceBEq, Nat.reduceMul, Nat.reduceLT, Nat.reduceLeDiff, pkT, pkU, true_and, tsC, List.append_eq, List.cons_append, List.nil_append]
 refine call_fn rfl (ik2) (by first | exact (fun h => by cases h) | exact fun _ => rfl) ?_
 simp -implicitDefEqProofs only [pkA, ptA, ↓reduceIte, Nat.reduceEqDiff, Nat.reduceAdd, Nat.reduceBEq, Nat.reduceMul, Nat.reduceLT, Nat.reduceLeDiff, pkT, pkU, true_and, tsC, List.append_eq, List.cons_append, List.nil_append]
 refine call_fn rfl (cm) (by first | exact (fun h => by cases h) | exact fun _ => rfl) ?_
 simp -implicitDefEqProofs only [pkA, ptA, ↓reduceIte, Nat.reduceEqDiff, Nat.reduceAdd, Nat.reduceBEq, Nat.reduceMul, Nat.reduceLT, Nat.reduceLeDiff, pkT, pkU, true_and, tsC, List.append_eq, List.cons_append, List.nil_append]
 refine vgd_of (fun _ => ?_) (fun h => ?_)
 rotate_left
 ·exfalso; revert h; decide +kernel
 simp -implicitDefEqProofs only [pkA, ptA, ↓reduceIte, Nat.reduceEqDiff, Nat.reduceAdd, Nat.reduceBEq, Nat.reduceMul, Nat.reduceLT, Nat.reduceLeDiff, pkT, pkU, true_and, tsC, List.append_eq, List.cons_append, List.nil_append]
 refine call_fn rfl (sb) (by first | exact (fun h => by cases h) | exact fun _ => rfl) ?_
 simp -implicitDefEqProofs only [pkA, ptA, ↓reduceIte, Nat.reduceEqDiff, Nat.reduceAdd, Nat.reduceBEq, Nat.reduceMul, Nat.reduceLT, Nat.reduceLeDiff, pkT, pkU, true_and, tsC, List.append_eq, List.cons_append, List.nil_append]
 rw [List.length_map, hsb]; rfl
