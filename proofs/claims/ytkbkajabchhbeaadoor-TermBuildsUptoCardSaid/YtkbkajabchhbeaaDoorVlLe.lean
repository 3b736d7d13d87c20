/- Layer 15: the law Builds. -/
import Derived.Test.YtkbkajabchhbeaaDoorVlLc0
set_option linter.unusedSimpArgs false
set_option linter.unusedVariables false
namespace Go.Proofs.YtkbkajabchhbeaaDoor
open Go Go.Vl
set_option maxRecDepth 10000
def boxF (n : Int) (a b : Tm) : Tm := .mk 4 n [a, b]
def macF (a b : Tm) : Tm := .mk 6 0 [a, b]
def kdfF (n : Int) (a : Tm) : Tm := .mk 5 n [a]
theorem val_two {k n : Int} {a b : Tm} (hk : k = 3 ∧ n = 0 ∨ k = 4 ∨ k = 6 ∧ n = 0) (hn : 0 ≤ n ∧ n ≤ 1000) (ha : validT a = true) (hb : validT b = true) : validT (.mk k n [a, b]) = true := by
 simp only [validT, validL, ha, hb, Bool.and_true, Bool.and_eq_true, decide_eq_true_eq, Bool.or_eq_true, Bool.not_eq_true', decide_eq_false_iff_not, List.length_cons, List.length_nil]
 rcases hk with ⟨rfl, rfl⟩ | rfl | ⟨rfl, rfl⟩ <;> simp [arityI] <;> omega
theorem val_one {n : Int} {a : Tm} (hn : 0 ≤ n ∧ n ≤ 1000) (ha : validT a = true) : validT (kdfF n a) = true := by
 simp only [kdfF, validT, validL, ha, Bool.and_true, Bool.and_eq_true, decide_eq_true_eq, Bool.or_eq_true, Bool.not_eq_true', decide_eq_false_iff_not, List.length_cons, List.length_nil]
 simp [arityI]; omega
theorem val_list {a b : Tm} (ha : validT a = true) (hb : validT b = true) : ∀ x ∈ [a, b], validT x = true := fun x hx => by
 simp only [List.mem_cons, List.not_mem_nil, or_false] at hx
 rcases hx with rfl | rfl
 ·exact ha
 ·exact hb
set_option maxHeartbeats 16000000 in
theorem Builds_ok (l : List Tm) (k t : Tm) (n : Int) (hl : sizeL l ≤ big) (hk : sizeT k ≤ big) (ht : sizeT t ≤ big) : FnOK Tryd.prog glT 9 [.c (tsC l), .agg (tmC k), .agg (tmC t), i64 n] (bo true) := by
 unfold big at hl hk ht
 have hll := sizeL_len l
 have htp := sizeT_pos k
 have hsz : sizeL (l ++ [k]) = sizeL l + sizeT k := by rw [sizeL_append]; simp [sizeL]
 have hfew := few_ok (G := glT) (l ++ [k]) t (by omega)
 refine FnOK_by (rs := [.tmp 8]) false [17, 20] mixed Tryd.func9 rfl rfl rfl rfl (by kernel_rfl) (by simp) rfl rfl ?_
 simp -implicitDefEqProofs only [pkA, ptA, ↓reduceIte, Nat.reduceEqDiff, Nat.reduceAdd, Nat.reduceBEq, Nat.reduceMul, Nat.reduceLT, Nat.reduceLeDiff, pkT, pkU, tsC, true_and, List.append_eq, List.cons_append, List.nil_append, eq_self, decide_true, Bool.not_true, Bool.not_false, b_neq, b_eqs, isGh_some, owT_ow, owT_fz]
 refine appT (l := []) (m := l) (by simp; omega) ?_
 simp -implicitDefEqProofs only [pkA, ptA, ↓reduceIte, Nat.reduceEqDiff, Nat.reduceAdd, Nat.reduceBEq, Nat.reduceMul, Nat.reduceLT, Nat.reduceLeDiff, pkT, pkU, tsC, true_and, List.append_eq, List.cons_append, List.nil_append, eq_self, decide_true, Bool.not_true, Bool.not_false, b_neq, b_eqs, isGh_some, owT_ow, owT_fz]
 refine appT1 (by omega) ?_
 simp -implicitDefEqProofs only [pkA, ptA, ↓reduceIte, Nat.reduceEqDiff, Nat.reduceAdd, Nat.reduceBEq, Nat.reduceMul, Nat.reduceLT, Nat.reduceLeDiff, pkT, pkU, tsC, true_and, List.append_eq, List.cons_append, List.nil_append, eq_self, decide_true, Bool.not_true, Bool.not_false, b_neq, b_eqs, isGh_some, owT_ow, owT_fz]
 cases hs : smallL ((l ++ [k]) ++ [t]) with
 | false =>
  rw [hs] at hfew
  refine call_fn rfl (hfew) (by first | exact (fun h => by cases h) | exact fun _ => rfl) ?_
  simp -implicitDefEqProofs only [pkA, ptA, ↓reduceIte, Nat.reduceEqDiff, Nat.reduceAdd, Nat.reduceBEq, Nat.reduceMul, Nat.reduceLT, Nat.reduceLeDiff, pkT, pkU, tsC, true_and, List.append_eq, List.cons_append, List.nil_append, eq_self, decide_true, Bool.not_true, Bool.not_false, b_neq, b_eqs, isGh_some, owT_ow, owT_fz]
  refine call_fn rfl (sanity_ok) (by first | exact (fun h => by cases h) | exact fun _ => rfl) ?_
  simp -implicitDefEqProofs only [pkA, ptA, ↓reduceIte, Nat.reduceEqDiff, Nat.reduceAdd, Nat.reduceBEq, Nat.reduceMul, Nat.reduceLT, Nat.reduceLeDiff, pkT, pkU, tsC, true_and, List.append_eq, List.cons_append, List.nil_append, eq_self, decide_true, Bool.not_true, Bool.not_false, b_neq, b_eqs, isGh_some, owT_ow, owT_fz]
 | true =>
 rw [hs] at hfew
 obtain ⟨hvl, hvt, hsz2⟩ := small_app hs
 have hvk := hvl k (by simp)
 have hvl1 : ∀ x ∈ l, validT x = true := fun x hx => hvl x (List.mem_append_left _ hx)
 cases e1 : decide (n < 0) with
 | true =>
  refine call_fn rfl (hfew) (by first | exact (fun h => by cases h) | exact fun _ => rfl) ?_
  simp -implicitDefEqProofs only [pkA, ptA, ↓reduceIte, Nat.reduceEqDiff, Nat.reduceAdd, Nat.reduceBEq, Nat.reduceMul, Nat.reduceLT, Nat.reduceLeDiff, pkT, pkU, tsC, true_and, List.append_eq, List.cons_append, List.nil_append, eq_self, decide_true, Bool.not_true, Bool.not_false, b_neq, b_eqs, isGh_some, owT_ow, owT_fz, e1]
  refine call_fn rfl (sanity_ok) (by first | exact (fun h => by cases h) | exact fun _ => rfl) ?_
  simp -implicitDefEqProofs only [pkA, ptA, ↓reduceIte, Nat.reduceEqDiff, Nat.reduceAdd, Nat.reduceBEq, Nat.reduceMul, Nat.reduceLT, Nat.reduceLeDiff, pkT, pkU, tsC, true_and, List.append_eq, List.cons_append, List.nil_append, eq_self, decide_true, Bool.not_true, Bool.not_false, b_neq, b_eqs, isGh_some, owT_ow, owT_fz, e1]
 | false =>
 cases e2 : decide (n > 1000) with
 | true =>
  refine call_fn rfl (hfew) (by first | exact (fun h => by cases h) | exact fun _ => rfl) ?_
  simp -implicitDefEqProofs only [pkA, ptA, ↓reduceIte, Nat.reduceEqDiff, Nat.reduceAdd, Nat.reduceBEq, Nat.reduceMul, Nat.reduceLT, Nat.reduceLeDiff, pkT, pkU, tsC, true_and, List.append_eq, List.cons_append, List.nil_append, eq_self, decide_true, Bool.not_true, Bool.not_false, b_neq, b_eqs, isGh_some, owT_ow, owT_fz, e1, e2]
  refine call_fn rfl (sanity_ok) (by first | exact (fun h => by cases h) | exact fun _ => rfl) ?_
  simp -implicitDefEqProofs only [pkA, ptA, ↓reduceIte, Nat.reduceEqDiff, Nat.reduceAdd, Nat.reduceBEq, Nat.reduceMul, Nat.reduceLT, Nat.reduceLeDiff, pkT, pkU, tsC, true_and, List.append_eq, List.cons_append, List.nil_append, eq_self, decide_true, Bool.not_true, Bool.not_false, b_neq, b_eqs, isGh_some, owT_ow, owT_fz, e1, e2]
 | false =>
 have hn : 0 ≤ n ∧ n ≤ 1000 := by
  have h1 := of_decide_eq_false e1
  have h2 := of_decide_eq_false e2
  omega
 have v1 : validT (sealF k t) = true := val_two (.inl ⟨rfl, rfl⟩) ⟨by omega, by omega⟩ hvk hvt
 have v2 : validT (boxF n k t) = true := val_two (.inr (.inl rfl)) hn hvk hvt
 have v3 : validT (macF k t) = true := val_two (.inr (.inr ⟨rfl, rfl⟩)) ⟨by omega, by omega⟩ hvk hvt
 have v4 : validT (kdfF n k) = true := val_one hn hvk
 have z1 : sizeT (sealF k t) = sizeT k + sizeT t + 1 := by simp only [sealF, sizeT, sizeL]; omega
 have z2 : sizeT (boxF n k t) = sizeT k + sizeT t + 1 := by simp only [boxF, sizeT, sizeL]; omega
 have z3 : sizeT (macF k t) = sizeT k + sizeT t + 1 := by simp only [macF, sizeT, sizeL]; omega
 have z4 : sizeT (kdfF n k) = sizeT k + 1 := by simp only [kdfF, sizeT, sizeL]; omega
 have hka := KnowsN_ok l k hvl1 (by omega) hvk (by omega)
 have hkd := KnowsN_ok l t hvl1 (by omega) hvt (by omega)
 have q1 := KnowsN_ok [sealF k t, k] t (val_list v1 hvk) (by simp only [sizeL]; omega) hvt (by omega)
 have q2 := KnowsN_ok [boxF n k t, k] t (val_list v2 hvk) (by simp only [sizeL]; omega) hvt (by omega)
 rw [(knT_iff (val_list v1 hvk)).2 (.of (.opn (k := 3) (n := 0) (a := k) (.item (by simp [sealF])) (.inl rfl) (.of (.item (by simp)))))] at q1
 rw [(knT_iff (val_list v2 hvk)).2 (.of (.opn (k := 4) (n := n) (a := k) (.item (by simp [boxF])) (.inr rfl) (.of (.item (by simp)))))] at q2
 have p1 := KnowsN_ok l (sealF k t) hvl1 (by omega) v1 (by omega)
 have p2 := KnowsN_ok l (boxF n k t) hvl1 (by omega) v2 (by omega)
 have p3 := KnowsN_ok l (macF k t) hvl1 (by omega) v3 (by omega)
 have p4 := KnowsN_ok l (kdfF n k) hvl1 (by omega) v4 (by omega)
 refine call_fn rfl (hfew) (by first | exact (fun h => by cases h) | exact fun _ => rfl) ?_
 simp -implicitDefEqProofs only [pkA, ptA, ↓reduceIte, Nat.reduceEqDiff, Nat.reduceAdd, Nat.reduceBEq, Nat.reduceMul, Nat.reduceLT, Nat.reduceLeDiff, pkT, pkU, tsC, true_and, List.append_eq, List.cons_append, List.nil_append, eq_self, decide_true, Bool.not_true, Bool.not_false, b_neq, b_eqs, isGh_some, owT_ow, owT_fz, e1, e2]
 refine call_fn rfl (seal_ok k t) (by first | exact (fun h => by cases h) | exact fun _ => rfl) ?_
 simp -implicitDefEqProofs only [pkA, ptA, ↓reduceIte, Nat.reduceEqDiff, Nat.reduceAdd, Nat.reduceBEq, Nat.reduceMul, Nat.reduceLT, Nat.reduceLeDiff, pkT, pkU, tsC, true_and, List.append_eq, List.cons_append, List.nil_append, eq_self, decide_true, Bool.not_true, Bool.not_false, b_neq, b_eqs, isGh_some, owT_ow, owT_fz, e1, e2]
 cases ha : knT l k with
 | false =>
  rw [ha] at hka
  refine call_fn rfl (hka) (by first | exact (fun h => by cases h) | exact fun _ => rfl) ?_
  simp -implicitDefEqProofs only [pkA, ptA, ↓reduceIte, Nat.reduceEqDiff, Nat.reduceAdd, Nat.reduceBEq, Nat.reduceMul, Nat.reduceLT, Nat.reduceLeDiff, pkT, pkU, tsC, true_and, List.append_eq, List.cons_append, List.nil_append, eq_self, decide_true, Bool.not_true, Bool.not_false, b_neq, b_eqs, isGh_some, owT_ow, owT_fz, e1, e2]
  refine call_fn rfl (hkd) (by first | exact (fun h => by cases h) | exact fun _ => rfl) ?_
  simp -implicitDefEqProofs only [pkA, ptA, ↓reduceIte, Nat.reduceEqDiff, Nat.reduceAdd, Nat.reduceBEq, Nat.reduceMul, Nat.reduceLT, Nat.reduceLeDiff, pkT, pkU, tsC, true_and, List.append_eq, List.cons_append, List.nil_append, eq_self, decide_true, Bool.not_true, Bool.not_false, b_neq, b_eqs, isGh_some, owT_ow, owT_fz, e1, e2]
  refine call_fn rfl (sanity_ok) (by first | exact (fun h => by cases h) | exact fun _ => rfl) ?_
  simp -implicitDefEqProofs only [pkA, ptA, ↓reduceIte, Nat.reduceEqDiff, Nat.reduceAdd, Nat.reduceBEq, Nat.reduceMul, Nat.reduceLT, Nat.reduceLeDiff, pkT, pkU, tsC, true_and, List.append_eq, List.cons_append, List.nil_append, eq_self, decide_true, Bool.not_true, Bool.not_false, b_neq, b_eqs, isGh_some, owT_ow, owT_fz, e1, e2]
  refine call_fn rfl (q1) (by first | exact (fun h => by cases h) | exact fun _ => rfl) ?_
  simp -implicitDefEqProofs only [pkA, ptA, ↓reduceIte, Nat.reduceEqDiff, Nat.reduceAdd, Nat.reduceBEq, Nat.reduceMul, Nat.reduceLT, Nat.reduceLeDiff, pkT, pkU, tsC, true_and, List.append_eq, List.cons_append, List.nil_append, eq_self, decide_true, Bool.not_true, Bool.not_false, b_neq, b_eqs, isGh_some, owT_ow, owT_fz, e1, e2]
  refine call_fn rfl (q2) (by first | exact (fun h => by cases h) | exact fun _ => rfl) ?_
  simp -implicitDefEqProofs only [pkA, ptA, ↓reduceIte, Nat.reduceEqDiff, Nat.reduceAdd, Nat.reduceBEq, Nat.reduceMul, Nat.reduceLT, Nat.reduceLeDiff, pkT, pkU, tsC, true_and, List.append_eq, List.cons_append, List.nil_append, eq_self, decide_true, Bool.not_true, Bool.not_false, b_neq, b_eqs, isGh_some, owT_ow, owT_fz, e1, e2]
 | true =>
 rw [ha] at hka
 have m4 : knT l (kdfF n k) = true := (knT_iff hvl1).2 (.make (by decide) fun x hx => by
  rw [List.mem_singleton] at hx; rw [hx]; exact (knT_iff hvl1).1 ha)
 rw [m4] at p4
 cases hd : knT l t with
 | false =>
  rw [hd] at hkd
  refine call_fn rfl (hka) (by first | exact (fun h => by cases h) | exact fun _ => rfl) ?_
  simp -implicitDefEqProofs only [pkA, ptA, ↓reduceIte, Nat.reduceEqDiff, Nat.reduceAdd, Nat.reduceBEq, Nat.reduceMul, Nat.reduceLT, Nat.reduceLeDiff, pkT, pkU, tsC, true_and, List.append_eq, List.cons_append, List.nil_append, eq_self, decide_true, Bool.not_true, Bool.not_false, b_neq, b_eqs, isGh_some, owT_ow, owT_fz, e1, e2]
  refine call_fn rfl (hkd) (by first | exact (fun h => by cases h) | exact fun _ => rfl) ?_
  simp -implicitDefEqProofs only [pkA, ptA, ↓reduceIte, Nat.reduceEqDiff, Nat.reduceAdd, Nat.reduceBEq, Nat.reduceMul, Nat.reduceLT, Nat.reduceLeDiff, pkT, pkU, tsC, true_and, List.append_eq, List.cons_append, List.nil_append, eq_self, decide_true, Bool.not_true, Bool.not_false, b_neq, b_eqs, isGh_some, owT_ow, owT_fz, e1, e2]
  refine call_fn rfl (p4) (by first | exact (fun h => by cases h) | exact fun _ => rfl) ?_
  simp -implicitDefEqProofs only [pkA, ptA, ↓reduceIte, Nat.reduceEqDiff, Nat.reduceAdd, Nat.reduceBEq, Nat.reduceMul, Nat.reduceLT, Nat.reduceLeDiff, pkT, pkU, tsC, true_and, List.append_eq, List.cons_append, List.nil_append, eq_self, decide_true, Bool.not_true, Bool.not_false, b_neq, b_eqs, isGh_some, owT_ow, owT_fz, e1, e2]
  refine call_fn rfl (sanity_ok) (by first | exact (fun h => by cases h) | exact fun _ => rfl) ?_
  simp -implicitDefEqProofs only [pkA, ptA, ↓reduceIte, Nat.reduceEqDiff, Nat.reduceAdd, Nat.reduceBEq, Nat.reduceMul, Nat.reduceLT, Nat.reduceLeDiff, pkT, pkU, tsC, true_and, List.append_eq, List.cons_append, List.nil_append, eq_self, decide_true, Bool.not_true, Bool.not_false, b_neq, b_eqs, isGh_some, owT_ow, owT_fz, e1, e2]
  refine call_fn rfl (q1) (by first | exact (fun h => by cases h) | exact fun _ => rfl) ?_
  simp -implicitDefEqProofs only [pkA, ptA, ↓reduceIte, Nat.reduceEqDiff, Nat.reduceAdd, Nat.reduceBEq, Nat.reduceMul, Nat.reduceLT, Nat.reduceLeDiff, pkT, pkU, tsC, true_and, List.append_eq, List.cons_append, List.nil_append, eq_self, decide_true, Bool.not_true, Bool.not_false, b_neq, b_eqs, isGh_some, owT_ow, owT_fz, e1, e2]
  refine call_fn rfl (q2) (by first | exact (fun h => by cases h) | exact fun _ => rfl) ?_
  simp -implicitDefEqProofs only [pkA, ptA, ↓reduceIte, Nat.reduceEqDiff, Nat.reduceAdd, Nat.reduceBEq, Nat.reduceMul, Nat.reduceLT, Nat.reduceLeDiff, pkT, pkU, tsC, true_and, List.append_eq, List.cons_append, List.nil_append, eq_self, decide_true, Bool.not_true, Bool.not_false, b_neq, b_eqs, isGh_some, owT_ow, owT_fz, e1, e2]
 | true =>
  rw [hd] at hkd
  have m2 : ∀ x ∈ [k, t], Kn l true x := fun x hx => by
   simp only [List.mem_cons, List.not_mem_nil, or_false] at hx
   rcases hx with rfl | rfl
   ·exact (knT_iff hvl1).1 ha
   ·exact (knT_iff hvl1).1 hd
  have w1 : knT l (sealF k t) = true := (knT_iff hvl1).2 (.make (by decide) m2)
  rw [w1] at p1
  have w2 : knT l (boxF n k t) = true := (knT_iff hvl1).2 (.make (by decide) m2)
  rw [w2] at p2
  have w3 : knT l (macF k t) = true := (knT_iff hvl1).2 (.make (by decide) m2)
  rw [w3] at p3
  refine call_fn rfl (hka) (by first | exact (fun h => by cases h) | exact fun _ => rfl) ?_
  simp -implicitDefEqProofs only [pkA, ptA, ↓reduceIte, Nat.reduceEqDiff, Nat.reduceAdd, Nat.reduceBEq, Nat.reduceMul, Nat.reduceLT, Nat.reduceLeDiff, pkT, pkU, tsC, true_and, List.append_eq, List.cons_append, List.nil_append, eq_self, decide_true, Bool.not_true, Bool.not_false, b_neq, b_eqs, isGh_some, owT_ow, owT_fz, e1, e2]
  refine call_fn rfl (hkd) (by first | exact (fun h => by cases h) | exact fun _ => rfl) ?_
  simp -implicitDefEqProofs only [pkA, ptA, ↓reduceIte, Nat.reduceEqDiff, Nat.reduceAdd, Nat.reduceBEq, Nat.reduceMul, Nat.reduceLT, Nat.reduceLeDiff, pkT, pkU, tsC, true_and, List.append_eq, List.cons_append, List.nil_append, eq_self, decide_true, Bool.not_true, Bool.not_false, b_neq, b_eqs, isGh_some, owT_ow, owT_fz, e1, e2]
  refine call_fn rfl (p1) (by first | exact (fun h => by cases h) | exact fun _ => rfl) ?_
  simp -implicitDefEqProofs only [pkA, ptA, ↓reduceIte, Nat.reduceEqDiff, Nat.reduceAdd, Nat.reduceBEq, Nat.reduceMul, Nat.reduceLT, Nat.reduceLeDiff, pkT, pkU, tsC, true_and, List.append_eq, List.cons_append, List.nil_append, eq_self, decide_true, Bool.not_true, Bool.not_false, b_neq, b_eqs, isGh_some, owT_ow, owT_fz, e1, e2]
  refine call_fn rfl (p2) (by first | exact (fun h => by cases h) | exact fun _ => rfl) ?_
  simp -implicitDefEqProofs only [pkA, ptA, ↓reduceIte, Nat.reduceEqDiff, Nat.reduceAdd, Nat.reduceBEq, Nat.reduceMul, Nat.reduceLT, Nat.reduceLeDiff, pkT, pkU, tsC, true_and, List.append_eq, List.cons_append, List.nil_append, eq_self, decide_true, Bool.not_true, Bool.not_false, b_neq, b_eqs, isGh_some, owT_ow, owT_fz, e1, e2]
  refine call_fn rfl (p3) (by first | exact (fun h => by cases h) | exact fun _ => rfl) ?_
  simp -implicitDefEqProofs only [pkA, ptA, ↓reduceIte, Nat.reduceEqDiff, Nat.reduceAdd, Nat.reduceBEq, Nat.reduceMul, Nat.reduceLT, Nat.reduceLeDiff, pkT, pkU, tsC, true_and, List.append_eq, List.cons_append, List.nil_append, eq_self, decide_true, Bool.not_true, Bool.not_false, b_neq, b_eqs, isGh_some, owT_ow, owT_fz, e1, e2]
  refine call_fn rfl (p4) (by first | exact (fun h => by cases h) | exact fun _ => rfl) ?_
  simp -implicitDefEqProofs only [pkA, ptA, ↓reduceIte, Nat.reduceEqDiff, Nat.reduceAdd, Nat.reduceBEq, Nat.reduceMul, Nat.reduceLT, Nat.reduceLeDiff, pkT, pkU, tsC, true_and, List.append_eq, List.cons_append, List.nil_append, eq_self, decide_true, Bool.not_true, Bool.not_false, b_neq, b_eqs, isGh_some, owT_ow, owT_fz, e1, e2]
  refine call_fn rfl (sanity_ok) (by first | exact (fun h => by cases h) | exact fun _ => rfl) ?_
  simp -implicitDefEqProofs only [pkA, ptA, ↓reduceIte, Nat.reduceEqDiff, Nat.reduceAdd, Nat.reduceBEq, Nat.reduceMul, Nat.reduceLT, Nat.reduceLeDiff, pkT, pkU, tsC, true_and, List.append_eq, List.cons_append, List.nil_append, eq_self, decide_true, Bool.not_true, Bool.not_false, b_neq, b_eqs, isGh_some, owT_ow, owT_fz, e1, e2]
  refine call_fn rfl (q1) (by first | exact (fun h => by cases h) | exact fun _ => rfl) ?_
  simp -implicitDefEqProofs only [pkA, ptA, ↓reduceIte, Nat.reduceEqDiff, Nat.reduceAdd, Nat.reduceBEq, Nat.reduceMul, Nat.reduceLT, Nat.reduceLeDiff, pkT, pkU, tsC, true_and, List.append_eq, List.cons_append, List.nil_append, eq_self, decide_true, Bool.not_true, Bool.not_false, b_neq, b_eqs, isGh_some, owT_ow, owT_fz, e1, e2]
  refine call_fn rfl (q2) (by first | exact (fun h => by cases h) | exact fun _ => rfl) ?_
  simp -implicitDefEqProofs only [pkA, ptA, ↓reduceIte, Nat.reduceEqDiff, Nat.reduceAdd, Nat.reduceBEq, Nat.reduceMul, Nat.reduceLT, Nat.reduceLeDiff, pkT, pkU, tsC, true_and, List.append_eq, List.cons_append, List.nil_append, eq_self, decide_true, Bool.not_true, Bool.not_false, b_neq, b_eqs, isGh_some, owT_ow, owT_fz, e1, e2]
