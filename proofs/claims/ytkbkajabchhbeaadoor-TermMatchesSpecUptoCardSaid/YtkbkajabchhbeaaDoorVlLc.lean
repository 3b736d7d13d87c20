/- Layer 15: the laws MatchesSpec, Texts, ClosesAsSpecified, Cut. -/
import Derived.Test.YtkbkajabchhbeaaDoorVlLc0
set_option linter.unusedSimpArgs false
set_option linter.unusedVariables false
namespace Go.Proofs.YtkbkajabchhbeaaDoor
open Go Go.Vl
set_option maxRecDepth 10000
set_option maxHeartbeats 8000000 in
theorem MatchesSpec_ok (a b : Tm) (ha : sizeT a ≤ big) (hb : sizeT b ≤ big) : FnOK Tryd.prog glT 3 [.agg (tmC a), .agg (tmC b)] (bo true) := by
 unfold big at ha hb
 have hfew := few_ok (G := glT) [a] b (by simp only [sizeL]; omega)
 refine FnOK_by (rs := [.tmp 4]) false [] mixed Tryd.func3 rfl rfl rfl rfl (by kernel_rfl) (by simp) rfl rfl ?_
 simp -implicitDefEqProofs only [pkA, ptA, ↓reduceIte, Nat.reduceEqDiff, Nat.reduceAdd, Nat.reduceBEq, Nat.reduceMul, Nat.reduceLT, Nat.reduceLeDiff, pkT, pkU, tsC, true_and, List.append_eq, List.cons_append, List.nil_append, eq_self, decide_true, Bool.not_true, Bool.not_false, b_neq, b_eqs]
 refine call_fn rfl (Valid_ok a) (by first | exact (fun h => by cases h) | exact fun _ => rfl) ?_
 simp -implicitDefEqProofs only [pkA, ptA, ↓reduceIte, Nat.reduceEqDiff, Nat.reduceAdd, Nat.reduceBEq, Nat.reduceMul, Nat.reduceLT, Nat.reduceLeDiff, pkT, pkU, tsC, true_and, List.append_eq, List.cons_append, List.nil_append, eq_self, decide_true, Bool.not_true, Bool.not_false, b_neq, b_eqs]
 refine call_fn rfl (RValid_ok a) (by first | exact (fun h => by cases h) | exact fun _ => rfl) ?_
 simp -implicitDefEqProofs only [pkA, ptA, ↓reduceIte, Nat.reduceEqDiff, Nat.reduceAdd, Nat.reduceBEq, Nat.reduceMul, Nat.reduceLT, Nat.reduceLeDiff, pkT, pkU, tsC, true_and, List.append_eq, List.cons_append, List.nil_append, eq_self, decide_true, Bool.not_true, Bool.not_false, b_neq, b_eqs]
 refine call_fn rfl (Valid_ok b) (by first | exact (fun h => by cases h) | exact fun _ => rfl) ?_
 simp -implicitDefEqProofs only [pkA, ptA, ↓reduceIte, Nat.reduceEqDiff, Nat.reduceAdd, Nat.reduceBEq, Nat.reduceMul, Nat.reduceLT, Nat.reduceLeDiff, pkT, pkU, tsC, true_and, List.append_eq, List.cons_append, List.nil_append, eq_self, decide_true, Bool.not_true, Bool.not_false, b_neq, b_eqs]
 refine call_fn rfl (RValid_ok b) (by first | exact (fun h => by cases h) | exact fun _ => rfl) ?_
 simp -implicitDefEqProofs only [pkA, ptA, ↓reduceIte, Nat.reduceEqDiff, Nat.reduceAdd, Nat.reduceBEq, Nat.reduceMul, Nat.reduceLT, Nat.reduceLeDiff, pkT, pkU, tsC, true_and, List.append_eq, List.cons_append, List.nil_append, eq_self, decide_true, Bool.not_true, Bool.not_false, b_neq, b_eqs]
 refine call_fn rfl (hfew) (by first | exact (fun h => by cases h) | exact fun _ => rfl) ?_
 simp -implicitDefEqProofs only [pkA, ptA, ↓reduceIte, Nat.reduceEqDiff, Nat.reduceAdd, Nat.reduceBEq, Nat.reduceMul, Nat.reduceLT, Nat.reduceLeDiff, pkT, pkU, tsC, true_and, List.append_eq, List.cons_append, List.nil_append, eq_self, decide_true, Bool.not_true, Bool.not_false, b_neq, b_eqs]
 refine vcond_of (fun _ => ?_) (fun hs => ?_)
 ·simp -implicitDefEqProofs only [pkA, ptA, ↓reduceIte, Nat.reduceEqDiff, Nat.reduceAdd, Nat.reduceBEq, Nat.reduceMul, Nat.reduceLT, Nat.reduceLeDiff, pkT, pkU, tsC, true_and, List.append_eq, List.cons_append, List.nil_append, eq_self, decide_true, Bool.not_true, Bool.not_false, b_neq, b_eqs]
  refine call_fn rfl (sanity_ok) (by first | exact (fun h => by cases h) | exact fun _ => rfl) ?_
  simp -implicitDefEqProofs only [pkA, ptA, ↓reduceIte, Nat.reduceEqDiff, Nat.reduceAdd, Nat.reduceBEq, Nat.reduceMul, Nat.reduceLT, Nat.reduceLeDiff, pkT, pkU, tsC, true_and, List.append_eq, List.cons_append, List.nil_append, eq_self, decide_true, Bool.not_true, Bool.not_false, b_neq, b_eqs]
 have hs : smallL ([a] ++ [b]) = true := by simpa using hs
 obtain ⟨hva, hvb, hsz⟩ := small_app hs
 have hva := hva a (by simp)
 simp only [sizeL] at hsz
 have hik := RIsKey_ok (G := glT) a
 rw [isKey_eq hva] at hik
 have hrs := (subs_small (rsubs_ok a).1 fun x hx => ((rsubs_ok a).2 x).1 hx).2
 have hq := Nat.mul_le_mul (show sizeT a ≤ 150 by omega) (show sizeT a ≤ 150 by omega)
 have hsm := RSame_ok (G := glT) (rsubsT a) (rsubsT a) (by omega) (by omega)
 rw [decide_eq_true rfl] at hsm
 simp -implicitDefEqProofs only [pkA, ptA, ↓reduceIte, Nat.reduceEqDiff, Nat.reduceAdd, Nat.reduceBEq, Nat.reduceMul, Nat.reduceLT, Nat.reduceLeDiff, pkT, pkU, tsC, true_and, List.append_eq, List.cons_append, List.nil_append, eq_self, decide_true, Bool.not_true, Bool.not_false, b_neq, b_eqs]
 refine call_fn rfl (sanity_ok) (by first | exact (fun h => by cases h) | exact fun _ => rfl) ?_
 simp -implicitDefEqProofs only [pkA, ptA, ↓reduceIte, Nat.reduceEqDiff, Nat.reduceAdd, Nat.reduceBEq, Nat.reduceMul, Nat.reduceLT, Nat.reduceLeDiff, pkT, pkU, tsC, true_and, List.append_eq, List.cons_append, List.nil_append, eq_self, decide_true, Bool.not_true, Bool.not_false, b_neq, b_eqs]
 refine call_fn rfl (Size_ok a (by omega)) (by first | exact (fun h => by cases h) | exact fun _ => rfl) ?_
 simp -implicitDefEqProofs only [pkA, ptA, ↓reduceIte, Nat.reduceEqDiff, Nat.reduceAdd, Nat.reduceBEq, Nat.reduceMul, Nat.reduceLT, Nat.reduceLeDiff, pkT, pkU, tsC, true_and, List.append_eq, List.cons_append, List.nil_append, eq_self, decide_true, Bool.not_true, Bool.not_false, b_neq, b_eqs]
 refine call_fn rfl (RSize_ok a (by omega)) (by first | exact (fun h => by cases h) | exact fun _ => rfl) ?_
 simp -implicitDefEqProofs only [pkA, ptA, ↓reduceIte, Nat.reduceEqDiff, Nat.reduceAdd, Nat.reduceBEq, Nat.reduceMul, Nat.reduceLT, Nat.reduceLeDiff, pkT, pkU, tsC, true_and, List.append_eq, List.cons_append, List.nil_append, eq_self, decide_true, Bool.not_true, Bool.not_false, b_neq, b_eqs]
 refine call_fn rfl (Compare_ok a b (by omega) (by omega)) (by first | exact (fun h => by cases h) | exact fun _ => rfl) ?_
 simp -implicitDefEqProofs only [pkA, ptA, ↓reduceIte, Nat.reduceEqDiff, Nat.reduceAdd, Nat.reduceBEq, Nat.reduceMul, Nat.reduceLT, Nat.reduceLeDiff, pkT, pkU, tsC, true_and, List.append_eq, List.cons_append, List.nil_append, eq_self, decide_true, Bool.not_true, Bool.not_false, b_neq, b_eqs]
 refine call_fn rfl (RCompare_ok a b (by omega) (by omega)) (by first | exact (fun h => by cases h) | exact fun _ => rfl) ?_
 simp -implicitDefEqProofs only [pkA, ptA, ↓reduceIte, Nat.reduceEqDiff, Nat.reduceAdd, Nat.reduceBEq, Nat.reduceMul, Nat.reduceLT, Nat.reduceLeDiff, pkT, pkU, tsC, true_and, List.append_eq, List.cons_append, List.nil_append, eq_self, decide_true, Bool.not_true, Bool.not_false, b_neq, b_eqs]
 refine call_fn rfl (IsKey_ok a) (by first | exact (fun h => by cases h) | exact fun _ => rfl) ?_
 simp -implicitDefEqProofs only [pkA, ptA, ↓reduceIte, Nat.reduceEqDiff, Nat.reduceAdd, Nat.reduceBEq, Nat.reduceMul, Nat.reduceLT, Nat.reduceLeDiff, pkT, pkU, tsC, true_and, List.append_eq, List.cons_append, List.nil_append, eq_self, decide_true, Bool.not_true, Bool.not_false, b_neq, b_eqs]
 refine call_fn rfl (hik) (by first | exact (fun h => by cases h) | exact fun _ => rfl) ?_
 simp -implicitDefEqProofs only [pkA, ptA, ↓reduceIte, Nat.reduceEqDiff, Nat.reduceAdd, Nat.reduceBEq, Nat.reduceMul, Nat.reduceLT, Nat.reduceLeDiff, pkT, pkU, tsC, true_and, List.append_eq, List.cons_append, List.nil_append, eq_self, decide_true, Bool.not_true, Bool.not_false, b_neq, b_eqs]
 refine call_fn rfl (Text_ok a hva (by omega)) (by first | exact (fun h => by cases h) | exact fun _ => rfl) ?_
 simp -implicitDefEqProofs only [pkA, ptA, ↓reduceIte, Nat.reduceEqDiff, Nat.reduceAdd, Nat.reduceBEq, Nat.reduceMul, Nat.reduceLT, Nat.reduceLeDiff, pkT, pkU, tsC, true_and, List.append_eq, List.cons_append, List.nil_append, eq_self, decide_true, Bool.not_true, Bool.not_false, b_neq, b_eqs]
 refine call_fn rfl (RText_ok a hva (by omega)) (by first | exact (fun h => by cases h) | exact fun _ => rfl) ?_
 simp -implicitDefEqProofs only [pkA, ptA, ↓reduceIte, Nat.reduceEqDiff, Nat.reduceAdd, Nat.reduceBEq, Nat.reduceMul, Nat.reduceLT, Nat.reduceLeDiff, pkT, pkU, tsC, true_and, List.append_eq, List.cons_append, List.nil_append, eq_self, decide_true, Bool.not_true, Bool.not_false, b_neq, b_eqs]
 refine call_fn rfl (Subterms_ok a hva (by omega)) (by first | exact (fun h => by cases h) | exact fun _ => rfl) ?_
 simp -implicitDefEqProofs only [pkA, ptA, ↓reduceIte, Nat.reduceEqDiff, Nat.reduceAdd, Nat.reduceBEq, Nat.reduceMul, Nat.reduceLT, Nat.reduceLeDiff, pkT, pkU, tsC, true_and, List.append_eq, List.cons_append, List.nil_append, eq_self, decide_true, Bool.not_true, Bool.not_false, b_neq, b_eqs]
 refine call_fn rfl (RSubterms_ok a (by omega)) (by first | exact (fun h => by cases h) | exact fun _ => rfl) ?_
 simp -implicitDefEqProofs only [pkA, ptA, ↓reduceIte, Nat.reduceEqDiff, Nat.reduceAdd, Nat.reduceBEq, Nat.reduceMul, Nat.reduceLT, Nat.reduceLeDiff, pkT, pkU, tsC, true_and, List.append_eq, List.cons_append, List.nil_append, eq_self, decide_true, Bool.not_true, Bool.not_false, b_neq, b_eqs]
 refine call_fn rfl (hsm) (by first | exact (fun h => by cases h) | exact fun _ => rfl) ?_
 simp -implicitDefEqProofs only [pkA, ptA, ↓reduceIte, Nat.reduceEqDiff, Nat.reduceAdd, Nat.reduceBEq, Nat.reduceMul, Nat.reduceLT, Nat.reduceLeDiff, pkT, pkU, tsC, true_and, List.append_eq, List.cons_append, List.nil_append, eq_self, decide_true, Bool.not_true, Bool.not_false, b_neq, b_eqs]
set_option maxHeartbeats 8000000 in
theorem Texts_ok (a b : Tm) (ha : sizeT a ≤ big) (hb : sizeT b ≤ big) : FnOK Tryd.prog glT 4 [.agg (tmC a), .agg (tmC b)] (bo true) := by
 unfold big at ha hb
 have hfew := few_ok (G := glT) [a] b (by simp only [sizeL]; omega)
 refine FnOK_by (rs := [.tmp 4]) false [] mixed Tryd.func4 rfl rfl rfl rfl (by kernel_rfl) (by simp) rfl rfl ?_
 simp -implicitDefEqProofs only [pkA, ptA, ↓reduceIte, Nat.reduceEqDiff, Nat.reduceAdd, Nat.reduceBEq, Nat.reduceMul, Nat.reduceLT, Nat.reduceLeDiff, pkT, pkU, tsC, true_and, List.append_eq, List.cons_append, List.nil_append, eq_self, decide_true, Bool.not_true, Bool.not_false, b_neq, b_eqs]
 refine call_fn rfl (hfew) (by first | exact (fun h => by cases h) | exact fun _ => rfl) ?_
 simp -implicitDefEqProofs only [pkA, ptA, ↓reduceIte, Nat.reduceEqDiff, Nat.reduceAdd, Nat.reduceBEq, Nat.reduceMul, Nat.reduceLT, Nat.reduceLeDiff, pkT, pkU, tsC, true_and, List.append_eq, List.cons_append, List.nil_append, eq_self, decide_true, Bool.not_true, Bool.not_false, b_neq, b_eqs]
 refine vcond_of (fun _ => ?_) (fun hs => ?_)
 ·simp -implicitDefEqProofs only [pkA, ptA, ↓reduceIte, Nat.reduceEqDiff, Nat.reduceAdd, Nat.reduceBEq, Nat.reduceMul, Nat.reduceLT, Nat.reduceLeDiff, pkT, pkU, tsC, true_and, List.append_eq, List.cons_append, List.nil_append, eq_self, decide_true, Bool.not_true, Bool.not_false, b_neq, b_eqs]
  refine call_fn rfl (sanity_ok) (by first | exact (fun h => by cases h) | exact fun _ => rfl) ?_
  simp -implicitDefEqProofs only [pkA, ptA, ↓reduceIte, Nat.reduceEqDiff, Nat.reduceAdd, Nat.reduceBEq, Nat.reduceMul, Nat.reduceLT, Nat.reduceLeDiff, pkT, pkU, tsC, true_and, List.append_eq, List.cons_append, List.nil_append, eq_self, decide_true, Bool.not_true, Bool.not_false, b_neq, b_eqs]
 have hs : smallL ([a] ++ [b]) = true := by simpa using hs
 obtain ⟨hva, hvb, hsz⟩ := small_app hs
 have hva := hva a (by simp)
 simp only [sizeL] at hsz
 have hcb := Compare_ok (G := glT) b a (by omega) (by omega)
 have hneg : cmpT a b = - cmpT b a := cmpT_neg
 have hsg := cmpT_sgn b a
 have hw : IntKind.wrap .i64 (0 - cmpT b a) = cmpT a b := by
  rw [hneg]; rcases hsg with h | h | h <;> rw [h] <;> rfl
 have htx : decide (bs8 (textT a) = bs8 (textT b)) = decide (cmpT a b = 0) := by
  rw [decide_eq_decide, cmpT_zero]
  constructor
  ·intro h
   exact text_inj hva hvb (bs8_inj.1 h)
  ·intro h; rw [h]
 simp -implicitDefEqProofs only [pkA, ptA, ↓reduceIte, Nat.reduceEqDiff, Nat.reduceAdd, Nat.reduceBEq, Nat.reduceMul, Nat.reduceLT, Nat.reduceLeDiff, pkT, pkU, tsC, true_and, List.append_eq, List.cons_append, List.nil_append, eq_self, decide_true, Bool.not_true, Bool.not_false, b_neq, b_eqs]
 refine call_fn rfl (sanity_ok) (by first | exact (fun h => by cases h) | exact fun _ => rfl) ?_
 simp -implicitDefEqProofs only [pkA, ptA, ↓reduceIte, Nat.reduceEqDiff, Nat.reduceAdd, Nat.reduceBEq, Nat.reduceMul, Nat.reduceLT, Nat.reduceLeDiff, pkT, pkU, tsC, true_and, List.append_eq, List.cons_append, List.nil_append, eq_self, decide_true, Bool.not_true, Bool.not_false, b_neq, b_eqs]
 refine call_fn rfl (Text_ok a hva (by omega)) (by first | exact (fun h => by cases h) | exact fun _ => rfl) ?_
 simp -implicitDefEqProofs only [pkA, ptA, ↓reduceIte, Nat.reduceEqDiff, Nat.reduceAdd, Nat.reduceBEq, Nat.reduceMul, Nat.reduceLT, Nat.reduceLeDiff, pkT, pkU, tsC, true_and, List.append_eq, List.cons_append, List.nil_append, eq_self, decide_true, Bool.not_true, Bool.not_false, b_neq, b_eqs]
 refine call_fn rfl (Text_ok b hvb (by omega)) (by first | exact (fun h => by cases h) | exact fun _ => rfl) ?_
 simp -implicitDefEqProofs only [pkA, ptA, ↓reduceIte, Nat.reduceEqDiff, Nat.reduceAdd, Nat.reduceBEq, Nat.reduceMul, Nat.reduceLT, Nat.reduceLeDiff, pkT, pkU, tsC, true_and, List.append_eq, List.cons_append, List.nil_append, eq_self, decide_true, Bool.not_true, Bool.not_false, b_neq, b_eqs]
 refine call_fn rfl (Compare_ok a b (by omega) (by omega)) (by first | exact (fun h => by cases h) | exact fun _ => rfl) ?_
 simp -implicitDefEqProofs only [pkA, ptA, ↓reduceIte, Nat.reduceEqDiff, Nat.reduceAdd, Nat.reduceBEq, Nat.reduceMul, Nat.reduceLT, Nat.reduceLeDiff, pkT, pkU, tsC, true_and, List.append_eq, List.cons_append, List.nil_append, eq_self, decide_true, Bool.not_true, Bool.not_false, b_neq, b_eqs]
 refine b_eq htx ?_
 simp -implicitDefEqProofs only [pkA, ptA, ↓reduceIte, Nat.reduceEqDiff, Nat.reduceAdd, Nat.reduceBEq, Nat.reduceMul, Nat.reduceLT, Nat.reduceLeDiff, pkT, pkU, tsC, true_and, List.append_eq, List.cons_append, List.nil_append, eq_self, decide_true, Bool.not_true, Bool.not_false, b_neq, b_eqs]
 refine call_fn rfl (Compare_ok a b (by omega) (by omega)) (by first | exact (fun h => by cases h) | exact fun _ => rfl) ?_
 simp -implicitDefEqProofs only [pkA, ptA, ↓reduceIte, Nat.reduceEqDiff, Nat.reduceAdd, Nat.reduceBEq, Nat.reduceMul, Nat.reduceLT, Nat.reduceLeDiff, pkT, pkU, tsC, true_and, List.append_eq, List.cons_append, List.nil_append, eq_self, decide_true, Bool.not_true, Bool.not_false, b_neq, b_eqs]
 refine call_fn rfl (hcb) (by first | exact (fun h => by cases h) | exact fun _ => rfl) ?_
 simp -implicitDefEqProofs only [pkA, ptA, ↓reduceIte, Nat.reduceEqDiff, Nat.reduceAdd, Nat.reduceBEq, Nat.reduceMul, Nat.reduceLT, Nat.reduceLeDiff, pkT, pkU, tsC, true_and, List.append_eq, List.cons_append, List.nil_append, eq_self, decide_true, Bool.not_true, Bool.not_false, b_neq, b_eqs, vun_neg, hw]
set_option maxHeartbeats 8000000 in
theorem Closes_ok (l : List Tm) (t : Tm) (hl : sizeL l ≤ big) (ht : sizeT t ≤ big) : FnOK Tryd.prog glT 5 [.c (tsC l), .agg (tmC t)] (bo true) := by
 unfold big at hl ht
 have hfew := few_ok (G := glT) l t (by omega)
 refine FnOK_by (rs := [.tmp 4]) false [] mixed Tryd.func5 rfl rfl rfl rfl (by kernel_rfl) (by simp) rfl rfl ?_
 simp -implicitDefEqProofs only [pkA, ptA, ↓reduceIte, Nat.reduceEqDiff, Nat.reduceAdd, Nat.reduceBEq, Nat.reduceMul, Nat.reduceLT, Nat.reduceLeDiff, pkT, pkU, tsC, true_and, List.append_eq, List.cons_append, List.nil_append, eq_self, decide_true, Bool.not_true, Bool.not_false, b_neq, b_eqs]
 refine call_fn rfl (hfew) (by first | exact (fun h => by cases h) | exact fun _ => rfl) ?_
 simp -implicitDefEqProofs only [pkA, ptA, ↓reduceIte, Nat.reduceEqDiff, Nat.reduceAdd, Nat.reduceBEq, Nat.reduceMul, Nat.reduceLT, Nat.reduceLeDiff, pkT, pkU, tsC, true_and, List.append_eq, List.cons_append, List.nil_append, eq_self, decide_true, Bool.not_true, Bool.not_false, b_neq, b_eqs]
 refine vcond_of (fun _ => ?_) (fun hs => ?_)
 ·simp -implicitDefEqProofs only [pkA, ptA, ↓reduceIte, Nat.reduceEqDiff, Nat.reduceAdd, Nat.reduceBEq, Nat.reduceMul, Nat.reduceLT, Nat.reduceLeDiff, pkT, pkU, tsC, true_and, List.append_eq, List.cons_append, List.nil_append, eq_self, decide_true, Bool.not_true, Bool.not_false, b_neq, b_eqs]
  refine call_fn rfl (sanity_ok) (by first | exact (fun h => by cases h) | exact fun _ => rfl) ?_
  simp -implicitDefEqProofs only [pkA, ptA, ↓reduceIte, Nat.reduceEqDiff, Nat.reduceAdd, Nat.reduceBEq, Nat.reduceMul, Nat.reduceLT, Nat.reduceLeDiff, pkT, pkU, tsC, true_and, List.append_eq, List.cons_append, List.nil_append, eq_self, decide_true, Bool.not_true, Bool.not_false, b_neq, b_eqs]
 have hs : smallL (l ++ [t]) = true := by simpa using hs
 obtain ⟨hvl, hvt, hsz⟩ := small_app hs
 obtain ⟨h1, h2, h3⟩ := clo_sizes hvl (by omega)
 have hsm := RSame_ok (G := glT) (closeF l) (closeF l) (by omega) (by omega)
 rw [decide_eq_true rfl] at hsm
 simp -implicitDefEqProofs only [pkA, ptA, ↓reduceIte, Nat.reduceEqDiff, Nat.reduceAdd, Nat.reduceBEq, Nat.reduceMul, Nat.reduceLT, Nat.reduceLeDiff, pkT, pkU, tsC, true_and, List.append_eq, List.cons_append, List.nil_append, eq_self, decide_true, Bool.not_true, Bool.not_false, b_neq, b_eqs]
 refine call_fn rfl (sanity_ok) (by first | exact (fun h => by cases h) | exact fun _ => rfl) ?_
 simp -implicitDefEqProofs only [pkA, ptA, ↓reduceIte, Nat.reduceEqDiff, Nat.reduceAdd, Nat.reduceBEq, Nat.reduceMul, Nat.reduceLT, Nat.reduceLeDiff, pkT, pkU, tsC, true_and, List.append_eq, List.cons_append, List.nil_append, eq_self, decide_true, Bool.not_true, Bool.not_false, b_neq, b_eqs]
 refine call_fn rfl (Close_ok l hvl (by omega)) (by first | exact (fun h => by cases h) | exact fun _ => rfl) ?_
 simp -implicitDefEqProofs only [pkA, ptA, ↓reduceIte, Nat.reduceEqDiff, Nat.reduceAdd, Nat.reduceBEq, Nat.reduceMul, Nat.reduceLT, Nat.reduceLeDiff, pkT, pkU, tsC, true_and, List.append_eq, List.cons_append, List.nil_append, eq_self, decide_true, Bool.not_true, Bool.not_false, b_neq, b_eqs]
 refine call_fn rfl (RClose_ok l hvl (by omega)) (by first | exact (fun h => by cases h) | exact fun _ => rfl) ?_
 simp -implicitDefEqProofs only [pkA, ptA, ↓reduceIte, Nat.reduceEqDiff, Nat.reduceAdd, Nat.reduceBEq, Nat.reduceMul, Nat.reduceLT, Nat.reduceLeDiff, pkT, pkU, tsC, true_and, List.append_eq, List.cons_append, List.nil_append, eq_self, decide_true, Bool.not_true, Bool.not_false, b_neq, b_eqs]
 refine call_fn rfl (hsm) (by first | exact (fun h => by cases h) | exact fun _ => rfl) ?_
 simp -implicitDefEqProofs only [pkA, ptA, ↓reduceIte, Nat.reduceEqDiff, Nat.reduceAdd, Nat.reduceBEq, Nat.reduceMul, Nat.reduceLT, Nat.reduceLeDiff, pkT, pkU, tsC, true_and, List.append_eq, List.cons_append, List.nil_append, eq_self, decide_true, Bool.not_true, Bool.not_false, b_neq, b_eqs]
 refine call_fn rfl (Knows_ok l t hvl (by omega) hvt (by omega)) (by first | exact (fun h => by cases h) | exact fun _ => rfl) ?_
 simp -implicitDefEqProofs only [pkA, ptA, ↓reduceIte, Nat.reduceEqDiff, Nat.reduceAdd, Nat.reduceBEq, Nat.reduceMul, Nat.reduceLT, Nat.reduceLeDiff, pkT, pkU, tsC, true_and, List.append_eq, List.cons_append, List.nil_append, eq_self, decide_true, Bool.not_true, Bool.not_false, b_neq, b_eqs]
 refine call_fn rfl (RKnows_ok l t hvl (by omega) (by omega)) (by first | exact (fun h => by cases h) | exact fun _ => rfl) ?_
 simp -implicitDefEqProofs only [pkA, ptA, ↓reduceIte, Nat.reduceEqDiff, Nat.reduceAdd, Nat.reduceBEq, Nat.reduceMul, Nat.reduceLT, Nat.reduceLeDiff, pkT, pkU, tsC, true_and, List.append_eq, List.cons_append, List.nil_append, eq_self, decide_true, Bool.not_true, Bool.not_false, b_neq, b_eqs]
set_option maxHeartbeats 8000000 in
theorem Cut_ok (l : List Tm) (t u : Tm) (hl : sizeL l ≤ big) (ht : sizeT t ≤ big) (hu : sizeT u ≤ big) : FnOK Tryd.prog glT 7 [.c (tsC l), .agg (tmC t), .agg (tmC u)] (bo true) := by
 unfold big at hl ht hu
 have hll := sizeL_len l
 have htp := sizeT_pos t
 have hsz : sizeL (l ++ [t]) = sizeL l + sizeT t := by rw [sizeL_append]; simp [sizeL]
 have hfew := few_ok (G := glT) (l ++ [t]) u (by omega)
 refine FnOK_by (rs := [.tmp 6]) false [10, 13] mixed Tryd.func7 rfl rfl rfl rfl (by kernel_rfl) (by simp) rfl rfl ?_
 simp -implicitDefEqProofs only [pkA, ptA, ↓reduceIte, Nat.reduceEqDiff, Nat.reduceAdd, Nat.reduceBEq, Nat.reduceMul, Nat.reduceLT, Nat.reduceLeDiff, pkT, pkU, tsC, true_and, List.append_eq, List.cons_append, List.nil_append, eq_self, decide_true, Bool.not_true, Bool.not_false, b_neq, b_eqs, isGh_some, owT_ow, owT_fz]
 refine appT (l := []) (m := l) (by simp; omega) ?_
 simp -implicitDefEqProofs only [pkA, ptA, ↓reduceIte, Nat.reduceEqDiff, Nat.reduceAdd, Nat.reduceBEq, Nat.reduceMul, Nat.reduceLT, Nat.reduceLeDiff, pkT, pkU, tsC, true_and, List.append_eq, List.cons_append, List.nil_append, eq_self, decide_true, Bool.not_true, Bool.not_false, b_neq, b_eqs, isGh_some, owT_ow, owT_fz]
 refine appT1 (by omega) ?_
 simp -implicitDefEqProofs only [pkA, ptA, ↓reduceIte, Nat.reduceEqDiff, Nat.reduceAdd, Nat.reduceBEq, Nat.reduceMul, Nat.reduceLT, Nat.reduceLeDiff, pkT, pkU, tsC, true_and, List.append_eq, List.cons_append, List.nil_append, eq_self, decide_true, Bool.not_true, Bool.not_false, b_neq, b_eqs, isGh_some, owT_ow, owT_fz]
 refine call_fn rfl (hfew) (by first | exact (fun h => by cases h) | exact fun _ => rfl) ?_
 simp -implicitDefEqProofs only [pkA, ptA, ↓reduceIte, Nat.reduceEqDiff, Nat.reduceAdd, Nat.reduceBEq, Nat.reduceMul, Nat.reduceLT, Nat.reduceLeDiff, pkT, pkU, tsC, true_and, List.append_eq, List.cons_append, List.nil_append, eq_self, decide_true, Bool.not_true, Bool.not_false, b_neq, b_eqs, owT_ow, owT_fz]
 refine vcond_of (fun _ => ?_) (fun hs => ?_)
 ·simp -implicitDefEqProofs only [pkA, ptA, ↓reduceIte, Nat.reduceEqDiff, Nat.reduceAdd, Nat.reduceBEq, Nat.reduceMul, Nat.reduceLT, Nat.reduceLeDiff, pkT, pkU, tsC, true_and, List.append_eq, List.cons_append, List.nil_append, eq_self, decide_true, Bool.not_true, Bool.not_false, b_neq, b_eqs]
  refine call_fn rfl (sanity_ok) (by first | exact (fun h => by cases h) | exact fun _ => rfl) ?_
  simp -implicitDefEqProofs only [pkA, ptA, ↓reduceIte, Nat.reduceEqDiff, Nat.reduceAdd, Nat.reduceBEq, Nat.reduceMul, Nat.reduceLT, Nat.reduceLeDiff, pkT, pkU, tsC, true_and, List.append_eq, List.cons_append, List.nil_append, eq_self, decide_true, Bool.not_true, Bool.not_false, b_neq, b_eqs]
 have hs : smallL ((l ++ [t]) ++ [u]) = true := by simpa using hs
 obtain ⟨hvl, hvu, hsz2⟩ := small_app hs
 have hvt := hvl t (by simp)
 have hvl1 : ∀ x ∈ l, validT x = true := fun x hx => hvl x (List.mem_append_left _ hx)
 simp -implicitDefEqProofs only [pkA, ptA, ↓reduceIte, Nat.reduceEqDiff, Nat.reduceAdd, Nat.reduceBEq, Nat.reduceMul, Nat.reduceLT, Nat.reduceLeDiff, pkT, pkU, tsC, true_and, List.append_eq, List.cons_append, List.nil_append, eq_self, decide_true, Bool.not_true, Bool.not_false, b_neq, b_eqs, owT_ow, owT_fz]
 refine call_fn rfl (KnowsN_ok l t hvl1 (by omega) hvt (by omega)) (by first | exact (fun h => by cases h) | exact fun _ => rfl) ?_
 simp -implicitDefEqProofs only [pkA, ptA, ↓reduceIte, Nat.reduceEqDiff, Nat.reduceAdd, Nat.reduceBEq, Nat.reduceMul, Nat.reduceLT, Nat.reduceLeDiff, pkT, pkU, tsC, true_and, List.append_eq, List.cons_append, List.nil_append, eq_self, decide_true, Bool.not_true, Bool.not_false, b_neq, b_eqs, owT_ow, owT_fz]
 refine vcond_of (fun _ => ?_) (fun hk => ?_)
 ·simp -implicitDefEqProofs only [pkA, ptA, ↓reduceIte, Nat.reduceEqDiff, Nat.reduceAdd, Nat.reduceBEq, Nat.reduceMul, Nat.reduceLT, Nat.reduceLeDiff, pkT, pkU, tsC, true_and, List.append_eq, List.cons_append, List.nil_append, eq_self, decide_true, Bool.not_true, Bool.not_false, b_neq, b_eqs]
  refine call_fn rfl (sanity_ok) (by first | exact (fun h => by cases h) | exact fun _ => rfl) ?_
  simp -implicitDefEqProofs only [pkA, ptA, ↓reduceIte, Nat.reduceEqDiff, Nat.reduceAdd, Nat.reduceBEq, Nat.reduceMul, Nat.reduceLT, Nat.reduceLeDiff, pkT, pkU, tsC, true_and, List.append_eq, List.cons_append, List.nil_append, eq_self, decide_true, Bool.not_true, Bool.not_false, b_neq, b_eqs]
 have hk : knT l t = true := by simpa using hk
 simp -implicitDefEqProofs only [pkA, ptA, ↓reduceIte, Nat.reduceEqDiff, Nat.reduceAdd, Nat.reduceBEq, Nat.reduceMul, Nat.reduceLT, Nat.reduceLeDiff, pkT, pkU, tsC, true_and, List.append_eq, List.cons_append, List.nil_append, eq_self, decide_true, Bool.not_true, Bool.not_false, b_neq, b_eqs, owT_ow, owT_fz]
 refine call_fn rfl (sanity_ok) (by first | exact (fun h => by cases h) | exact fun _ => rfl) ?_
 simp -implicitDefEqProofs only [pkA, ptA, ↓reduceIte, Nat.reduceEqDiff, Nat.reduceAdd, Nat.reduceBEq, Nat.reduceMul, Nat.reduceLT, Nat.reduceLeDiff, pkT, pkU, tsC, true_and, List.append_eq, List.cons_append, List.nil_append, eq_self, decide_true, Bool.not_true, Bool.not_false, b_neq, b_eqs, owT_ow, owT_fz]
 refine call_fn rfl (KnowsN_ok (l ++ [t]) u hvl (by omega) hvu (by omega)) (by first | exact (fun h => by cases h) | exact fun _ => rfl) ?_
 simp -implicitDefEqProofs only [pkA, ptA, ↓reduceIte, Nat.reduceEqDiff, Nat.reduceAdd, Nat.reduceBEq, Nat.reduceMul, Nat.reduceLT, Nat.reduceLeDiff, pkT, pkU, tsC, true_and, List.append_eq, List.cons_append, List.nil_append, eq_self, decide_true, Bool.not_true, Bool.not_false, b_neq, b_eqs, owT_ow, owT_fz]
 refine call_fn rfl (KnowsN_ok l u hvl1 (by omega) hvu (by omega)) (by first | exact (fun h => by cases h) | exact fun _ => rfl) ?_
 simp -implicitDefEqProofs only [pkA, ptA, ↓reduceIte, Nat.reduceEqDiff, Nat.reduceAdd, Nat.reduceBEq, Nat.reduceMul, Nat.reduceLT, Nat.reduceLeDiff, pkT, pkU, tsC, true_and, List.append_eq, List.cons_append, List.nil_append, eq_self, decide_true, Bool.not_true, Bool.not_false, b_neq, b_eqs, owT_ow, owT_fz]
 refine b_eq (knT_cut hvl1 hvt hk) ?_
 simp -implicitDefEqProofs only [pkA, ptA, ↓reduceIte, Nat.reduceEqDiff, Nat.reduceAdd, Nat.reduceBEq, Nat.reduceMul, Nat.reduceLT, Nat.reduceLeDiff, pkT, pkU, tsC, true_and, List.append_eq, List.cons_append, List.nil_append, eq_self, decide_true, Bool.not_true, Bool.not_false, b_neq, b_eqs]
