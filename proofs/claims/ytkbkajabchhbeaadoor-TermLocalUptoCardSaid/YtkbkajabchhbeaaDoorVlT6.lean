/- Layer 15: the specification's Text, by loops. -/
import Derived.Test.YtkbkajabchhbeaaDoorVlT5
set_option linter.unusedSimpArgs false
set_option linter.unusedVariables false
namespace Go.Proofs.YtkbkajabchhbeaaDoor
open Go Go.Vl
variable {G : Gl}
set_option maxRecDepth 4000
theorem joinB_snoc : ∀ (l : List By) (y : By), joinB (l ++ [y]) = if l = [] then y else joinB l ++ 44 :: y
 | [], y => by simp [joinB]
 | [a], y => by simp [joinB]
 | a :: b :: l, y => by
  have := joinB_snoc (b :: l) y
  simp only [List.cons_append, joinB] at *
  rw [this]; simp
theorem joinB_pre (l : List Tm) (i : Nat) : (joinB (textL (l.take i))).length ≤ 31 * sizeL l := by
 have h1 := joinB_len (textL (l.take i))
 have h2 := textL_len (l := l.take i) fun t _ => textT_len t
 have h3 := sizeL_le l i
 omega
theorem textL_take {l : List Tm} {i : Nat} (h : i < l.length) : joinB (textL (l.take (i + 1))) = if i = 0 then textT l[i] else joinB (textL (l.take i)) ++ 44 :: textT l[i] := by
 rw [List.take_succ_eq_append_getElem h]
 have e : textL (l.take i ++ [l[i]]) = textL (l.take i) ++ [textT l[i]] := by rw [textL_eq, textL_eq, List.map_append]; rfl
 rw [e, joinB_snoc]
 have hiff : textL (l.take i) = [] ↔ i = 0 := by
  rw [textL_eq, List.map_eq_nil_iff, List.take_eq_nil_iff]
  constructor
  ·rintro (h1 | h1)
   ·exact h1
   ·subst h1; simp at h
  ·exact .inl
 by_cases h0 : i = 0
 ·rw [if_pos h0, if_pos (hiff.2 h0)]
 ·rw [if_neg h0, if_neg (fun h => h0 (hiff.1 h))]
set_option maxHeartbeats 8000000 in
theorem RText_ok : ∀ t : Tm, validT t = true → sizeT t ≤ 1000000000 → FnOK Tryd.prog G 21 [.agg (tmC t)] (sv (textT t)) := by
 refine Tm.ind fun k n l ih hv hs => ?_
 have hsz : sizeL l + 1 ≤ 1000000000 := by simp only [sizeT] at hs; omega
 have hll := sizeL_len l
 obtain ⟨hk, ⟨hn0, hn1, hnc⟩, hlen, hvl⟩ := valid_parts hv
 obtain ⟨N, rfl⟩ : ∃ N : Nat, n = (N : Int) := ⟨n.toNat, by omega⟩
 have hdl := dec_len N
 have hd := digits_ok (G := G) N (by omega)
 have hcat : ∀ (a b : B) K, a.length ≤ 40000000000 → b.length ≤ 40000000000 → K (sv (a ++ b)) → vstr .add (bs8 a) (bs8 b) K := fun a b K h1 h2 hK => s_add (by omega) hK
 have hT : textT (.mk k N l) = headK k N ++ (if decide (arityI k = 0) = true then [] else 40 :: (joinB (textL l) ++ [41])) := rfl
 have hHl := headK_len k N
 have hH : headK k N = nameK k ++ (if countK k = true then dec N else []) := rfl
 obtain ⟨t0, ht0⟩ : ∃ t0, t0 = Tm.mk k N l := ⟨_, rfl⟩
 have e0 : t0.kind = k := by rw [ht0]; rfl
 have e1 : t0.n = N := by rw [ht0]; rfl
 have e2 : t0.l = l := by rw [ht0]; rfl
 rw [← ht0] at hT ⊢
 clear ht0
 refine FnOK_by (rs := [.tmp 2]) false [] mixed Tryd.func21 rfl rfl rfl rfl (by kernel_rfl) (by simp) rfl rfl ?_
 rcases hk with hk | hk | hk | hk | hk | hk
 all_goals simp -implicitDefEqProofs only [pkA, ptA, ↓reduceIte, Nat.reduceEqDiff, Nat.reduceAdd, Nat.reduceBEq, Nat.reduceMul, Nat.reduceLT, Nat.reduceLeDiff, pkT, true_and, tsC, e0, e1, e2, hk, Int.reduceEq, decide_false, decide_true]
 ·refine call_fn rfl hd (fun h => by cases h) ?_
  simp -implicitDefEqProofs only [pkA, ptA, ↓reduceIte, Nat.reduceEqDiff, Nat.reduceAdd, Nat.reduceBEq, Nat.reduceMul, Nat.reduceLT, Nat.reduceLeDiff, pkT, true_and, tsC]
  refine hcat [100] (dec N) _ (by simp) (by omega) ?_
  simp -implicitDefEqProofs only [pkA, ptA, ↓reduceIte, Nat.reduceEqDiff, Nat.reduceAdd, Nat.reduceBEq, Nat.reduceMul, Nat.reduceLT, Nat.reduceLeDiff, pkT, true_and, tsC]
  rw [hT, hH]
  simp [hk, nameK, countK, arityI]
 ·refine call_fn rfl hd (fun h => by cases h) ?_
  simp -implicitDefEqProofs only [pkA, ptA, ↓reduceIte, Nat.reduceEqDiff, Nat.reduceAdd, Nat.reduceBEq, Nat.reduceMul, Nat.reduceLT, Nat.reduceLeDiff, pkT, true_and, tsC]
  refine hcat [107] (dec N) _ (by simp) (by omega) ?_
  simp -implicitDefEqProofs only [pkA, ptA, ↓reduceIte, Nat.reduceEqDiff, Nat.reduceAdd, Nat.reduceBEq, Nat.reduceMul, Nat.reduceLT, Nat.reduceLeDiff, pkT, true_and, tsC]
  rw [hT, hH]
  simp [hk, nameK, countK, arityI]
 ·have hQ : headK k N = [115, 101, 97, 108] := by rw [hH]; simp [hk, nameK, countK]
  refine hcat [115, 101, 97, 108] [40] _ (by simp) (by simp) ?_
  simp -implicitDefEqProofs only [pkA, ptA, ↓reduceIte, Nat.reduceEqDiff, Nat.reduceAdd, Nat.reduceBEq, Nat.reduceMul, Nat.reduceLT, Nat.reduceLeDiff, pkT, true_and, tsC]
  have hT : textT t0 = headK k N ++ 40 :: (joinB (textL l) ++ [41]) := by rw [hT]; simp [hk, arityI]
  clear hk hH
  refine run_loop (fun i : Nat => hdS [(1, .bp 0 0), (3, sv (headK k N ++ 40 :: joinB (textL (l.take i)))), (4, i64 i)] [(tmC t0).map .c]) (fun i => l.length - i) (fun i => i ≤ l.length) 0 (Nat.zero_le _) ?_ ?_
  ·exact le_hd (by simp only [leOk, List.all_cons, List.all_nil, tmC_ltB]; rfl) (Nat.zero_le _) (Nat.le_refl _) (by simp [FL, up_apply, hQ, textL, joinB]) ⟨by simp [up_apply], trivial⟩
  rintro i hi R hnorm hexit hret
  have hjl := joinB_pre l i
  simp -implicitDefEqProofs only [pkA, ptA, ↓reduceIte, Nat.reduceEqDiff, Nat.reduceAdd, Nat.reduceBEq, Nat.reduceMul, Nat.reduceLT, Nat.reduceLeDiff, pkT, true_and, tsC, e2]
  refine vcond_of (fun hlt => ?_) (fun hge => ?_)
  ·have hlt : i < l.length := by simpa using hlt
   have hw2 := wrap_of (n := (i : Int) + 1) (k := i + 1) (by omega) (by omega)
   have htl := textT_len l[i]
   have hm := sizeL_mem (List.getElem_mem hlt)
   have hx := textL_take hlt
   have hfin : ∀ S0 : B, S0 = (if i = 0 then headK k N ++ 40 :: joinB (textL (l.take i)) else (headK k N ++ 40 :: joinB (textL (l.take i))) ++ [44]) → S0 ++ textT l[i] = headK k N ++ 40 :: joinB (textL (l.take (i + 1))) := by
    rintro S0 rfl
    rw [hx]
    by_cases h0 : i = 0
    ·subst h0; simp [textL, joinB]
    ·rw [if_neg h0, if_neg h0]; simp
   simp -implicitDefEqProofs only [pkA, ptA, ↓reduceIte, Nat.reduceEqDiff, Nat.reduceAdd, Nat.reduceBEq, Nat.reduceMul, Nat.reduceLT, Nat.reduceLeDiff, pkT, true_and, tsC, e2]
   refine vcond_of (fun hpos => ?_) (fun hzero => ?_)
   ·have hpos : ¬ i = 0 := by simp at hpos; omega
    simp -implicitDefEqProofs only [pkA, ptA, ↓reduceIte, Nat.reduceEqDiff, Nat.reduceAdd, Nat.reduceBEq, Nat.reduceMul, Nat.reduceLT, Nat.reduceLeDiff, pkT, true_and, tsC, e2]
    refine hcat (headK k N ++ 40 :: joinB (textL (l.take i))) [44] _ (by simp; omega) (by simp) ?_
    simp -implicitDefEqProofs only [pkA, ptA, ↓reduceIte, Nat.reduceEqDiff, Nat.reduceAdd, Nat.reduceBEq, Nat.reduceMul, Nat.reduceLT, Nat.reduceLeDiff, pkT, true_and, tsC, e2]
    refine ia_of ti_22 rfl ti_24 (by decide) (Int.natCast_nonneg i) (c := tmC l[i]) (by simp [hlt]) (tmC_len _) ?_
    simp -implicitDefEqProofs only [pkA, ptA, ↓reduceIte, Nat.reduceEqDiff, Nat.reduceAdd, Nat.reduceBEq, Nat.reduceMul, Nat.reduceLT, Nat.reduceLeDiff, pkT, true_and, tsC, e2, ld_24 (tmC_len _)]
    refine call_fn rfl (ih l[i] (List.getElem_mem hlt) (hvl _ (List.getElem_mem hlt)) (by omega)) (fun h => by cases h) ?_
    simp -implicitDefEqProofs only [pkA, ptA, ↓reduceIte, Nat.reduceEqDiff, Nat.reduceAdd, Nat.reduceBEq, Nat.reduceMul, Nat.reduceLT, Nat.reduceLeDiff, pkT, true_and, tsC, e2]
    refine hcat ((headK k N ++ 40 :: joinB (textL (l.take i))) ++ [44]) (textT l[i]) _ (by simp; omega) (by omega) ?_
    simp -implicitDefEqProofs only [pkA, ptA, ↓reduceIte, Nat.reduceEqDiff, Nat.reduceAdd, Nat.reduceBEq, Nat.reduceMul, Nat.reduceLT, Nat.reduceLeDiff, pkT, true_and, tsC, e2]
    refine hnorm (i + 1) _ hlt (by omega) (le_hd (by simp only [leOk, List.all_cons, List.all_nil, tmC_ltB]; rfl) (Nat.zero_le _) (Nat.le_refl _) ?_ ⟨by simp [bxs], trivial⟩)
    have := hfin _ (by rw [if_neg hpos])
    simp only [FL, up_apply, Nat.reduceEqDiff, ↓reduceIte, hw2, this, and_self]
   ·have hzero : i = 0 := by simp at hzero; omega
    simp -implicitDefEqProofs only [pkA, ptA, ↓reduceIte, Nat.reduceEqDiff, Nat.reduceAdd, Nat.reduceBEq, Nat.reduceMul, Nat.reduceLT, Nat.reduceLeDiff, pkT, true_and, tsC, e2]
    refine ia_of ti_22 rfl ti_24 (by decide) (Int.natCast_nonneg i) (c := tmC l[i]) (by simp [hlt]) (tmC_len _) ?_
    simp -implicitDefEqProofs only [pkA, ptA, ↓reduceIte, Nat.reduceEqDiff, Nat.reduceAdd, Nat.reduceBEq, Nat.reduceMul, Nat.reduceLT, Nat.reduceLeDiff, pkT, true_and, tsC, e2, ld_24 (tmC_len _)]
    refine call_fn rfl (ih l[i] (List.getElem_mem hlt) (hvl _ (List.getElem_mem hlt)) (by omega)) (fun h => by cases h) ?_
    simp -implicitDefEqProofs only [pkA, ptA, ↓reduceIte, Nat.reduceEqDiff, Nat.reduceAdd, Nat.reduceBEq, Nat.reduceMul, Nat.reduceLT, Nat.reduceLeDiff, pkT, true_and, tsC, e2]
    refine hcat (headK k N ++ 40 :: joinB (textL (l.take i))) (textT l[i]) _ (by simp; omega) (by omega) ?_
    simp -implicitDefEqProofs only [pkA, ptA, ↓reduceIte, Nat.reduceEqDiff, Nat.reduceAdd, Nat.reduceBEq, Nat.reduceMul, Nat.reduceLT, Nat.reduceLeDiff, pkT, true_and, tsC, e2]
    refine hnorm (i + 1) _ hlt (by omega) (le_hd (by simp only [leOk, List.all_cons, List.all_nil, tmC_ltB]; rfl) (Nat.zero_le _) (Nat.le_refl _) ?_ ⟨by simp [bxs], trivial⟩)
    have := hfin _ (by rw [if_pos hzero])
    simp only [FL, up_apply, Nat.reduceEqDiff, ↓reduceIte, hw2, this, and_self]
  ·have : i = l.length := by simp at hge; omega
   subst this
   simp -implicitDefEqProofs only [pkA, ptA, ↓reduceIte, Nat.reduceEqDiff, Nat.reduceAdd, Nat.reduceBEq, Nat.reduceMul, Nat.reduceLT, Nat.reduceLeDiff, pkT, true_and, tsC, e2]
   refine hexit _ _ ?_
   simp -implicitDefEqProofs only [pkA, ptA, ↓reduceIte, Nat.reduceEqDiff, Nat.reduceAdd, Nat.reduceBEq, Nat.reduceMul, Nat.reduceLT, Nat.reduceLeDiff, pkT, true_and, tsC, e2]
   refine hcat (headK k N ++ 40 :: joinB (textL (l.take l.length))) [41] _ (by rw [List.take_length] at hjl ⊢; simp; omega) (by simp) ?_
   simp -implicitDefEqProofs only [pkA, ptA, ↓reduceIte, Nat.reduceEqDiff, Nat.reduceAdd, Nat.reduceBEq, Nat.reduceMul, Nat.reduceLT, Nat.reduceLeDiff, pkT, true_and, tsC, e2]
   rw [hT, List.take_length]; simp
 ·have hQ : headK k N = [98, 111, 120] ++ dec N := by rw [hH]; simp [hk, nameK, countK]
  refine call_fn rfl hd (fun h => by cases h) ?_
  simp -implicitDefEqProofs only [pkA, ptA, ↓reduceIte, Nat.reduceEqDiff, Nat.reduceAdd, Nat.reduceBEq, Nat.reduceMul, Nat.reduceLT, Nat.reduceLeDiff, pkT, true_and, tsC]
  refine hcat [98, 111, 120] (dec N) _ (by simp) (by omega) ?_
  simp -implicitDefEqProofs only [pkA, ptA, ↓reduceIte, Nat.reduceEqDiff, Nat.reduceAdd, Nat.reduceBEq, Nat.reduceMul, Nat.reduceLT, Nat.reduceLeDiff, pkT, true_and, tsC, hk, Int.reduceEq, decide_false, decide_true]
  refine hcat ([98, 111, 120] ++ dec N) [40] _ (by simp; omega) (by simp) ?_
  simp -implicitDefEqProofs only [pkA, ptA, ↓reduceIte, Nat.reduceEqDiff, Nat.reduceAdd, Nat.reduceBEq, Nat.reduceMul, Nat.reduceLT, Nat.reduceLeDiff, pkT, true_and, tsC]
  have hT : textT t0 = headK k N ++ 40 :: (joinB (textL l) ++ [41]) := by rw [hT]; simp [hk, arityI]
  clear hk hH
  refine run_loop (fun i : Nat => hdS [(1, .bp 0 0), (3, sv (headK k N ++ 40 :: joinB (textL (l.take i)))), (4, i64 i)] [(tmC t0).map .c]) (fun i => l.length - i) (fun i => i ≤ l.length) 0 (Nat.zero_le _) ?_ ?_
  ·exact le_hd (by simp only [leOk, List.all_cons, List.all_nil, tmC_ltB]; rfl) (Nat.zero_le _) (Nat.le_refl _) (by simp [FL, up_apply, hQ, textL, joinB]) ⟨by simp [up_apply], trivial⟩
  rintro i hi R hnorm hexit hret
  have hjl := joinB_pre l i
  simp -implicitDefEqProofs only [pkA, ptA, ↓reduceIte, Nat.reduceEqDiff, Nat.reduceAdd, Nat.reduceBEq, Nat.reduceMul, Nat.reduceLT, Nat.reduceLeDiff, pkT, true_and, tsC, e2]
  refine vcond_of (fun hlt => ?_) (fun hge => ?_)
  ·have hlt : i < l.length := by simpa using hlt
   have hw2 := wrap_of (n := (i : Int) + 1) (k := i + 1) (by omega) (by omega)
   have htl := textT_len l[i]
   have hm := sizeL_mem (List.getElem_mem hlt)
   have hx := textL_take hlt
   have hfin : ∀ S0 : B, S0 = (if i = 0 then headK k N ++ 40 :: joinB (textL (l.take i)) else (headK k N ++ 40 :: joinB (textL (l.take i))) ++ [44]) → S0 ++ textT l[i] = headK k N ++ 40 :: joinB (textL (l.take (i + 1))) := by
    rintro S0 rfl
    rw [hx]
    by_cases h0 : i = 0
    ·subst h0; simp [textL, joinB]
    ·rw [if_neg h0, if_neg h0]; simp
   simp -implicitDefEqProofs only [pkA, ptA, ↓reduceIte, Nat.reduceEqDiff, Nat.reduceAdd, Nat.reduceBEq, Nat.reduceMul, Nat.reduceLT, Nat.reduceLeDiff, pkT, true_and, tsC, e2]
   refine vcond_of (fun hpos => ?_) (fun hzero => ?_)
   ·have hpos : ¬ i = 0 := by simp at hpos; omega
    simp -implicitDefEqProofs only [pkA, ptA, ↓reduceIte, Nat.reduceEqDiff, Nat.reduceAdd, Nat.reduceBEq, Nat.reduceMul, Nat.reduceLT, Nat.reduceLeDiff, pkT, true_and, tsC, e2]
    refine hcat (headK k N ++ 40 :: joinB (textL (l.take i))) [44] _ (by simp; omega) (by simp) ?_
    simp -implicitDefEqProofs only [pkA, ptA, ↓reduceIte, Nat.reduceEqDiff, Nat.reduceAdd, Nat.reduceBEq, Nat.reduceMul, Nat.reduceLT, Nat.reduceLeDiff, pkT, true_and, tsC, e2]
    refine ia_of ti_22 rfl ti_24 (by decide) (Int.natCast_nonneg i) (c := tmC l[i]) (by simp [hlt]) (tmC_len _) ?_
    simp -implicitDefEqProofs only [pkA, ptA, ↓reduceIte, Nat.reduceEqDiff, Nat.reduceAdd, Nat.reduceBEq, Nat.reduceMul, Nat.reduceLT, Nat.reduceLeDiff, pkT, true_and, tsC, e2, ld_24 (tmC_len _)]
    refine call_fn rfl (ih l[i] (List.getElem_mem hlt) (hvl _ (List.getElem_mem hlt)) (by omega)) (fun h => by cases h) ?_
    simp -implicitDefEqProofs only [pkA, ptA, ↓reduceIte, Nat.reduceEqDiff, Nat.reduceAdd, Nat.reduceBEq, Nat.reduceMul, Nat.reduceLT, Nat.reduceLeDiff, pkT, true_and, tsC, e2]
    refine hcat ((headK k N ++ 40 :: joinB (textL (l.take i))) ++ [44]) (textT l[i]) _ (by simp; omega) (by omega) ?_
    simp -implicitDefEqProofs only [pkA, ptA, ↓reduceIte, Nat.reduceEqDiff, Nat.reduceAdd, Nat.reduceBEq, Nat.reduceMul, Nat.reduceLT, Nat.reduceLeDiff, pkT, true_and, tsC, e2]
    refine hnorm (i + 1) _ hlt (by omega) (le_hd (by simp only [leOk, List.all_cons, List.all_nil, tmC_ltB]; rfl) (Nat.zero_le _) (Nat.le_refl _) ?_ ⟨by simp [bxs], trivial⟩)
    have := hfin _ (by rw [if_neg hpos])
    simp only [FL, up_apply, Nat.reduceEqDiff, ↓reduceIte, hw2, this, and_self]
   ·have hzero : i = 0 := by simp at hzero; omega
    simp -implicitDefEqProofs only [pkA, ptA, ↓reduceIte, Nat.reduceEqDiff, Nat.reduceAdd, Nat.reduceBEq, Nat.reduceMul, Nat.reduceLT, Nat.reduceLeDiff, pkT, true_and, tsC, e2]
    refine ia_of ti_22 rfl ti_24 (by decide) (Int.natCast_nonneg i) (c := tmC l[i]) (by simp [hlt]) (tmC_len _) ?_
    simp -implicitDefEqProofs only [pkA, ptA, ↓reduceIte, Nat.reduceEqDiff, Nat.reduceAdd, Nat.reduceBEq, Nat.reduceMul, Nat.reduceLT, Nat.reduceLeDiff, pkT, true_and, tsC, e2, ld_24 (tmC_len _)]
    refine call_fn rfl (ih l[i] (List.getElem_mem hlt) (hvl _ (List.getElem_mem hlt)) (by omega)) (fun h => by cases h) ?_
    simp -implicitDefEqProofs only [pkA, ptA, ↓reduceIte, Nat.reduceEqDiff, Nat.reduceAdd, Nat.reduceBEq, Nat.reduceMul, Nat.reduceLT, Nat.reduceLeDiff, pkT, true_and, tsC, e2]
    refine hcat (headK k N ++ 40 :: joinB (textL (l.take i))) (textT l[i]) _ (by simp; omega) (by omega) ?_
    simp -implicitDefEqProofs only [pkA, ptA, ↓reduceIte, Nat.reduceEqDiff, Nat.reduceAdd, Nat.reduceBEq, Nat.reduceMul, Nat.reduceLT, Nat.reduceLeDiff, pkT, true_and, tsC, e2]
    refine hnorm (i + 1) _ hlt (by omega) (le_hd (by simp only [leOk, List.all_cons, List.all_nil, tmC_ltB]; rfl) (Nat.zero_le _) (Nat.le_refl _) ?_ ⟨by simp [bxs], trivial⟩)
    have := hfin _ (by rw [if_pos hzero])
    simp only [FL, up_apply, Nat.reduceEqDiff, ↓reduceIte, hw2, this, and_self]
  ·have : i = l.length := by simp at hge; omega
   subst this
   simp -implicitDefEqProofs only [pkA, ptA, ↓reduceIte, Nat.reduceEqDiff, Nat.reduceAdd, Nat.reduceBEq, Nat.reduceMul, Nat.reduceLT, Nat.reduceLeDiff, pkT, true_and, tsC, e2]
   refine hexit _ _ ?_
   simp -implicitDefEqProofs only [pkA, ptA, ↓reduceIte, Nat.reduceEqDiff, Nat.reduceAdd, Nat.reduceBEq, Nat.reduceMul, Nat.reduceLT, Nat.reduceLeDiff, pkT, true_and, tsC, e2]
   refine hcat (headK k N ++ 40 :: joinB (textL (l.take l.length))) [41] _ (by rw [List.take_length] at hjl ⊢; simp; omega) (by simp) ?_
   simp -implicitDefEqProofs only [pkA, ptA, ↓reduceIte, Nat.reduceEqDiff, Nat.reduceAdd, Nat.reduceBEq, Nat.reduceMul, Nat.reduceLT, Nat.reduceLeDiff, pkT, true_and, tsC, e2]
   rw [hT, List.take_length]; simp
 ·have hQ : headK k N = [107, 100, 102] ++ dec N := by rw [hH]; simp [hk, nameK, countK]
  refine call_fn rfl hd (fun h => by cases h) ?_
  simp -implicitDefEqProofs only [pkA, ptA, ↓reduceIte, Nat.reduceEqDiff, Nat.reduceAdd, Nat.reduceBEq, Nat.reduceMul, Nat.reduceLT, Nat.reduceLeDiff, pkT, true_and, tsC]
  refine hcat [107, 100, 102] (dec N) _ (by simp) (by omega) ?_
  simp -implicitDefEqProofs only [pkA, ptA, ↓reduceIte, Nat.reduceEqDiff, Nat.reduceAdd, Nat.reduceBEq, Nat.reduceMul, Nat.reduceLT, Nat.reduceLeDiff, pkT, true_and, tsC, hk, Int.reduceEq, decide_false, decide_true]
  refine hcat ([107, 100, 102] ++ dec N) [40] _ (by simp; omega) (by simp) ?_
  simp -implicitDefEqProofs only [pkA, ptA, ↓reduceIte, Nat.reduceEqDiff, Nat.reduceAdd, Nat.reduceBEq, Nat.reduceMul, Nat.reduceLT, Nat.reduceLeDiff, pkT, true_and, tsC]
  have hT : textT t0 = headK k N ++ 40 :: (joinB (textL l) ++ [41]) := by rw [hT]; simp [hk, arityI]
  clear hk hH
  refine run_loop (fun i : Nat => hdS [(1, .bp 0 0), (3, sv (headK k N ++ 40 :: joinB (textL (l.take i)))), (4, i64 i)] [(tmC t0).map .c]) (fun i => l.length - i) (fun i => i ≤ l.length) 0 (Nat.zero_le _) ?_ ?_
  ·exact le_hd (by simp only [leOk, List.all_cons, List.all_nil, tmC_ltB]; rfl) (Nat.zero_le _) (Nat.le_refl _) (by simp [FL, up_apply, hQ, textL, joinB]) ⟨by simp [up_apply], trivial⟩
  rintro i hi R hnorm hexit hret
  have hjl := joinB_pre l i
  simp -implicitDefEqProofs only [pkA, ptA, ↓reduceIte, Nat.reduceEqDiff, Nat.reduceAdd, Nat.reduceBEq, Nat.reduceMul, Nat.reduceLT, Nat.reduceLeDiff, pkT, true_and, tsC, e2]
  refine vcond_of (fun hlt => ?_) (fun hge => ?_)
  ·have hlt : i < l.length := by simpa using hlt
   have hw2 := wrap_of (n := (i : Int) + 1) (k := i + 1) (by omega) (by omega)
   have htl := textT_len l[i]
   have hm := sizeL_mem (List.getElem_mem hlt)
   have hx := textL_take hlt
   have hfin : ∀ S0 : B, S0 = (if i = 0 then headK k N ++ 40 :: joinB (textL (l.take i)) else (headK k N ++ 40 :: joinB (textL (l.take i))) ++ [44]) → S0 ++ textT l[i] = headK k N ++ 40 :: joinB (textL (l.take (i + 1))) := by
    rintro S0 rfl
    rw [hx]
    by_cases h0 : i = 0
    ·subst h0; simp [textL, joinB]
    ·rw [if_neg h0, if_neg h0]; simp
   simp -implicitDefEqProofs only [pkA, ptA, ↓reduceIte, Nat.reduceEqDiff, Nat.reduceAdd, Nat.reduceBEq, Nat.reduceMul, Nat.reduceLT, Nat.reduceLeDiff, pkT, true_and, tsC, e2]
   refine vcond_of (fun hpos => ?_) (fun hzero => ?_)
   ·have hpos : ¬ i = 0 := by simp at hpos; omega
    simp -implicitDefEqProofs only [pkA, ptA, ↓reduceIte, Nat.reduceEqDiff, Nat.reduceAdd, Nat.reduceBEq, Nat.reduceMul, Nat.reduceLT, Nat.reduceLeDiff, pkT, true_and, tsC, e2]
    refine hcat (headK k N ++ 40 :: joinB (textL (l.take i))) [44] _ (by simp; omega) (by simp) ?_
    simp -implicitDefEqProofs only [pkA, ptA, ↓reduceIte, Nat.reduceEqDiff, Nat.reduceAdd, Nat.reduceBEq, Nat.reduceMul, Nat.reduceLT, Nat.reduceLeDiff, pkT, true_and, tsC, e2]
    refine ia_of ti_22 rfl ti_24 (by decide) (Int.natCast_nonneg i) (c := tmC l[i]) (by simp [hlt]) (tmC_len _) ?_
    simp -implicitDefEqProofs only [pkA, ptA, ↓reduceIte, Nat.reduceEqDiff, Nat.reduceAdd, Nat.reduceBEq, Nat.reduceMul, Nat.reduceLT, Nat.reduceLeDiff, pkT, true_and, tsC, e2, ld_24 (tmC_len _)]
    refine call_fn rfl (ih l[i] (List.getElem_mem hlt) (hvl _ (List.getElem_mem hlt)) (by omega)) (fun h => by cases h) ?_
    simp -implicitDefEqProofs only [pkA, ptA, ↓reduceIte, Nat.reduceEqDiff, Nat.reduceAdd, Nat.reduceBEq, Nat.reduceMul, Nat.reduceLT, Nat.reduceLeDiff, pkT, true_and, tsC, e2]
    refine hcat ((headK k N ++ 40 :: joinB (textL (l.take i))) ++ [44]) (textT l[i]) _ (by simp; omega) (by omega) ?_
    simp -implicitDefEqProofs only [pkA, ptA, ↓reduceIte, Nat.reduceEqDiff, Nat.reduceAdd, Nat.reduceBEq, Nat.reduceMul, Nat.reduceLT, Nat.reduceLeDiff, pkT, true_and, tsC, e2]
    refine hnorm (i + 1) _ hlt (by omega) (le_hd (by simp only [leOk, List.all_cons, List.all_nil, tmC_ltB]; rfl) (Nat.zero_le _) (Nat.le_refl _) ?_ ⟨by simp [bxs], trivial⟩)
    have := hfin _ (by rw [if_neg hpos])
    simp only [FL, up_apply, Nat.reduceEqDiff, ↓reduceIte, hw2, this, and_self]
   ·have hzero : i = 0 := by simp at hzero; omega
    simp -implicitDefEqProofs only [pkA, ptA, ↓reduceIte, Nat.reduceEqDiff, Nat.reduceAdd, Nat.reduceBEq, Nat.reduceMul, Nat.reduceLT, Nat.reduceLeDiff, pkT, true_and, tsC, e2]
    refine ia_of ti_22 rfl ti_24 (by decide) (Int.natCast_nonneg i) (c := tmC l[i]) (by simp [hlt]) (tmC_len _) ?_
    simp -implicitDefEqProofs only [pkA, ptA, ↓reduceIte, Nat.reduceEqDiff, Nat.reduceAdd, Nat.reduceBEq, Nat.reduceMul, Nat.reduceLT, Nat.reduceLeDiff, pkT, true_and, tsC, e2, ld_24 (tmC_len _)]
    refine call_fn rfl (ih l[i] (List.getElem_mem hlt) (hvl _ (List.getElem_mem hlt)) (by omega)) (fun h => by cases h) ?_
    simp -implicitDefEqProofs only [pkA, ptA, ↓reduceIte, Nat.reduceEqDiff, Nat.reduceAdd, Nat.reduceBEq, Nat.reduceMul, Nat.reduceLT, Nat.reduceLeDiff, pkT, true_and, tsC, e2]
    refine hcat (headK k N ++ 40 :: joinB (textL (l.take i))) (textT l[i]) _ (by simp; omega) (by omega) ?_
    simp -implicitDefEqProofs only [pkA, ptA, ↓reduceIte, Nat.reduceEqDiff, Nat.reduceAdd, Nat.reduceBEq, Nat.reduceMul, Nat.reduceLT, Nat.reduceLeDiff, pkT, true_and, tsC, e2]
    refine hnorm (i + 1) _ hlt (by omega) (le_hd (by simp only [leOk, List.all_cons, List.all_nil, tmC_ltB]; rfl) (Nat.zero_le _) (Nat.le_refl _) ?_ ⟨by simp [bxs], trivial⟩)
    have := hfin _ (by rw [if_pos hzero])
    simp only [FL, up_apply, Nat.reduceEqDiff, ↓reduceIte, hw2, this, and_self]
  ·have : i = l.length := by simp at hge; omega
   subst this
   simp -implicitDefEqProofs only [pkA, ptA, ↓reduceIte, Nat.reduceEqDiff, Nat.reduceAdd, Nat.reduceBEq, Nat.reduceMul, Nat.reduceLT, Nat.reduceLeDiff, pkT, true_and, tsC, e2]
   refine hexit _ _ ?_
   simp -implicitDefEqProofs only [pkA, ptA, ↓reduceIte, Nat.reduceEqDiff, Nat.reduceAdd, Nat.reduceBEq, Nat.reduceMul, Nat.reduceLT, Nat.reduceLeDiff, pkT, true_and, tsC, e2]
   refine hcat (headK k N ++ 40 :: joinB (textL (l.take l.length))) [41] _ (by rw [List.take_length] at hjl ⊢; simp; omega) (by simp) ?_
   simp -implicitDefEqProofs only [pkA, ptA, ↓reduceIte, Nat.reduceEqDiff, Nat.reduceAdd, Nat.reduceBEq, Nat.reduceMul, Nat.reduceLT, Nat.reduceLeDiff, pkT, true_and, tsC, e2]
   rw [hT, List.take_length]; simp
 ·have hQ : headK k N = [109, 97, 99] := by rw [hH]; simp [hk, nameK, countK]
  refine hcat [109, 97, 99] [40] _ (by simp) (by simp) ?_
  simp -implicitDefEqProofs only [pkA, ptA, ↓reduceIte, Nat.reduceEqDiff, Nat.reduceAdd, Nat.reduceBEq, Nat.reduceMul, Nat.reduceLT, Nat.reduceLeDiff, pkT, true_and, tsC]
  have hT : textT t0 = headK k N ++ 40 :: (joinB (textL l) ++ [41]) := by rw [hT]; simp [hk, arityI]
  clear hk hH
  refine run_loop (fun i : Nat => hdS [(1, .bp 0 0), (3, sv (headK k N ++ 40 :: joinB (textL (l.take i)))), (4, i64 i)] [(tmC t0).map .c]) (fun i => l.length - i) (fun i => i ≤ l.length) 0 (Nat.zero_le _) ?_ ?_
  ·exact le_hd (by simp only [leOk, List.all_cons, List.all_nil, tmC_ltB]; rfl) (Nat.zero_le _) (Nat.le_refl _) (by simp [FL, up_apply, hQ, textL, joinB]) ⟨by simp [up_apply], trivial⟩
  rintro i hi R hnorm hexit hret
  have hjl := joinB_pre l i
  simp -implicitDefEqProofs only [pkA, ptA, ↓reduceIte, Nat.reduceEqDiff, Nat.reduceAdd, Nat.reduceBEq, Nat.reduceMul, Nat.reduceLT, Nat.reduceLeDiff, pkT, true_and, tsC, e2]
  refine vcond_of (fun hlt => ?_) (fun hge => ?_)
  ·have hlt : i < l.length := by simpa using hlt
   have hw2 := wrap_of (n := (i : Int) + 1) (k := i + 1) (by omega) (by omega)
   have htl := textT_len l[i]
   have hm := sizeL_mem (List.getElem_mem hlt)
   have hx := textL_take hlt
   have hfin : ∀ S0 : B, S0 = (if i = 0 then headK k N ++ 40 :: joinB (textL (l.take i)) else (headK k N ++ 40 :: joinB (textL (l.take i))) ++ [44]) → S0 ++ textT l[i] = headK k N ++ 40 :: joinB (textL (l.take (i + 1))) := by
    rintro S0 rfl
    rw [hx]
    by_cases h0 : i = 0
    ·subst h0; simp [textL, joinB]
    ·rw [if_neg h0, if_neg h0]; simp
   simp -implicitDefEqProofs only [pkA, ptA, ↓reduceIte, Nat.reduceEqDiff, Nat.reduceAdd, Nat.reduceBEq, Nat.reduceMul, Nat.reduceLT, Nat.reduceLeDiff, pkT, true_and, tsC, e2]
   refine vcond_of (fun hpos => ?_) (fun hzero => ?_)
   ·have hpos : ¬ i = 0 := by simp at hpos; omega
    simp -implicitDefEqProofs only [pkA, ptA, ↓reduceIte, Nat.reduceEqDiff, Nat.reduceAdd, Nat.reduceBEq, Nat.reduceMul, Nat.reduceLT, Nat.reduceLeDiff, pkT, true_and, tsC, e2]
    refine hcat (headK k N ++ 40 :: joinB (textL (l.take i))) [44] _ (by simp; omega) (by simp) ?_
    simp -implicitDefEqProofs only [pkA, ptA, ↓reduceIte, Nat.reduceEqDiff, Nat.reduceAdd, Nat.reduceBEq, Nat.reduceMul, Nat.reduceLT, Nat.reduceLeDiff, pkT, true_and, tsC, e2]
    refine ia_of ti_22 rfl ti_24 (by decide) (Int.natCast_nonneg i) (c := tmC l[i]) (by simp [hlt]) (tmC_len _) ?_
    simp -implicitDefEqProofs only [pkA, ptA, ↓reduceIte, Nat.reduceEqDiff, Nat.reduceAdd, Nat.reduceBEq, Nat.reduceMul, Nat.reduceLT, Nat.reduceLeDiff, pkT, true_and, tsC, e2, ld_24 (tmC_len _)]
    refine call_fn rfl (ih l[i] (List.getElem_mem hlt) (hvl _ (List.getElem_mem hlt)) (by omega)) (fun h => by cases h) ?_
    simp -implicitDefEqProofs only [pkA, ptA, ↓reduceIte, Nat.reduceEqDiff, Nat.reduceAdd, Nat.reduceBEq, Nat.reduceMul, Nat.reduceLT, Nat.reduceLeDiff, pkT, true_and, tsC, e2]
    refine hcat ((headK k N ++ 40 :: joinB (textL (l.take i))) ++ [44]) (textT l[i]) _ (by simp; omega) (by omega) ?_
    simp -implicitDefEqProofs only [pkA, ptA, ↓reduceIte, Nat.reduceEqDiff, Nat.reduceAdd, Nat.reduceBEq, Nat.reduceMul, Nat.reduceLT, Nat.reduceLeDiff, pkT, true_and, tsC, e2]
    refine hnorm (i + 1) _ hlt (by omega) (le_hd (by simp only [leOk, List.all_cons, List.all_nil, tmC_ltB]; rfl) (Nat.zero_le _) (Nat.le_refl _) ?_ ⟨by simp [bxs], trivial⟩)
    have := hfin _ (by rw [if_neg hpos])
    simp only [FL, up_apply, Nat.reduceEqDiff, ↓reduceIte, hw2, this, and_self]
   ·have hzero : i = 0 := by simp at hzero; omega
    simp -implicitDefEqProofs only [pkA, ptA, ↓reduceIte, Nat.reduceEqDiff, Nat.reduceAdd, Nat.reduceBEq, Nat.reduceMul, Nat.reduceLT, Nat.reduceLeDiff, pkT, true_and, tsC, e2]
    refine ia_of ti_22 rfl ti_24 (by decide) (Int.natCast_nonneg i) (c := tmC l[i]) (by simp [hlt]) (tmC_len _) ?_
    simp -implicitDefEqProofs only [pkA, ptA, ↓reduceIte, Nat.reduceEqDiff, Nat.reduceAdd, Nat.reduceBEq, Nat.reduceMul, Nat.reduceLT, Nat.reduceLeDiff, pkT, true_and, tsC, e2, ld_24 (tmC_len _)]
    refine call_fn rfl (ih l[i] (List.getElem_mem hlt) (hvl _ (List.getElem_mem hlt)) (by omega)) (fun h => by cases h) ?_
    simp -implicitDefEqProofs only [pkA, ptA, ↓reduceIte, Nat.reduceEqDiff, Nat.reduceAdd, Nat.reduceBEq, Nat.reduceMul, Nat.reduceLT, Nat.reduceLeDiff, pkT, true_and, tsC, e2]
    refine hcat (headK k N ++ 40 :: joinB (textL (l.take i))) (textT l[i]) _ (by simp; omega) (by omega) ?_
    simp -implicitDefEqProofs only [pkA, ptA, ↓reduceIte, Nat.reduceEqDiff, Nat.reduceAdd, Nat.reduceBEq, Nat.reduceMul, Nat.reduceLT, Nat.reduceLeDiff, pkT, true_and, tsC, e2]
    refine hnorm (i + 1) _ hlt (by omega) (le_hd (by simp only [leOk, List.all_cons, List.all_nil, tmC_ltB]; rfl) (Nat.zero_le _) (Nat.le_refl _) ?_ ⟨by simp [bxs], trivial⟩)
    have := hfin _ (by rw [if_pos hzero])
    simp only [FL, up_apply, Nat.reduceEqDiff, ↓reduceIte, hw2, this, and_self]
  ·have : i = l.length := by simp at hge; omega
   subst this
   simp -implicitDefEqProofs only [pkA, ptA, ↓reduceIte, Nat.reduceEqDiff, Nat.reduceAdd, Nat.reduceBEq, Nat.reduceMul, Nat.reduceLT, Nat.reduceLeDiff, pkT, true_and, tsC, e2]
   refine hexit _ _ ?_
   simp -implicitDefEqProofs only [pkA, ptA, ↓reduceIte, Nat.reduceEqDiff, Nat.reduceAdd, Nat.reduceBEq, Nat.reduceMul, Nat.reduceLT, Nat.reduceLeDiff, pkT, true_and, tsC, e2]
   refine hcat (headK k N ++ 40 :: joinB (textL (l.take l.length))) [41] _ (by rw [List.take_length] at hjl ⊢; simp; omega) (by simp) ?_
   simp -implicitDefEqProofs only [pkA, ptA, ↓reduceIte, Nat.reduceEqDiff, Nat.reduceAdd, Nat.reduceBEq, Nat.reduceMul, Nat.reduceLT, Nat.reduceLeDiff, pkT, true_and, tsC, e2]
   rw [hT, List.take_length]; simp
