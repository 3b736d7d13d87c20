/- Layer 15: Text. -/
import Derived.Test.YtkbkajabchhbeaaDoorVlUe
import Derived.Test.YtkbkajabchhbeaaDoorVlTree
set_option linter.unusedSimpArgs false
set_option linter.unusedVariables false
namespace Go.Proofs.YtkbkajabchhbeaaDoor
open Go Go.Vl
set_option maxRecDepth 4000
def owS (l : List By) : V := .ow (if l.isEmpty then none else some (9, 1)) (l.map fun b => [cS b])
theorem owS_fz {l : List By} : (owS l).fz = .c (stC l) := rfl
theorem owS_ow {l : List By} : (owS l).isOw = true := rfl
theorem owS_ltB {l : List By} {m : Nat} : (owS l).ltB m = true := rfl
theorem appS1 {l : List By} {x : By} {K : V → Prop} (h : l.length + 1 ≤ 1000000000) (hK : K (owS (l ++ [x]))) : vappend Tryd.prog 54 (owS l) (.c (.sl [[cS x]])) K := by
 have hone : ∀ z ∈ l.map (fun b => [cS b]), z.length = 1 := fun z hz => by obtain ⟨b, _, rfl⟩ := List.mem_map.1 hz; rfl
 unfold owS
 rw [app_54]
 refine ⟨⟨?_, hone⟩, ⟨by simp; omega, by simp; omega, by simp⟩, ?_⟩
 ·by_cases hl : l.isEmpty = true
  ·exact .inl (by rw [if_pos hl])
  ·exact .inr (by rw [if_neg hl])
 ·have e : (l ++ [x]).isEmpty = false := by cases l <;> rfl
  unfold owS at hK
  rw [e] at hK
  simpa using hK
theorem look_of {k : Int} {s : Vl.S} {i : Nat} {K : V → Prop} (hg : ((getK shL k).map shV).getD shZ = shV k) (hb : s.bx i = shM) (hi : i < s.nb) (hK : K (shV k)) : vlookup Tryd.prog 42 s (.mr i) (i64 k) false K :=
 look_sh1 hb hi (by rw [hg]; exact hK)
set_option maxHeartbeats 8000000 in
theorem Text_ok : ∀ t : Tm, validT t = true → sizeT t ≤ 1000000000 → FnOK Tryd.prog glT 20 [.agg (tmC t)] (sv (textT t)) := by
 refine Tm.ind fun k n l ih hv hs => ?_
 have hsz : sizeL l + 1 ≤ 1000000000 := by simp only [sizeT] at hs; omega
 have hll := sizeL_len l
 obtain ⟨hk, ⟨hn0, hn1, hnc⟩, hlen, hvl⟩ := valid_parts hv
 obtain ⟨N, rfl⟩ : ∃ N : Nat, n = (N : Int) := ⟨n.toNat, by omega⟩
 have hdl := dec_len N
 have hd := Itoa_ok N (by omega)
 have hcat : ∀ (a b : B) K, a.length ≤ 40000000000 → b.length ≤ 40000000000 → K (sv (a ++ b)) → vstr .add (bs8 a) (bs8 b) K := fun a b K h1 h2 hK => s_add (by omega) hK
 have hT : textT (.mk k N l) = headK k N ++ (if decide (arityI k = 0) = true then [] else 40 :: (joinB (textL l) ++ [41])) := rfl
 have hHl := headK_len k N
 have hH : headK k N = nameK k ++ (if countK k = true then dec N else []) := rfl
 obtain ⟨t0, ht0⟩ : ∃ t0, t0 = Tm.mk k N l := ⟨_, rfl⟩
 have e0 : t0.kind = k := by rw [ht0]; rfl
 have e1 : t0.n = N := by rw [ht0]; rfl
 have e2 : t0.l = l := by rw [ht0]; rfl
 rw [← ht0] at hT ⊢
 clear ht0
 refine FnOK_by (rs := [.tmp 2]) false [2850001, 2860001, 1000008, 32] mixed Tryd.func20 rfl rfl rfl rfl (by kernel_rfl) (by simp) rfl rfl ?_
 simp -implicitDefEqProofs only [pkA, ptA, ↓reduceIte, Nat.reduceEqDiff, Nat.reduceAdd, Nat.reduceBEq, Nat.reduceMul, Nat.reduceLT, Nat.reduceLeDiff, pkT, pkU, true_and, tsC]
 refine vpa_all rfl rfl (tree_via (A := fun s => ∃ q fr bx, s = ⟨fr, bx, 3⟩ ∧ (q = 1 ∨ q = 2) ∧ fr 1 = .bp 0 0 ∧ fr 3 = .bp q 0 ∧ bx 0 = (tmC t0).map .c ∧ bx q = (shC k).map .c) ?_ (fun K' hK' => ?_))
 ·rintro _ ⟨q, fr, bx, rfl, hq, h1, h3, h0, hbq⟩
  have hqlt : (q < 3) = True := by simp; omega
  have hnl : (nameK k).length ≤ 4 := by rcases hk with rfl | rfl | rfl | rfl | rfl | rfl <;> decide
  simp -implicitDefEqProofs only [pkA, ptA, ↓reduceIte, Nat.reduceEqDiff, Nat.reduceAdd, Nat.reduceBEq, Nat.reduceMul, Nat.reduceLT, Nat.reduceLeDiff, pkT, pkU, true_and, tsC, h1, h3, h0, hbq, hqlt, shC, cS, cI, e0, e1, e2]
  refine vcond_of (fun hc => ?_) (fun hc => ?_)
  ·have hH : headK k N = nameK k ++ dec N := by rw [hH, if_pos hc]
   simp -implicitDefEqProofs only [pkA, ptA, ↓reduceIte, Nat.reduceEqDiff, Nat.reduceAdd, Nat.reduceBEq, Nat.reduceMul, Nat.reduceLT, Nat.reduceLeDiff, pkT, pkU, true_and, tsC, h1, h3, h0, hbq, hqlt, shC, cS, cI, e0, e1, e2]
   refine call_fn rfl hd (fun h => by cases h) ?_
   simp -implicitDefEqProofs only [pkA, ptA, ↓reduceIte, Nat.reduceEqDiff, Nat.reduceAdd, Nat.reduceBEq, Nat.reduceMul, Nat.reduceLT, Nat.reduceLeDiff, pkT, pkU, true_and, tsC, h1, h3, h0, hbq, hqlt, shC, cS, cI, e0, e1, e2]
   refine hcat (nameK k) (dec N) _ (by omega) (by omega) ?_
   rw [← hH]
   simp -implicitDefEqProofs only [pkA, ptA, ↓reduceIte, Nat.reduceEqDiff, Nat.reduceAdd, Nat.reduceBEq, Nat.reduceMul, Nat.reduceLT, Nat.reduceLeDiff, pkT, pkU, true_and, tsC, h1, h3, h0, hbq, hqlt, shC, cS, cI, e0, e1, e2]
   refine vcond_of (fun hz => ?_) (fun hnz => ?_)
   ·have hz : arityI k = 0 := by
     have : max 0 (arityI k) = 0 := by simpa using hz
     omega
    simp -implicitDefEqProofs only [pkA, ptA, ↓reduceIte, Nat.reduceEqDiff, Nat.reduceAdd, Nat.reduceBEq, Nat.reduceMul, Nat.reduceLT, Nat.reduceLeDiff, pkT, pkU, true_and, tsC, h1, h3, h0, hbq, hqlt, shC, cS, cI, e0, e1, e2]
    rw [hT, hz]; simp
   have hnz : ¬ arityI k = 0 := fun h => by rw [h] at hnz; simp at hnz
   rw [decide_eq_false hnz] at hT
   simp -implicitDefEqProofs only [pkA, ptA, ↓reduceIte, Nat.reduceEqDiff, Nat.reduceAdd, Nat.reduceBEq, Nat.reduceMul, Nat.reduceLT, Nat.reduceLeDiff, pkT, pkU, true_and, tsC, h1, h3, h0, hbq, hqlt, shC, cS, cI, e0, e1, e2]
   refine run_loop (fun i : Nat => hdS [(1, .bp 0 0), (4, sv (headK k N)), (5, owS (textL (l.take i))), (26, .c (.sl (l.map tmC))), (27, i64 l.length), (28, i64 i)] [(tmC t0).map .c]) (fun i => l.length - i) (fun i => i ≤ l.length) 0 (Nat.zero_le _) ?_ ?_
   ·exact le_hd (by simp only [leOk, List.all_cons, List.all_nil, tmC_ltB, owS_ltB]; rfl) (Nat.zero_le _) (by simp) (by simp [FL, up_apply, textL, owS, h1]) ⟨by simp [up_apply, h0], trivial⟩
   rintro i hi R hnorm hexit hret
   simp -implicitDefEqProofs only [pkA, ptA, ↓reduceIte, Nat.reduceEqDiff, Nat.reduceAdd, Nat.reduceBEq, Nat.reduceMul, Nat.reduceLT, Nat.reduceLeDiff, pkT, pkU, true_and, tsC, e2, owS_ow, owS_fz]
   refine vcond_of (fun hlt => ?_) (fun hge => ?_)
   ·have hlt : i < l.length := by simpa using hlt
    have hw2 := wrap_of (n := (i : Int) + 1) (k := i + 1) (by omega) (by omega)
    have hm := sizeL_mem (List.getElem_mem hlt)
    have htk : textL (l.take (i + 1)) = textL (l.take i) ++ [textT l[i]] := by
     rw [List.take_succ_eq_append_getElem hlt, textL_eq, textL_eq, List.map_append]; rfl
    have htl : (textL (l.take i)).length ≤ i := by rw [textL_eq, List.length_map, List.length_take]; omega
    simp -implicitDefEqProofs only [pkA, ptA, ↓reduceIte, Nat.reduceEqDiff, Nat.reduceAdd, Nat.reduceBEq, Nat.reduceMul, Nat.reduceLT, Nat.reduceLeDiff, pkT, pkU, true_and, tsC, e2, owS_ow, owS_fz]
    refine ia_of ti_22 rfl ti_24 (by decide) (Int.natCast_nonneg i) (c := tmC l[i]) (by simp [hlt]) (tmC_len _) ?_
    simp -implicitDefEqProofs only [pkA, ptA, ↓reduceIte, Nat.reduceEqDiff, Nat.reduceAdd, Nat.reduceBEq, Nat.reduceMul, Nat.reduceLT, Nat.reduceLeDiff, pkT, pkU, true_and, tsC, e2, owS_ow, owS_fz, ld_24 (tmC_len _)]
    refine call_fn rfl (ih l[i] (List.getElem_mem hlt) (hvl _ (List.getElem_mem hlt)) (by omega)) (fun h => by cases h) ?_
    simp -implicitDefEqProofs only [pkA, ptA, ↓reduceIte, Nat.reduceEqDiff, Nat.reduceAdd, Nat.reduceBEq, Nat.reduceMul, Nat.reduceLT, Nat.reduceLeDiff, pkT, pkU, true_and, tsC, e2, owS_ow, owS_fz]
    refine appS1 (l := textL (l.take i)) (x := textT l[i]) (by omega) ?_
    simp -implicitDefEqProofs only [pkA, ptA, ↓reduceIte, Nat.reduceEqDiff, Nat.reduceAdd, Nat.reduceBEq, Nat.reduceMul, Nat.reduceLT, Nat.reduceLeDiff, pkT, pkU, true_and, tsC, e2, owS_ow, owS_fz]
    refine hnorm (i + 1) _ hlt (by omega) (le_hd (by simp only [leOk, List.all_cons, List.all_nil, tmC_ltB, owS_ltB]; rfl) (Nat.zero_le _) (by simp) ?_ ⟨by simp [up_apply, bxs], trivial⟩)
    simp [FL, up_apply, hw2, htk]
   ·have : i = l.length := by simp at hge; omega
    subst this
    simp -implicitDefEqProofs only [pkA, ptA, ↓reduceIte, Nat.reduceEqDiff, Nat.reduceAdd, Nat.reduceBEq, Nat.reduceMul, Nat.reduceLT, Nat.reduceLeDiff, pkT, pkU, true_and, tsC, e2, owS_ow, owS_fz]
    refine hexit _ _ ?_
    rw [List.take_length]
    have hjl := joinB_pre l l.length
    rw [List.take_length] at hjl
    simp -implicitDefEqProofs only [pkA, ptA, ↓reduceIte, Nat.reduceEqDiff, Nat.reduceAdd, Nat.reduceBEq, Nat.reduceMul, Nat.reduceLT, Nat.reduceLeDiff, pkT, pkU, true_and, tsC, e2, owS_ow, owS_fz]
    refine hcat (headK k N) [40] _ (by omega) (by simp) ?_
    simp -implicitDefEqProofs only [pkA, ptA, ↓reduceIte, Nat.reduceEqDiff, Nat.reduceAdd, Nat.reduceBEq, Nat.reduceMul, Nat.reduceLT, Nat.reduceLeDiff, pkT, pkU, true_and, tsC, e2, owS_ow, owS_fz]
    refine call_fn rfl (Join_ok (textL l) (by rw [textL_eq, List.length_map]; omega) (by omega)) (fun h => by cases h) ?_
    simp -implicitDefEqProofs only [pkA, ptA, ↓reduceIte, Nat.reduceEqDiff, Nat.reduceAdd, Nat.reduceBEq, Nat.reduceMul, Nat.reduceLT, Nat.reduceLeDiff, pkT, pkU, true_and, tsC, e2, owS_ow, owS_fz]
    refine hcat (headK k N ++ [40]) (joinB (textL l)) _ (by simp; omega) (by omega) ?_
    simp -implicitDefEqProofs only [pkA, ptA, ↓reduceIte, Nat.reduceEqDiff, Nat.reduceAdd, Nat.reduceBEq, Nat.reduceMul, Nat.reduceLT, Nat.reduceLeDiff, pkT, pkU, true_and, tsC, e2, owS_ow, owS_fz]
    refine hcat ((headK k N ++ [40]) ++ joinB (textL l)) [41] _ (by simp; omega) (by simp) ?_
    simp -implicitDefEqProofs only [pkA, ptA, ↓reduceIte, Nat.reduceEqDiff, Nat.reduceAdd, Nat.reduceBEq, Nat.reduceMul, Nat.reduceLT, Nat.reduceLeDiff, pkT, pkU, true_and, tsC, e2, owS_ow, owS_fz]
    rw [hT]; simp
  ·have hH : headK k N = nameK k := by rw [hH, if_neg (by simp [hc])]; simp
   rw [← hH]
   simp -implicitDefEqProofs only [pkA, ptA, ↓reduceIte, Nat.reduceEqDiff, Nat.reduceAdd, Nat.reduceBEq, Nat.reduceMul, Nat.reduceLT, Nat.reduceLeDiff, pkT, pkU, true_and, tsC, h1, h3, h0, hbq, hqlt, shC, cS, cI, e0, e1, e2]
   refine vcond_of (fun hz => ?_) (fun hnz => ?_)
   ·have hz : arityI k = 0 := by
     have : max 0 (arityI k) = 0 := by simpa using hz
     omega
    simp -implicitDefEqProofs only [pkA, ptA, ↓reduceIte, Nat.reduceEqDiff, Nat.reduceAdd, Nat.reduceBEq, Nat.reduceMul, Nat.reduceLT, Nat.reduceLeDiff, pkT, pkU, true_and, tsC, h1, h3, h0, hbq, hqlt, shC, cS, cI, e0, e1, e2]
    rw [hT, hz]; simp
   have hnz : ¬ arityI k = 0 := fun h => by rw [h] at hnz; simp at hnz
   rw [decide_eq_false hnz] at hT
   simp -implicitDefEqProofs only [pkA, ptA, ↓reduceIte, Nat.reduceEqDiff, Nat.reduceAdd, Nat.reduceBEq, Nat.reduceMul, Nat.reduceLT, Nat.reduceLeDiff, pkT, pkU, true_and, tsC, h1, h3, h0, hbq, hqlt, shC, cS, cI, e0, e1, e2]
   refine run_loop (fun i : Nat => hdS [(1, .bp 0 0), (4, sv (headK k N)), (5, owS (textL (l.take i))), (26, .c (.sl (l.map tmC))), (27, i64 l.length), (28, i64 i)] [(tmC t0).map .c]) (fun i => l.length - i) (fun i => i ≤ l.length) 0 (Nat.zero_le _) ?_ ?_
   ·exact le_hd (by simp only [leOk, List.all_cons, List.all_nil, tmC_ltB, owS_ltB]; rfl) (Nat.zero_le _) (by simp) (by simp [FL, up_apply, textL, owS, h1]) ⟨by simp [up_apply, h0], trivial⟩
   rintro i hi R hnorm hexit hret
   simp -implicitDefEqProofs only [pkA, ptA, ↓reduceIte, Nat.reduceEqDiff, Nat.reduceAdd, Nat.reduceBEq, Nat.reduceMul, Nat.reduceLT, Nat.reduceLeDiff, pkT, pkU, true_and, tsC, e2, owS_ow, owS_fz]
   refine vcond_of (fun hlt => ?_) (fun hge => ?_)
   ·have hlt : i < l.length := by simpa using hlt
    have hw2 := wrap_of (n := (i : Int) + 1) (k := i + 1) (by omega) (by omega)
    have hm := sizeL_mem (List.getElem_mem hlt)
    have htk : textL (l.take (i + 1)) = textL (l.take i) ++ [textT l[i]] := by
     rw [List.take_succ_eq_append_getElem hlt, textL_eq, textL_eq, List.map_append]; rfl
    have htl : (textL (l.take i)).length ≤ i := by rw [textL_eq, List.length_map, List.length_take]; omega
    simp -implicitDefEqProofs only [pkA, ptA, ↓reduceIte, Nat.reduceEqDiff, Nat.reduceAdd, Nat.reduceBEq, Nat.reduceMul, Nat.reduceLT, Nat.reduceLeDiff, pkT, pkU, true_and, tsC, e2, owS_ow, owS_fz]
    refine ia_of ti_22 rfl ti_24 (by decide) (Int.natCast_nonneg i) (c := tmC l[i]) (by simp [hlt]) (tmC_len _) ?_
    simp -implicitDefEqProofs only [pkA, ptA, ↓reduceIte, Nat.reduceEqDiff, Nat.reduceAdd, Nat.reduceBEq, Nat.reduceMul, Nat.reduceLT, Nat.reduceLeDiff, pkT, pkU, true_and, tsC, e2, owS_ow, owS_fz, ld_24 (tmC_len _)]
    refine call_fn rfl (ih l[i] (List.getElem_mem hlt) (hvl _ (List.getElem_mem hlt)) (by omega)) (fun h => by cases h) ?_
    simp -implicitDefEqProofs only [pkA, ptA, ↓reduceIte, Nat.reduceEqDiff, Nat.reduceAdd, Nat.reduceBEq, Nat.reduceMul, Nat.reduceLT, Nat.reduceLeDiff, pkT, pkU, true_and, tsC, e2, owS_ow, owS_fz]
    refine appS1 (l := textL (l.take i)) (x := textT l[i]) (by omega) ?_
    simp -implicitDefEqProofs only [pkA, ptA, ↓reduceIte, Nat.reduceEqDiff, Nat.reduceAdd, Nat.reduceBEq, Nat.reduceMul, Nat.reduceLT, Nat.reduceLeDiff, pkT, pkU, true_and, tsC, e2, owS_ow, owS_fz]
    refine hnorm (i + 1) _ hlt (by omega) (le_hd (by simp only [leOk, List.all_cons, List.all_nil, tmC_ltB, owS_ltB]; rfl) (Nat.zero_le _) (by simp) ?_ ⟨by simp [up_apply, bxs], trivial⟩)
    simp [FL, up_apply, hw2, htk]
   ·have : i = l.length := by simp at hge; omega
    subst this
    simp -implicitDefEqProofs only [pkA, ptA, ↓reduceIte, Nat.reduceEqDiff, Nat.reduceAdd, Nat.reduceBEq, Nat.reduceMul, Nat.reduceLT, Nat.reduceLeDiff, pkT, pkU, true_and, tsC, e2, owS_ow, owS_fz]
    refine hexit _ _ ?_
    rw [List.take_length]
    have hjl := joinB_pre l l.length
    rw [List.take_length] at hjl
    simp -implicitDefEqProofs only [pkA, ptA, ↓reduceIte, Nat.reduceEqDiff, Nat.reduceAdd, Nat.reduceBEq, Nat.reduceMul, Nat.reduceLT, Nat.reduceLeDiff, pkT, pkU, true_and, tsC, e2, owS_ow, owS_fz]
    refine hcat (headK k N) [40] _ (by omega) (by simp) ?_
    simp -implicitDefEqProofs only [pkA, ptA, ↓reduceIte, Nat.reduceEqDiff, Nat.reduceAdd, Nat.reduceBEq, Nat.reduceMul, Nat.reduceLT, Nat.reduceLeDiff, pkT, pkU, true_and, tsC, e2, owS_ow, owS_fz]
    refine call_fn rfl (Join_ok (textL l) (by rw [textL_eq, List.length_map]; omega) (by omega)) (fun h => by cases h) ?_
    simp -implicitDefEqProofs only [pkA, ptA, ↓reduceIte, Nat.reduceEqDiff, Nat.reduceAdd, Nat.reduceBEq, Nat.reduceMul, Nat.reduceLT, Nat.reduceLeDiff, pkT, pkU, true_and, tsC, e2, owS_ow, owS_fz]
    refine hcat (headK k N ++ [40]) (joinB (textL l)) _ (by simp; omega) (by omega) ?_
    simp -implicitDefEqProofs only [pkA, ptA, ↓reduceIte, Nat.reduceEqDiff, Nat.reduceAdd, Nat.reduceBEq, Nat.reduceMul, Nat.reduceLT, Nat.reduceLeDiff, pkT, pkU, true_and, tsC, e2, owS_ow, owS_fz]
    refine hcat ((headK k N ++ [40]) ++ joinB (textL l)) [41] _ (by simp; omega) (by simp) ?_
    simp -implicitDefEqProofs only [pkA, ptA, ↓reduceIte, Nat.reduceEqDiff, Nat.reduceAdd, Nat.reduceBEq, Nat.reduceMul, Nat.reduceLT, Nat.reduceLeDiff, pkT, pkU, true_and, tsC, e2, owS_ow, owS_fz]
    rw [hT]; simp
 have hknd : kndB k = true := by rcases hk with rfl | rfl | rfl | rfl | rfl | rfl <;> decide
 have hget : ((getK shL k).map shV).getD shZ = shV k := by rw [get_sh, if_pos hknd]; rfl
 have hz : List.map zeroV [C.lit (Value.bool false), C.lit (Value.int IntKind.i64 0), C.lit (Value.string { data := #[] })].reverse = [.c (.lit (.string ⟨#[]⟩)), .c (.lit (.int .i64 0)), .c (.lit (.bool false))] := rfl
 have hst : ∀ (x y z : V), setV [x, y, z] 0 ((shC k).map .c) = (shC k).map .c := fun _ _ _ => rfl
 have hsl : (shC k).length = 3 := rfl
 have hmb : isMb ((shC k).map V.c) = false := rfl
 repeat' first
  | (refine vtree_step (by decide +kernel) (by decide +kernel) ?_; simp only [opL_cons, opL_nil, Nat.zero_add, Nat.reduceAdd]; (repeat' (first | exact trivial | apply And.intro)); (all_goals (first | exact Or.inl (by decide +kernel) | refine Or.inr ?_)))
  | (refine callB_mr rfl shapes_ok rfl (fun _ => shM_ren) ?_)
  | (refine look_of hget ?_ ?_ ?_; (· simp [up_apply]); (· simp))
  | (refine vtree_end (by decide +kernel) (hK' _ ?_))
  | (simp -implicitDefEqProofs only [vg_none, pkA, ptA, ↓reduceIte, Nat.reduceEqDiff, Nat.reduceAdd, Nat.reduceBEq, Nat.reduceMul, Nat.reduceLT, Nat.reduceLeDiff, pkT, pkU, true_and, tsC, e0, hz, shV, hst, hmb, hsl])
 all_goals first
  | (refine ⟨1, _, _, rfl, .inl rfl, ?_, ?_, ?_, ?_⟩ <;> (simp [up_apply]; done))
  | (refine ⟨2, _, _, rfl, .inr rfl, ?_, ?_, ?_, ?_⟩ <;> (simp [up_apply]; done))
