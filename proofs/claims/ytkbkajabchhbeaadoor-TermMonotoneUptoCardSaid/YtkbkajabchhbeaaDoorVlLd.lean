/- Layer 15: the law Monotone. -/
import Derived.Test.YtkbkajabchhbeaaDoorVlLc0
set_option linter.unusedSimpArgs false
set_option linter.unusedVariables false
namespace Go.Proofs.YtkbkajabchhbeaaDoor
open Go Go.Vl
set_option maxRecDepth 10000
theorem closeF_twice {I : List Tm} (hv : ∀ t ∈ I, validT t = true) : closeF (closeF I) = closeF I := by
 obtain ⟨hC, hcl⟩ := closeF_ok hv
 have hv2 : ∀ t ∈ closeF I, validT t = true := fun t ht => by
  obtain ⟨w, hw, hsub⟩ := (hC.kn t ht).loc rfl
  exact subs_valid w (hv w hw) _ hsub
 obtain ⟨hC2, hcl2⟩ := closeF_ok hv2
 refine strictT_ext hC2.st hC.st fun t => ?_
 rw [closeF_iff hv2, closeF_iff hv]
 exact ⟨fun h => h.again fun x hx => (closeF_iff hv).1 hx, fun h => .item ((closeF_iff hv).2 h)⟩
set_option maxHeartbeats 16000000 in
theorem Monotone_ok (l m : List Tm) (t : Tm) (hl : sizeL l ≤ big) (hm : sizeL m ≤ big) (ht : sizeT t ≤ big) : FnOK Tryd.prog glT 6 [.c (tsC l), .c (tsC m), .agg (tmC t)] (bo true) := by
 unfold big at hl hm ht
 have hll := sizeL_len l
 have hlm := sizeL_len m
 have hsz : sizeL (l ++ m) = sizeL l + sizeL m := sizeL_append ..
 have hfew := few_ok (G := glT) (l ++ m) t (by omega)
 refine FnOK_by (rs := [.tmp 6]) false [16, 19] mixed Tryd.func6 rfl rfl rfl rfl (by kernel_rfl) (by simp) rfl rfl ?_
 simp -implicitDefEqProofs only [pkA, ptA, ↓reduceIte, Nat.reduceEqDiff, Nat.reduceAdd, Nat.reduceBEq, Nat.reduceMul, Nat.reduceLT, Nat.reduceLeDiff, pkT, pkU, tsC, true_and, List.append_eq, List.cons_append, List.nil_append, eq_self, decide_true, Bool.not_true, Bool.not_false, b_neq, b_eqs, isGh_some, owT_ow, owT_fz]
 refine appT (l := []) (m := l) (by simp; omega) ?_
 simp -implicitDefEqProofs only [pkA, ptA, ↓reduceIte, Nat.reduceEqDiff, Nat.reduceAdd, Nat.reduceBEq, Nat.reduceMul, Nat.reduceLT, Nat.reduceLeDiff, pkT, pkU, tsC, true_and, List.append_eq, List.cons_append, List.nil_append, eq_self, decide_true, Bool.not_true, Bool.not_false, b_neq, b_eqs, isGh_some, owT_ow, owT_fz]
 refine appT (m := m) (by omega) ?_
 simp -implicitDefEqProofs only [pkA, ptA, ↓reduceIte, Nat.reduceEqDiff, Nat.reduceAdd, Nat.reduceBEq, Nat.reduceMul, Nat.reduceLT, Nat.reduceLeDiff, pkT, pkU, tsC, true_and, List.append_eq, List.cons_append, List.nil_append, eq_self, decide_true, Bool.not_true, Bool.not_false, b_neq, b_eqs, isGh_some, owT_ow, owT_fz]
 refine call_fn rfl (hfew) (by first | exact (fun h => by cases h) | exact fun _ => rfl) ?_
 simp -implicitDefEqProofs only [pkA, ptA, ↓reduceIte, Nat.reduceEqDiff, Nat.reduceAdd, Nat.reduceBEq, Nat.reduceMul, Nat.reduceLT, Nat.reduceLeDiff, pkT, pkU, tsC, true_and, List.append_eq, List.cons_append, List.nil_append, eq_self, decide_true, Bool.not_true, Bool.not_false, b_neq, b_eqs, isGh_some, owT_ow, owT_fz]
 refine vcond_of (fun _ => ?_) (fun hs => ?_)
 ·simp -implicitDefEqProofs only [pkA, ptA, ↓reduceIte, Nat.reduceEqDiff, Nat.reduceAdd, Nat.reduceBEq, Nat.reduceMul, Nat.reduceLT, Nat.reduceLeDiff, pkT, pkU, tsC, true_and, List.append_eq, List.cons_append, List.nil_append, eq_self, decide_true, Bool.not_true, Bool.not_false, b_neq, b_eqs]
  refine call_fn rfl (sanity_ok) (by first | exact (fun h => by cases h) | exact fun _ => rfl) ?_
  simp -implicitDefEqProofs only [pkA, ptA, ↓reduceIte, Nat.reduceEqDiff, Nat.reduceAdd, Nat.reduceBEq, Nat.reduceMul, Nat.reduceLT, Nat.reduceLeDiff, pkT, pkU, tsC, true_and, List.append_eq, List.cons_append, List.nil_append, eq_self, decide_true, Bool.not_true, Bool.not_false, b_neq, b_eqs]
 have hs : smallL ((l ++ m) ++ [t]) = true := by simpa using hs
 obtain ⟨hvl, hvt, hsz2⟩ := small_app hs
 have hvl1 : ∀ x ∈ l, validT x = true := fun x hx => hvl x (List.mem_append_left _ hx)
 obtain ⟨g1, g2, g3⟩ := clo_sizes hvl1 (by omega)
 obtain ⟨k1, k2, k3⟩ := clo_sizes hvl (by omega)
 have htw := closeF_twice hvl1
 have hcl2 := Close_ok (closeF l) g3 (by omega)
 rw [htw] at hcl2
 have hsm := RSame_ok (G := glT) (closeF l) (closeF l) (by omega) (by omega)
 rw [decide_eq_true rfl] at hsm
 simp -implicitDefEqProofs only [pkA, ptA, ↓reduceIte, Nat.reduceEqDiff, Nat.reduceAdd, Nat.reduceBEq, Nat.reduceMul, Nat.reduceLT, Nat.reduceLeDiff, pkT, pkU, tsC, true_and, List.append_eq, List.cons_append, List.nil_append, eq_self, decide_true, Bool.not_true, Bool.not_false, b_neq, b_eqs, isGh_some, owT_ow, owT_fz]
 refine call_fn rfl (Close_ok l hvl1 (by omega)) (by first | exact (fun h => by cases h) | exact fun _ => rfl) ?_
 simp -implicitDefEqProofs only [pkA, ptA, ↓reduceIte, Nat.reduceEqDiff, Nat.reduceAdd, Nat.reduceBEq, Nat.reduceMul, Nat.reduceLT, Nat.reduceLeDiff, pkT, pkU, tsC, true_and, List.append_eq, List.cons_append, List.nil_append, eq_self, decide_true, Bool.not_true, Bool.not_false, b_neq, b_eqs, isGh_some, owT_ow, owT_fz]
 refine call_fn rfl (Close_ok (l ++ m) hvl (by omega)) (by first | exact (fun h => by cases h) | exact fun _ => rfl) ?_
 simp -implicitDefEqProofs only [pkA, ptA, ↓reduceIte, Nat.reduceEqDiff, Nat.reduceAdd, Nat.reduceBEq, Nat.reduceMul, Nat.reduceLT, Nat.reduceLeDiff, pkT, pkU, tsC, true_and, List.append_eq, List.cons_append, List.nil_append, eq_self, decide_true, Bool.not_true, Bool.not_false, b_neq, b_eqs, isGh_some, owT_ow, owT_fz]
 refine run_loop (fun i : Nat => hdS [(0, .c (tsC l)), (5, .bp 0 0), (7, owT (l ++ m)), (9, .c (tsC (closeF l))), (10, .c (tsC (closeF (l ++ m)))), (11, i64 i)] [(tmC t).map .c]) (fun i => l.length - i) (fun i => i ≤ l.length) 0 (Nat.zero_le _) ?_ ?_
 ·exact le_hd (by simp only [leOk, List.all_cons, List.all_nil, tmC_ltB]; rfl) (Nat.zero_le _) (Nat.le_refl _) (by simp [FL, up_apply, tsC, owT]) ⟨by simp [up_apply, bxs], trivial⟩
 rintro i hi R hnorm hexit hret
 simp -implicitDefEqProofs only [pkA, ptA, ↓reduceIte, Nat.reduceEqDiff, Nat.reduceAdd, Nat.reduceBEq, Nat.reduceMul, Nat.reduceLT, Nat.reduceLeDiff, pkT, pkU, tsC, true_and, List.append_eq, List.cons_append, List.nil_append, eq_self, decide_true, Bool.not_true, Bool.not_false, b_neq, b_eqs, owT_ow, owT_fz]
 refine vcond_of (fun hlt => ?_) (fun hge => ?_)
 ·have hlt : i < l.length := by simpa using hlt
  have hw2 := wrap_of (n := (i : Int) + 1) (k := i + 1) (by omega) (by omega)
  have hx := List.getElem_mem hlt
  have hhas := RHas_ok (G := glT) (closeF l) l[i] (by omega) (by have := sizeL_mem hx; omega)
  rw [decide_eq_true ((closeF_ok hvl1).1.item _ hx)] at hhas
  simp -implicitDefEqProofs only [pkA, ptA, ↓reduceIte, Nat.reduceEqDiff, Nat.reduceAdd, Nat.reduceBEq, Nat.reduceMul, Nat.reduceLT, Nat.reduceLeDiff, pkT, pkU, tsC, true_and, List.append_eq, List.cons_append, List.nil_append, eq_self, decide_true, Bool.not_true, Bool.not_false, b_neq, b_eqs, owT_ow, owT_fz]
  refine ia_of ti_22 rfl ti_24 (by decide) (Int.natCast_nonneg i) (c := tmC l[i]) (by simp [hlt]) (tmC_len _) ?_
  simp -implicitDefEqProofs only [pkA, ptA, ↓reduceIte, Nat.reduceEqDiff, Nat.reduceAdd, Nat.reduceBEq, Nat.reduceMul, Nat.reduceLT, Nat.reduceLeDiff, pkT, pkU, tsC, true_and, List.append_eq, List.cons_append, List.nil_append, eq_self, decide_true, Bool.not_true, Bool.not_false, b_neq, b_eqs, owT_ow, owT_fz, ld_24 (tmC_len _)]
  refine call_fn rfl (hhas) (by first | exact (fun h => by cases h) | exact fun _ => rfl) ?_
  simp -implicitDefEqProofs only [pkA, ptA, ↓reduceIte, Nat.reduceEqDiff, Nat.reduceAdd, Nat.reduceBEq, Nat.reduceMul, Nat.reduceLT, Nat.reduceLeDiff, pkT, pkU, tsC, true_and, List.append_eq, List.cons_append, List.nil_append, eq_self, decide_true, Bool.not_true, Bool.not_false, b_neq, b_eqs, owT_ow, owT_fz]
  refine hnorm (i + 1) _ hlt (by omega) (le_hd (by simp only [leOk, List.all_cons, List.all_nil, tmC_ltB]; rfl) (Nat.zero_le _) (Nat.le_refl _) (by simp [FL, up_apply, hw2, tsC, owT]) ⟨by simp [bxs], trivial⟩)
 simp -implicitDefEqProofs only [pkA, ptA, ↓reduceIte, Nat.reduceEqDiff, Nat.reduceAdd, Nat.reduceBEq, Nat.reduceMul, Nat.reduceLT, Nat.reduceLeDiff, pkT, pkU, tsC, true_and, List.append_eq, List.cons_append, List.nil_append, eq_self, decide_true, Bool.not_true, Bool.not_false, b_neq, b_eqs, owT_ow, owT_fz]
 refine hexit _ _ ?_
 clear hnorm hexit hret hge hi
 simp -implicitDefEqProofs only [pkA, ptA, ↓reduceIte, Nat.reduceEqDiff, Nat.reduceAdd, Nat.reduceBEq, Nat.reduceMul, Nat.reduceLT, Nat.reduceLeDiff, pkT, pkU, tsC, true_and, List.append_eq, List.cons_append, List.nil_append, eq_self, decide_true, Bool.not_true, Bool.not_false, b_neq, b_eqs, owT_ow, owT_fz]
 refine run_loop (fun i : Nat => hdS [(0, .c (tsC l)), (5, .bp 0 0), (7, owT (l ++ m)), (9, .c (tsC (closeF l))), (10, .c (tsC (closeF (l ++ m)))), (13, i64 i)] [(tmC t).map .c]) (fun i => (closeF l).length - i) (fun i => i ≤ (closeF l).length) 0 (Nat.zero_le _) ?_ ?_
 ·exact le_hd (by simp only [leOk, List.all_cons, List.all_nil, tmC_ltB]; rfl) (Nat.zero_le _) (Nat.le_refl _) (by simp [FL, up_apply, tsC, owT]) ⟨by simp [up_apply, bxs], trivial⟩
 rintro i hi R hnorm hexit hret
 simp -implicitDefEqProofs only [pkA, ptA, ↓reduceIte, Nat.reduceEqDiff, Nat.reduceAdd, Nat.reduceBEq, Nat.reduceMul, Nat.reduceLT, Nat.reduceLeDiff, pkT, pkU, tsC, true_and, List.append_eq, List.cons_append, List.nil_append, eq_self, decide_true, Bool.not_true, Bool.not_false, b_neq, b_eqs, owT_ow, owT_fz]
 refine vcond_of (fun hlt => ?_) (fun hge => ?_)
 ·have hlt : i < (closeF l).length := by simpa using hlt
  have hw2 := wrap_of (n := (i : Int) + 1) (k := i + 1) (by omega) (by omega)
  have hx := List.getElem_mem hlt
  have hhas := RHas_ok (G := glT) (closeF (l ++ m)) (closeF l)[i] (by omega) (by have := sizeL_mem hx; omega)
  rw [decide_eq_true ((closeF_iff hvl).2 (((closeF_iff hvl1).1 hx).mono fun x hx => List.mem_append_left _ hx))] at hhas
  simp -implicitDefEqProofs only [pkA, ptA, ↓reduceIte, Nat.reduceEqDiff, Nat.reduceAdd, Nat.reduceBEq, Nat.reduceMul, Nat.reduceLT, Nat.reduceLeDiff, pkT, pkU, tsC, true_and, List.append_eq, List.cons_append, List.nil_append, eq_self, decide_true, Bool.not_true, Bool.not_false, b_neq, b_eqs, owT_ow, owT_fz]
  refine ia_of ti_22 rfl ti_24 (by decide) (Int.natCast_nonneg i) (c := tmC (closeF l)[i]) (by simp [hlt]) (tmC_len _) ?_
  simp -implicitDefEqProofs only [pkA, ptA, ↓reduceIte, Nat.reduceEqDiff, Nat.reduceAdd, Nat.reduceBEq, Nat.reduceMul, Nat.reduceLT, Nat.reduceLeDiff, pkT, pkU, tsC, true_and, List.append_eq, List.cons_append, List.nil_append, eq_self, decide_true, Bool.not_true, Bool.not_false, b_neq, b_eqs, owT_ow, owT_fz, ld_24 (tmC_len _)]
  refine call_fn rfl (hhas) (by first | exact (fun h => by cases h) | exact fun _ => rfl) ?_
  simp -implicitDefEqProofs only [pkA, ptA, ↓reduceIte, Nat.reduceEqDiff, Nat.reduceAdd, Nat.reduceBEq, Nat.reduceMul, Nat.reduceLT, Nat.reduceLeDiff, pkT, pkU, tsC, true_and, List.append_eq, List.cons_append, List.nil_append, eq_self, decide_true, Bool.not_true, Bool.not_false, b_neq, b_eqs, owT_ow, owT_fz]
  refine hnorm (i + 1) _ hlt (by omega) (le_hd (by simp only [leOk, List.all_cons, List.all_nil, tmC_ltB]; rfl) (Nat.zero_le _) (Nat.le_refl _) (by simp [FL, up_apply, hw2, tsC, owT]) ⟨by simp [bxs], trivial⟩)
 simp -implicitDefEqProofs only [pkA, ptA, ↓reduceIte, Nat.reduceEqDiff, Nat.reduceAdd, Nat.reduceBEq, Nat.reduceMul, Nat.reduceLT, Nat.reduceLeDiff, pkT, pkU, tsC, true_and, List.append_eq, List.cons_append, List.nil_append, eq_self, decide_true, Bool.not_true, Bool.not_false, b_neq, b_eqs, owT_ow, owT_fz]
 refine hexit _ _ ?_
 clear hnorm hexit hret hge hi
 simp -implicitDefEqProofs only [pkA, ptA, ↓reduceIte, Nat.reduceEqDiff, Nat.reduceAdd, Nat.reduceBEq, Nat.reduceMul, Nat.reduceLT, Nat.reduceLeDiff, pkT, pkU, tsC, true_and, List.append_eq, List.cons_append, List.nil_append, eq_self, decide_true, Bool.not_true, Bool.not_false, b_neq, b_eqs, owT_ow, owT_fz]
 refine call_fn rfl (hcl2) (by first | exact (fun h => by cases h) | exact fun _ => rfl) ?_
 simp -implicitDefEqProofs only [pkA, ptA, ↓reduceIte, Nat.reduceEqDiff, Nat.reduceAdd, Nat.reduceBEq, Nat.reduceMul, Nat.reduceLT, Nat.reduceLeDiff, pkT, pkU, tsC, true_and, List.append_eq, List.cons_append, List.nil_append, eq_self, decide_true, Bool.not_true, Bool.not_false, b_neq, b_eqs, isGh_some, owT_ow, owT_fz]
 refine call_fn rfl (sanity_ok) (by first | exact (fun h => by cases h) | exact fun _ => rfl) ?_
 simp -implicitDefEqProofs only [pkA, ptA, ↓reduceIte, Nat.reduceEqDiff, Nat.reduceAdd, Nat.reduceBEq, Nat.reduceMul, Nat.reduceLT, Nat.reduceLeDiff, pkT, pkU, tsC, true_and, List.append_eq, List.cons_append, List.nil_append, eq_self, decide_true, Bool.not_true, Bool.not_false, b_neq, b_eqs, isGh_some, owT_ow, owT_fz]
 refine call_fn rfl (hsm) (by first | exact (fun h => by cases h) | exact fun _ => rfl) ?_
 simp -implicitDefEqProofs only [pkA, ptA, ↓reduceIte, Nat.reduceEqDiff, Nat.reduceAdd, Nat.reduceBEq, Nat.reduceMul, Nat.reduceLT, Nat.reduceLeDiff, pkT, pkU, tsC, true_and, List.append_eq, List.cons_append, List.nil_append, eq_self, decide_true, Bool.not_true, Bool.not_false, b_neq, b_eqs, isGh_some, owT_ow, owT_fz]
 refine call_fn rfl (KnowsN_ok l t hvl1 (by omega) hvt (by omega)) (by first | exact (fun h => by cases h) | exact fun _ => rfl) ?_
 simp -implicitDefEqProofs only [pkA, ptA, ↓reduceIte, Nat.reduceEqDiff, Nat.reduceAdd, Nat.reduceBEq, Nat.reduceMul, Nat.reduceLT, Nat.reduceLeDiff, pkT, pkU, tsC, true_and, List.append_eq, List.cons_append, List.nil_append, eq_self, decide_true, Bool.not_true, Bool.not_false, b_neq, b_eqs, isGh_some, owT_ow, owT_fz]
 refine vgd_of (fun hk => ?_) (fun hk => ?_)
 ·have hk : knT l t = true := by simpa using hk
  have hk2 := KnowsN_ok (l ++ m) t hvl (by omega) hvt (by omega)
  rw [(knT_iff hvl).2 (((knT_iff hvl1).1 hk).mono fun x hx => List.mem_append_left _ hx)] at hk2
  simp -implicitDefEqProofs only [pkA, ptA, ↓reduceIte, Nat.reduceEqDiff, Nat.reduceAdd, Nat.reduceBEq, Nat.reduceMul, Nat.reduceLT, Nat.reduceLeDiff, pkT, pkU, tsC, true_and, List.append_eq, List.cons_append, List.nil_append, eq_self, decide_true, Bool.not_true, Bool.not_false, b_neq, b_eqs, isGh_some, owT_ow, owT_fz]
  refine call_fn rfl (hk2) (by first | exact (fun h => by cases h) | exact fun _ => rfl) ?_
  simp -implicitDefEqProofs only [pkA, ptA, ↓reduceIte, Nat.reduceEqDiff, Nat.reduceAdd, Nat.reduceBEq, Nat.reduceMul, Nat.reduceLT, Nat.reduceLeDiff, pkT, pkU, tsC, true_and, List.append_eq, List.cons_append, List.nil_append, eq_self, decide_true, Bool.not_true, Bool.not_false, b_neq, b_eqs, isGh_some, owT_ow, owT_fz]
 ·simp -implicitDefEqProofs only [pkA, ptA, ↓reduceIte, Nat.reduceEqDiff, Nat.reduceAdd, Nat.reduceBEq, Nat.reduceMul, Nat.reduceLT, Nat.reduceLeDiff, pkT, pkU, tsC, true_and, List.append_eq, List.cons_append, List.nil_append, eq_self, decide_true, Bool.not_true, Bool.not_false, b_neq, b_eqs, isGh_some, owT_ow, owT_fz]
