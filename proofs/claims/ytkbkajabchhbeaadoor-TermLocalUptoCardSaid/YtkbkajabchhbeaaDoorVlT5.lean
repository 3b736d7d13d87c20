/- Layer 15: the specification's Valid, Small, Same, Has. -/
import Derived.Test.YtkbkajabchhbeaaDoorVlT3
import Derived.Test.YtkbkajabchhbeaaDoorVlWord
set_option linter.unusedSimpArgs false
set_option linter.unusedVariables false
namespace Go.Proofs.YtkbkajabchhbeaaDoor
open Go Go.Vl
variable {G : Gl}
set_option maxRecDepth 4000
theorem validT_mk {k n : Int} {l : List Tm} : validT (.mk k n l) = ((decide (0 ≤ n) && decide (n ≤ 2147483647) && decide ((l.length : Int) = arityI k) && (!decide (k = 3 ∨ k = 6) || decide (n = 0))) && validL l) := rfl
theorem validL_drop {l : List Tm} {i : Nat} (h : i < l.length) : validL (l.drop i) = (validT l[i] && validL (l.drop (i + 1))) := by
 rw [List.drop_eq_getElem_cons h]; rfl
set_option maxHeartbeats 8000000 in
theorem RValid_ok : ∀ t : Tm, FnOK Tryd.prog G 11 [.agg (tmC t)] (bo (validT t)) := by
 refine Tm.ind fun k n l ih => ?_
 refine FnOK_by (rs := [.tmp 2]) false [] mixed Tryd.func11 rfl rfl rfl rfl (by kernel_rfl) (by simp) rfl rfl ?_
 repeat' first
  | (simp -implicitDefEqProofs only [pkA, ptA, ↓reduceIte, Nat.reduceEqDiff, Nat.reduceAdd, Nat.reduceBEq, Nat.reduceMul, Nat.reduceLT, Nat.reduceLeDiff, pkT, true_and, tsC])
  | refine vgd_of (fun h => ?_) (fun h => ?_)
  | refine call_fn rfl (arity_ok _) (fun _ => rfl) ?_
  | refine vcond_of (fun h => ?_) (fun h => ?_)
 all_goals try (
  show bo false = bo (validT (.mk k n l))
  rw [validT_mk]
  have e : ∀ b : Bool, b = false → bo false = bo b := fun b h => by rw [h]
  refine e _ ?_
  simp_all
  try omega)
 all_goals (
  have hv : validT (.mk k n l) = validL l := by
   rw [validT_mk]
   simp_all
  have hlen : l.length ≤ 2 := by
   have : (l.length : Int) = arityI k := by simp_all
   have h2 : arityI k ≤ 2 := by
    unfold arityI
    repeat' split
    all_goals omega
   omega
  refine run_loop (fun i : Nat => hdS [(1, .bp 0 0), (3, i64 i)] [(tmC (.mk k n l)).map .c]) (fun i => l.length - i) (fun i => i ≤ l.length ∧ validL l = validL (l.drop i)) 0 ⟨Nat.zero_le _, rfl⟩ ?_ ?_
  ·exact le_hd (by simp only [leOk, List.all_cons, List.all_nil, tmC_ltB]; rfl) (Nat.zero_le _) (Nat.le_refl _) (by simp [FL, up_apply]) ⟨by simp [up_apply], trivial⟩
  rintro i ⟨hi, he⟩ R hnorm hexit hret
  simp -implicitDefEqProofs only [pkA, ptA, ↓reduceIte, Nat.reduceEqDiff, Nat.reduceAdd, Nat.reduceBEq, Nat.reduceMul, Nat.reduceLT, Nat.reduceLeDiff, pkT, true_and, tsC]
  refine vcond_of (fun hlt => ?_) (fun hge => ?_)
  ·have hlt : i < l.length := by simpa using hlt
   simp -implicitDefEqProofs only [pkA, ptA, ↓reduceIte, Nat.reduceEqDiff, Nat.reduceAdd, Nat.reduceBEq, Nat.reduceMul, Nat.reduceLT, Nat.reduceLeDiff, pkT, true_and, tsC]
   refine ia_of ti_22 rfl ti_24 (by decide) (Int.natCast_nonneg i) (c := tmC l[i]) (by simp [Tm.l, hlt]) (tmC_len _) ?_
   simp -implicitDefEqProofs only [pkA, ptA, ↓reduceIte, Nat.reduceEqDiff, Nat.reduceAdd, Nat.reduceBEq, Nat.reduceMul, Nat.reduceLT, Nat.reduceLeDiff, pkT, true_and, tsC, ld_24 (tmC_len _)]
   refine call_fn rfl (ih l[i] (List.getElem_mem hlt)) (fun h => by cases h) ?_
   have e1 := validL_drop hlt
   have hw2 := wrap_of (n := (i : Int) + 1) (k := i + 1) (by omega) (by omega)
   simp -implicitDefEqProofs only [pkA, ptA, ↓reduceIte, Nat.reduceEqDiff, Nat.reduceAdd, Nat.reduceBEq, Nat.reduceMul, Nat.reduceLT, Nat.reduceLeDiff, pkT, true_and, tsC]
   refine vcond_of (fun hne => ?_) (fun heq => ?_)
   ·have hne : validT l[i] = false := by simpa using hne
    simp -implicitDefEqProofs only [pkA, ptA, ↓reduceIte, Nat.reduceEqDiff, Nat.reduceAdd, Nat.reduceBEq, Nat.reduceMul, Nat.reduceLT, Nat.reduceLeDiff, pkT, true_and, tsC]
    refine hret _ ?_
    simp -implicitDefEqProofs only [pkA, ptA, ↓reduceIte, Nat.reduceEqDiff, Nat.reduceAdd, Nat.reduceBEq, Nat.reduceMul, Nat.reduceLT, Nat.reduceLeDiff, pkT, true_and, tsC]
    rw [hv, he, e1, hne]; rfl
   ·have heq : validT l[i] = true := by simpa using heq
    simp -implicitDefEqProofs only [pkA, ptA, ↓reduceIte, Nat.reduceEqDiff, Nat.reduceAdd, Nat.reduceBEq, Nat.reduceMul, Nat.reduceLT, Nat.reduceLeDiff, pkT, true_and, tsC]
    refine hnorm (i + 1) _ ⟨hlt, ?_⟩ (by omega) (le_hd (by simp only [leOk, List.all_cons, List.all_nil, tmC_ltB]; rfl) (Nat.zero_le _) (Nat.le_refl _) ?_ ⟨by simp [bxs], trivial⟩)
    ·rw [he, e1, heq]; rfl
    ·simp [FL, up_apply, hw2]
  ·have : i = l.length := by simp [Tm.l] at hge; omega
   subst this
   simp -implicitDefEqProofs only [pkA, ptA, ↓reduceIte, Nat.reduceEqDiff, Nat.reduceAdd, Nat.reduceBEq, Nat.reduceMul, Nat.reduceLT, Nat.reduceLeDiff, pkT, true_and, tsC]
   refine hexit _ _ ?_
   simp -implicitDefEqProofs only [pkA, ptA, ↓reduceIte, Nat.reduceEqDiff, Nat.reduceAdd, Nat.reduceBEq, Nat.reduceMul, Nat.reduceLT, Nat.reduceLeDiff, pkT, true_and, tsC]
   rw [hv, he, List.drop_length]; rfl)
def smallL (l : List Tm) : Bool := l.all validT && decide (sizeL l ≤ 150)
theorem all_drop {l : List Tm} {i : Nat} (h : i < l.length) : (l.drop i).all validT = (validT l[i] && (l.drop (i + 1)).all validT) := by
 rw [List.drop_eq_getElem_cons h]; rfl
set_option maxHeartbeats 4000000 in
theorem RSmall_ok (l : List Tm) (hs : sizeL l ≤ 1000000000) : FnOK Tryd.prog G 38 [.c (tsC l)] (bo (smallL l)) := by
 have hll := sizeL_len l
 refine FnOK_by (rs := [.tmp 2]) false [] mixed Tryd.func38 rfl rfl rfl rfl (by kernel_rfl) (by simp) rfl rfl ?_
 simp -implicitDefEqProofs only [pkA, ptA, ↓reduceIte, Nat.reduceEqDiff, Nat.reduceAdd, Nat.reduceBEq, Nat.reduceMul, Nat.reduceLT, Nat.reduceLeDiff, pkT, true_and, tsC]
 refine run_loop (fun i : Nat => hdS [(0, .c (.sl (l.map tmC))), (3, i64 (sizeL (l.take i) : Nat)), (4, i64 i)] []) (fun i => l.length - i) (fun i => i ≤ l.length ∧ l.all validT = (l.drop i).all validT) 0 ⟨Nat.zero_le _, rfl⟩ ?_ ?_
 ·exact le_hd rfl (Nat.zero_le _) (Nat.le_refl _) (by simp [FL, up_apply, sizeL]) trivial
 rintro i ⟨hi, he⟩ R hnorm hexit hret
 simp -implicitDefEqProofs only [pkA, ptA, ↓reduceIte, Nat.reduceEqDiff, Nat.reduceAdd, Nat.reduceBEq, Nat.reduceMul, Nat.reduceLT, Nat.reduceLeDiff, pkT, true_and, tsC]
 refine vcond_of (fun hlt => ?_) (fun hge => ?_)
 ·have hlt : i < l.length := by simpa using hlt
  simp -implicitDefEqProofs only [pkA, ptA, ↓reduceIte, Nat.reduceEqDiff, Nat.reduceAdd, Nat.reduceBEq, Nat.reduceMul, Nat.reduceLT, Nat.reduceLeDiff, pkT, true_and, tsC]
  refine ia_of ti_22 rfl ti_24 (by decide) (Int.natCast_nonneg i) (c := tmC l[i]) (by simp [hlt]) (tmC_len _) ?_
  simp -implicitDefEqProofs only [pkA, ptA, ↓reduceIte, Nat.reduceEqDiff, Nat.reduceAdd, Nat.reduceBEq, Nat.reduceMul, Nat.reduceLT, Nat.reduceLeDiff, pkT, true_and, tsC, ld_24 (tmC_len _)]
  have hm := sizeL_mem (List.getElem_mem hlt)
  refine call_fn rfl (RValid_ok l[i]) (fun h => by cases h) ?_
  have e0 := all_drop hlt
  simp -implicitDefEqProofs only [pkA, ptA, ↓reduceIte, Nat.reduceEqDiff, Nat.reduceAdd, Nat.reduceBEq, Nat.reduceMul, Nat.reduceLT, Nat.reduceLeDiff, pkT, true_and, tsC]
  refine vcond_of (fun hne => ?_) (fun heq => ?_)
  ·have hne : validT l[i] = false := by simpa using hne
   simp -implicitDefEqProofs only [pkA, ptA, ↓reduceIte, Nat.reduceEqDiff, Nat.reduceAdd, Nat.reduceBEq, Nat.reduceMul, Nat.reduceLT, Nat.reduceLeDiff, pkT, true_and, tsC]
   refine hret _ ?_
   simp -implicitDefEqProofs only [pkA, ptA, ↓reduceIte, Nat.reduceEqDiff, Nat.reduceAdd, Nat.reduceBEq, Nat.reduceMul, Nat.reduceLT, Nat.reduceLeDiff, pkT, true_and, tsC]
   unfold smallL; rw [he, e0, hne]; rfl
  ·have heq : validT l[i] = true := by simpa using heq
   simp -implicitDefEqProofs only [pkA, ptA, ↓reduceIte, Nat.reduceEqDiff, Nat.reduceAdd, Nat.reduceBEq, Nat.reduceMul, Nat.reduceLT, Nat.reduceLeDiff, pkT, true_and, tsC]
   refine ia_of ti_22 rfl ti_24 (by decide) (Int.natCast_nonneg i) (c := tmC l[i]) (by simp [hlt]) (tmC_len _) ?_
   simp -implicitDefEqProofs only [pkA, ptA, ↓reduceIte, Nat.reduceEqDiff, Nat.reduceAdd, Nat.reduceBEq, Nat.reduceMul, Nat.reduceLT, Nat.reduceLeDiff, pkT, true_and, tsC, ld_24 (tmC_len _)]
   refine call_fn rfl (RSize_ok l[i] (by omega)) (fun h => by cases h) ?_
   have e1 := sizeL_take hlt
   have e2 := sizeL_le l (i + 1)
   have hw := wrap_of (n := ((sizeL (l.take i) : Nat) : Int) + (sizeT l[i] : Int)) (k := sizeL (l.take (i + 1))) (by omega) (by omega)
   have hw2 := wrap_of (n := (i : Int) + 1) (k := i + 1) (by omega) (by omega)
   simp -implicitDefEqProofs only [pkA, ptA, ↓reduceIte, Nat.reduceEqDiff, Nat.reduceAdd, Nat.reduceBEq, Nat.reduceMul, Nat.reduceLT, Nat.reduceLeDiff, pkT, true_and, tsC]
   refine hnorm (i + 1) _ ⟨hlt, ?_⟩ (by omega) (le_hd rfl (Nat.zero_le _) (Nat.zero_le _) ?_ trivial)
   ·rw [he, e0, heq]; rfl
   ·simp [FL, up_apply, hw2, hw, -Int.natCast_add]
 ·have : i = l.length := by simp at hge; omega
  subst this
  simp -implicitDefEqProofs only [pkA, ptA, ↓reduceIte, Nat.reduceEqDiff, Nat.reduceAdd, Nat.reduceBEq, Nat.reduceMul, Nat.reduceLT, Nat.reduceLeDiff, pkT, true_and, tsC]
  refine hexit _ _ ?_
  simp -implicitDefEqProofs only [pkA, ptA, ↓reduceIte, Nat.reduceEqDiff, Nat.reduceAdd, Nat.reduceBEq, Nat.reduceMul, Nat.reduceLT, Nat.reduceLeDiff, pkT, true_and, tsC]
  unfold smallL
  rw [he, List.drop_length, List.take_length]
  have : decide ((sizeL l : Int) ≤ 150) = decide (sizeL l ≤ 150) := decide_eq_decide.2 (by omega)
  rw [this]; rfl
theorem eq_drop {l m : List Tm} {i : Nat} (h1 : i < l.length) (h2 : i < m.length) : (l.drop i = m.drop i) ↔ (l[i] = m[i] ∧ l.drop (i + 1) = m.drop (i + 1)) := by
 rw [List.drop_eq_getElem_cons h1, List.drop_eq_getElem_cons h2, List.cons.injEq]
set_option maxHeartbeats 4000000 in
theorem RSame_ok (l m : List Tm) (hs : sizeL l ≤ 1000000000) (hs' : sizeL m ≤ 1000000000) : FnOK Tryd.prog G 22 [.c (tsC l), .c (tsC m)] (bo (decide (l = m))) := by
 have hll := sizeL_len l
 refine FnOK_by (rs := [.tmp 4]) false [] mixed Tryd.func22 rfl rfl rfl rfl (by kernel_rfl) (by simp) rfl rfl ?_
 simp -implicitDefEqProofs only [pkA, ptA, ↓reduceIte, Nat.reduceEqDiff, Nat.reduceAdd, Nat.reduceBEq, Nat.reduceMul, Nat.reduceLT, Nat.reduceLeDiff, pkT, true_and, tsC]
 refine vcond_of (fun hne => ?_) (fun heq => ?_)
 ·have hne : ¬ l.length = m.length := fun h => by simp [h] at hne
  simp -implicitDefEqProofs only [pkA, ptA, ↓reduceIte, Nat.reduceEqDiff, Nat.reduceAdd, Nat.reduceBEq, Nat.reduceMul, Nat.reduceLT, Nat.reduceLeDiff, pkT, true_and, tsC]
  have : ¬ l = m := fun h => hne (by rw [h])
  rw [decide_eq_false this]
 have heq : l.length = m.length := by simp at heq; omega
 simp -implicitDefEqProofs only [pkA, ptA, ↓reduceIte, Nat.reduceEqDiff, Nat.reduceAdd, Nat.reduceBEq, Nat.reduceMul, Nat.reduceLT, Nat.reduceLeDiff, pkT, true_and, tsC]
 refine run_loop (fun i : Nat => hdS [(0, .c (.sl (l.map tmC))), (1, .c (.sl (m.map tmC))), (5, i64 i)] []) (fun i => l.length - i) (fun i => i ≤ l.length ∧ (l = m ↔ l.drop i = m.drop i)) 0 ⟨Nat.zero_le _, Iff.rfl⟩ ?_ ?_
 ·exact le_hd rfl (Nat.zero_le _) (Nat.le_refl _) (by simp [FL, up_apply]) trivial
 rintro i ⟨hi, he⟩ R hnorm hexit hret
 simp -implicitDefEqProofs only [pkA, ptA, ↓reduceIte, Nat.reduceEqDiff, Nat.reduceAdd, Nat.reduceBEq, Nat.reduceMul, Nat.reduceLT, Nat.reduceLeDiff, pkT, true_and, tsC]
 refine vcond_of (fun hlt => ?_) (fun hge => ?_)
 ·have hlt : i < l.length := by simpa using hlt
  have hlm : i < m.length := by omega
  simp -implicitDefEqProofs only [pkA, ptA, ↓reduceIte, Nat.reduceEqDiff, Nat.reduceAdd, Nat.reduceBEq, Nat.reduceMul, Nat.reduceLT, Nat.reduceLeDiff, pkT, true_and, tsC]
  refine ia_of ti_22 rfl ti_24 (by decide) (Int.natCast_nonneg i) (c := tmC l[i]) (by simp [hlt]) (tmC_len _) ?_
  simp -implicitDefEqProofs only [pkA, ptA, ↓reduceIte, Nat.reduceEqDiff, Nat.reduceAdd, Nat.reduceBEq, Nat.reduceMul, Nat.reduceLT, Nat.reduceLeDiff, pkT, true_and, tsC, ld_24 (tmC_len _)]
  refine ia_of ti_22 rfl ti_24 (by decide) (Int.natCast_nonneg i) (c := tmC m[i]) (by simp [hlm]) (tmC_len _) ?_
  simp -implicitDefEqProofs only [pkA, ptA, ↓reduceIte, Nat.reduceEqDiff, Nat.reduceAdd, Nat.reduceBEq, Nat.reduceMul, Nat.reduceLT, Nat.reduceLeDiff, pkT, true_and, tsC, ld_24 (tmC_len _)]
  have q1 := sizeL_mem (List.getElem_mem hlt)
  have q2 := sizeL_mem (List.getElem_mem hlm)
  refine call_fn rfl (RCompare_ok l[i] m[i] (by omega) (by omega)) (fun h => by cases h) ?_
  have e1 := eq_drop hlt hlm
  have hw2 := wrap_of (n := (i : Int) + 1) (k := i + 1) (by omega) (by omega)
  simp -implicitDefEqProofs only [pkA, ptA, ↓reduceIte, Nat.reduceEqDiff, Nat.reduceAdd, Nat.reduceBEq, Nat.reduceMul, Nat.reduceLT, Nat.reduceLeDiff, pkT, true_and, tsC]
  refine vcond_of (fun hne => ?_) (fun heq2 => ?_)
  ·have hne : ¬ cmpT l[i] m[i] = 0 := by simpa using hne
   rw [cmpT_zero] at hne
   simp -implicitDefEqProofs only [pkA, ptA, ↓reduceIte, Nat.reduceEqDiff, Nat.reduceAdd, Nat.reduceBEq, Nat.reduceMul, Nat.reduceLT, Nat.reduceLeDiff, pkT, true_and, tsC]
   refine hret _ ?_
   simp -implicitDefEqProofs only [pkA, ptA, ↓reduceIte, Nat.reduceEqDiff, Nat.reduceAdd, Nat.reduceBEq, Nat.reduceMul, Nat.reduceLT, Nat.reduceLeDiff, pkT, true_and, tsC]
   have : ¬ l = m := fun h => hne (e1.1 (he.1 h)).1
   rw [decide_eq_false this]
  ·have heq2 : cmpT l[i] m[i] = 0 := by simpa using heq2
   rw [cmpT_zero] at heq2
   simp -implicitDefEqProofs only [pkA, ptA, ↓reduceIte, Nat.reduceEqDiff, Nat.reduceAdd, Nat.reduceBEq, Nat.reduceMul, Nat.reduceLT, Nat.reduceLeDiff, pkT, true_and, tsC]
   refine hnorm (i + 1) _ ⟨hlt, ?_⟩ (by omega) (le_hd rfl (Nat.zero_le _) (Nat.zero_le _) ?_ trivial)
   ·rw [he, e1]; simp [heq2]
   ·simp [FL, up_apply, hw2]
 ·have : i = l.length := by simp at hge; omega
  subst this
  simp -implicitDefEqProofs only [pkA, ptA, ↓reduceIte, Nat.reduceEqDiff, Nat.reduceAdd, Nat.reduceBEq, Nat.reduceMul, Nat.reduceLT, Nat.reduceLeDiff, pkT, true_and, tsC]
  refine hexit _ _ ?_
  simp -implicitDefEqProofs only [pkA, ptA, ↓reduceIte, Nat.reduceEqDiff, Nat.reduceAdd, Nat.reduceBEq, Nat.reduceMul, Nat.reduceLT, Nat.reduceLeDiff, pkT, true_and, tsC]
  have : l = m := he.2 (by rw [List.drop_length, heq, List.drop_length])
  rw [decide_eq_true this]
theorem mem_drop_cons {l : List Tm} {t : Tm} {i : Nat} (h : i < l.length) : t ∈ l.drop i ↔ (l[i] = t ∨ t ∈ l.drop (i + 1)) := by
 rw [List.drop_eq_getElem_cons h, List.mem_cons]
 constructor <;> (rintro (h | h); exact .inl h.symm; exact .inr h)
set_option maxHeartbeats 4000000 in
theorem RHas_ok (l : List Tm) (t : Tm) (hs : sizeL l ≤ 1000000000) (ht : sizeT t ≤ 1000000000) : FnOK Tryd.prog G 29 [.c (tsC l), .agg (tmC t)] (bo (decide (t ∈ l))) := by
 have hll := sizeL_len l
 refine FnOK_by (rs := [.tmp 4]) false [] mixed Tryd.func29 rfl rfl rfl rfl (by kernel_rfl) (by simp) rfl rfl ?_
 simp -implicitDefEqProofs only [pkA, ptA, ↓reduceIte, Nat.reduceEqDiff, Nat.reduceAdd, Nat.reduceBEq, Nat.reduceMul, Nat.reduceLT, Nat.reduceLeDiff, pkT, true_and, tsC]
 refine run_loop (fun i : Nat => hdS [(0, .c (.sl (l.map tmC))), (3, .bp 0 0), (5, i64 i)] [(tmC t).map .c]) (fun i => l.length - i) (fun i => i ≤ l.length ∧ (t ∈ l ↔ t ∈ l.drop i)) 0 ⟨Nat.zero_le _, Iff.rfl⟩ ?_ ?_
 ·exact le_hd (by simp only [leOk, List.all_cons, List.all_nil, tmC_ltB]; rfl) (Nat.zero_le _) (Nat.le_refl _) (by simp [FL, up_apply]) ⟨by simp [up_apply], trivial⟩
 rintro i ⟨hi, he⟩ R hnorm hexit hret
 simp -implicitDefEqProofs only [pkA, ptA, ↓reduceIte, Nat.reduceEqDiff, Nat.reduceAdd, Nat.reduceBEq, Nat.reduceMul, Nat.reduceLT, Nat.reduceLeDiff, pkT, true_and, tsC]
 refine vcond_of (fun hlt => ?_) (fun hge => ?_)
 ·have hlt : i < l.length := by simpa using hlt
  simp -implicitDefEqProofs only [pkA, ptA, ↓reduceIte, Nat.reduceEqDiff, Nat.reduceAdd, Nat.reduceBEq, Nat.reduceMul, Nat.reduceLT, Nat.reduceLeDiff, pkT, true_and, tsC]
  refine ia_of ti_22 rfl ti_24 (by decide) (Int.natCast_nonneg i) (c := tmC l[i]) (by simp [hlt]) (tmC_len _) ?_
  simp -implicitDefEqProofs only [pkA, ptA, ↓reduceIte, Nat.reduceEqDiff, Nat.reduceAdd, Nat.reduceBEq, Nat.reduceMul, Nat.reduceLT, Nat.reduceLeDiff, pkT, true_and, tsC, ld_24 (tmC_len _)]
  have q1 := sizeL_mem (List.getElem_mem hlt)
  refine call_fn rfl (RCompare_ok l[i] t (by omega) ht) (fun h => by cases h) ?_
  have e1 := mem_drop_cons (t := t) hlt
  have hw2 := wrap_of (n := (i : Int) + 1) (k := i + 1) (by omega) (by omega)
  simp -implicitDefEqProofs only [pkA, ptA, ↓reduceIte, Nat.reduceEqDiff, Nat.reduceAdd, Nat.reduceBEq, Nat.reduceMul, Nat.reduceLT, Nat.reduceLeDiff, pkT, true_and, tsC]
  refine vcond_of (fun heq => ?_) (fun hne => ?_)
  ·have heq : cmpT l[i] t = 0 := by simpa using heq
   rw [cmpT_zero] at heq
   simp -implicitDefEqProofs only [pkA, ptA, ↓reduceIte, Nat.reduceEqDiff, Nat.reduceAdd, Nat.reduceBEq, Nat.reduceMul, Nat.reduceLT, Nat.reduceLeDiff, pkT, true_and, tsC]
   refine hret _ ?_
   simp -implicitDefEqProofs only [pkA, ptA, ↓reduceIte, Nat.reduceEqDiff, Nat.reduceAdd, Nat.reduceBEq, Nat.reduceMul, Nat.reduceLT, Nat.reduceLeDiff, pkT, true_and, tsC]
   rw [decide_eq_true (he.2 (e1.2 (.inl heq)))]
  ·have hne : ¬ cmpT l[i] t = 0 := by simpa using hne
   rw [cmpT_zero] at hne
   simp -implicitDefEqProofs only [pkA, ptA, ↓reduceIte, Nat.reduceEqDiff, Nat.reduceAdd, Nat.reduceBEq, Nat.reduceMul, Nat.reduceLT, Nat.reduceLeDiff, pkT, true_and, tsC]
   refine hnorm (i + 1) _ ⟨hlt, ?_⟩ (by omega) (le_hd (by simp only [leOk, List.all_cons, List.all_nil, tmC_ltB]; rfl) (Nat.zero_le _) (Nat.le_refl _) ?_ ⟨by simp [bxs], trivial⟩)
   ·rw [he, e1]; simp [hne]
   ·simp [FL, up_apply, hw2]
 ·have : i = l.length := by simp at hge; omega
  subst this
  simp -implicitDefEqProofs only [pkA, ptA, ↓reduceIte, Nat.reduceEqDiff, Nat.reduceAdd, Nat.reduceBEq, Nat.reduceMul, Nat.reduceLT, Nat.reduceLeDiff, pkT, true_and, tsC]
  refine hexit _ _ ?_
  simp -implicitDefEqProofs only [pkA, ptA, ↓reduceIte, Nat.reduceEqDiff, Nat.reduceAdd, Nat.reduceBEq, Nat.reduceMul, Nat.reduceLT, Nat.reduceLeDiff, pkT, true_and, tsC]
  have : ¬ t ∈ l := fun h => by have := he.1 h; rw [List.drop_length] at this; cases this
  rw [decide_eq_false this]
end Go.Proofs.YtkbkajabchhbeaaDoor
/- Layer 15: the specification's Text. -/
namespace Go.Proofs.YtkbkajabchhbeaaDoor
open Go Go.Vl
variable {G : Gl}
set_option maxRecDepth 4000
theorem s_add {a b : B} {K : V → Prop} (h : a.length + b.length ≤ 9223372036854775807) (hK : K (sv (a ++ b))) : vstr .add (bs8 a) (bs8 b) K := by
 unfold vstr
 have e : bs8 a ++ bs8 b = bs8 (a ++ b) := by unfold bs8; apply ByteArray.ext; simp
 rw [e]
 exact ⟨by simpa [bs8, ByteArray.size] using h, hK⟩
theorem decF_fuel : ∀ (f g n : Nat), n < 10 ^ f → n < 10 ^ g → 0 < f → 0 < g → decF f n = decF g n
 | 0, _, _, _, _, h, _ => absurd h (Nat.lt_irrefl _)
 | _, 0, _, _, _, _, h => absurd h (Nat.lt_irrefl _)
 | f + 1, g + 1, n, hf, hg, _, _ => by
  unfold decF
  split
  ·rfl
  ·rename_i hn
   rw [Nat.pow_succ] at hf hg
   have hf0 : 0 < f := by
    rcases Nat.eq_zero_or_pos f with h | h
    ·subst h; simp at hf; omega
    ·exact h
   have hg0 : 0 < g := by
    rcases Nat.eq_zero_or_pos g with h | h
    ·subst h; simp at hg; omega
    ·exact h
   rw [decF_fuel f g (n / 10) (by omega) (by omega) hf0 hg0]
theorem ten20 : (10 : Nat) ^ 20 = 100000000000000000000 := by decide
theorem ten19 : (10 : Nat) ^ 19 = 10000000000000000000 := by decide
theorem dec_rec {n : Nat} (h : n < 10000000000000000000) : dec n = if n < 10 then [UInt8.ofNat (48 + n)] else dec (n / 10) ++ [UInt8.ofNat (48 + n % 10)] := by
 have e : dec n = if n < 10 then [UInt8.ofNat (48 + n)] else decF 19 (n / 10) ++ [UInt8.ofNat (48 + n % 10)] := rfl
 rw [e]
 split
 ·rfl
 ·unfold dec
  rw [decF_fuel 19 20 (n / 10) (by rw [ten19]; omega) (by rw [ten20]; omega) (by decide) (by decide)]
theorem decF_len : ∀ (f n : Nat), (decF f n).length ≤ f
 | 0, _ => Nat.le_refl _
 | f + 1, n => by
  unfold decF
  split
  ·simp
  ·have := decF_len f (n / 10)
   simp; omega
theorem dec_len (n : Nat) : (dec n).length ≤ 20 := decF_len 20 n
theorem headK_len (k n : Int) : (headK k n).length ≤ 24 := by
 unfold headK
 rw [List.length_append]
 have h1 : (nameK k).length ≤ 4 := by
  unfold nameK
  repeat' split
  all_goals simp
 have h2 : (if countK k = true then dec n.toNat else []).length ≤ 20 := by split; exact dec_len _; simp
 omega
theorem joinB_len : ∀ l : List By, (joinB l).length ≤ (l.map fun x => x.length + 1).sum
 | [] => by simp [joinB]
 | [a] => by simp [joinB]
 | a :: b :: l => by
  have := joinB_len (b :: l)
  simp only [joinB, List.length_append, List.length_cons, List.map_cons, List.sum_cons] at *
  omega
theorem textL_len {l : List Tm} (h : ∀ t ∈ l, (textT t).length + 1 ≤ 31 * sizeT t) : ((textL l).map fun x => x.length + 1).sum ≤ 31 * sizeL l := by
 induction l with
 | nil => simp [textL]
 | cons t l ih =>
  have h1 := h t (List.mem_cons_self ..)
  have h2 := ih fun t ht => h t (List.mem_cons_of_mem _ ht)
  simp only [textL, List.map_cons, List.sum_cons, sizeL]
  omega
theorem textT_len : ∀ t : Tm, (textT t).length + 1 ≤ 31 * sizeT t := by
 refine Tm.ind fun k n l ih => ?_
 have h1 := headK_len k n
 have h2 := joinB_len (textL l)
 have h3 := textL_len ih
 simp only [textT, sizeT, List.length_append]
 split
 ·simp; omega
 ·simp only [List.length_cons, List.length_append, List.length_nil]; omega
def dig (n : Nat) : UInt8 := UInt8.ofNat (48 + n)
set_option maxHeartbeats 2000000 in
theorem digits_ok (N : Nat) (hN : N ≤ 9223372036854775807) : FnOK Tryd.prog G 45 [i64 N] (sv (dec N)) := by
 refine FnOK_by (rs := [.tmp 2]) false [] mixed Tryd.func45 rfl rfl rfl rfl (by kernel_rfl) (by simp) rfl rfl ?_
 have hr : ∀ (m : Nat) K, vint .rem .i64 (m : Int) 10 K = K (i64 ((m % 10 : Nat) : Int)) := fun m K => by
  unfold vint; simp only [ne_eq, Int.reduceEq, not_false_eq_true, true_and]; rfl
 have hq : ∀ (m : Nat) K, m ≤ 9223372036854775807 → vint .quo .i64 (m : Int) 10 K = K (i64 ((m / 10 : Nat) : Int)) := fun m K hm => by
  unfold vint; simp only [ne_eq, Int.reduceEq, not_false_eq_true, true_and]
  have : ((m : Int).tdiv 10) = ((m / 10 : Nat) : Int) := rfl
  rw [this, wrap_of (k := m / 10) rfl (by omega)]
 have hw : ∀ m : Nat, IntKind.i64.wrap (48 + ((m % 10 : Nat) : Int)) = ((48 + m % 10 : Nat) : Int) := fun m => wrap_of (by omega) (by omega)
 have hcv : ∀ (n : Nat) K, vconv Tryd.prog 3 5 (i64 (n : Int)) K = K (.c (bc (UInt8.ofNat n))) := fun n K => conv_q8 ti_3 ti_5 rfl
 have hcs : ∀ (x : UInt8) K, vconv Tryd.prog 65 9 (.c (.sl [[bc x]])) K = K (sv [x]) := fun x K => conv_bs (l := [x]) ti_65 rfl ti_9 rfl ti_5 rfl
 simp -implicitDefEqProofs only [pkA, ptA, ↓reduceIte, Nat.reduceEqDiff, Nat.reduceAdd, Nat.reduceBEq, Nat.reduceMul, Nat.reduceLT, Nat.reduceLeDiff, hr, hw, hcv, hcs]
 refine run_loop (fun q : Nat × B => hdS [(0, i64 q.1), (3, sv q.2)] []) (fun q => q.1) (fun q => q.1 ≤ 9223372036854775807 ∧ dec N = (if q.1 < 10 then [] else dec (q.1 / 10)) ++ q.2 ∧ q.2.length ≤ 20) (N, [dig (N % 10)]) ⟨hN, ?_, by simp⟩ ?_ ?_
 ·show dec N = (if N < 10 then [] else dec (N / 10)) ++ [dig (N % 10)]
  rw [dec_rec (by omega)]
  split
  ·rename_i h; simp [dig, Nat.mod_eq_of_lt h]
  ·rfl
 ·exact le_hd rfl (Nat.zero_le _) (Nat.le_refl _) (by simp [FL, up_apply, dig]) trivial
 rintro ⟨m, s⟩ ⟨hm, he, hsl⟩ R hnorm hexit hret
 simp only at hm he hsl
 simp -implicitDefEqProofs only [pkA, ptA, ↓reduceIte, Nat.reduceEqDiff, Nat.reduceAdd, Nat.reduceBEq, Nat.reduceMul, Nat.reduceLT, Nat.reduceLeDiff, hr, hw, hcv, hcs]
 refine vcond_of (fun hlt => ?_) (fun hge => ?_)
 ·have hlt : 9 < m := by simp at hlt; omega
  have hq' := fun K => hq m K hm
  have hadd : ∀ (x : UInt8) K, K (sv (x :: s)) → vstr .add (bs8 [x]) (bs8 s) K := fun x K hK => s_add (by simp; omega) hK
  have hdl := dec_len N
  have e2 : dec N = (if m / 10 < 10 then [] else dec (m / 10 / 10)) ++ (dig (m / 10 % 10) :: s) := by
   rw [he, if_neg (by omega), dec_rec (by omega)]
   split
   ·rename_i h; simp [dig, Nat.mod_eq_of_lt h]
   ·simp [dig]
  have hl2 : (dig (m / 10 % 10) :: s).length ≤ 20 := by
   rw [e2, List.length_append] at hdl; omega
  simp -implicitDefEqProofs only [pkA, ptA, ↓reduceIte, Nat.reduceEqDiff, Nat.reduceAdd, Nat.reduceBEq, Nat.reduceMul, Nat.reduceLT, Nat.reduceLeDiff, hr, hw, hcv, hcs, hq']
  refine hadd _ _ ?_
  simp -implicitDefEqProofs only [pkA, ptA, ↓reduceIte, Nat.reduceEqDiff, Nat.reduceAdd, Nat.reduceBEq, Nat.reduceMul, Nat.reduceLT, Nat.reduceLeDiff, hr, hw, hcv, hcs, hq']
  exact hnorm (m / 10, dig (m / 10 % 10) :: s) _ ⟨by simp only; omega, e2, hl2⟩ (by simp only; omega) (le_hd rfl (Nat.zero_le _) (Nat.zero_le _) (by simp [FL, up_apply, dig]) trivial)
 ·have hge : m < 10 := by simp at hge; omega
  simp -implicitDefEqProofs only [pkA, ptA, ↓reduceIte, Nat.reduceEqDiff, Nat.reduceAdd, Nat.reduceBEq, Nat.reduceMul, Nat.reduceLT, Nat.reduceLeDiff, hr, hw, hcv, hcs]
  refine hexit _ _ ?_
  simp -implicitDefEqProofs only [pkA, ptA, ↓reduceIte, Nat.reduceEqDiff, Nat.reduceAdd, Nat.reduceBEq, Nat.reduceMul, Nat.reduceLT, Nat.reduceLeDiff, hr, hw, hcv, hcs]
  rw [he, if_pos hge]; rfl
