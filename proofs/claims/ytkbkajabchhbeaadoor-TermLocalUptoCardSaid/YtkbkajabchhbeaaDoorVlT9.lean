/- Layer 15: the specification's Put, built. -/
import Derived.Test.YtkbkajabchhbeaaDoorVlT6
set_option linter.unusedSimpArgs false
set_option linter.unusedVariables false
namespace Go.Proofs.YtkbkajabchhbeaaDoor
open Go Go.Vl
variable {G : Gl}
set_option maxRecDepth 4000
def owT (l : List Tm) : V := .ow (if l.isEmpty then none else some (24, 3)) (l.map tmC)
theorem owT_fz {l : List Tm} : (owT l).fz = .c (.sl (l.map tmC)) := rfl
theorem owT_ow {l : List Tm} : (owT l).isOw = true := rfl
theorem owT_ltB {l : List Tm} {m : Nat} : (owT l).ltB m = true := rfl
theorem len_tm {l : List Tm} : ∀ x ∈ l.map tmC, x.length = 3 := fun x hx => by
 obtain ⟨t, _, rfl⟩ := List.mem_map.1 hx; exact tmC_len t
theorem appT {l m : List Tm} {K : V → Prop} (h : l.length + m.length ≤ 1000000000) (hK : K (owT (l ++ m))) : vappend Tryd.prog 22 (owT l) (.c (.sl (m.map tmC))) K := by
 unfold owT
 rw [app_22]
 refine ⟨⟨by cases l <;> simp, len_tm⟩, ⟨by simp only [List.length_map]; omega, by simp only [List.length_map]; omega, len_tm⟩, ?_⟩
 have e : (if (m.map tmC).isEmpty = true then (if l.isEmpty = true then none else some (24, 3)) else some (24, 3)) = if (l ++ m).isEmpty = true then none else some (24, 3) := by
  cases l <;> cases m <;> simp
 rw [e, ← List.map_append]; exact hK
theorem appT1 {l : List Tm} {x : Tm} {K : V → Prop} (h : l.length + 1 ≤ 1000000000) (hK : K (owT (l ++ [x]))) : vappend Tryd.prog 22 (owT l) (.c (.sl [tmC x])) K := appT (m := [x]) h hK
def allLt (t : Tm) (m : List Tm) : Bool := m.all fun x => ltT x t
def outP (t : Tm) (m : List Tm) : List Tm := if allLt t m = true then m else m.takeWhile (fun x => ltT x t) ++ t :: m.dropWhile (fun x => ltT x t)
theorem tw_all {t : Tm} {m : List Tm} (h : allLt t m = true) : m.takeWhile (fun x => ltT x t) = m ∧ m.dropWhile (fun x => ltT x t) = [] := by
 induction m with
 | nil => exact ⟨rfl, rfl⟩
 | cons x m ih =>
  simp only [allLt, List.all_cons, Bool.and_eq_true] at h
  obtain ⟨i1, i2⟩ := ih h.2
  simp only [List.takeWhile_cons, List.dropWhile_cons, h.1, if_true, i1, i2, and_self]
theorem tw_snoc {t x : Tm} : ∀ {m : List Tm}, (m ++ [x]).takeWhile (fun x => ltT x t) = (if allLt t m = true then m ++ (if ltT x t = true then [x] else []) else m.takeWhile (fun x => ltT x t)) ∧ (m ++ [x]).dropWhile (fun x => ltT x t) = (if allLt t m = true then (if ltT x t = true then [] else [x]) else m.dropWhile (fun x => ltT x t) ++ [x])
 | [] => by
  simp only [List.nil_append, List.takeWhile_cons, List.dropWhile_cons, allLt, List.all_nil, if_true, List.takeWhile_nil, List.dropWhile_nil]
  exact ⟨trivial, trivial⟩
 | y :: m => by
  obtain ⟨i1, i2⟩ := @tw_snoc t x m
  simp only [List.cons_append, List.takeWhile_cons, List.dropWhile_cons, i1, i2, allLt, List.all_cons]
  cases h : ltT y t
  ·simp
  ·simp only [if_true, Bool.true_and]
   rcases Bool.eq_false_or_eq_true (m.all fun x => ltT x t) with h2 | h2
   ·simp only [h2, ↓reduceIte, List.cons_append, and_self]
   ·simp only [h2, ↓reduceIte, Bool.false_eq_true, and_self]
theorem outP_snoc {t x : Tm} {m : List Tm} : outP t (m ++ [x]) = if allLt t m = true ∧ ltT x t = false then outP t m ++ [t] ++ [x] else outP t m ++ [x] := by
 unfold outP
 obtain ⟨h1, h2⟩ := @tw_snoc t x m
 rw [h1, h2]
 have ha : allLt t (m ++ [x]) = (allLt t m && ltT x t) := by simp [allLt]
 rw [ha]
 cases hm : allLt t m <;> cases hx : ltT x t <;> simp
theorem putT_out {l : List Tm} {t : Tm} (h : t ∉ l) : putT l t = if allLt t l = true then outP t l ++ [t] else outP t l := by
 unfold putT outP
 rw [if_neg h]
 split
 ·rename_i ha
  obtain ⟨h1, h2⟩ := tw_all ha
  rw [h1, h2]
 ·rfl
theorem outP_len {t : Tm} {m : List Tm} : (outP t m).length ≤ m.length + 1 := by
 unfold outP
 split
 ·omega
 ·have := congrArg List.length (List.takeWhile_append_dropWhile (p := fun x => ltT x t) (l := m))
  rw [List.length_append] at this
  rw [List.length_append, List.length_cons]; omega
theorem notmem_snoc {l : List Tm} {t : Tm} {i : Nat} (h : i < l.length) (h1 : t ∉ l.take i) (h2 : l[i] ≠ t) : t ∉ l.take (i + 1) := by
 rw [List.take_succ_eq_append_getElem h, List.mem_append, List.mem_singleton]
 rintro (h3 | h3)
 ·exact h1 h3
 ·exact h2 h3.symm
set_option maxHeartbeats 8000000 in
theorem RPut_ok (l : List Tm) (t : Tm) (hs : sizeL l ≤ 900000000) (ht : sizeT t ≤ 900000000) : FnOK Tryd.prog G 31 [.c (tsC l), .agg (tmC t)] (.c (tsC (putT l t))) := by
 have hll := sizeL_len l
 refine FnOK_by (rs := [.tmp 4]) true [30, 34, 43] mixed Tryd.func31 rfl rfl rfl rfl (by kernel_rfl) (by simp) rfl rfl ?_
 simp -implicitDefEqProofs only [pkA, ptA, ↓reduceIte, Nat.reduceEqDiff, Nat.reduceAdd, Nat.reduceBEq, Nat.reduceMul, Nat.reduceLT, Nat.reduceLeDiff, pkT, true_and, tsC]
 refine run_loop (fun i : Nat => hdS [(0, .c (.sl (l.map tmC))), (3, .bp 0 0), (5, owT (outP t (l.take i))), (6, bo (!allLt t (l.take i))), (7, i64 i)] [(tmC t).map .c]) (fun i => l.length - i) (fun i => i ≤ l.length ∧ t ∉ l.take i) 0 ⟨Nat.zero_le _, by simp⟩ ?_ ?_
 ·exact le_hd (by simp only [leOk, List.all_cons, List.all_nil, tmC_ltB]; rfl) (Nat.zero_le _) (Nat.le_refl _) (by simp [FL, up_apply, outP, allLt, owT]) ⟨by simp [up_apply], trivial⟩
 rintro i ⟨hi, hnm⟩ R hnorm hexit hret
 have hol := @outP_len t (l.take i)
 rw [List.length_take] at hol
 simp -implicitDefEqProofs only [pkA, ptA, ↓reduceIte, Nat.reduceEqDiff, Nat.reduceAdd, Nat.reduceBEq, Nat.reduceMul, Nat.reduceLT, Nat.reduceLeDiff, pkT, true_and, tsC, owT_ow, owT_fz]
 refine vcond_of (fun hlt => ?_) (fun hge => ?_)
 ·have hlt : i < l.length := by simpa using hlt
  simp -implicitDefEqProofs only [pkA, ptA, ↓reduceIte, Nat.reduceEqDiff, Nat.reduceAdd, Nat.reduceBEq, Nat.reduceMul, Nat.reduceLT, Nat.reduceLeDiff, pkT, true_and, tsC, owT_ow, owT_fz]
  refine ia_of ti_22 rfl ti_24 (by decide) (Int.natCast_nonneg i) (c := tmC l[i]) (by simp [hlt]) (tmC_len _) ?_
  simp -implicitDefEqProofs only [pkA, ptA, ↓reduceIte, Nat.reduceEqDiff, Nat.reduceAdd, Nat.reduceBEq, Nat.reduceMul, Nat.reduceLT, Nat.reduceLeDiff, pkT, true_and, tsC, owT_ow, owT_fz, ld_24 (tmC_len _)]
  have q1 := sizeL_mem (List.getElem_mem hlt)
  refine call_fn rfl (RCompare_ok t l[i] (by omega) (by omega)) (fun h => by cases h) ?_
  have hw2 := wrap_of (n := (i : Int) + 1) (k := i + 1) (by omega) (by omega)
  simp -implicitDefEqProofs only [pkA, ptA, ↓reduceIte, Nat.reduceEqDiff, Nat.reduceAdd, Nat.reduceBEq, Nat.reduceMul, Nat.reduceLT, Nat.reduceLeDiff, pkT, true_and, tsC, owT_ow, owT_fz]
  refine vcond_of (fun heq => ?_) (fun hne => ?_)
  ·have heq : cmpT t l[i] = 0 := by simpa using heq
   rw [cmpT_zero] at heq
   simp -implicitDefEqProofs only [pkA, ptA, ↓reduceIte, Nat.reduceEqDiff, Nat.reduceAdd, Nat.reduceBEq, Nat.reduceMul, Nat.reduceLT, Nat.reduceLeDiff, pkT, true_and, tsC, owT_ow, owT_fz]
   refine hret _ ?_
   simp -implicitDefEqProofs only [pkA, ptA, ↓reduceIte, Nat.reduceEqDiff, Nat.reduceAdd, Nat.reduceBEq, Nat.reduceMul, Nat.reduceLT, Nat.reduceLeDiff, pkT, true_and, tsC, owT_ow, owT_fz]
   have : t ∈ l := heq ▸ List.getElem_mem hlt
   unfold putT; rw [if_pos this]; rfl
  have hne : ¬ cmpT t l[i] = 0 := by simpa using hne
  have hne' : l[i] ≠ t := fun h => hne (cmpT_zero.2 h.symm)
  have hnm' := notmem_snoc hlt hnm hne'
  have hlx : ltT l[i] t = !decide (cmpT t l[i] < 0) := by
   have h1 := @cmpT_neg l[i] t
   unfold ltT
   cases h : decide (cmpT t l[i] < 0) <;> simp at h ⊢ <;> omega
  have hout := @outP_snoc t l[i] (l.take i)
  rw [← List.take_succ_eq_append_getElem hlt] at hout
  have hal : allLt t (l.take (i + 1)) = (allLt t (l.take i) && ltT l[i] t) := by rw [List.take_succ_eq_append_getElem hlt]; unfold allLt; rw [List.all_append]; simp
  have hm1 : (l.take i).length ≤ i := List.length_take_le ..
  simp -implicitDefEqProofs only [pkA, ptA, ↓reduceIte, Nat.reduceEqDiff, Nat.reduceAdd, Nat.reduceBEq, Nat.reduceMul, Nat.reduceLT, Nat.reduceLeDiff, pkT, true_and, tsC, owT_ow, owT_fz]
  refine vgd_of (fun hneg => ?_) (fun hpos => ?_)
  ·have hneg : decide (cmpT t l[i] < 0) = true := hneg
   rw [hneg, Bool.not_true] at hlx
   rw [hlx, Bool.and_false] at hal
   simp -implicitDefEqProofs only [pkA, ptA, ↓reduceIte, Nat.reduceEqDiff, Nat.reduceAdd, Nat.reduceBEq, Nat.reduceMul, Nat.reduceLT, Nat.reduceLeDiff, pkT, true_and, tsC, owT_ow, owT_fz]
   refine vcond_of (fun hnp => ?_) (fun hp => ?_)
   ·have hnp : allLt t (l.take i) = true := by simpa using hnp
    rw [if_pos ⟨hnp, hlx⟩] at hout
    simp -implicitDefEqProofs only [pkA, ptA, ↓reduceIte, Nat.reduceEqDiff, Nat.reduceAdd, Nat.reduceBEq, Nat.reduceMul, Nat.reduceLT, Nat.reduceLeDiff, pkT, true_and, tsC, owT_ow, owT_fz]
    refine appT1 (by omega) ?_
    simp -implicitDefEqProofs only [pkA, ptA, ↓reduceIte, Nat.reduceEqDiff, Nat.reduceAdd, Nat.reduceBEq, Nat.reduceMul, Nat.reduceLT, Nat.reduceLeDiff, pkT, true_and, tsC, owT_ow, owT_fz]
    refine ia_of ti_22 rfl ti_24 (by decide) (Int.natCast_nonneg i) (c := tmC l[i]) (by simp [hlt]) (tmC_len _) ?_
    simp -implicitDefEqProofs only [pkA, ptA, ↓reduceIte, Nat.reduceEqDiff, Nat.reduceAdd, Nat.reduceBEq, Nat.reduceMul, Nat.reduceLT, Nat.reduceLeDiff, pkT, true_and, tsC, owT_ow, owT_fz, ld_24 (tmC_len _)]
    refine appT1 (by (try simp only [List.length_append, List.length_singleton]); omega) ?_
    simp -implicitDefEqProofs only [pkA, ptA, ↓reduceIte, Nat.reduceEqDiff, Nat.reduceAdd, Nat.reduceBEq, Nat.reduceMul, Nat.reduceLT, Nat.reduceLeDiff, pkT, true_and, tsC, owT_ow, owT_fz]
    refine hnorm (i + 1) _ ⟨hlt, hnm'⟩ (by omega) (le_hd (by simp only [leOk, List.all_cons, List.all_nil, tmC_ltB]; rfl) (Nat.zero_le _) (Nat.le_refl _) ?_ ⟨by simp [bxs], trivial⟩)
    simp only [FL, up_apply, Nat.reduceEqDiff, ↓reduceIte, hw2, hout, hal, Bool.not_false, and_self]
   ·have hp : allLt t (l.take i) = false := by simpa using hp
    rw [if_neg (by simp [hp])] at hout
    simp -implicitDefEqProofs only [pkA, ptA, ↓reduceIte, Nat.reduceEqDiff, Nat.reduceAdd, Nat.reduceBEq, Nat.reduceMul, Nat.reduceLT, Nat.reduceLeDiff, pkT, true_and, tsC, owT_ow, owT_fz]
    refine ia_of ti_22 rfl ti_24 (by decide) (Int.natCast_nonneg i) (c := tmC l[i]) (by simp [hlt]) (tmC_len _) ?_
    simp -implicitDefEqProofs only [pkA, ptA, ↓reduceIte, Nat.reduceEqDiff, Nat.reduceAdd, Nat.reduceBEq, Nat.reduceMul, Nat.reduceLT, Nat.reduceLeDiff, pkT, true_and, tsC, owT_ow, owT_fz, ld_24 (tmC_len _)]
    refine appT1 (by (try simp only [List.length_append, List.length_singleton]); omega) ?_
    simp -implicitDefEqProofs only [pkA, ptA, ↓reduceIte, Nat.reduceEqDiff, Nat.reduceAdd, Nat.reduceBEq, Nat.reduceMul, Nat.reduceLT, Nat.reduceLeDiff, pkT, true_and, tsC, owT_ow, owT_fz]
    refine hnorm (i + 1) _ ⟨hlt, hnm'⟩ (by omega) (le_hd (by simp only [leOk, List.all_cons, List.all_nil, tmC_ltB]; rfl) (Nat.zero_le _) (Nat.le_refl _) ?_ ⟨by simp [bxs], trivial⟩)
    simp only [FL, up_apply, Nat.reduceEqDiff, ↓reduceIte, hw2, hout, hal, hp, Bool.not_false, and_self]
  ·have hpos : decide (cmpT t l[i] < 0) = false := hpos
   rw [hpos, Bool.not_false] at hlx
   rw [hlx, Bool.and_true] at hal
   rw [if_neg (by simp [hlx])] at hout
   ·simp -implicitDefEqProofs only [pkA, ptA, ↓reduceIte, Nat.reduceEqDiff, Nat.reduceAdd, Nat.reduceBEq, Nat.reduceMul, Nat.reduceLT, Nat.reduceLeDiff, pkT, true_and, tsC, owT_ow, owT_fz]
    refine ia_of ti_22 rfl ti_24 (by decide) (Int.natCast_nonneg i) (c := tmC l[i]) (by simp [hlt]) (tmC_len _) ?_
    simp -implicitDefEqProofs only [pkA, ptA, ↓reduceIte, Nat.reduceEqDiff, Nat.reduceAdd, Nat.reduceBEq, Nat.reduceMul, Nat.reduceLT, Nat.reduceLeDiff, pkT, true_and, tsC, owT_ow, owT_fz, ld_24 (tmC_len _)]
    refine appT1 (by (try simp only [List.length_append, List.length_singleton]); omega) ?_
    simp -implicitDefEqProofs only [pkA, ptA, ↓reduceIte, Nat.reduceEqDiff, Nat.reduceAdd, Nat.reduceBEq, Nat.reduceMul, Nat.reduceLT, Nat.reduceLeDiff, pkT, true_and, tsC, owT_ow, owT_fz]
    refine hnorm (i + 1) _ ⟨hlt, hnm'⟩ (by omega) (le_hd (by simp only [leOk, List.all_cons, List.all_nil, tmC_ltB]; rfl) (Nat.zero_le _) (Nat.le_refl _) ?_ ⟨by simp [bxs], trivial⟩)
    simp only [FL, up_apply, Nat.reduceEqDiff, ↓reduceIte, hw2, hout, hal, and_self]
 ·have : i = l.length := by simp at hge; omega
  subst this
  rw [List.take_length] at hnm hol
  have hpo := putT_out hnm
  simp -implicitDefEqProofs only [pkA, ptA, ↓reduceIte, Nat.reduceEqDiff, Nat.reduceAdd, Nat.reduceBEq, Nat.reduceMul, Nat.reduceLT, Nat.reduceLeDiff, pkT, true_and, tsC, owT_ow, owT_fz]
  refine hexit _ _ ?_
  simp -implicitDefEqProofs only [pkA, ptA, ↓reduceIte, Nat.reduceEqDiff, Nat.reduceAdd, Nat.reduceBEq, Nat.reduceMul, Nat.reduceLT, Nat.reduceLeDiff, pkT, true_and, tsC, owT_ow, owT_fz]
  refine vcond_of (fun hnp => ?_) (fun hp => ?_)
  ·have hnp : allLt t l = true := by simpa using hnp
   rw [if_pos hnp] at hpo
   simp -implicitDefEqProofs only [pkA, ptA, ↓reduceIte, Nat.reduceEqDiff, Nat.reduceAdd, Nat.reduceBEq, Nat.reduceMul, Nat.reduceLT, Nat.reduceLeDiff, pkT, true_and, tsC, owT_ow, owT_fz]
   refine appT1 (by rw [List.take_length]; omega) ?_
   simp -implicitDefEqProofs only [pkA, ptA, ↓reduceIte, Nat.reduceEqDiff, Nat.reduceAdd, Nat.reduceBEq, Nat.reduceMul, Nat.reduceLT, Nat.reduceLeDiff, pkT, true_and, tsC, owT_ow, owT_fz]
   rw [hpo, List.take_length]; rfl
  ·have hp : allLt t l = false := by simpa using hp
   rw [if_neg (by simp [hp])] at hpo
   simp -implicitDefEqProofs only [pkA, ptA, ↓reduceIte, Nat.reduceEqDiff, Nat.reduceAdd, Nat.reduceBEq, Nat.reduceMul, Nat.reduceLT, Nat.reduceLeDiff, pkT, true_and, tsC, owT_ow, owT_fz]
   rw [hpo, List.take_length]; rfl
end Go.Proofs.YtkbkajabchhbeaaDoor
/- Layer 15: the specification's built, Subterms. -/
namespace Go.Proofs.YtkbkajabchhbeaaDoor
open Go Go.Vl
variable {G : Gl}
set_option maxRecDepth 4000
theorem builtL_drop {p : Tm → Bool} {l : List Tm} {i : Nat} (h : i < l.length) : builtL p (l.drop i) = (builtT p l[i] && builtL p (l.drop (i + 1))) := by
 rw [List.drop_eq_getElem_cons h]; rfl
set_option maxHeartbeats 4000000 in
theorem RBuilt_ok (S : List Tm) (hS : sizeL S ≤ 900000000) : ∀ t : Tm, sizeT t ≤ 900000000 → FnOK Tryd.prog G 49 [.c (tsC S), .agg (tmC t)] (bo (builtT (inP S) t)) := by
 refine Tm.ind fun k n l ih hs => ?_
 have hsz : sizeL l + 1 ≤ 900000000 := by simp only [sizeT] at hs; omega
 have hll := sizeL_len l
 have hT : builtT (inP S) (.mk k n l) = ((decide (Tm.mk k n l ∈ S) || decide (k = 1)) || (!decide (k = 2) && builtL (inP S) l)) := rfl
 have hH := RHas_ok (G := G) S (.mk k n l) (by omega) (by omega)
 obtain ⟨t0, ht0⟩ : ∃ t0, t0 = Tm.mk k n l := ⟨_, rfl⟩
 have e0 : t0.kind = k := by rw [ht0]; rfl
 have e2 : t0.l = l := by rw [ht0]; rfl
 rw [← ht0] at hT hH ⊢
 clear ht0
 refine FnOK_by (rs := [.tmp 4]) false [] mixed Tryd.func49 rfl rfl rfl rfl (by kernel_rfl) (by simp) rfl rfl ?_
 simp -implicitDefEqProofs only [pkA, ptA, ↓reduceIte, Nat.reduceEqDiff, Nat.reduceAdd, Nat.reduceBEq, Nat.reduceMul, Nat.reduceLT, Nat.reduceLeDiff, pkT, true_and, tsC, e0, e2]
 refine vgd_of (fun h1 => ?_) (fun h1 => ?_)
 ·have h1 : ¬ k = 1 := by simpa using h1
  simp -implicitDefEqProofs only [pkA, ptA, ↓reduceIte, Nat.reduceEqDiff, Nat.reduceAdd, Nat.reduceBEq, Nat.reduceMul, Nat.reduceLT, Nat.reduceLeDiff, pkT, true_and, tsC, e0, e2]
  refine call_fn rfl hH (fun h => by cases h) ?_
  simp -implicitDefEqProofs only [pkA, ptA, ↓reduceIte, Nat.reduceEqDiff, Nat.reduceAdd, Nat.reduceBEq, Nat.reduceMul, Nat.reduceLT, Nat.reduceLeDiff, pkT, true_and, tsC, e0, e2]
  refine vcond_of (fun hm => ?_) (fun hm => ?_)
  ·simp -implicitDefEqProofs only [pkA, ptA, ↓reduceIte, Nat.reduceEqDiff, Nat.reduceAdd, Nat.reduceBEq, Nat.reduceMul, Nat.reduceLT, Nat.reduceLeDiff, pkT, true_and, tsC, e0, e2]
   rw [hT, hm]; rfl
  have hnm : decide (t0 ∈ S) = false := hm
  simp -implicitDefEqProofs only [pkA, ptA, ↓reduceIte, Nat.reduceEqDiff, Nat.reduceAdd, Nat.reduceBEq, Nat.reduceMul, Nat.reduceLT, Nat.reduceLeDiff, pkT, true_and, tsC, e0, e2]
  refine vcond_of (fun h2 => ?_) (fun h2 => ?_)
  ·have h2 : k = 2 := by simpa using h2
   simp -implicitDefEqProofs only [pkA, ptA, ↓reduceIte, Nat.reduceEqDiff, Nat.reduceAdd, Nat.reduceBEq, Nat.reduceMul, Nat.reduceLT, Nat.reduceLeDiff, pkT, true_and, tsC, e0, e2]
   rw [hT, hnm]; simp [h1, h2]
  have h2 : ¬ k = 2 := by simpa using h2
  have hT' : builtT (inP S) t0 = builtL (inP S) l := by rw [hT, hnm]; simp [h1, h2]
  simp -implicitDefEqProofs only [pkA, ptA, ↓reduceIte, Nat.reduceEqDiff, Nat.reduceAdd, Nat.reduceBEq, Nat.reduceMul, Nat.reduceLT, Nat.reduceLeDiff, pkT, true_and, tsC, e0, e2]
  refine run_loop (fun i : Nat => hdS [(0, .c (.sl (S.map tmC))), (3, .bp 0 0), (5, i64 i)] [(tmC t0).map .c]) (fun i => l.length - i) (fun i => i ≤ l.length ∧ builtL (inP S) l = builtL (inP S) (l.drop i)) 0 ⟨Nat.zero_le _, rfl⟩ ?_ ?_
  ·exact le_hd (by simp only [leOk, List.all_cons, List.all_nil, tmC_ltB]; rfl) (Nat.zero_le _) (Nat.le_refl _) (by simp [FL, up_apply]) ⟨by simp [up_apply], trivial⟩
  rintro i ⟨hi, he⟩ R hnorm hexit hret
  simp -implicitDefEqProofs only [pkA, ptA, ↓reduceIte, Nat.reduceEqDiff, Nat.reduceAdd, Nat.reduceBEq, Nat.reduceMul, Nat.reduceLT, Nat.reduceLeDiff, pkT, true_and, tsC, e2]
  refine vcond_of (fun hlt => ?_) (fun hge => ?_)
  ·have hlt : i < l.length := by simpa using hlt
   simp -implicitDefEqProofs only [pkA, ptA, ↓reduceIte, Nat.reduceEqDiff, Nat.reduceAdd, Nat.reduceBEq, Nat.reduceMul, Nat.reduceLT, Nat.reduceLeDiff, pkT, true_and, tsC, e2]
   refine ia_of ti_22 rfl ti_24 (by decide) (Int.natCast_nonneg i) (c := tmC l[i]) (by simp [hlt]) (tmC_len _) ?_
   simp -implicitDefEqProofs only [pkA, ptA, ↓reduceIte, Nat.reduceEqDiff, Nat.reduceAdd, Nat.reduceBEq, Nat.reduceMul, Nat.reduceLT, Nat.reduceLeDiff, pkT, true_and, tsC, e2, ld_24 (tmC_len _)]
   refine call_fn rfl (ih l[i] (List.getElem_mem hlt) (by have := sizeL_mem (List.getElem_mem hlt); omega)) (fun h => by cases h) ?_
   have e1 := builtL_drop (p := inP S) hlt
   have hw2 := wrap_of (n := (i : Int) + 1) (k := i + 1) (by omega) (by omega)
   simp -implicitDefEqProofs only [pkA, ptA, ↓reduceIte, Nat.reduceEqDiff, Nat.reduceAdd, Nat.reduceBEq, Nat.reduceMul, Nat.reduceLT, Nat.reduceLeDiff, pkT, true_and, tsC, e2]
   refine vcond_of (fun hne => ?_) (fun heq => ?_)
   ·have hne : builtT (inP S) l[i] = false := by simpa using hne
    simp -implicitDefEqProofs only [pkA, ptA, ↓reduceIte, Nat.reduceEqDiff, Nat.reduceAdd, Nat.reduceBEq, Nat.reduceMul, Nat.reduceLT, Nat.reduceLeDiff, pkT, true_and, tsC, e2]
    refine hret _ ?_
    simp -implicitDefEqProofs only [pkA, ptA, ↓reduceIte, Nat.reduceEqDiff, Nat.reduceAdd, Nat.reduceBEq, Nat.reduceMul, Nat.reduceLT, Nat.reduceLeDiff, pkT, true_and, tsC, e2]
    rw [hT', he, e1, hne]; rfl
   ·have heq : builtT (inP S) l[i] = true := by simpa using heq
    simp -implicitDefEqProofs only [pkA, ptA, ↓reduceIte, Nat.reduceEqDiff, Nat.reduceAdd, Nat.reduceBEq, Nat.reduceMul, Nat.reduceLT, Nat.reduceLeDiff, pkT, true_and, tsC, e2]
    refine hnorm (i + 1) _ ⟨hlt, ?_⟩ (by omega) (le_hd (by simp only [leOk, List.all_cons, List.all_nil, tmC_ltB]; rfl) (Nat.zero_le _) (Nat.le_refl _) ?_ ⟨by simp [bxs], trivial⟩)
    ·rw [he, e1, heq]; rfl
    ·simp [FL, up_apply, hw2]
  ·have : i = l.length := by simp at hge; omega
   subst this
   simp -implicitDefEqProofs only [pkA, ptA, ↓reduceIte, Nat.reduceEqDiff, Nat.reduceAdd, Nat.reduceBEq, Nat.reduceMul, Nat.reduceLT, Nat.reduceLeDiff, pkT, true_and, tsC, e2]
   refine hexit _ _ ?_
   simp -implicitDefEqProofs only [pkA, ptA, ↓reduceIte, Nat.reduceEqDiff, Nat.reduceAdd, Nat.reduceBEq, Nat.reduceMul, Nat.reduceLT, Nat.reduceLeDiff, pkT, true_and, tsC, e2]
   rw [hT', he, List.drop_length]; rfl
 ·have h1 : k = 1 := by simpa using h1
  simp -implicitDefEqProofs only [pkA, ptA, ↓reduceIte, Nat.reduceEqDiff, Nat.reduceAdd, Nat.reduceBEq, Nat.reduceMul, Nat.reduceLT, Nat.reduceLeDiff, pkT, true_and, tsC, e0, e2]
  rw [hT]; simp [h1]
end Go.Proofs.YtkbkajabchhbeaaDoor
/- Layer 15: the specification's Subterms. -/
namespace Go.Proofs.YtkbkajabchhbeaaDoor
open Go Go.Vl
variable {G : Gl}
set_option maxRecDepth 4000
theorem rsubsL_fold : ∀ (l out : List Tm), rsubsL out l = l.foldl (fun o t => putAll o (rsubsT t)) out
 | [], _ => rfl
 | t :: l, out => by simp only [rsubsL, List.foldl_cons]; exact rsubsL_fold l _
theorem rsubsL_take {l out : List Tm} {i : Nat} (h : i < l.length) : rsubsL out (l.take (i + 1)) = putAll (rsubsL out (l.take i)) (rsubsT l[i]) := by
 rw [rsubsL_fold, rsubsL_fold, List.take_succ_eq_append_getElem h, List.foldl_append]; rfl
theorem putAll_take {l out : List Tm} {i : Nat} (h : i < l.length) : putAll out (l.take (i + 1)) = putT (putAll out (l.take i)) l[i] := by
 unfold putAll
 rw [List.take_succ_eq_append_getElem h, List.foldl_append]; rfl
theorem subs_size : ∀ t : Tm, ∀ x ∈ subsT t, sizeT x ≤ sizeT t := by
 refine Tm.ind fun k n l ih => ?_
 intro x hx
 simp only [subsT, List.mem_cons] at hx
 rcases hx with rfl | hx
 ·exact Nat.le_refl _
 ·obtain ⟨t, ht, hx⟩ := subsL_mem.1 hx
  have h1 := ih t ht x hx
  have h2 := sizeL_mem ht
  simp only [sizeT]; omega
theorem sizeL_bound {l : List Tm} {m : Nat} (h : ∀ x ∈ l, sizeT x ≤ m) : sizeL l ≤ l.length * m := by
 induction l with
 | nil => simp [sizeL]
 | cons t l ih =>
  have h1 := h t (List.mem_cons_self ..)
  have h2 := ih fun x hx => h x (List.mem_cons_of_mem _ hx)
  simp only [sizeL, List.length_cons, Nat.succ_mul]; omega
theorem subs_small {out : List Tm} {t : Tm} (hs : StT out) (h : ∀ x ∈ out, x ∈ subsT t) : out.length ≤ sizeT t ∧ sizeL out ≤ sizeT t * sizeT t := by
 have h1 := nodup_len hs.nodup h
 rw [subs_len] at h1
 refine ⟨h1, Nat.le_trans (sizeL_bound fun x hx => subs_size t x (h x hx)) (Nat.mul_le_mul_right _ h1)⟩
theorem subs_child {k n : Int} {l : List Tm} {i : Nat} (h : i < l.length) {x : Tm} (hx : x ∈ subsT l[i]) : x ∈ subsT (.mk k n l) := by
 simp only [subsT, List.mem_cons]
 exact .inr (subsL_mem.2 ⟨_, List.getElem_mem h, hx⟩)
structure PutS (t : Tm) (out : List Tm) : Prop where
 st : StT out
 sub : ∀ x ∈ out, x ∈ subsT t
theorem PutS.put {t u : Tm} {out : List Tm} (h : PutS t out) (hu : u ∈ subsT t) : PutS t (putT out u) :=
 ⟨putT_sorted h.st u, fun x hx => by rcases putT_mem.1 hx with hx | rfl; exact h.sub x hx; exact hu⟩
theorem PutS.all {t : Tm} : ∀ {us out : List Tm}, PutS t out → (∀ u ∈ us, u ∈ subsT t) → PutS t (putAll out us)
 | [], _, h, _ => h
 | u :: us, out, h, hu => by
  show PutS t (putAll (putT out u) us)
  exact PutS.all (h.put (hu u (List.mem_cons_self ..))) fun v hv => hu v (List.mem_cons_of_mem _ hv)
theorem PutS.start (t : Tm) : PutS t [t] := ⟨List.pairwise_singleton _ _, fun x hx => by rw [List.mem_singleton] at hx; subst hx; exact subs_self x⟩
theorem PutS.rounds {k n : Int} {l : List Tm} : ∀ i, i ≤ l.length → PutS (.mk k n l) (rsubsL [.mk k n l] (l.take i))
 | 0, _ => PutS.start _
 | i + 1, h => by
  rw [rsubsL_take h]
  exact (PutS.rounds i (Nat.le_of_succ_le h)).all fun u hu => subs_child h ((rsubs_ok l[i]).2 u |>.1 hu)
theorem rsubs_len {t : Tm} : (rsubsT t).length ≤ sizeT t := (subs_small (rsubs_ok t).1 fun x hx => ((rsubs_ok t).2 x).1 hx).1
theorem tts_fz {v : V} {l : List Tm} (h : v = owT l ∨ v = .c (tsC l)) : v.fz = .c (.sl (l.map tmC)) := by rcases h with rfl | rfl <;> rfl
theorem tts_ltB {v : V} {l : List Tm} (h : v = owT l ∨ v = .c (tsC l)) {m : Nat} : v.ltB m = true := by rcases h with rfl | rfl <;> rfl
set_option maxHeartbeats 8000000 in
theorem RSubterms_ok : ∀ t : Tm, sizeT t ≤ 20000 → FnOK Tryd.prog G 24 [.agg (tmC t)] (.c (tsC (rsubsT t))) := by
 refine Tm.ind fun k n l ih hs => ?_
 have hsz : sizeL l + 1 ≤ 20000 := by simp only [sizeT] at hs; omega
 have hll := sizeL_len l
 have hq : sizeT (.mk k n l) * sizeT (.mk k n l) ≤ 20000 * 20000 := Nat.mul_le_mul hs hs
 have hT : rsubsT (.mk k n l) = rsubsL [.mk k n l] l := rfl
 have hP := PutS.rounds (k := k) (n := n) (l := l)
 obtain ⟨t0, ht0⟩ : ∃ t0, t0 = Tm.mk k n l := ⟨_, rfl⟩
 have e2 : t0.l = l := by rw [ht0]; rfl
 have hch : ∀ i (h : i < l.length) x, x ∈ subsT l[i] → x ∈ subsT t0 := fun i h x hx => by rw [ht0]; exact subs_child h hx
 rw [← ht0] at hs hq hT hP ⊢
 clear ht0
 refine FnOK_by (rs := [.tmp 2]) true [] mixed Tryd.func24 rfl rfl rfl rfl (by kernel_rfl) (by simp) rfl rfl ?_
 simp -implicitDefEqProofs only [pkA, ptA, ↓reduceIte, Nat.reduceEqDiff, Nat.reduceAdd, Nat.reduceBEq, Nat.reduceMul, Nat.reduceLT, Nat.reduceLeDiff, pkT, true_and, tsC, e2]
 refine run_loop (fun q : Nat × V => hdS [(1, .bp 0 0), (3, q.2), (4, i64 q.1)] [(tmC t0).map .c]) (fun q => l.length - q.1) (fun q => q.1 ≤ l.length ∧ (q.2 = owT (rsubsL [t0] (l.take q.1)) ∨ q.2 = .c (tsC (rsubsL [t0] (l.take q.1))))) (0, owT [t0]) ⟨Nat.zero_le _, .inl rfl⟩ ?_ ?_
 ·exact le_hd (by simp only [leOk, List.all_cons, List.all_nil, tmC_ltB, owT_ltB]; rfl) (Nat.zero_le _) (Nat.le_refl _) (by simp [FL, up_apply, owT]) ⟨by simp [up_apply], trivial⟩
 rintro ⟨i, v⟩ ⟨hi, hv⟩ R hnorm hexit hret
 simp only at hi hv hnorm
 have hvf := tts_fz hv
 simp -implicitDefEqProofs only [pkA, ptA, ↓reduceIte, Nat.reduceEqDiff, Nat.reduceAdd, Nat.reduceBEq, Nat.reduceMul, Nat.reduceLT, Nat.reduceLeDiff, pkT, true_and, tsC, e2, hvf]
 refine vcond_of (fun hlt => ?_) (fun hge => ?_)
 ·have hlt : i < l.length := by simpa using hlt
  have hPi := hP i hi
  simp -implicitDefEqProofs only [pkA, ptA, ↓reduceIte, Nat.reduceEqDiff, Nat.reduceAdd, Nat.reduceBEq, Nat.reduceMul, Nat.reduceLT, Nat.reduceLeDiff, pkT, true_and, tsC, e2, hvf]
  refine ia_of ti_22 rfl ti_24 (by decide) (Int.natCast_nonneg i) (c := tmC l[i]) (by simp [hlt]) (tmC_len _) ?_
  simp -implicitDefEqProofs only [pkA, ptA, ↓reduceIte, Nat.reduceEqDiff, Nat.reduceAdd, Nat.reduceBEq, Nat.reduceMul, Nat.reduceLT, Nat.reduceLeDiff, pkT, true_and, tsC, e2, hvf, ld_24 (tmC_len _)]
  have hmi := sizeL_mem (List.getElem_mem hlt)
  refine call_fn rfl (ih l[i] (List.getElem_mem hlt) (by omega)) (fun h => by cases h) ?_
  simp -implicitDefEqProofs only [pkA, ptA, ↓reduceIte, Nat.reduceEqDiff, Nat.reduceAdd, Nat.reduceBEq, Nat.reduceMul, Nat.reduceLT, Nat.reduceLeDiff, pkT, true_and, tsC, e2, hvf]
  have hrl := @rsubs_len l[i]
  have hsubs : ∀ x ∈ rsubsT l[i], x ∈ subsT t0 := fun x hx => hch i hlt x (((rsubs_ok l[i]).2 x).1 hx)
  have hstep := rsubsL_take (out := [t0]) hlt
  have hw3 := wrap_of (n := (i : Int) + 1) (k := i + 1) (by omega) (by omega)
  generalize rsubsT l[i] = us at hrl hsubs hstep
  refine run_loop (fun q : Nat × V => hdS [(1, .bp 0 0), (3, q.2), (4, i64 i), (5, .c (.sl (us.map tmC))), (6, i64 q.1)] [(tmC t0).map .c]) (fun q => us.length - q.1) (fun q => q.1 ≤ us.length ∧ (q.2 = owT (putAll (rsubsL [t0] (l.take i)) (us.take q.1)) ∨ q.2 = .c (tsC (putAll (rsubsL [t0] (l.take i)) (us.take q.1))))) (0, v) ⟨Nat.zero_le _, hv⟩ ?_ ?_
  ·exact le_hd (by simp only [leOk, List.all_cons, List.all_nil, tmC_ltB, tts_ltB hv]; rfl) (Nat.zero_le _) (Nat.le_refl _) (by simp [FL, up_apply]) ⟨by simp [bxs], trivial⟩
  rintro ⟨j, v⟩ ⟨hj, hv⟩ R2 hnorm2 hexit2 hret2
  simp only at hj hv hnorm2
  have hvf := tts_fz hv
  simp -implicitDefEqProofs only [pkA, ptA, ↓reduceIte, Nat.reduceEqDiff, Nat.reduceAdd, Nat.reduceBEq, Nat.reduceMul, Nat.reduceLT, Nat.reduceLeDiff, pkT, true_and, tsC, e2, hvf]
  refine vcond_of (fun hlt2 => ?_) (fun hge2 => ?_)
  ·have hlt2 : j < us.length := by simpa using hlt2
   have hw2 := wrap_of (n := (j : Int) + 1) (k := j + 1) (by omega) (by omega)
   have hPj := hPi.all (us := us.take j) fun u hu => hsubs u (List.mem_of_mem_take hu)
   obtain ⟨q1, q2⟩ := subs_small hPj.st hPj.sub
   have q3 := subs_size t0 us[j] (hsubs _ (List.getElem_mem hlt2))
   have hpt := putAll_take (out := rsubsL [t0] (l.take i)) hlt2
   simp -implicitDefEqProofs only [pkA, ptA, ↓reduceIte, Nat.reduceEqDiff, Nat.reduceAdd, Nat.reduceBEq, Nat.reduceMul, Nat.reduceLT, Nat.reduceLeDiff, pkT, true_and, tsC, e2, hvf]
   refine ia_of ti_22 rfl ti_24 (by decide) (Int.natCast_nonneg j) (c := tmC us[j]) (by simp [hlt2]) (tmC_len _) ?_
   simp -implicitDefEqProofs only [pkA, ptA, ↓reduceIte, Nat.reduceEqDiff, Nat.reduceAdd, Nat.reduceBEq, Nat.reduceMul, Nat.reduceLT, Nat.reduceLeDiff, pkT, true_and, tsC, e2, hvf, ld_24 (tmC_len _)]
   refine call_fn rfl (RPut_ok (putAll (rsubsL [t0] (l.take i)) (us.take j)) us[j] (by omega) (by omega)) (fun h => by cases h) ?_
   simp -implicitDefEqProofs only [pkA, ptA, ↓reduceIte, Nat.reduceEqDiff, Nat.reduceAdd, Nat.reduceBEq, Nat.reduceMul, Nat.reduceLT, Nat.reduceLeDiff, pkT, true_and, tsC, e2, hvf]
   refine hnorm2 (j + 1, .c (tsC (putAll (rsubsL [t0] (l.take i)) (us.take (j + 1))))) _ ⟨hlt2, .inr rfl⟩ (by simp only; omega) (le_hd (by simp only [leOk, List.all_cons, List.all_nil, tmC_ltB]; rfl) (Nat.zero_le _) (Nat.le_refl _) ?_ ⟨by simp [bxs], trivial⟩)
   simp [FL, up_apply, hw2, hpt, tsC]
  ·have hjl : j = us.length := by simp at hge2; omega
   subst hjl
   rw [List.take_length, ← hstep] at hv
   simp -implicitDefEqProofs only [pkA, ptA, ↓reduceIte, Nat.reduceEqDiff, Nat.reduceAdd, Nat.reduceBEq, Nat.reduceMul, Nat.reduceLT, Nat.reduceLeDiff, pkT, true_and, tsC, e2, hvf]
   refine hexit2 _ _ ?_
   simp -implicitDefEqProofs only [pkA, ptA, ↓reduceIte, Nat.reduceEqDiff, Nat.reduceAdd, Nat.reduceBEq, Nat.reduceMul, Nat.reduceLT, Nat.reduceLeDiff, pkT, true_and, tsC, e2, hvf]
   refine hnorm (i + 1, v) _ ⟨hlt, hv⟩ (by simp only; omega) (le_hd (by simp only [leOk, List.all_cons, List.all_nil, tmC_ltB, tts_ltB hv]; rfl) (Nat.zero_le _) (Nat.le_refl _) ?_ ⟨by simp [bxs], trivial⟩)
   simp [FL, up_apply, hw3]
 ·have : i = l.length := by simp at hge; omega
  subst this
  rw [List.take_length, ← hT] at hvf
  simp -implicitDefEqProofs only [pkA, ptA, ↓reduceIte, Nat.reduceEqDiff, Nat.reduceAdd, Nat.reduceBEq, Nat.reduceMul, Nat.reduceLT, Nat.reduceLeDiff, pkT, true_and, tsC, e2, hvf]
  refine hexit _ _ ?_
  simp -implicitDefEqProofs only [pkA, ptA, ↓reduceIte, Nat.reduceEqDiff, Nat.reduceAdd, Nat.reduceBEq, Nat.reduceMul, Nat.reduceLT, Nat.reduceLeDiff, pkT, true_and, tsC, e2, hvf]
  rfl
