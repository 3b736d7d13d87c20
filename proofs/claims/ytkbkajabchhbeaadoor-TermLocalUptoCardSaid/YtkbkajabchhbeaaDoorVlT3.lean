/- Layer 15: terms, as values. -/
import Derived.Test.YtkbkajabchhbeaaDoorVlP4
import Derived.Test.YtkbkajabchhbeaaDoorVlEnv
import Derived.Test.YtkbkajabchhbeaaDoorVlTree
import Derived.Test.YtkbkajabchhbeaaDoorVlWord
set_option linter.unusedSimpArgs false
set_option linter.unusedVariables false
namespace Go.Proofs.YtkbkajabchhbeaaDoor
open Go Go.Vl
theorem mixed : Tryd.prog.follows .mixedOrders = true := Tryd.checked.mixed
abbrev i64 (n : Int) : V := .c (.lit (.int .i64 n))
abbrev bo (b : Bool) : V := .c (.lit (.bool b))
def cI (n : Int) : C := .lit (.int .i64 n)
mutual
def tmC : Tm → List C
 | .mk k n l => [cI k, cI n, .sl (tmCs l)]
def tmCs : List Tm → List (List C)
 | [] => []
 | t :: l => tmC t :: tmCs l
end
theorem tmCs_eq {l : List Tm} : tmCs l = l.map tmC := by
 induction l with
 | nil => rfl
 | cons t l ih => simp [tmCs, ih]
def tsC (l : List Tm) : C := .sl (l.map tmC)
theorem tmC_eq (t : Tm) : tmC t = [cI t.kind, cI t.n, tsC t.l] := by cases t; simp [tmC, tmCs_eq, tsC, Tm.kind, Tm.n, Tm.l]
theorem tmC_len (t : Tm) : (tmC t).length = 3 := by rw [tmC_eq]; rfl
section
variable {K : V → Prop} {sz : Nat}
theorem ptm0 {t : Tm} : partV false sz 0 (tmC t) K = K (i64 t.kind) := by rw [tmC_eq]; rfl
theorem ptm1 {t : Tm} : partV false sz 1 (tmC t) K = K (i64 t.n) := by rw [tmC_eq]; rfl
theorem ptm2 {t : Tm} : partV false sz 2 (tmC t) K = K (.c (tsC t.l)) := by rw [tmC_eq]; rfl
theorem btm {nb q o : Nat} {t : Tm} : ldB nb q ((tmC t).map .c) o K = (q < nb ∧ partV false 1 o (tmC t) K) := ldB_map
theorem atm {nb q : Nat} {t : Tm} : ldA nb q ((tmC t).map .c) 0 3 K = (q < nb ∧ K (.agg (tmC t))) := ldA_box (tmC_len t)
theorem mtm {t : Tm} : isMb ((tmC t).map V.c) = false := by rw [tmC_eq]; rfl
theorem stm {a b c : V} {t : Tm} : setV [a, b, c] 0 ((tmC t).map .c) = (tmC t).map .c := by rw [tmC_eq]; rfl
theorem stm2 {t u : Tm} : setV ((tmC u).map .c) 0 ((tmC t).map .c) = (tmC t).map .c := by rw [tmC_eq, tmC_eq]; rfl
theorem ltm {t : Tm} : ((tmC t).map V.c).length = 3 := by rw [List.length_map, tmC_len]
end
theorem kd_mk {k n : Int} {l : List Tm} : (Tm.mk k n l).kind = k := rfl
theorem n_mk {k n : Int} {l : List Tm} : (Tm.mk k n l).n = n := rfl
theorem l_mk {k n : Int} {l : List Tm} : (Tm.mk k n l).l = l := rfl
theorem pkT : type_of% (And.intro @kd_mk (And.intro @n_mk (And.intro @l_mk (And.intro @tmC_len (And.intro @ptm0 (And.intro @ptm1 (And.intro @ptm2 (And.intro @btm (And.intro @atm (And.intro @mtm (And.intro @stm (And.intro @stm2 (@ltm))))))))))))) := ⟨@kd_mk, @n_mk, @l_mk, @tmC_len, @ptm0, @ptm1, @ptm2, @btm, @atm, @mtm, @stm, @stm2, @ltm⟩
theorem tmC_ltB {m : Nat} {t : Tm} : ((tmC t).map V.c).all (fun x => x.ltB m) = true := all_ltB_c m _
variable {G : Gl}
set_option maxRecDepth 4000
theorem isNaN_ok (a : Int) : FnOK Tryd.prog G 52 [i64 a] (bo false) := by
 refine FnOK_by (rs := [.tmp 2]) false [] mixed Tryd.func52 rfl rfl rfl rfl (by kernel_rfl) (by simp) rfl rfl ?_
 repeat' first
  | (simp -implicitDefEqProofs only [pkA, ptA, ↓reduceIte, Nat.reduceEqDiff, Nat.reduceAdd, Nat.reduceBEq, Nat.reduceMul, Nat.reduceLT, Nat.reduceLeDiff])
  | refine vgd_of (fun h => ?_) (fun h => ?_)
  | refine vcond_of (fun h => ?_) (fun h => ?_)
 all_goals simp_all
set_option maxHeartbeats 1000000 in
theorem CompareI_ok (a b : Int) : FnOK Tryd.prog G 41 [i64 a, i64 b] (i64 (cmpJ a b)) := by
 refine FnOK_by (rs := [.tmp 4]) false [] mixed Tryd.func41 rfl rfl rfl rfl (by kernel_rfl) (by simp) rfl rfl ?_
 simp -implicitDefEqProofs only [pkA, ptA, ↓reduceIte, Nat.reduceEqDiff, Nat.reduceAdd, Nat.reduceBEq, Nat.reduceMul, Nat.reduceLT, Nat.reduceLeDiff]
 refine call_fn rfl (isNaN_ok a) (by simp [V.boxy]) ?_
 simp -implicitDefEqProofs only [pkA, ptA, ↓reduceIte, Nat.reduceEqDiff, Nat.reduceAdd, Nat.reduceBEq, Nat.reduceMul, Nat.reduceLT, Nat.reduceLeDiff]
 refine call_fn rfl (isNaN_ok b) (by simp [V.boxy]) ?_
 repeat' first
  | (simp -implicitDefEqProofs only [pkA, ptA, ↓reduceIte, Nat.reduceEqDiff, Nat.reduceAdd, Nat.reduceBEq, Nat.reduceMul, Nat.reduceLT, Nat.reduceLeDiff])
  | refine vgd_of (fun h => ?_) (fun h => ?_)
  | refine vcond_of (fun h => ?_) (fun h => ?_)
 all_goals (simp_all [cmpJ] <;> omega)
def orL : List Int → Int
 | [] => 0
 | x :: l => if x = 0 then orL l else x
set_option maxHeartbeats 1000000 in
theorem Or_ok (l : List Int) (hm : l.length ≤ 9223372036854775807) : FnOK Tryd.prog G 40 [.c (.sl (l.map fun y => [cI y]))] (i64 (orL l)) := by
 refine FnOK_by (rs := [.tmp 2]) false [] mixed Tryd.func40 rfl rfl rfl rfl (by kernel_rfl) (by simp) rfl rfl ?_
 simp -implicitDefEqProofs only [pkA, ptA, ↓reduceIte, Nat.reduceEqDiff, Nat.reduceAdd, Nat.reduceBEq, Nat.reduceMul, Nat.reduceLT, Nat.reduceLeDiff]
 refine run_loop (fun i : Nat => hdS [(3, i64 0), (6, .c (.sl (l.map fun y => [cI y]))), (7, i64 l.length), (8, i64 i)] []) (fun i => l.length - i) (fun i => i ≤ l.length ∧ orL l = orL (l.drop i)) 0 ⟨Nat.zero_le _, rfl⟩ ?_ ?_
 ·refine le_hd rfl (Nat.zero_le _) (Nat.le_refl _) ?_ trivial
  simp [FL, up_apply]
 rintro i ⟨hi, hno⟩ R hnorm hexit hret
 simp -implicitDefEqProofs only [pkA, ptA, ↓reduceIte, Nat.reduceEqDiff, Nat.reduceAdd, Nat.reduceBEq, Nat.reduceMul, Nat.reduceLT, Nat.reduceLeDiff]
 refine vcond_of (fun hlt => ?_) (fun hge => ?_)
 ·have hlt : i < l.length := by simpa using hlt
  rw [List.drop_eq_getElem_cons hlt] at hno
  simp -implicitDefEqProofs only [pkA, ptA, ↓reduceIte, Nat.reduceEqDiff, Nat.reduceAdd, Nat.reduceBEq, Nat.reduceMul, Nat.reduceLT, Nat.reduceLeDiff]
  refine ia_of ti_62 rfl ti_3 (by decide) (Int.natCast_nonneg i) (c := [cI l[i]]) (by simp [hlt]) rfl ?_
  have e0 : ∀ K, partV false 1 0 [cI l[i]] K = K (i64 l[i]) := fun _ => rfl
  simp -implicitDefEqProofs only [pkA, ptA, ↓reduceIte, Nat.reduceEqDiff, Nat.reduceAdd, Nat.reduceBEq, Nat.reduceMul, Nat.reduceLT, Nat.reduceLeDiff, e0]
  refine vcond_of (fun hy => ?_) (fun hn => ?_)
  ·have hy : ¬ l[i] = 0 := by simpa using hy
   simp -implicitDefEqProofs only [pkA, ptA, ↓reduceIte, Nat.reduceEqDiff, Nat.reduceAdd, Nat.reduceBEq, Nat.reduceMul, Nat.reduceLT, Nat.reduceLeDiff]
   refine hret _ ?_
   simp -implicitDefEqProofs only [pkA, ptA, ↓reduceIte, Nat.reduceEqDiff, Nat.reduceAdd, Nat.reduceBEq, Nat.reduceMul, Nat.reduceLT, Nat.reduceLeDiff]
   rw [hno]; simp only [orL]; rw [if_neg hy]
  ·have hn : l[i] = 0 := by simpa using hn
   have hw := wrap_of (n := (i : Int) + 1) (k := i + 1) (by omega) (by omega)
   simp -implicitDefEqProofs only [pkA, ptA, ↓reduceIte, Nat.reduceEqDiff, Nat.reduceAdd, Nat.reduceBEq, Nat.reduceMul, Nat.reduceLT, Nat.reduceLeDiff]
   refine hnorm (i + 1) _ ⟨hlt, ?_⟩ (by omega) (le_hd rfl (Nat.zero_le _) (Nat.le_refl _) ?_ trivial)
   ·rw [hno]; simp only [orL]; rw [if_pos hn]
   ·simp [FL, up_apply, hw]
 ·have : i = l.length := by simp at hge; omega
  subst this
  simp -implicitDefEqProofs only [pkA, ptA, ↓reduceIte, Nat.reduceEqDiff, Nat.reduceAdd, Nat.reduceBEq, Nat.reduceMul, Nat.reduceLT, Nat.reduceLeDiff]
  refine hexit _ _ ?_
  simp -implicitDefEqProofs only [pkA, ptA, ↓reduceIte, Nat.reduceEqDiff, Nat.reduceAdd, Nat.reduceBEq, Nat.reduceMul, Nat.reduceLT, Nat.reduceLeDiff]
  rw [hno]; simp [orL]
theorem orL3 (a b c : Int) : orL [a, b, c] = orJ a (orJ b c) := by
 simp only [orL, orJ]
 repeat' split
 all_goals simp_all
end Go.Proofs.YtkbkajabchhbeaaDoor
/- Layer 15: IsKey, Size. -/
namespace Go.Proofs.YtkbkajabchhbeaaDoor
open Go Go.Vl
variable {G : Gl}
set_option maxRecDepth 4000
def isKeyT (t : Tm) : Bool := decide (t.kind ≠ 3) && decide (t.kind ≠ 4)
set_option maxHeartbeats 1000000 in
theorem IsKey_ok (t : Tm) : FnOK Tryd.prog G 18 [.agg (tmC t)] (bo (isKeyT t)) := by
 refine FnOK_by (rs := [.tmp 2]) false [] mixed Tryd.func18 rfl rfl rfl rfl (by kernel_rfl) (by simp) rfl rfl ?_
 repeat' first
  | (simp -implicitDefEqProofs only [pkA, ptA, ↓reduceIte, Nat.reduceEqDiff, Nat.reduceAdd, Nat.reduceBEq, Nat.reduceMul, Nat.reduceLT, Nat.reduceLeDiff, pkT, true_and])
  | refine vgd_of (fun h => ?_) (fun h => ?_)
 all_goals simp_all [isKeyT]
set_option maxHeartbeats 1000000 in
theorem RIsKey_ok (t : Tm) : FnOK Tryd.prog G 19 [.agg (tmC t)] (bo (decide (t.kind = 1 ∨ t.kind = 2 ∨ t.kind = 5 ∨ t.kind = 6))) := by
 refine FnOK_by (rs := [.tmp 2]) false [] mixed Tryd.func19 rfl rfl rfl rfl (by kernel_rfl) (by simp) rfl rfl ?_
 repeat' first
  | (simp -implicitDefEqProofs only [pkA, ptA, ↓reduceIte, Nat.reduceEqDiff, Nat.reduceAdd, Nat.reduceBEq, Nat.reduceMul, Nat.reduceLT, Nat.reduceLeDiff, pkT, true_and])
  | refine vgd_of (fun h => ?_) (fun h => ?_)
 all_goals simp_all
set_option maxHeartbeats 1000000 in
theorem arity_ok (k : Int) : FnOK Tryd.prog G 37 [i64 k] (i64 (arityI k)) := by
 refine FnOK_by (rs := [.tmp 2]) false [] mixed Tryd.func37 rfl rfl rfl rfl (by kernel_rfl) (by simp) rfl rfl ?_
 repeat' first
  | (simp -implicitDefEqProofs only [pkA, ptA, ↓reduceIte, Nat.reduceEqDiff, Nat.reduceAdd, Nat.reduceBEq, Nat.reduceMul, Nat.reduceLT, Nat.reduceLeDiff])
  | refine vgd_of (fun h => ?_) (fun h => ?_)
  | refine vcond_of (fun h => ?_) (fun h => ?_)
 all_goals simp_all [arityI]
theorem sizeL_mem {l : List Tm} {t : Tm} (h : t ∈ l) : sizeT t ≤ sizeL l := by
 induction l with
 | nil => cases h
 | cons u l ih =>
  simp only [sizeL]
  rcases List.mem_cons.1 h with rfl | h
  ·omega
  ·have := ih h; omega
theorem sizeT_pos (t : Tm) : 0 < sizeT t := by cases t; simp only [sizeT]; omega
theorem sizeL_len (l : List Tm) : l.length ≤ sizeL l := by
 induction l with
 | nil => simp
 | cons u l ih => simp only [sizeL, List.length_cons]; have := sizeT_pos u; omega
theorem sizeL_append (l m : List Tm) : sizeL (l ++ m) = sizeL l + sizeL m := by
 induction l with
 | nil => simp [sizeL]
 | cons u l ih => simp only [List.cons_append, sizeL, ih]; omega
theorem sizeL_take {l : List Tm} {i : Nat} (h : i < l.length) : sizeL (l.take (i + 1)) = sizeL (l.take i) + sizeT l[i] := by
 rw [List.take_succ_eq_append_getElem h, sizeL_append]; simp [sizeL]
theorem sizeL_le (l : List Tm) (i : Nat) : sizeL (l.take i) ≤ sizeL l := by
 have := sizeL_append (l.take i) (l.drop i)
 rw [List.take_append_drop] at this; omega
set_option maxHeartbeats 2000000 in
theorem Size_ok : ∀ t : Tm, sizeT t ≤ 1000000000 → FnOK Tryd.prog G 14 [.agg (tmC t)] (i64 (sizeT t)) := by
 refine Tm.ind fun k n l ih hs => ?_
 have hsz : sizeL l + 1 ≤ 1000000000 := by simp only [sizeT] at hs; omega
 have hll := sizeL_len l
 refine FnOK_by (rs := [.tmp 2]) false [] mixed Tryd.func14 rfl rfl rfl rfl (by kernel_rfl) (by simp) rfl rfl ?_
 simp -implicitDefEqProofs only [pkA, ptA, ↓reduceIte, Nat.reduceEqDiff, Nat.reduceAdd, Nat.reduceBEq, Nat.reduceMul, Nat.reduceLT, Nat.reduceLeDiff, pkT, true_and, tsC]
 refine run_loop (fun i : Nat => hdS [(1, .bp 0 0), (3, i64 (1 + sizeL (l.take i) : Nat)), (7, .c (.sl (l.map tmC))), (8, i64 l.length), (9, i64 i)] [(tmC (.mk k n l)).map .c]) (fun i => l.length - i) (fun i => i ≤ l.length) 0 (Nat.zero_le _) ?_ ?_
 ·exact le_hd (by simp only [leOk, List.all_cons, List.all_nil, tmC_ltB]; rfl) (Nat.zero_le _) (Nat.le_refl _) (by simp [FL, up_apply, sizeL]) ⟨rfl, trivial⟩
 rintro i hi R hnorm hexit hret
 simp -implicitDefEqProofs only [pkA, ptA, ↓reduceIte, Nat.reduceEqDiff, Nat.reduceAdd, Nat.reduceBEq, Nat.reduceMul, Nat.reduceLT, Nat.reduceLeDiff, pkT, true_and, tsC]
 refine vcond_of (fun hlt => ?_) (fun hge => ?_)
 ·have hlt : i < l.length := by simpa using hlt
  simp -implicitDefEqProofs only [pkA, ptA, ↓reduceIte, Nat.reduceEqDiff, Nat.reduceAdd, Nat.reduceBEq, Nat.reduceMul, Nat.reduceLT, Nat.reduceLeDiff, pkT, true_and, tsC]
  refine ia_of ti_22 rfl ti_24 (by decide) (Int.natCast_nonneg i) (c := tmC l[i]) (by simp [hlt]) (tmC_len _) ?_
  simp -implicitDefEqProofs only [pkA, ptA, ↓reduceIte, Nat.reduceEqDiff, Nat.reduceAdd, Nat.reduceBEq, Nat.reduceMul, Nat.reduceLT, Nat.reduceLeDiff, pkT, true_and, tsC, ld_24 (tmC_len _)]
  have hm := sizeL_mem (List.getElem_mem hlt)
  refine call_fn rfl (ih l[i] (List.getElem_mem hlt) (by omega)) (fun h => by cases h) ?_
  have e1 := sizeL_take hlt
  have e2 := sizeL_le l (i + 1)
  have hw := wrap_of (n := ((1 + sizeL (l.take i) : Nat) : Int) + (sizeT l[i] : Int)) (k := 1 + sizeL (l.take (i + 1))) (by omega) (by omega)
  have hw2 := wrap_of (n := (i : Int) + 1) (k := i + 1) (by omega) (by omega)
  simp -implicitDefEqProofs only [pkA, ptA, ↓reduceIte, Nat.reduceEqDiff, Nat.reduceAdd, Nat.reduceBEq, Nat.reduceMul, Nat.reduceLT, Nat.reduceLeDiff, pkT, true_and, tsC]
  refine hnorm (i + 1) _ hlt (by omega) (le_hd (by simp only [leOk, List.all_cons, List.all_nil, tmC_ltB]; rfl) (Nat.zero_le _) (Nat.le_succ 1) ?_ ⟨by simp [up_apply, bxs], trivial⟩)
  simp [FL, up_apply, hw2, hw, -Int.natCast_add]
 ·have : i = l.length := by simp at hge; omega
  subst this
  simp -implicitDefEqProofs only [pkA, ptA, ↓reduceIte, Nat.reduceEqDiff, Nat.reduceAdd, Nat.reduceBEq, Nat.reduceMul, Nat.reduceLT, Nat.reduceLeDiff, pkT, true_and, tsC]
  refine hexit _ _ ?_
  simp -implicitDefEqProofs only [pkA, ptA, ↓reduceIte, Nat.reduceEqDiff, Nat.reduceAdd, Nat.reduceBEq, Nat.reduceMul, Nat.reduceLT, Nat.reduceLeDiff, pkT, true_and, tsC]
  simp [sizeT]
set_option maxHeartbeats 2000000 in
theorem RSize_ok : ∀ t : Tm, sizeT t ≤ 1000000000 → FnOK Tryd.prog G 15 [.agg (tmC t)] (i64 (sizeT t)) := by
 refine Tm.ind fun k n l ih hs => ?_
 have hsz : sizeL l + 1 ≤ 1000000000 := by simp only [sizeT] at hs; omega
 have hll := sizeL_len l
 refine FnOK_by (rs := [.tmp 2]) false [] mixed Tryd.func15 rfl rfl rfl rfl (by kernel_rfl) (by simp) rfl rfl ?_
 simp -implicitDefEqProofs only [pkA, ptA, ↓reduceIte, Nat.reduceEqDiff, Nat.reduceAdd, Nat.reduceBEq, Nat.reduceMul, Nat.reduceLT, Nat.reduceLeDiff, pkT, true_and, tsC]
 refine run_loop (fun i : Nat => hdS [(1, .bp 0 0), (3, i64 (1 + sizeL (l.take i) : Nat)), (4, i64 i)] [(tmC (.mk k n l)).map .c]) (fun i => l.length - i) (fun i => i ≤ l.length) 0 (Nat.zero_le _) ?_ ?_
 ·exact le_hd (by simp only [leOk, List.all_cons, List.all_nil, tmC_ltB]; rfl) (Nat.zero_le _) (Nat.le_refl _) (by simp [FL, up_apply, sizeL]) ⟨rfl, trivial⟩
 rintro i hi R hnorm hexit hret
 simp -implicitDefEqProofs only [pkA, ptA, ↓reduceIte, Nat.reduceEqDiff, Nat.reduceAdd, Nat.reduceBEq, Nat.reduceMul, Nat.reduceLT, Nat.reduceLeDiff, pkT, true_and, tsC]
 refine vcond_of (fun hlt => ?_) (fun hge => ?_)
 ·have hlt : i < l.length := by simpa using hlt
  simp -implicitDefEqProofs only [pkA, ptA, ↓reduceIte, Nat.reduceEqDiff, Nat.reduceAdd, Nat.reduceBEq, Nat.reduceMul, Nat.reduceLT, Nat.reduceLeDiff, pkT, true_and, tsC]
  refine ia_of ti_22 rfl ti_24 (by decide) (Int.natCast_nonneg i) (c := tmC l[i]) (by simp [hlt]) (tmC_len _) ?_
  simp -implicitDefEqProofs only [pkA, ptA, ↓reduceIte, Nat.reduceEqDiff, Nat.reduceAdd, Nat.reduceBEq, Nat.reduceMul, Nat.reduceLT, Nat.reduceLeDiff, pkT, true_and, tsC, ld_24 (tmC_len _)]
  have hm := sizeL_mem (List.getElem_mem hlt)
  refine call_fn rfl (ih l[i] (List.getElem_mem hlt) (by omega)) (fun h => by cases h) ?_
  have e1 := sizeL_take hlt
  have e2 := sizeL_le l (i + 1)
  have hw := wrap_of (n := ((1 + sizeL (l.take i) : Nat) : Int) + (sizeT l[i] : Int)) (k := 1 + sizeL (l.take (i + 1))) (by omega) (by omega)
  have hw2 := wrap_of (n := (i : Int) + 1) (k := i + 1) (by omega) (by omega)
  simp -implicitDefEqProofs only [pkA, ptA, ↓reduceIte, Nat.reduceEqDiff, Nat.reduceAdd, Nat.reduceBEq, Nat.reduceMul, Nat.reduceLT, Nat.reduceLeDiff, pkT, true_and, tsC]
  refine hnorm (i + 1) _ hlt (by omega) (le_hd (by simp only [leOk, List.all_cons, List.all_nil, tmC_ltB]; rfl) (Nat.zero_le _) (Nat.le_refl 1) ?_ ⟨by simp [up_apply, bxs], trivial⟩)
  simp [FL, up_apply, hw2, hw, -Int.natCast_add]
 ·have : i = l.length := by simp [Tm.l] at hge; omega
  subst this
  simp -implicitDefEqProofs only [pkA, ptA, ↓reduceIte, Nat.reduceEqDiff, Nat.reduceAdd, Nat.reduceBEq, Nat.reduceMul, Nat.reduceLT, Nat.reduceLeDiff, pkT, true_and, tsC]
  refine hexit _ _ ?_
  simp -implicitDefEqProofs only [pkA, ptA, ↓reduceIte, Nat.reduceEqDiff, Nat.reduceAdd, Nat.reduceBEq, Nat.reduceMul, Nat.reduceLT, Nat.reduceLeDiff, pkT, true_and, tsC]
  simp [sizeT]
end Go.Proofs.YtkbkajabchhbeaaDoor
/- Layer 15: Compare. -/
namespace Go.Proofs.YtkbkajabchhbeaaDoor
open Go Go.Vl
variable {G : Gl}
set_option maxRecDepth 4000
theorem cmpL_drop {l m : List Tm} {i : Nat} (h1 : i < l.length) (h2 : i < m.length) : cmpL (l.drop i) (m.drop i) = orJ (cmpT l[i] m[i]) (cmpL (l.drop (i + 1)) (m.drop (i + 1))) := by
 rw [List.drop_eq_getElem_cons h1, List.drop_eq_getElem_cons h2]; rfl
theorem cmpL_end {l m : List Tm} : cmpL (l.drop m.length) [] = if m.length < l.length then 1 else 0 := by
 rcases Nat.lt_or_ge m.length l.length with h | h
 ·rw [List.drop_eq_getElem_cons h, if_pos h]; rfl
 ·rw [List.drop_eq_nil_of_le h, if_neg (by omega)]; rfl
theorem cmpL_end' {m : List Tm} : cmpL [] m = if 0 < m.length then -1 else 0 := by cases m <;> simp [cmpL]
set_option maxHeartbeats 2000000 in
theorem CompareFunc_ok (l m : List Tm) (hl : l.length ≤ 1000000000) (hm : m.length ≤ 1000000000) (ih : ∀ t ∈ l, ∀ u ∈ m, FnOK Tryd.prog G 16 [.agg (tmC t), .agg (tmC u)] (i64 (cmpT t u))) :
  FnOK Tryd.prog G 42 [.c (tsC l), .c (tsC m), .c (.fn (.func 16) [] [])] (i64 (cmpL l m)) := by
 refine FnOK_by (rs := [.tmp 6]) false [] mixed Tryd.func42 rfl rfl rfl rfl (by kernel_rfl) (by simp) rfl rfl ?_
 simp -implicitDefEqProofs only [pkA, ptA, ↓reduceIte, Nat.reduceEqDiff, Nat.reduceAdd, Nat.reduceBEq, Nat.reduceMul, Nat.reduceLT, Nat.reduceLeDiff, pkT, true_and, tsC]
 refine run_loop (fun i : Nat => hdS [(0, .c (.sl (l.map tmC))), (1, .c (.sl (m.map tmC))), (2, .c (.fn (.func 16) [] [])), (11, .c (.sl (l.map tmC))), (12, i64 l.length), (13, i64 i)] []) (fun i => l.length - i) (fun i => i ≤ l.length ∧ i ≤ m.length ∧ cmpL l m = cmpL (l.drop i) (m.drop i)) 0 ⟨Nat.zero_le _, Nat.zero_le _, rfl⟩ ?_ ?_
 ·exact le_hd rfl (Nat.zero_le _) (Nat.le_refl _) (by simp [FL, up_apply]) trivial
 rintro i ⟨hi, him, he⟩ R hnorm hexit hret
 simp -implicitDefEqProofs only [pkA, ptA, ↓reduceIte, Nat.reduceEqDiff, Nat.reduceAdd, Nat.reduceBEq, Nat.reduceMul, Nat.reduceLT, Nat.reduceLeDiff, pkT, true_and, tsC]
 refine vcond_of (fun hlt => ?_) (fun hge => ?_)
 ·have hlt : i < l.length := by simpa using hlt
  simp -implicitDefEqProofs only [pkA, ptA, ↓reduceIte, Nat.reduceEqDiff, Nat.reduceAdd, Nat.reduceBEq, Nat.reduceMul, Nat.reduceLT, Nat.reduceLeDiff, pkT, true_and, tsC]
  refine ia_of ti_22 rfl ti_24 (by decide) (Int.natCast_nonneg i) (c := tmC l[i]) (by simp [hlt]) (tmC_len _) ?_
  simp -implicitDefEqProofs only [pkA, ptA, ↓reduceIte, Nat.reduceEqDiff, Nat.reduceAdd, Nat.reduceBEq, Nat.reduceMul, Nat.reduceLT, Nat.reduceLeDiff, pkT, true_and, tsC, ld_24 (tmC_len _)]
  refine vcond_of (fun hge => ?_) (fun hlm => ?_)
  ·have hml : i = m.length := by simp at hge; omega
   simp -implicitDefEqProofs only [pkA, ptA, ↓reduceIte, Nat.reduceEqDiff, Nat.reduceAdd, Nat.reduceBEq, Nat.reduceMul, Nat.reduceLT, Nat.reduceLeDiff, pkT, true_and, tsC]
   refine hret _ ?_
   simp -implicitDefEqProofs only [pkA, ptA, ↓reduceIte, Nat.reduceEqDiff, Nat.reduceAdd, Nat.reduceBEq, Nat.reduceMul, Nat.reduceLT, Nat.reduceLeDiff, pkT, true_and, tsC]
   have : m.drop i = [] := List.drop_eq_nil_of_le (by omega)
   rw [he, this, hml, cmpL_end, if_pos (by omega)]
  ·have hlm : i < m.length := by simp at hlm; omega
   simp -implicitDefEqProofs only [pkA, ptA, ↓reduceIte, Nat.reduceEqDiff, Nat.reduceAdd, Nat.reduceBEq, Nat.reduceMul, Nat.reduceLT, Nat.reduceLeDiff, pkT, true_and, tsC]
   refine ia_of ti_22 rfl ti_24 (by decide) (Int.natCast_nonneg i) (c := tmC m[i]) (by simp [hlm]) (tmC_len _) ?_
   simp -implicitDefEqProofs only [pkA, ptA, ↓reduceIte, Nat.reduceEqDiff, Nat.reduceAdd, Nat.reduceBEq, Nat.reduceMul, Nat.reduceLT, Nat.reduceLeDiff, pkT, true_and, tsC, ld_24 (tmC_len _)]
   refine call_fn rfl (ih l[i] (List.getElem_mem hlt) m[i] (List.getElem_mem hlm)) (fun h => by cases h) ?_
   have e1 := cmpL_drop hlt hlm
   have hw2 := wrap_of (n := (i : Int) + 1) (k := i + 1) (by omega) (by omega)
   simp -implicitDefEqProofs only [pkA, ptA, ↓reduceIte, Nat.reduceEqDiff, Nat.reduceAdd, Nat.reduceBEq, Nat.reduceMul, Nat.reduceLT, Nat.reduceLeDiff, pkT, true_and, tsC]
   refine vcond_of (fun hne => ?_) (fun heq => ?_)
   ·have hne : ¬ cmpT l[i] m[i] = 0 := by simpa using hne
    simp -implicitDefEqProofs only [pkA, ptA, ↓reduceIte, Nat.reduceEqDiff, Nat.reduceAdd, Nat.reduceBEq, Nat.reduceMul, Nat.reduceLT, Nat.reduceLeDiff, pkT, true_and, tsC]
    refine hret _ ?_
    simp -implicitDefEqProofs only [pkA, ptA, ↓reduceIte, Nat.reduceEqDiff, Nat.reduceAdd, Nat.reduceBEq, Nat.reduceMul, Nat.reduceLT, Nat.reduceLeDiff, pkT, true_and, tsC]
    rw [he, e1, orJ, if_neg hne]
   ·have heq : cmpT l[i] m[i] = 0 := by simpa using heq
    simp -implicitDefEqProofs only [pkA, ptA, ↓reduceIte, Nat.reduceEqDiff, Nat.reduceAdd, Nat.reduceBEq, Nat.reduceMul, Nat.reduceLT, Nat.reduceLeDiff, pkT, true_and, tsC]
    refine hnorm (i + 1) _ ⟨hlt, hlm, ?_⟩ (by omega) (le_hd rfl (Nat.zero_le _) (Nat.zero_le _) ?_ trivial)
    ·rw [he, e1, orJ, if_pos heq]
    ·simp [FL, up_apply, hw2]
 ·have : i = l.length := by simp at hge; omega
  subst this
  simp -implicitDefEqProofs only [pkA, ptA, ↓reduceIte, Nat.reduceEqDiff, Nat.reduceAdd, Nat.reduceBEq, Nat.reduceMul, Nat.reduceLT, Nat.reduceLeDiff, pkT, true_and, tsC]
  refine hexit _ _ ?_
  simp -implicitDefEqProofs only [pkA, ptA, ↓reduceIte, Nat.reduceEqDiff, Nat.reduceAdd, Nat.reduceBEq, Nat.reduceMul, Nat.reduceLT, Nat.reduceLeDiff, pkT, true_and, tsC]
  have e0 : l.drop l.length = [] := List.drop_length
  refine vcond_of (fun hlt => ?_) (fun hge => ?_)
  ·have hlt : l.length < m.length := by simpa using hlt
   simp -implicitDefEqProofs only [pkA, ptA, ↓reduceIte, Nat.reduceEqDiff, Nat.reduceAdd, Nat.reduceBEq, Nat.reduceMul, Nat.reduceLT, Nat.reduceLeDiff, pkT, true_and, tsC]
   rw [he, e0, cmpL_end', if_pos (by simp; omega)]
  ·have hge : ¬ l.length < m.length := by simpa using hge
   simp -implicitDefEqProofs only [pkA, ptA, ↓reduceIte, Nat.reduceEqDiff, Nat.reduceAdd, Nat.reduceBEq, Nat.reduceMul, Nat.reduceLT, Nat.reduceLeDiff, pkT, true_and, tsC]
   rw [he, e0, cmpL_end', if_neg (by simp; omega)]
set_option maxHeartbeats 2000000 in
theorem Compare_ok : ∀ t u : Tm, sizeT t ≤ 1000000000 → sizeT u ≤ 1000000000 → FnOK Tryd.prog G 16 [.agg (tmC t), .agg (tmC u)] (i64 (cmpT t u)) := by
 refine Tm.ind fun k n l ih => ?_
 intro u hs hu
 obtain ⟨k', n', l'⟩ := u
 have hsz : sizeL l + 1 ≤ 1000000000 := by simp only [sizeT] at hs; omega
 have hsz' : sizeL l' + 1 ≤ 1000000000 := by simp only [sizeT] at hu; omega
 have hll := sizeL_len l
 have hll' := sizeL_len l'
 refine FnOK_by (rs := [.tmp 4]) false [] mixed Tryd.func16 rfl rfl rfl rfl (by kernel_rfl) (by simp) rfl rfl ?_
 simp -implicitDefEqProofs only [pkA, ptA, ↓reduceIte, Nat.reduceEqDiff, Nat.reduceAdd, Nat.reduceBEq, Nat.reduceMul, Nat.reduceLT, Nat.reduceLeDiff, pkT, true_and]
 refine call_fn rfl (CompareI_ok _ _) (fun _ => rfl) ?_
 simp -implicitDefEqProofs only [pkA, ptA, ↓reduceIte, Nat.reduceEqDiff, Nat.reduceAdd, Nat.reduceBEq, Nat.reduceMul, Nat.reduceLT, Nat.reduceLeDiff, pkT, true_and]
 refine call_fn rfl (CompareI_ok _ _) (fun _ => rfl) ?_
 simp -implicitDefEqProofs only [pkA, ptA, ↓reduceIte, Nat.reduceEqDiff, Nat.reduceAdd, Nat.reduceBEq, Nat.reduceMul, Nat.reduceLT, Nat.reduceLeDiff, pkT, true_and]
 refine call_fn rfl (CompareFunc_ok l l' (by omega) (by omega) (fun t ht u hu => ih t ht u (by have := sizeL_mem ht; omega) (by have := sizeL_mem hu; omega))) (fun _ => rfl) ?_
 simp -implicitDefEqProofs only [pkA, ptA, ↓reduceIte, Nat.reduceEqDiff, Nat.reduceAdd, Nat.reduceBEq, Nat.reduceMul, Nat.reduceLT, Nat.reduceLeDiff, pkT, true_and]
 refine call_fn rfl (Or_ok [cmpJ k k', cmpJ n n', cmpL l l'] (by simp)) (fun _ => rfl) ?_
 simp -implicitDefEqProofs only [pkA, ptA, ↓reduceIte, Nat.reduceEqDiff, Nat.reduceAdd, Nat.reduceBEq, Nat.reduceMul, Nat.reduceLT, Nat.reduceLeDiff, pkT, true_and]
 rw [orL3]; rfl
end Go.Proofs.YtkbkajabchhbeaaDoor
/- Layer 15: the specification's Compare, Valid, Small, Same, Has. -/
namespace Go.Proofs.YtkbkajabchhbeaaDoor
open Go Go.Vl
variable {G : Gl}
set_option maxRecDepth 4000
set_option maxHeartbeats 4000000 in
theorem RCompare_ok : ∀ t u : Tm, sizeT t ≤ 1000000000 → sizeT u ≤ 1000000000 → FnOK Tryd.prog G 17 [.agg (tmC t), .agg (tmC u)] (i64 (cmpT t u)) := by
 refine Tm.ind fun k n l ih => ?_
 intro u hs hu
 obtain ⟨k', n', m⟩ := u
 have hsz : sizeL l + 1 ≤ 1000000000 := by simp only [sizeT] at hs; omega
 have hsz' : sizeL m + 1 ≤ 1000000000 := by simp only [sizeT] at hu; omega
 have hll := sizeL_len l
 have hll' := sizeL_len m
 have ec : cmpT (.mk k n l) (.mk k' n' m) = orJ (cmpJ k k') (orJ (cmpJ n n') (cmpL l m)) := rfl
 refine FnOK_by (rs := [.tmp 4]) false [] mixed Tryd.func17 rfl rfl rfl rfl (by kernel_rfl) (by simp) rfl rfl ?_
 simp -implicitDefEqProofs only [pkA, ptA, ↓reduceIte, Nat.reduceEqDiff, Nat.reduceAdd, Nat.reduceBEq, Nat.reduceMul, Nat.reduceLT, Nat.reduceLeDiff, pkT, true_and]
 refine vcond_of (fun hk => ?_) (fun hk => ?_)
 ·have hk : ¬ k = k' := by simpa using hk
  simp -implicitDefEqProofs only [pkA, ptA, ↓reduceIte, Nat.reduceEqDiff, Nat.reduceAdd, Nat.reduceBEq, Nat.reduceMul, Nat.reduceLT, Nat.reduceLeDiff, pkT, true_and]
  refine vcond_of (fun h => ?_) (fun h => ?_)
  ·have h : k < k' := by simpa using h
   simp -implicitDefEqProofs only [pkA, ptA, ↓reduceIte, Nat.reduceEqDiff, Nat.reduceAdd, Nat.reduceBEq, Nat.reduceMul, Nat.reduceLT, Nat.reduceLeDiff, pkT, true_and]
   rw [ec]; simp [orJ, cmpJ, h]
  ·have h : ¬ k < k' := by simpa using h
   simp -implicitDefEqProofs only [pkA, ptA, ↓reduceIte, Nat.reduceEqDiff, Nat.reduceAdd, Nat.reduceBEq, Nat.reduceMul, Nat.reduceLT, Nat.reduceLeDiff, pkT, true_and]
   rw [ec]; simp [orJ, cmpJ, h]; omega
 have hk : k = k' := by simpa using hk
 subst hk
 simp -implicitDefEqProofs only [pkA, ptA, ↓reduceIte, Nat.reduceEqDiff, Nat.reduceAdd, Nat.reduceBEq, Nat.reduceMul, Nat.reduceLT, Nat.reduceLeDiff, pkT, true_and]
 refine vcond_of (fun hn => ?_) (fun hn => ?_)
 ·have hn : ¬ n = n' := by simpa using hn
  simp -implicitDefEqProofs only [pkA, ptA, ↓reduceIte, Nat.reduceEqDiff, Nat.reduceAdd, Nat.reduceBEq, Nat.reduceMul, Nat.reduceLT, Nat.reduceLeDiff, pkT, true_and]
  refine vcond_of (fun h => ?_) (fun h => ?_)
  ·have h : n < n' := by simpa using h
   simp -implicitDefEqProofs only [pkA, ptA, ↓reduceIte, Nat.reduceEqDiff, Nat.reduceAdd, Nat.reduceBEq, Nat.reduceMul, Nat.reduceLT, Nat.reduceLeDiff, pkT, true_and]
   rw [ec]; simp [orJ, cmpJ, h]
  ·have h : ¬ n < n' := by simpa using h
   simp -implicitDefEqProofs only [pkA, ptA, ↓reduceIte, Nat.reduceEqDiff, Nat.reduceAdd, Nat.reduceBEq, Nat.reduceMul, Nat.reduceLT, Nat.reduceLeDiff, pkT, true_and]
   rw [ec]; simp [orJ, cmpJ, h]; omega
 have hn : n = n' := by simpa using hn
 subst hn
 have ec' : cmpT (.mk k n l) (.mk k n m) = cmpL l m := by rw [ec]; simp [orJ, cmpJ]
 simp -implicitDefEqProofs only [pkA, ptA, ↓reduceIte, Nat.reduceEqDiff, Nat.reduceAdd, Nat.reduceBEq, Nat.reduceMul, Nat.reduceLT, Nat.reduceLeDiff, pkT, true_and, tsC]
 refine run_loop (fun i : Nat => hdS [(2, .bp 0 0), (3, .bp 1 0), (5, i64 i)] [(tmC (.mk k n l)).map .c, (tmC (.mk k n m)).map .c]) (fun i => l.length - i) (fun i => i ≤ l.length ∧ i ≤ m.length ∧ cmpL l m = cmpL (l.drop i) (m.drop i)) 0 ⟨Nat.zero_le _, Nat.zero_le _, rfl⟩ ?_ ?_
 ·exact le_hd (by simp only [leOk, List.all_cons, List.all_nil, tmC_ltB]; rfl) (Nat.zero_le _) (Nat.le_refl _) (by simp [FL, up_apply]) ⟨by simp [up_apply], by simp [up_apply], trivial⟩
 rintro i ⟨hi, him, he⟩ R hnorm hexit hret
 have hfin : (i = l.length ∨ i = m.length) → cmpL l m = if l.length < m.length then -1 else if m.length < l.length then 1 else 0 := by
  rintro (h | h)
  ·rw [he, h, List.drop_length, cmpL_end', List.length_drop]
   by_cases h2 : l.length < m.length
   ·rw [if_pos (by omega), if_pos h2]
   ·rw [if_neg (by omega), if_neg h2, if_neg (by omega)]
  ·rw [he, h, List.drop_length, cmpL_end]
   by_cases h2 : m.length < l.length
   ·rw [if_pos h2, if_neg (by omega)]
   ·rw [if_neg h2, if_neg (by omega)]
 have hpost : (i = l.length ∨ i = m.length) → ∀ fr, fr 2 = .bp 0 0 → fr 3 = .bp 1 0 → R (.exit 0) ⟨fr, bxs [(tmC (.mk k n l)).map .c, (tmC (.mk k n m)).map .c], 2⟩ := by
  intro h fr f2 f3
  have hf := hfin h
  refine hexit _ _ ?_
  simp -implicitDefEqProofs only [pkA, ptA, ↓reduceIte, Nat.reduceEqDiff, Nat.reduceAdd, Nat.reduceBEq, Nat.reduceMul, Nat.reduceLT, Nat.reduceLeDiff, pkT, true_and, tsC, f2, f3]
  refine vcond_of (fun hlt => ?_) (fun hge => ?_)
  ·have hlt : l.length < m.length := by simpa using hlt
   simp -implicitDefEqProofs only [pkA, ptA, ↓reduceIte, Nat.reduceEqDiff, Nat.reduceAdd, Nat.reduceBEq, Nat.reduceMul, Nat.reduceLT, Nat.reduceLeDiff, pkT, true_and, tsC, f2, f3]
   rw [ec', hf, if_pos hlt]
  ·have hge : ¬ l.length < m.length := by simpa using hge
   simp -implicitDefEqProofs only [pkA, ptA, ↓reduceIte, Nat.reduceEqDiff, Nat.reduceAdd, Nat.reduceBEq, Nat.reduceMul, Nat.reduceLT, Nat.reduceLeDiff, pkT, true_and, tsC, f2, f3]
   refine vcond_of (fun hlt => ?_) (fun hge2 => ?_)
   ·have hlt : m.length < l.length := by simpa using hlt
    simp -implicitDefEqProofs only [pkA, ptA, ↓reduceIte, Nat.reduceEqDiff, Nat.reduceAdd, Nat.reduceBEq, Nat.reduceMul, Nat.reduceLT, Nat.reduceLeDiff, pkT, true_and, tsC, f2, f3]
    rw [ec', hf, if_neg hge, if_pos hlt]
   ·have hge2 : ¬ m.length < l.length := by simpa using hge2
    simp -implicitDefEqProofs only [pkA, ptA, ↓reduceIte, Nat.reduceEqDiff, Nat.reduceAdd, Nat.reduceBEq, Nat.reduceMul, Nat.reduceLT, Nat.reduceLeDiff, pkT, true_and, tsC, f2, f3]
    rw [ec', hf, if_neg hge, if_neg hge2]
 simp -implicitDefEqProofs only [pkA, ptA, ↓reduceIte, Nat.reduceEqDiff, Nat.reduceAdd, Nat.reduceBEq, Nat.reduceMul, Nat.reduceLT, Nat.reduceLeDiff, pkT, true_and, tsC]
 refine vgd_of (fun hlt => ?_) (fun hge => ?_)
 ·have hlt : i < l.length := by simpa using hlt
  simp -implicitDefEqProofs only [pkA, ptA, ↓reduceIte, Nat.reduceEqDiff, Nat.reduceAdd, Nat.reduceBEq, Nat.reduceMul, Nat.reduceLT, Nat.reduceLeDiff, pkT, true_and, tsC]
  refine vcond_of (fun hlm => ?_) (fun hge => ?_)
  ·have hlm : i < m.length := by simpa using hlm
   simp -implicitDefEqProofs only [pkA, ptA, ↓reduceIte, Nat.reduceEqDiff, Nat.reduceAdd, Nat.reduceBEq, Nat.reduceMul, Nat.reduceLT, Nat.reduceLeDiff, pkT, true_and, tsC]
   refine ia_of ti_22 rfl ti_24 (by decide) (Int.natCast_nonneg i) (c := tmC l[i]) (by simp [Tm.l, hlt]) (tmC_len _) ?_
   simp -implicitDefEqProofs only [pkA, ptA, ↓reduceIte, Nat.reduceEqDiff, Nat.reduceAdd, Nat.reduceBEq, Nat.reduceMul, Nat.reduceLT, Nat.reduceLeDiff, pkT, true_and, tsC, ld_24 (tmC_len _)]
   refine ia_of ti_22 rfl ti_24 (by decide) (Int.natCast_nonneg i) (c := tmC m[i]) (by simp [Tm.l, hlm]) (tmC_len _) ?_
   simp -implicitDefEqProofs only [pkA, ptA, ↓reduceIte, Nat.reduceEqDiff, Nat.reduceAdd, Nat.reduceBEq, Nat.reduceMul, Nat.reduceLT, Nat.reduceLeDiff, pkT, true_and, tsC, ld_24 (tmC_len _)]
   refine call_fn rfl (ih l[i] (List.getElem_mem hlt) m[i] (by have := sizeL_mem (List.getElem_mem hlt); omega) (by have := sizeL_mem (List.getElem_mem hlm); omega)) (fun h => by cases h) ?_
   have e1 := cmpL_drop hlt hlm
   have hw2 := wrap_of (n := (i : Int) + 1) (k := i + 1) (by omega) (by omega)
   simp -implicitDefEqProofs only [pkA, ptA, ↓reduceIte, Nat.reduceEqDiff, Nat.reduceAdd, Nat.reduceBEq, Nat.reduceMul, Nat.reduceLT, Nat.reduceLeDiff, pkT, true_and, tsC]
   refine vcond_of (fun hne => ?_) (fun heq => ?_)
   ·have hne : ¬ cmpT l[i] m[i] = 0 := by simpa using hne
    simp -implicitDefEqProofs only [pkA, ptA, ↓reduceIte, Nat.reduceEqDiff, Nat.reduceAdd, Nat.reduceBEq, Nat.reduceMul, Nat.reduceLT, Nat.reduceLeDiff, pkT, true_and, tsC]
    refine hret _ ?_
    simp -implicitDefEqProofs only [pkA, ptA, ↓reduceIte, Nat.reduceEqDiff, Nat.reduceAdd, Nat.reduceBEq, Nat.reduceMul, Nat.reduceLT, Nat.reduceLeDiff, pkT, true_and, tsC]
    rw [ec', he, e1, orJ, if_neg hne]
   ·have heq : cmpT l[i] m[i] = 0 := by simpa using heq
    simp -implicitDefEqProofs only [pkA, ptA, ↓reduceIte, Nat.reduceEqDiff, Nat.reduceAdd, Nat.reduceBEq, Nat.reduceMul, Nat.reduceLT, Nat.reduceLeDiff, pkT, true_and, tsC]
    refine hnorm (i + 1) _ ⟨hlt, hlm, ?_⟩ (by omega) (le_hd (by simp only [leOk, List.all_cons, List.all_nil, tmC_ltB]; rfl) (Nat.zero_le _) (Nat.le_refl _) ?_ ⟨by simp [bxs], by simp [bxs], trivial⟩)
    ·rw [he, e1, orJ, if_pos heq]
    ·simp [FL, up_apply, hw2]
  ·have hge : i = m.length := by simp [Tm.l] at hge; omega
   simp -implicitDefEqProofs only [pkA, ptA, ↓reduceIte, Nat.reduceEqDiff, Nat.reduceAdd, Nat.reduceBEq, Nat.reduceMul, Nat.reduceLT, Nat.reduceLeDiff, pkT, true_and, tsC]
   exact hpost (.inr hge) _ (by simp [up_apply]) (by simp [up_apply])
 ·have hge : i = l.length := by simp [Tm.l] at hge; omega
  simp -implicitDefEqProofs only [pkA, ptA, ↓reduceIte, Nat.reduceEqDiff, Nat.reduceAdd, Nat.reduceBEq, Nat.reduceMul, Nat.reduceLT, Nat.reduceLeDiff, pkT, true_and, tsC]
  exact hpost (.inl hge) _ (by simp [up_apply]) (by simp [up_apply])
