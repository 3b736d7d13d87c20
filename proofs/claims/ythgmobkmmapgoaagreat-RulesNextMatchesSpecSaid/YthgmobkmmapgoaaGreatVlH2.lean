/- Layer 17: the order of facts. -/
import Derived.Test.YthgmobkmmapgoaaGreatVlA1
import Derived.Test.YthgmobkmmapgoaaGreatSrt
import Derived.Test.YthgmobkmmapgoaaGreatVlSrt
set_option linter.unusedSimpArgs false
set_option linter.unusedVariables false
namespace Go.Proofs.YthgmobkmmapgoaaGreat
open Go Go.Vl
variable {G : Gl}
set_option maxRecDepth 4000
theorem isNaN_ok (a : Int) : FnOK Tryz.prog G 61 [i64 a] (bo false) := by
 refine FnOK_by (rs := [.tmp 2]) false [] mixed Tryz.func61 rfl rfl rfl rfl (by kernel_rfl) (by simp) rfl rfl ?_
 repeat' first
  | (simp -implicitDefEqProofs only [pkA, ↓reduceIte, Nat.reduceEqDiff, Nat.reduceAdd])
  | refine vgd_of (fun h => ?_) (fun h => ?_)
  | refine vcond_of (fun h => ?_) (fun h => ?_)
 all_goals simp_all
def cmpI (a b : Int) : Int := if a < b then -1 else if b < a then 1 else 0
set_option maxHeartbeats 1000000 in
theorem CompareI_ok (a b : Int) : FnOK Tryz.prog G 45 [i64 a, i64 b] (i64 (cmpI a b)) := by
 refine FnOK_by (rs := [.tmp 4]) false [] mixed Tryz.func45 rfl rfl rfl rfl (by kernel_rfl) (by simp) rfl rfl ?_
 simp -implicitDefEqProofs only [pkA, ↓reduceIte, Nat.reduceEqDiff, Nat.reduceAdd]
 refine call_fn rfl (isNaN_ok a) (by simp [V.boxy]) ?_
 simp -implicitDefEqProofs only [pkA, ↓reduceIte, Nat.reduceEqDiff, Nat.reduceAdd]
 refine call_fn rfl (isNaN_ok b) (by simp [V.boxy]) ?_
 repeat' first
  | (simp -implicitDefEqProofs only [pkA, ↓reduceIte, Nat.reduceEqDiff, Nat.reduceAdd])
  | refine vgd_of (fun h => ?_) (fun h => ?_)
  | refine vcond_of (fun h => ?_) (fun h => ?_)
 all_goals (simp_all [cmpI] <;> omega)
def orL : List Int → Int
 | [] => 0
 | x :: l => if x = 0 then orL l else x
set_option maxHeartbeats 1000000 in
theorem Or_ok (l : List Int) (hm : l.length ≤ 9223372036854775807) : FnOK Tryz.prog G 44 [.c (.sl (l.map fun y => [cI y]))] (i64 (orL l)) := by
 refine FnOK_by (rs := [.tmp 2]) false [] mixed Tryz.func44 rfl rfl rfl rfl (by kernel_rfl) (by simp) rfl rfl ?_
 simp -implicitDefEqProofs only [pkA, ptA, ↓reduceIte, Nat.reduceEqDiff, Nat.reduceAdd]
 refine run_loop (fun i : Nat => hdS [(3, i64 0), (6, .c (.sl (l.map fun y => [cI y]))), (7, i64 l.length), (8, i64 i)] []) (fun i => l.length - i) (fun i => i ≤ l.length ∧ orL l = orL (l.drop i)) 0 ⟨Nat.zero_le _, rfl⟩ ?_ ?_
 ·refine le_hd rfl (Nat.zero_le _) (Nat.le_refl _) ?_ trivial
  simp [FL, up_apply]
 rintro i ⟨hi, hno⟩ R hnorm hexit hret
 simp -implicitDefEqProofs only [pkA, ↓reduceIte, Nat.reduceEqDiff, Nat.reduceAdd]
 refine vcond_of (fun hlt => ?_) (fun hge => ?_)
 ·have hlt : i < l.length := by simpa using hlt
  rw [List.drop_eq_getElem_cons hlt] at hno
  simp -implicitDefEqProofs only [pkA, ↓reduceIte, Nat.reduceEqDiff, Nat.reduceAdd]
  refine ia_of ti_71 rfl ti_3 (by decide) (Int.natCast_nonneg i) (c := [cI l[i]]) (by simp [hlt]) rfl ?_
  have e0 : ∀ K, partV false 1 0 [cI l[i]] K = K (i64 l[i]) := fun _ => rfl
  simp -implicitDefEqProofs only [pkA, ptA, ↓reduceIte, Nat.reduceEqDiff, Nat.reduceAdd, e0]
  refine vcond_of (fun hy => ?_) (fun hn => ?_)
  ·have hy : ¬ l[i] = 0 := by simpa using hy
   simp -implicitDefEqProofs only [pkA, ↓reduceIte, Nat.reduceEqDiff, Nat.reduceAdd]
   refine hret _ ?_
   simp -implicitDefEqProofs only [pkA, ↓reduceIte]
   rw [hno]; simp only [orL]; rw [if_neg hy]
  ·have hn : l[i] = 0 := by simpa using hn
   have hw := wrap_of (n := (i : Int) + 1) (k := i + 1) (by omega) (by omega)
   simp -implicitDefEqProofs only [pkA, ↓reduceIte, Nat.reduceEqDiff, Nat.reduceAdd]
   refine hnorm (i + 1) _ ⟨hlt, ?_⟩ (by omega) (le_hd rfl (Nat.zero_le _) (Nat.le_refl _) ?_ trivial)
   ·rw [hno]; simp only [orL]; rw [if_pos hn]
   ·simp [FL, up_apply, hw]
 ·have : i = l.length := by simp at hge; omega
  subst this
  simp -implicitDefEqProofs only [pkA]
  refine hexit _ _ ?_
  simp -implicitDefEqProofs only [pkA, ↓reduceIte, Nat.reduceEqDiff, Nat.reduceAdd]
  rw [hno]; simp [orL]
def cmpF (a b : Fa) : Int := orL [cmpI a.kind b.kind, cmpI a.a b.a, cmpI a.b b.b]
set_option maxHeartbeats 2000000 in
theorem Compare_ok (a b : Fa) : FnOK Tryz.prog G 11 [.agg (faC a), .agg (faC b)] (i64 (cmpF a b)) := by
 refine FnOK_by (rs := [.tmp 4]) false [] mixed Tryz.func11 rfl rfl rfl rfl (by kernel_rfl) (by simp) rfl rfl ?_
 have g0 : ∀ (nb q : Nat) (f : Fa) K, ldB nb q ((faC f).map .c) 0 K = (q < nb ∧ K (i64 f.kind)) := fun _ _ _ _ => rfl
 have g1 : ∀ (nb q : Nat) (f : Fa) K, ldB nb q ((faC f).map .c) 1 K = (q < nb ∧ K (i64 f.a)) := fun _ _ _ _ => rfl
 have g2 : ∀ (nb q : Nat) (f : Fa) K, ldB nb q ((faC f).map .c) 2 K = (q < nb ∧ K (i64 f.b)) := fun _ _ _ _ => rfl
 have gm : ∀ f : Fa, isMb ((faC f).map V.c) = false := fun _ => rfl
 simp -implicitDefEqProofs only [pkA, ptA, ↓reduceIte, Nat.reduceEqDiff, Nat.reduceAdd, Nat.reduceMul, Nat.reduceLT, g0, gm]
 refine call_fn rfl (CompareI_ok _ _) (fun _ => rfl) ?_
 simp -implicitDefEqProofs only [pkA, ptA, ↓reduceIte, Nat.reduceEqDiff, Nat.reduceAdd, Nat.reduceMul, Nat.reduceLT, g1, gm]
 refine call_fn rfl (CompareI_ok _ _) (fun _ => rfl) ?_
 simp -implicitDefEqProofs only [pkA, ptA, ↓reduceIte, Nat.reduceEqDiff, Nat.reduceAdd, Nat.reduceMul, Nat.reduceLT, g2, gm]
 refine call_fn rfl (CompareI_ok _ _) (fun _ => rfl) ?_
 simp -implicitDefEqProofs only [pkA, ptA, ↓reduceIte, Nat.reduceEqDiff, Nat.reduceAdd, Nat.reduceMul, Nat.reduceLT, Nat.reduceLeDiff]
 refine call_fn rfl (Or_ok [cmpI a.kind b.kind, cmpI a.a b.a, cmpI a.b b.b] (by simp)) (fun _ => rfl) ?_
 simp -implicitDefEqProofs only [pkA, ↓reduceIte, cmpF]
end Go.Proofs.YthgmobkmmapgoaaGreat
/- Layer 17: sorting facts: slices.SortFunc, Clone, Compact. -/
namespace Go.Proofs.YthgmobkmmapgoaaGreat
open Go Go.Vl
variable {G : Gl}
set_option maxRecDepth 4000
def ltF (x y : Fa) : Bool := decide (x.kind < y.kind ∨ (x.kind = y.kind ∧ (x.a < y.a ∨ (x.a = y.a ∧ x.b < y.b))))
theorem ltOf_cmpF (x y : Fa) : ltOf cmpF x y = ltF x y := by
 have h : cmpF x y < 0 ↔ (x.kind < y.kind ∨ (x.kind = y.kind ∧ (x.a < y.a ∨ (x.a = y.a ∧ x.b < y.b)))) := by
  unfold cmpF
  simp only [orL, cmpI]
  repeat' split
  all_goals omega
 unfold ltOf ltF
 exact decide_eq_decide.2 h
theorem fa_ext {x y : Fa} (h1 : x.kind = y.kind) (h2 : x.a = y.a) (h3 : x.b = y.b) : x = y := by cases x; cases y; simp_all
theorem ltF_swo : Go.Sort.SWO (ltOf cmpF) where
 irrefl x := by rw [ltOf_cmpF]; unfold ltF; simp
 trans x y z h1 h2 := by rw [ltOf_cmpF] at *; unfold ltF at *; simp only [decide_eq_true_eq] at *; omega
 ntrans x y z h1 h2 := by rw [ltOf_cmpF] at *; unfold ltF at *; simp only [decide_eq_false_iff_not] at *; omega
theorem ltF_tot {x y : Fa} (h1 : ltF x y = false) (h2 : ltF y x = false) : x = y := by
 unfold ltF at *
 simp only [decide_eq_false_iff_not] at *
 exact fa_ext (by omega) (by omega) (by omega)
def leF (x y : Fa) : Bool := !ltF y x
def sortF (l : List Fa) : List Fa := l.mergeSort leF
theorem sortF_perm (l : List Fa) : (sortF l).Perm l := List.mergeSort_perm l leF
theorem sortF_len (l : List Fa) : (sortF l).length = l.length := (sortF_perm l).length_eq
theorem sortF_sorted (l : List Fa) : (sortF l).Pairwise fun x y => ltF y x = false := by
 have := List.pairwise_mergeSort (le := leF) (fun x y z h1 h2 => by unfold leF ltF at *; simp only [Bool.not_eq_true', decide_eq_false_iff_not] at *; omega) (fun x y => by
  unfold leF ltF; simp only [Bool.or_eq_true, Bool.not_eq_true', decide_eq_false_iff_not]; omega) l
 exact this.imp fun h => by unfold leF at h; simpa using h
theorem fn_sort : ∃ fn, Tryz.prog.funcs[47]? = some fn ∧ (fn.name == "runtime.NumGoroutine") = false ∧ ∃ b, fn.body = some b := ⟨_, Tryz.func47, rfl, _, rfl⟩
def CmpOK (G : Gl) (g : FuncId) (cs : List C) : Prop := (∀ args w, (callFunc g args).run Tryz.prog w = .ok (.enter g args) w) ∧ ∀ x y : Fa, FnOK Tryz.prog G g ([.agg (faC x), .agg (faC y)] ++ cs.map .c) (i64 (cmpF x y))
theorem Compare_cmp : CmpOK G 11 [] := ⟨enters_of Tryz.func11 (by kernel_rfl) rfl, fun x y => Compare_ok x y⟩
theorem Sort_ok {g : FuncId} {cs : List C} (h : CmpOK G g cs) (l : List Fa) (hl : l.length < 4611686018427387904) (cap : Nat) (hc : l.length ≤ cap) :
  FnB Tryz.prog G 47 [.ms 0 0 l.length cap 3, .c (.fn (.func g) [] cs)] [flb faC l] (.tup []) [flb faC (sortF l)] :=
 FnB_sort (ρ := Tryz.sortFa_ren) Tryz.sortFa fn_sort Tryz.isAgg29 Tryz.sizeOf29 faC_len (by decide) ⟨0, 0, 0⟩ [.int .i64 0, .int .i64 0, .int .i64 0] rfl (fun v hv => by simp at hv; rcases hv with rfl | rfl | rfl <;> rfl)
  (fun I w j x hx => by
   match j with
   | 0 | 1 | 2 => simp only [faC, cI, List.getElem?_cons_zero, List.getElem?_cons_succ, Option.some.injEq] at hx; subst hx; exact .lit _ rfl
   | j + 3 => simp [faC] at hx)
  cmpF ltF_swo g cs h.1 h.2 l (sortF l) hl (sortF_perm l) ((sortF_sorted l).imp fun h => by rw [ltOf_cmpF]; exact h) (fun x _ y _ h1 h2 => by rw [ltOf_cmpF] at h1 h2; exact ltF_tot h1 h2) cap hc
theorem SortN_ok {x : C} : FnOK Tryz.prog G 47 [.c (.sl []), .c x] (.tup []) :=
 FnOK_sort_nil (ρ := Tryz.sortFa_ren) Tryz.sortFa fn_sort
set_option maxHeartbeats 1000000 in
theorem CloneB_fa (es : List (List C)) (hne : es ≠ []) (hl : ∀ e ∈ es, e.length = 3) (hm : es.length < 1000000000) :
  FnB Tryz.prog G 46 [.c (.sl es)] [] (.ms 0 0 es.length es.length 3) [es.flatten.map .c] := by
 refine FnB_by (rs := [.tmp 2]) (k := 0) [2000007] mixed Tryz.func46 rfl rfl rfl rfl (by kernel_rfl) (by simp) rfl rfl rfl rfl (by simp) ?_
 have hie : es.isEmpty = false := by simpa using hne
 simp -implicitDefEqProofs only [pkA, ptA, ↓reduceIte, Nat.reduceEqDiff, Nat.reduceAdd, Nat.reduceBEq, Nat.reduceMul, Nat.reduceLeDiff, vnil_ne ti_27 rfl hne]
 rw [app_27]
 refine ⟨⟨.inl rfl, by simp⟩, ⟨by simp only [List.length_nil, Nat.zero_add]; omega, by simp only [List.length_nil, Nat.zero_add]; omega, hl⟩, ?_⟩
 simp -implicitDefEqProofs only [pkA, ↓reduceIte, Nat.reduceAdd, hie]
 refine end_B [(2, .ms 0 0 es.length es.length 3)] rfl ?_ (by simp) (by simp) (by simp [FL]) (by simp [BL]) rfl
 simp only [leOk, List.all_cons, List.all_nil, all_ltB_c, List.length_cons, List.length_nil]; rfl
set_option maxHeartbeats 1000000 in
theorem CloneO_fa (es : List (List C)) (hl : ∀ e ∈ es, e.length = 3) (hm : es.length < 1000000000) :
  FnOK Tryz.prog G 46 [.c (.sl es)] (.ow (if es.isEmpty then none else some (29, 3)) es) := by
 refine FnOK_by (rs := [.tmp 2]) false [7] mixed Tryz.func46 rfl rfl rfl rfl (by kernel_rfl) (by simp) rfl rfl ?_
 by_cases hne : es = []
 ·subst hne
  simp -implicitDefEqProofs only [pkA, ptA, ↓reduceIte, Nat.reduceEqDiff, Nat.reduceAdd, Nat.reduceBEq, Nat.reduceMul, Nat.reduceLeDiff, vnil_nil ti_27 rfl]
  rw [app_27]
  refine ⟨⟨.inl rfl, by simp⟩, ⟨by simp, by simp, by simp⟩, ?_⟩
  simp -implicitDefEqProofs only [pkA, ↓reduceIte, Nat.reduceEqDiff]
 ·have hie : es.isEmpty = false := by simpa using hne
  simp -implicitDefEqProofs only [pkA, ptA, ↓reduceIte, Nat.reduceEqDiff, Nat.reduceAdd, Nat.reduceBEq, Nat.reduceMul, Nat.reduceLeDiff, vnil_ne ti_27 rfl hne]
  rw [app_27]
  refine ⟨⟨.inl rfl, by simp⟩, ⟨by simp only [List.length_nil, Nat.zero_add]; omega, by simp only [List.length_nil, Nat.zero_add]; omega, hl⟩, ?_⟩
  simp -implicitDefEqProofs only [pkA, ↓reduceIte, Nat.reduceEqDiff, hie]
