/- Layer 17, the specification: small functions. -/
import Derived.Test.YthgmobkmmapgoaaGreatVlK1
import Derived.Test.YthgmobkmmapgoaaGreatVlBits
set_option linter.unusedSimpArgs false
set_option linter.unusedVariables false
namespace Go.Proofs.YthgmobkmmapgoaaGreat
open Go Go.Vl
variable {G : Gl}
set_option maxRecDepth 4000
theorem rHandle_ok (v t : Int) : FnOK Tryz.prog G 40 [i64 v, i64 t] (.agg (faC (handleF v t))) := by
 refine FnOK_by (rs := [.cell 4 29]) false [] mixed Tryz.func40 rfl rfl rfl rfl (by kernel_rfl) (by simp) rfl rfl ?_
 simp -implicitDefEqProofs only [pkA, ptA, ↓reduceIte, Nat.reduceEqDiff, Nat.reduceAdd, Nat.reduceMul, Nat.reduceLT, Nat.reduceLeDiff]
 exact ⟨rfl, by decide, ⟨rfl, rfl⟩, rfl⟩
theorem rBlob_ok (v t : Int) : FnOK Tryz.prog G 41 [i64 v, i64 t] (.agg (faC (blobF v t))) := by
 refine FnOK_by (rs := [.cell 4 29]) false [] mixed Tryz.func41 rfl rfl rfl rfl (by kernel_rfl) (by simp) rfl rfl ?_
 simp -implicitDefEqProofs only [pkA, ptA, ↓reduceIte, Nat.reduceEqDiff, Nat.reduceAdd, Nat.reduceMul, Nat.reduceLT, Nat.reduceLeDiff]
 exact ⟨rfl, by decide, ⟨rfl, rfl⟩, rfl⟩
theorem rLeak_ok (s : Int) : FnOK Tryz.prog G 42 [i64 s] (.agg (faC (leakF s))) := by
 refine FnOK_by (rs := [.cell 2 29]) false [] mixed Tryz.func42 rfl rfl rfl rfl (by kernel_rfl) (by simp) rfl rfl ?_
 simp -implicitDefEqProofs only [pkA, ptA, ↓reduceIte, Nat.reduceEqDiff, Nat.reduceAdd, Nat.reduceMul, Nat.reduceLT, Nat.reduceLeDiff]
 exact ⟨rfl, by decide, ⟨rfl, rfl⟩, rfl⟩
theorem rRaw_ok (s : Int) : FnOK Tryz.prog G 43 [i64 s] (.agg (faC (rawF s))) := by
 refine FnOK_by (rs := [.cell 2 29]) false [] mixed Tryz.func43 rfl rfl rfl rfl (by kernel_rfl) (by simp) rfl rfl ?_
 simp -implicitDefEqProofs only [pkA, ptA, ↓reduceIte, Nat.reduceEqDiff, Nat.reduceAdd, Nat.reduceMul, Nat.reduceLT, Nat.reduceLeDiff]
 exact ⟨rfl, by decide, ⟨rfl, rfl⟩, rfl⟩
theorem rSubset_ok (a b : Int) (ha : I64 a) : FnOK Tryz.prog G 67 [i64 a, i64 b] (bo (subI a b)) := by
 refine FnOK_by (rs := [.tmp 4]) false [] mixed Tryz.func67 rfl rfl rfl rfl (by kernel_rfl) (by simp) rfl rfl ?_
 have hN : ∀ K, vint .and .i64 a b K = K (i64 (bits .and .i64 a b)) := fun _ => rfl
 simp -implicitDefEqProofs only [pkA, ↓reduceIte, Nat.reduceEqDiff, Nat.reduceAdd, hN]
 unfold subI
 rw [decide_eq_decide.2 (andNot_and (b := b) ha)]
theorem ris_ok (p : Pol) (t : Int) : FnOK Tryz.prog G 66 [.agg (poC p), i64 t] (bo (decide (0 ≤ t) && decide (t < p.types.length))) := by
 refine FnOK_by (rs := [.tmp 4]) false [] mixed Tryz.func66 rfl rfl rfl rfl (by kernel_rfl) (by simp) rfl rfl ?_
 repeat' first
  | (simp -implicitDefEqProofs only [pkA, ptA, ↓reduceIte, Nat.reduceEqDiff, Nat.reduceAdd, Nat.reduceMul, Nat.reduceLT, pkF])
  | refine vgd_of (fun h => ?_) (fun h => ?_)
 all_goals (simp_all <;> omega)
theorem rHas_ok (p : Pol) (t : Nat) (flags : Int) (hf : I64 flags) (hm : p.types.length ≤ 9223372036854775807) : FnOK Tryz.prog G 52 [.agg (poC p), i64 t, i64 flags] (bo (hasF p t flags)) := by
 refine FnOK_by (rs := [.tmp 6]) false [] mixed Tryz.func52 rfl rfl rfl rfl (by kernel_rfl) (by simp) rfl rfl ?_
 simp -implicitDefEqProofs only [pkA, ptA, ↓reduceIte, Nat.reduceEqDiff, Nat.reduceAdd, Nat.reduceMul, Nat.reduceLT, pkF]
 refine call_fn rfl (ris_ok p t) (fun _ => rfl) ?_
 simp -implicitDefEqProofs only [pkA, ↓reduceIte]
 refine vgd_of (fun h => ?_) (fun h => ?_)
 ·have ht : t < p.types.length := by simpa using h
  simp -implicitDefEqProofs only [pkA, ptA, ↓reduceIte, Nat.reduceEqDiff, Nat.reduceAdd, Nat.reduceMul, Nat.reduceLT, pkF]
  refine ia_of ti_22 rfl ti_66 (by decide) (Int.natCast_nonneg t) (c := tyC p.types[t]) (by simp [ht]) rfl ?_
  simp -implicitDefEqProofs only [pkA, ptA, ↓reduceIte, Nat.reduceEqDiff, Nat.reduceAdd, pkF]
  refine call_fn rfl (rSubset_ok _ _ hf) (fun _ => rfl) ?_
  simp -implicitDefEqProofs only [pkA, ↓reduceIte, Nat.reduceEqDiff]
  unfold hasF
  rw [List.getElem?_eq_getElem ht]
 ·have ht : ¬ t < p.types.length := by simpa using h
  simp -implicitDefEqProofs only [pkA, ↓reduceIte, Nat.reduceEqDiff]
  unfold hasF
  rw [List.getElem?_eq_none (by omega)]
theorem Small_ok (p : Pol) : FnOK Tryz.prog G 20 [.agg (poC p)] (bo (decide ((p.types.length : Int) ≤ 7) && decide ((p.rules.length : Int) ≤ 14))) := by
 refine FnOK_by (rs := [.tmp 2]) false [] mixed Tryz.func20 rfl rfl rfl rfl (by kernel_rfl) (by simp) rfl rfl ?_
 repeat' first
  | (simp -implicitDefEqProofs only [pkA, ptA, ↓reduceIte, Nat.reduceEqDiff, Nat.reduceAdd, Nat.reduceMul, Nat.reduceLT, pkF])
  | refine vgd_of (fun h => ?_) (fun h => ?_)
 all_goals (simp_all <;> omega)
section
variable {f : Fa} {nb q : Nat} {K : V → Prop}
theorem gfa0 : ldB nb q ((faC f).map .c) 0 K = (q < nb ∧ K (i64 f.kind)) := rfl
theorem gfa1 : ldB nb q ((faC f).map .c) 1 K = (q < nb ∧ K (i64 f.a)) := rfl
theorem gfa2 : ldB nb q ((faC f).map .c) 2 K = (q < nb ∧ K (i64 f.b)) := rfl
end
theorem pkQ : type_of% (And.intro @pkT (And.intro @gfa0 (And.intro @gfa1 (@gfa2)))) := ⟨@pkT, @gfa0, @gfa1, @gfa2⟩
set_option maxHeartbeats 2000000 in
theorem rCompare_ok (a b : Fa) : FnOK Tryz.prog G 12 [.agg (faC a), .agg (faC b)] (i64 (cmpF a b)) := by
 refine FnOK_by (rs := [.tmp 4]) false [] mixed Tryz.func12 rfl rfl rfl rfl (by kernel_rfl) (by simp) rfl rfl ?_
 have e0 : ∀ x K, partV false 1 0 [cI x] K = K (i64 x) := fun _ _ => rfl
 have low : ∀ x y z : Int, V.ow (some (3, 1)) [[cI x], [cI y], [cI z]] = .ow (some (3, 1)) ([x, y, z].map fun y => [cI y]) := fun _ _ _ => rfl
 simp -implicitDefEqProofs only [pkA, ptA, ↓reduceIte, Nat.reduceEqDiff, Nat.reduceAdd, Nat.reduceMul, Nat.reduceLT, Nat.reduceLeDiff, pkQ]
 unfold cmpF
 obtain ⟨xs, hxs⟩ : ∃ xs, xs = [a.kind, a.a, a.b] := ⟨_, rfl⟩
 obtain ⟨ys, hys⟩ : ∃ ys, ys = [b.kind, b.a, b.b] := ⟨_, rfl⟩
 obtain ⟨cs, hcs⟩ : ∃ cs, cs = [cmpI a.kind b.kind, cmpI a.a b.a, cmpI a.b b.b] := ⟨_, rfl⟩
 have hxl : xs.length = 3 := by rw [hxs]; rfl
 have hyl : ys.length = 3 := by rw [hys]; rfl
 have hcl : cs.length = 3 := by rw [hcs]; rfl
 have hc : ∀ i (h : i < 3), cs[i]'(by omega) = cmpI (xs[i]'(by omega)) (ys[i]'(by omega)) := fun i h => by
  subst hxs hys hcs
  match i, h with
  | 0, _ => rfl
  | 1, _ => rfl
  | 2, _ => rfl
 have hxm : [[cI a.kind], [cI a.a], [cI a.b]] = xs.map fun y => [cI y] := by rw [hxs]; rfl
 have hym : [[cI b.kind], [cI b.a], [cI b.b]] = ys.map fun y => [cI y] := by rw [hys]; rfl
 rw [← hcs]
 refine run_loop (fun i : Nat => hdS [(5, .ow (some (3, 1)) (xs.map fun y => [cI y])), (6, .ow (some (3, 1)) (ys.map fun y => [cI y])), (7, i64 i)] []) (fun i => 3 - i) (fun i => i ≤ 3 ∧ orL cs = orL (cs.drop i)) 0 ⟨by omega, rfl⟩ ?_ ?_
 ·refine le_hd rfl (Nat.zero_le _) (Nat.zero_le _) ?_ trivial
  rw [← hxm, ← hym]
  simp [FL, up_apply, cI]
 rintro i ⟨hi, hno⟩ R hnorm hexit hret
 simp -implicitDefEqProofs only [pkA, ↓reduceIte, Nat.reduceEqDiff, Nat.reduceAdd]
 refine vcond_of (fun hlt => ?_) (fun hge => ?_)
 ·have hlt : i < 3 := by simp at hlt; omega
  have hw := wrap_of (n := (i : Int) + 1) (k := i + 1) (by omega) (by omega)
  rw [List.drop_eq_getElem_cons (by omega)] at hno
  have hx1 : i < xs.length := by omega
  have hy1 : i < ys.length := by omega
  simp -implicitDefEqProofs only [pkA, ↓reduceIte, Nat.reduceEqDiff, Nat.reduceAdd]
  refine ia_of ti_71 rfl ti_3 (by decide) (Int.natCast_nonneg i) (c := [cI xs[i]]) (by simp [hx1]) rfl ?_
  simp -implicitDefEqProofs only [pkA, ptA, ↓reduceIte, Nat.reduceEqDiff, Nat.reduceAdd, e0]
  refine ia_of ti_71 rfl ti_3 (by decide) (Int.natCast_nonneg i) (c := [cI ys[i]]) (by simp [hy1]) rfl ?_
  simp -implicitDefEqProofs only [pkA, ptA, ↓reduceIte, Nat.reduceEqDiff, Nat.reduceAdd, e0]
  refine vcond_of (fun h1 => ?_) (fun h1 => ?_)
  ·have h1 : xs[i] < ys[i] := by simpa using h1
   simp -implicitDefEqProofs only [pkA, ↓reduceIte, Nat.reduceAdd]
   refine hret _ ?_
   simp -implicitDefEqProofs only [pkA, ↓reduceIte]
   rw [hno]
   simp only [orL, hc i hlt, cmpI, h1, if_true]; rfl
  ·have h1 : ¬ xs[i] < ys[i] := by simpa using h1
   simp -implicitDefEqProofs only [pkA, ↓reduceIte, Nat.reduceEqDiff, Nat.reduceAdd]
   refine ia_of ti_71 rfl ti_3 (by decide) (Int.natCast_nonneg i) (c := [cI xs[i]]) (by simp [hx1]) rfl ?_
   simp -implicitDefEqProofs only [pkA, ptA, ↓reduceIte, Nat.reduceEqDiff, Nat.reduceAdd, e0]
   refine ia_of ti_71 rfl ti_3 (by decide) (Int.natCast_nonneg i) (c := [cI ys[i]]) (by simp [hy1]) rfl ?_
   simp -implicitDefEqProofs only [pkA, ptA, ↓reduceIte, Nat.reduceEqDiff, Nat.reduceAdd, e0]
   refine vcond_of (fun h2 => ?_) (fun h2 => ?_)
   ·have h2 : ys[i] < xs[i] := by simpa using h2
    simp -implicitDefEqProofs only [pkA, ↓reduceIte, Nat.reduceAdd]
    refine hret _ ?_
    simp -implicitDefEqProofs only [pkA, ↓reduceIte]
    rw [hno]
    simp only [orL, hc i hlt, cmpI, h1, h2, if_true, if_false]; rfl
   ·have h2 : ¬ ys[i] < xs[i] := by simpa using h2
    simp -implicitDefEqProofs only [pkA, ↓reduceIte, Nat.reduceEqDiff, Nat.reduceAdd]
    refine hnorm (i + 1) _ ⟨hlt, ?_⟩ (by omega) (le_hd rfl (Nat.zero_le _) (Nat.zero_le _) ?_ trivial)
    ·rw [hno]
     simp only [orL, hc i hlt, cmpI, h1, h2, if_true, if_false]
    ·simp [FL, up_apply, hw]
 ·have : i = 3 := by simp at hge; omega
  subst this
  simp -implicitDefEqProofs only [pkA]
  refine hexit _ _ ?_
  simp -implicitDefEqProofs only [pkA, ↓reduceIte, Nat.reduceAdd]
  rw [hno, List.drop_eq_nil_of_le (by omega)]; rfl
def validF (p : Pol) (f : Fa) : Bool :=
 if f.kind = 1 then decide (0 ≤ f.a) && decide (f.a ≤ p.types.length) && decide (0 ≤ f.b) && decide (f.b < p.types.length)
 else if f.kind = 2 then decide (0 ≤ f.a) && decide (f.a ≤ p.types.length) && decide (0 ≤ f.b) && decide (f.b ≤ p.types.length)
 else if f.kind = 3 ∨ f.kind = 4 then decide (1 ≤ f.a) && decide (f.a ≤ p.types.length) && decide (f.b = 0)
 else false
end Go.Proofs.YthgmobkmmapgoaaGreat
/- Layer 17, the specification: lists of facts. -/
namespace Go.Proofs.YthgmobkmmapgoaaGreat
open Go Go.Vl
variable {G : Gl}
set_option maxRecDepth 4000
set_option maxHeartbeats 8000000 in
theorem Valid_ok (p : Pol) (f : Fa) : FnOK Tryz.prog G 18 [.agg (poC p), .agg (faC f)] (bo (validF p f)) := by
 refine FnOK_by (rs := [.tmp 4]) false [] mixed Tryz.func18 rfl rfl rfl rfl (by kernel_rfl) (by simp) rfl rfl ?_
 have hb : ∀ b : Bool, (b = true ∨ b = false) := fun b => by cases b <;> simp
 unfold validF
 repeat' first
  | (simp -implicitDefEqProofs only [pkA, ptA, ↓reduceIte, Nat.reduceEqDiff, Nat.reduceAdd, Nat.reduceMul, Nat.reduceLT, pkQ])
  | refine vgd_of (fun h => ?_) (fun h => ?_)
  | refine vcond_of (fun h => ?_) (fun h => ?_)
 all_goals (simp only [List.length_map, decide_eq_true_eq, Bool.not_true, decide_eq_false_iff_not] at *)
 all_goals (simp_all <;> omega)
set_option maxHeartbeats 1000000 in
theorem Same_ok (a b : List Fa) (hm : a.length ≤ 1000000000) : FnOK Tryz.prog G 13 [.c (fsC a), .c (fsC b)] (bo (decide (a = b))) := by
 refine FnOK_by (rs := [.tmp 4]) false [] mixed Tryz.func13 rfl rfl rfl rfl (by kernel_rfl) (by simp) rfl rfl ?_
 simp -implicitDefEqProofs only [pkA, ptA, ↓reduceIte, Nat.reduceEqDiff, Nat.reduceAdd, fsC, List.length_map]
 refine vcond_of (fun hne => ?_) (fun heq => ?_)
 ·have hne : a ≠ b := by rintro rfl; simp at hne
  simp -implicitDefEqProofs only [pkA, ↓reduceIte, Nat.reduceAdd]
  rw [decide_eq_false hne]
 ·have hlen : a.length = b.length := by simp at heq; omega
  simp -implicitDefEqProofs only [pkA, ↓reduceIte, Nat.reduceAdd]
  refine run_loop (fun i : Nat => hdS [(0, .c (.sl (a.map faC))), (1, .c (.sl (b.map faC))), (5, i64 i)] []) (fun i => a.length - i) (fun i => i ≤ a.length ∧ a.take i = b.take i) 0 ⟨Nat.zero_le _, rfl⟩ ?_ ?_
  ·exact le_hd rfl (Nat.zero_le _) (Nat.zero_le _) (by simp [FL, up_apply]) trivial
  rintro i ⟨hi, ht⟩ R hnorm hexit hret
  simp -implicitDefEqProofs only [pkA, ptA, ↓reduceIte, Nat.reduceEqDiff, Nat.reduceAdd, List.length_map]
  refine vcond_of (fun hlt => ?_) (fun hge => ?_)
  ·have hlt : i < a.length := by simpa using hlt
   have hlb : i < b.length := by omega
   have hw := wrap_of (n := (i : Int) + 1) (k := i + 1) (by omega) (by omega)
   simp -implicitDefEqProofs only [pkA, ↓reduceIte, Nat.reduceEqDiff, Nat.reduceAdd]
   refine ia_of ti_27 rfl ti_29 (by decide) (Int.natCast_nonneg i) (c := faC a[i]) (by simp [hlt]) rfl ?_
   simp -implicitDefEqProofs only [pkA, ptA, ↓reduceIte, Nat.reduceEqDiff, Nat.reduceAdd, pkF]
   refine ia_of ti_27 rfl ti_29 (by decide) (Int.natCast_nonneg i) (c := faC b[i]) (by simp [hlb]) rfl ?_
   simp -implicitDefEqProofs only [pkA, ptA, ↓reduceIte, Nat.reduceEqDiff, Nat.reduceAdd, pkF]
   refine vcond_of (fun hn => ?_) (fun hy => ?_)
   ·have hn : a ≠ b := by rintro rfl; simp at hn
    simp -implicitDefEqProofs only [pkA, ↓reduceIte, Nat.reduceAdd]
    refine hret _ ?_
    simp -implicitDefEqProofs only [pkA, ↓reduceIte]
    rw [decide_eq_false hn]
   ·have hy : a[i] = b[i] := by simpa using hy
    simp -implicitDefEqProofs only [pkA, ↓reduceIte, Nat.reduceEqDiff, Nat.reduceAdd]
    refine hnorm (i + 1) _ ⟨hlt, ?_⟩ (by omega) (le_hd rfl (Nat.zero_le _) (Nat.zero_le _) (by simp [FL, up_apply, hw]) trivial)
    rw [List.take_succ_eq_append_getElem hlt, List.take_succ_eq_append_getElem hlb, ht, hy]
  ·have : i = a.length := by simp at hge; omega
   subst this
   simp -implicitDefEqProofs only [pkA]
   refine hexit _ _ ?_
   simp -implicitDefEqProofs only [pkA, ↓reduceIte, Nat.reduceAdd]
   rw [List.take_length, hlen, List.take_length] at ht
   rw [decide_eq_true ht]
set_option maxHeartbeats 1000000 in
theorem Holds_ok (l : List Fa) (f : Fa) (hm : l.length ≤ 1000000000) : FnOK Tryz.prog G 33 [.c (fsC l), .agg (faC f)] (bo (decide (f ∈ l))) := by
 refine FnOK_by (rs := [.tmp 4]) false [] mixed Tryz.func33 rfl rfl rfl rfl (by kernel_rfl) (by simp) rfl rfl ?_
 simp -implicitDefEqProofs only [pkA, ↓reduceIte, Nat.reduceEqDiff, Nat.reduceAdd, fsC]
 refine run_loop (fun i : Nat => hdS [(0, .c (.sl (l.map faC))), (3, .bp 0 0), (5, i64 i)] [(faC f).map .c]) (fun i => l.length - i) (fun i => i ≤ l.length ∧ f ∉ l.take i) 0 ⟨Nat.zero_le _, by simp⟩ ?_ ?_
 ·exact le_hd rfl (Nat.zero_le _) (Nat.le_refl _) (by simp [FL, up_apply]) (by simp [BL])
 rintro i ⟨hi, ht⟩ R hnorm hexit hret
 simp -implicitDefEqProofs only [pkA, ptA, ↓reduceIte, Nat.reduceEqDiff, Nat.reduceAdd, List.length_map]
 refine vcond_of (fun hlt => ?_) (fun hge => ?_)
 ·have hlt : i < l.length := by simpa using hlt
  have hw := wrap_of (n := (i : Int) + 1) (k := i + 1) (by omega) (by omega)
  simp -implicitDefEqProofs only [pkA, ↓reduceIte, Nat.reduceEqDiff, Nat.reduceAdd]
  refine ia_of ti_27 rfl ti_29 (by decide) (Int.natCast_nonneg i) (c := faC l[i]) (by simp [hlt]) rfl ?_
  simp -implicitDefEqProofs only [pkA, ptA, ↓reduceIte, Nat.reduceEqDiff, Nat.reduceAdd, Nat.reduceMul, Nat.reduceLT, pkQ]
  refine vcond_of (fun hy => ?_) (fun hn => ?_)
  ·have hy : l[i] = f := by simpa using hy
   simp -implicitDefEqProofs only [pkA, ↓reduceIte, Nat.reduceAdd]
   refine hret _ ?_
   simp -implicitDefEqProofs only [pkA, ↓reduceIte]
   rw [decide_eq_true (hy ▸ List.getElem_mem hlt)]
  ·have hn : ¬ l[i] = f := by simpa using hn
   simp -implicitDefEqProofs only [pkA, ↓reduceIte, Nat.reduceEqDiff, Nat.reduceAdd]
   refine hnorm (i + 1) _ ⟨hlt, ?_⟩ (by omega) (le_hd rfl (Nat.zero_le _) (Nat.le_refl _) (by simp [FL, up_apply, hw]) (by simp [BL, bxs]))
   rw [List.take_succ_eq_append_getElem hlt, List.mem_append, List.mem_singleton]
   rintro (h | h)
   ·exact ht h
   ·exact hn h.symm
 ·have : i = l.length := by simp at hge; omega
  subst this
  simp -implicitDefEqProofs only [pkA]
  refine hexit _ _ ?_
  simp -implicitDefEqProofs only [pkA, ↓reduceIte, Nat.reduceAdd]
  rw [List.take_length] at ht
  rw [decide_eq_false ht]
set_option maxHeartbeats 1000000 in
theorem All_ok (l m : List Fa) (hl : l.length ≤ 1000000000) (hm : m.length ≤ 1000000000) : FnOK Tryz.prog G 32 [.c (fsC l), .c (fsC m)] (bo (m.all fun f => decide (f ∈ l))) := by
 refine FnOK_by (rs := [.tmp 4]) false [] mixed Tryz.func32 rfl rfl rfl rfl (by kernel_rfl) (by simp) rfl rfl ?_
 simp -implicitDefEqProofs only [pkA, ↓reduceIte, Nat.reduceAdd]
 refine run_loop (fun i : Nat => hdS [(0, .c (fsC l)), (1, .c (fsC m)), (5, i64 i)] []) (fun i => m.length - i) (fun i => i ≤ m.length ∧ ∀ f ∈ m.take i, f ∈ l) 0 ⟨Nat.zero_le _, by simp⟩ ?_ ?_
 ·exact le_hd rfl (Nat.zero_le _) (Nat.le_refl _) (by simp [FL, up_apply]) trivial
 rintro i ⟨hi, ht⟩ R hnorm hexit hret
 have hml : ∀ K, vlen Tryz.prog 27 (.c (fsC m)) K = K (i64 m.length) := fun K => by unfold fsC; rw [len_27, List.length_map]
 simp -implicitDefEqProofs only [pkA, ↓reduceIte, Nat.reduceEqDiff, Nat.reduceAdd, hml]
 refine vcond_of (fun hlt => ?_) (fun hge => ?_)
 ·have hlt : i < m.length := by simpa using hlt
  have hw := wrap_of (n := (i : Int) + 1) (k := i + 1) (by omega) (by omega)
  simp -implicitDefEqProofs only [pkA, ↓reduceIte, Nat.reduceEqDiff, Nat.reduceAdd]
  refine ia_of ti_27 rfl ti_29 (by decide) (Int.natCast_nonneg i) (c := faC m[i]) (by simp [hlt]) rfl ?_
  simp -implicitDefEqProofs only [pkA, ptA, ↓reduceIte, Nat.reduceEqDiff, Nat.reduceAdd, pkQ]
  refine call_fn rfl (Holds_ok l m[i] hl) (fun _ => rfl) ?_
  simp -implicitDefEqProofs only [pkA, ↓reduceIte, Nat.reduceAdd]
  refine vcond_of (fun hy => ?_) (fun hn => ?_)
  ·have hy : m[i] ∉ l := by simpa using hy
   simp -implicitDefEqProofs only [pkA, ↓reduceIte, Nat.reduceAdd]
   refine hret _ ?_
   simp -implicitDefEqProofs only [pkA, ↓reduceIte]
   have : (m.all fun f => decide (f ∈ l)) = false := by
    rw [List.all_eq_false]; exact ⟨m[i], List.getElem_mem hlt, by simpa using hy⟩
   rw [this]
  ·have hn : m[i] ∈ l := by simpa using hn
   simp -implicitDefEqProofs only [pkA, ↓reduceIte, Nat.reduceEqDiff, Nat.reduceAdd]
   refine hnorm (i + 1) _ ⟨hlt, fun f hf => ?_⟩ (by omega) (le_hd rfl (Nat.zero_le _) (Nat.le_refl _) (by simp [FL, up_apply, hw]) trivial)
   rw [List.take_succ_eq_append_getElem hlt, List.mem_append, List.mem_singleton] at hf
   rcases hf with hf | rfl
   ·exact ht f hf
   ·exact hn
 ·have : i = m.length := by simp at hge; omega
  subst this
  simp -implicitDefEqProofs only [pkA]
  refine hexit _ _ ?_
  simp -implicitDefEqProofs only [pkA, ↓reduceIte, Nat.reduceAdd]
  rw [List.take_length] at ht
  have : (m.all fun f => decide (f ∈ l)) = true := by
   rw [List.all_eq_true]; exact fun f hf => by simpa using ht f hf
  rw [this]
