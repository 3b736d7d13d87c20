/- Layer 17: slices.Compact at facts; Sorted. -/
import Derived.Test.YthgmobkmmapgoaaGreatVlH2
import Derived.Test.YthgmobkmmapgoaaGreatVlFlb
set_option linter.unusedSimpArgs false
set_option linter.unusedVariables false
namespace Go.Proofs.YthgmobkmmapgoaaGreat
open Go Go.Vl
variable {G : Gl}
set_option maxRecDepth 4000
section
variable {α : Type} [DecidableEq α]
def cpk (l : List α) : Nat → List α
 | 0 => []
 | m + 1 => match l[m]? with
  | none => cpk l m
  | some x => if 0 < m ∧ l[m - 1]? = some x then cpk l m else cpk l m ++ [x]
def compL (l : List α) : List α := cpk l l.length
theorem cpk_same {l : List α} {m : Nat} (hm : m < l.length) (h0 : 0 < m) (h : l[m] = l[m - 1]'(by omega)) : cpk l (m + 1) = cpk l m := by
 simp only [cpk, List.getElem?_eq_getElem hm]
 rw [if_pos ⟨h0, by rw [List.getElem?_eq_getElem (by omega), h]⟩]
theorem cpk_new {l : List α} {m : Nat} (hm : m < l.length) (h : ∀ h0 : 0 < m, l[m] ≠ l[m - 1]'(by omega)) : cpk l (m + 1) = cpk l m ++ [l[m]] := by
 simp only [cpk, List.getElem?_eq_getElem hm]
 rw [if_neg]
 rintro ⟨h0, h1⟩
 rw [List.getElem?_eq_getElem (by omega)] at h1
 exact h h0 (by simpa using h1.symm)
theorem cpk_le (l : List α) : ∀ m, (cpk l m).length ≤ m
 | 0 => Nat.le_refl _
 | m + 1 => by
  have := cpk_le l m
  simp only [cpk]
  split
  ·omega
  ·split
   ·omega
   ·simp; omega
theorem compL_short {l : List α} (h : l.length < 2) : compL l = l := by
 unfold compL
 match l, h with
 | [], _ => rfl
 | [x], _ => simp [cpk]
end
def zf : Fa := ⟨0, 0, 0⟩
set_option maxHeartbeats 4000000 in
theorem Compact_ok (l : List Fa) (cap : Nat) (hc : l.length ≤ cap) (hm : l.length ≤ 1000000000) :
  FnB Tryz.prog G 48 [.ms 0 0 l.length cap 3] [flb faC l] (.ms 0 0 (compL l).length cap 3) [flb faC (compL l ++ List.replicate (l.length - (compL l).length) zf)] := by
 refine FnB_by (rs := [.tmp 2]) (k := 1) [3000001] mixed Tryz.func48 rfl rfl rfl rfl (by kernel_rfl) (by simp) rfl rfl rfl (argsB_ok rfl) (by simp) ?_
 have fin : ∀ (e : VE) (fr : Nat → V) (L : List Fa), isEnd e = true → L = compL l ++ List.replicate (l.length - (compL l).length) zf → fr 2 = .ms 0 0 (compL l).length cap 3 → ∀ (k : Nat) (bx : Nat → List V), k ≤ 1 → bx 0 = flb faC L → endB Tryz.prog k (.ms 0 0 (compL l).length cap 3) [flb faC (compL l ++ List.replicate (l.length - (compL l).length) zf)] [.tmp 2] e ⟨fr, bx, 1⟩ := fun e fr L he hL h k bx hk hb =>
  end_B [(2, .ms 0 0 (compL l).length cap 3)] he (by simp only [leOk, List.all_cons, List.all_nil, flb, all_ltB_c]; rfl) hk (Nat.le_refl _) ⟨h, trivial⟩ ⟨hL ▸ hb, trivial⟩ rfl
 simp -implicitDefEqProofs only [pkA, ptA, ↓reduceIte, Nat.reduceEqDiff, Nat.reduceAdd, Nat.reduceBEq]
 refine vcond_of (fun hlt => ?_) (fun hge => ?_)
 ·have hl2 : l.length < 2 := by simp at hlt; omega
  have hcp := compL_short hl2
  simp -implicitDefEqProofs only [pkA, ↓reduceIte, Nat.reduceEqDiff, Nat.reduceAdd, Nat.reduceBEq]
  exact fin _ _ l rfl (by rw [hcp]; simp) (by simp [hcp]) _ _ (Nat.le_refl _) rfl
 ·have hl2 : 2 ≤ l.length := by simp at hge; omega
  simp -implicitDefEqProofs only [pkA, ↓reduceIte, Nat.reduceAdd, Nat.reduceBEq]
  refine run_loop (fun k : Nat => hdS [(0, .ms 0 0 l.length cap 3), (3, i64 k)] [flb faC l]) (fun k => l.length - k) (fun k => 1 ≤ k ∧ k ≤ l.length ∧ cpk l k = l.take k) 1 ⟨Nat.le_refl _, by omega, by rw [cpk_new (by omega) (fun h => absurd h (Nat.lt_irrefl _))]; simp [cpk, List.take_one, List.head?_eq_getElem?, List.getElem?_eq_getElem (show 0 < l.length by omega)]⟩ ?_ ?_
  ·exact le_box rfl (Nat.le_refl _) (Nat.le_refl _) (by simp [FL, up_apply]) rfl
  rintro k ⟨h1k, hkn, htk⟩ R hnorm hexit hret
  simp -implicitDefEqProofs only [pkA, ptA, ↓reduceIte, Nat.reduceEqDiff, Nat.reduceAdd, Nat.reduceBEq]
  refine vcond_of (fun hlt => ?_) (fun hge => ?_)
  ·have hlt : k < l.length := by simpa using hlt
   have w1 := wrap_of (n := (k : Int) - 1) (k := k - 1) (by omega) (by omega)
   simp -implicitDefEqProofs only [pkA, ↓reduceIte, Nat.reduceEqDiff, Nat.reduceAdd, Nat.reduceBEq]
   refine ix_flb ti_27 rfl ti_29 rfl (by decide) rfl hlt ?_
   simp -implicitDefEqProofs only [pkA, ptA, ↓reduceIte, Nat.reduceAdd, Nat.reduceBEq, Nat.reduceMul, Nat.reduceLT, isMb_flb, isMb_flb]
   refine ld_flb faC_len rfl (Nat.lt_succ_self 0) (List.getElem?_eq_getElem hlt) ?_
   simp -implicitDefEqProofs only [pkA, ↓reduceIte, Nat.reduceEqDiff, Nat.reduceBEq, w1]
   refine ix_flb ti_27 rfl ti_29 rfl (by decide) rfl (show k - 1 < l.length by omega) ?_
   simp -implicitDefEqProofs only [pkA, ptA, ↓reduceIte, Nat.reduceAdd, Nat.reduceBEq, Nat.reduceMul, Nat.reduceLT, isMb_flb, isMb_flb]
   refine ld_flb faC_len rfl (Nat.lt_succ_self 0) (List.getElem?_eq_getElem (show k - 1 < l.length by omega)) ?_
   simp -implicitDefEqProofs only [pkA, ↓reduceIte, Nat.reduceEqDiff, pkF]
   refine vcond_of (fun hy => ?_) (fun hn => ?_)
   ·have hy : l[k] = l[k - 1]'(by omega) := by simpa using hy
    simp -implicitDefEqProofs only [pkA, ↓reduceIte, Nat.reduceEqDiff, Nat.reduceAdd, Nat.reduceBEq]
    refine sl_ms ti_27 rfl ti_29 rfl (l := k) (h := l.length) (m := cap) rfl rfl rfl (by omega) hc (Nat.le_refl _) (fun h => by cases h) ?_
    simp -implicitDefEqProofs only [pkA, ↓reduceIte, Nat.reduceAdd, Nat.reduceBEq, Nat.zero_add]
    refine run_loop (fun x : Nat × List Fa => hdS [(0, .ms 0 0 l.length cap 3), (3, i64 (cpk l (k + x.1)).length), (4, .ms 0 (k * 3) (l.length - k) (cap - k) 3), (5, i64 x.1)] [flb faC x.2]) (fun x => l.length - x.1)
     (fun x => 1 ≤ x.1 ∧ k + x.1 ≤ l.length ∧ x.2.length = l.length ∧ x.2.take (cpk l (k + x.1)).length = cpk l (k + x.1) ∧ (cpk l (k + x.1)).length < k + x.1 ∧ ∀ j, k + x.1 - 1 ≤ j → x.2[j]? = l[j]?) (1, l)
     ⟨Nat.le_refl _, by simp only; omega, rfl, by simp only [cpk_same hlt h1k hy, htk]; rw [List.length_take, Nat.min_eq_left (by omega)], by simp only [cpk_same hlt h1k hy, htk]; rw [List.length_take, Nat.min_eq_left (by omega)]; omega, fun _ _ => rfl⟩ ?_ ?_
    ·refine le_box rfl (Nat.le_refl _) (Nat.le_refl _) ?_ rfl
     have e1 : ((cpk l (k + 1)).length : Int) = k := by rw [cpk_same hlt h1k hy, htk, List.length_take, Nat.min_eq_left (by omega)]
     simp [FL, up_apply, e1]
    rintro ⟨q, L⟩ ⟨hq1, hqn, hLl, hLt, hkk, hLj⟩ R2 hnorm2 hexit2 hret2
    simp only at hq1 hqn hLl hLt hkk hLj
    simp -implicitDefEqProofs only [pkA, ptA, ↓reduceIte, Nat.reduceEqDiff, Nat.reduceAdd, Nat.reduceBEq]
    refine vcond_of (fun hlt2 => ?_) (fun hge2 => ?_)
    ·have hlt2 : q < l.length - k := by simp at hlt2; omega
     have hqk : k + q < l.length := by omega
     have w2 := wrap_of (n := (q : Int) - 1) (k := q - 1) (by omega) (by omega)
     have g1 : L[k + q]? = some l[k + q] := by rw [hLj _ (by omega), List.getElem?_eq_getElem hqk]
     have g2 : L[k + (q - 1)]? = some (l[k + q - 1]'(by omega)) := by rw [hLj _ (by omega), List.getElem?_eq_getElem (by omega)]; simp only [show k + (q - 1) = k + q - 1 by omega]
     simp -implicitDefEqProofs only [pkA, ↓reduceIte, Nat.reduceEqDiff, Nat.reduceAdd, Nat.reduceBEq]
     refine ix_ms ti_27 rfl ti_29 rfl (by decide) rfl rfl hlt2 ?_
     simp -implicitDefEqProofs only [pkA, ptA, ↓reduceIte, Nat.reduceAdd, Nat.reduceBEq, Nat.reduceMul, Nat.reduceLT, isMb_flb, isMb_flb]
     refine ld_flb faC_len rfl (Nat.lt_succ_self 0) g1 ?_
     simp -implicitDefEqProofs only [pkA, ↓reduceIte, Nat.reduceEqDiff, Nat.reduceBEq, w2]
     refine ix_ms ti_27 rfl ti_29 rfl (by decide) rfl rfl (show q - 1 < l.length - k by omega) ?_
     simp -implicitDefEqProofs only [pkA, ptA, ↓reduceIte, Nat.reduceAdd, Nat.reduceBEq, Nat.reduceMul, Nat.reduceLT, isMb_flb, isMb_flb]
     refine ld_flb faC_len rfl (Nat.lt_succ_self 0) g2 ?_
     have wq := wrap_of (n := (q : Int) + 1) (k := q + 1) (by omega) (by omega)
     simp -implicitDefEqProofs only [pkA, ↓reduceIte, Nat.reduceEqDiff, pkF]
     refine vcond_of (fun hne => ?_) (fun heq => ?_)
     ·have hne : l[k + q] ≠ l[k + q - 1]'(by omega) := by simpa using hne
      have hcn := cpk_new (l := l) hqk fun _ => hne
      have wk := wrap_of (n := ((cpk l (k + q)).length : Int) + 1) (k := (cpk l (k + q)).length + 1) (by omega) (by omega)
      simp -implicitDefEqProofs only [pkA, ↓reduceIte, Nat.reduceEqDiff, Nat.reduceAdd, Nat.reduceBEq]
      refine ix_ms ti_27 rfl ti_29 rfl (by decide) rfl rfl hlt2 ?_
      simp -implicitDefEqProofs only [pkA, ptA, ↓reduceIte, Nat.reduceAdd, Nat.reduceBEq, Nat.reduceMul, Nat.reduceLT, isMb_flb, isMb_flb]
      refine ld_flb faC_len rfl (Nat.lt_succ_self 0) g1 ?_
      simp -implicitDefEqProofs only [pkA, ↓reduceIte, Nat.reduceEqDiff]
      refine ix_flb ti_27 rfl ti_29 rfl (by decide) rfl (show (cpk l (k + q)).length < l.length by omega) ?_
      obtain ⟨s1, s2⟩ := stq (sz := 3) (c := faC) faC_len (l := L) (i := (cpk l (k + q)).length) (y := l[k + q]) (by omega) rfl
      simp -implicitDefEqProofs only [pkA, ptA, ↓reduceIte, Nat.reduceEqDiff, Nat.reduceAdd, Nat.reduceBEq, Nat.reduceMul, Nat.reduceLT, isMb_flb, isMb_flb, s1, s2, faC_len, wk, wq]
      refine hnorm2 (q + 1, L.set (cpk l (k + q)).length l[k + q]) _ ⟨by simp only; omega, by simp only; omega, by simpa using hLl, ?_, ?_, fun j hj => ?_⟩ (by simp only; omega) (le_box rfl (Nat.le_refl _) (Nat.le_refl _) ?_ ?_)
      ·simp only [← Nat.add_assoc, hcn, List.length_append, List.length_singleton]
       rw [take_set_at (by omega), hLt]
      ·simp only [← Nat.add_assoc, hcn, List.length_append, List.length_singleton]; omega
      ·simp only at hj ⊢
       rw [List.getElem?_set_ne (by omega)]; exact hLj _ (by omega)
      ·have e1 : ((cpk l (k + (q + 1))).length : Int) = (cpk l (k + q)).length + 1 := by rw [← Nat.add_assoc, hcn]; simp
       simp [FL, up_apply, e1]
      ·simp []
     ·have heq : l[k + q] = l[k + q - 1]'(by omega) := by simpa using heq
      have hcn := cpk_same (l := l) hqk (by omega) heq
      simp -implicitDefEqProofs only [pkA, ↓reduceIte, Nat.reduceEqDiff, Nat.reduceAdd, Nat.reduceBEq, wq]
      refine hnorm2 (q + 1, L) _ ⟨by simp only; omega, by simp only; omega, hLl, ?_, ?_, fun j hj => ?_⟩ (by simp only; omega) (le_box rfl (Nat.le_refl _) (Nat.le_refl _) ?_ rfl)
      ·simp only [← Nat.add_assoc, hcn]; exact hLt
      ·simp only [← Nat.add_assoc, hcn]; omega
      ·simp only at hj ⊢; exact hLj _ (by omega)
      ·have e1 : ((cpk l (k + (q + 1))).length : Int) = (cpk l (k + q)).length := by rw [← Nat.add_assoc, hcn]
       simp [FL, up_apply, e1]
    ·have hqe : k + q = l.length := by simp at hge2; omega
     have hcl : cpk l (k + q) = compL l := by rw [hqe]; rfl
     rw [hcl] at hLt hkk ⊢
     have hcle : (compL l).length ≤ l.length := by omega
     simp -implicitDefEqProofs only [pkA]
     refine hexit2 _ _ ?_
     simp -implicitDefEqProofs only [pkA, ↓reduceIte, Nat.reduceEqDiff, Nat.reduceAdd, Nat.reduceBEq]
     refine sl_ms ti_27 rfl ti_29 rfl (l := (compL l).length) (h := l.length) (m := cap) rfl rfl rfl (by omega) hc (Nat.le_refl _) (fun h => by cases h) ?_
     simp -implicitDefEqProofs only [pkA, ↓reduceIte, Nat.zero_add]
     have hz : setV (flb faC L) ((compL l).length * 3) ((List.replicate (l.length - (compL l).length) (faC zf)).flatten.map .c) = flb faC (compL l ++ List.replicate (l.length - (compL l).length) zf) := by
      have h1 : (List.replicate (l.length - (compL l).length) (faC zf)).flatten.map V.c = flb faC (List.replicate (l.length - (compL l).length) zf) := by unfold flb; rw [List.map_replicate]
      rw [h1, flb_put faC_len (by simp; omega), hLt]
      congr 1
      rw [List.drop_eq_nil_of_le (by simp; omega), List.append_nil]
     refine clear_of ti_27 rfl ti_29 rfl (z := faC zf) rfl (by decide) rfl (Nat.lt_succ_self 0) isMb_flb (by show (compL l).length * 3 + (l.length - (compL l).length) * 3 ≤ (flb faC L).length; rw [flb_len faC_len, hLl]; omega) ?_
     rw [show bxs [flb faC L] 0 = flb faC L from rfl, hz]
     simp -implicitDefEqProofs only [pkA, ↓reduceIte, Nat.reduceEqDiff, Nat.reduceAdd, Nat.reduceBEq]
     refine sl_ms ti_27 rfl ti_29 rfl (l := 0) (h := (compL l).length) (m := cap) rfl rfl rfl (by omega) (by omega) (Nat.le_refl _) (fun h => by cases h) ?_
     simp -implicitDefEqProofs only [pkA, ↓reduceIte, Nat.zero_add, Nat.sub_zero, Nat.zero_mul]
     refine hret _ ?_
     simp -implicitDefEqProofs only [pkA]
     exact fin _ _ _ rfl rfl (by simp []) _ _ (Nat.le_refl _) (by simp [])
   ·have hn : l[k] ≠ l[k - 1]'(by omega) := by simpa using hn
    have wk := wrap_of (n := (k : Int) + 1) (k := k + 1) (by omega) (by omega)
    simp -implicitDefEqProofs only [pkA, ↓reduceIte, Nat.reduceEqDiff, Nat.reduceAdd, Nat.reduceBEq, wk]
    refine hnorm (k + 1) _ ⟨by omega, hlt, ?_⟩ (by omega) (le_box rfl (Nat.le_refl _) (Nat.le_refl _) ?_ rfl)
    ·rw [cpk_new hlt fun _ => hn, htk, List.take_succ_eq_append_getElem hlt]
    ·simp [FL, up_apply]
  ·have : k = l.length := by simp at hge; omega
   subst this
   have hcl : compL l = l := by unfold compL; rw [htk, List.take_length]
   simp -implicitDefEqProofs only [pkA]
   refine hexit _ _ ?_
   simp -implicitDefEqProofs only [pkA, ↓reduceIte, Nat.reduceEqDiff, Nat.reduceAdd, Nat.reduceBEq]
   exact fin _ _ l rfl (by rw [hcl]; simp) (by simp [hcl]) _ _ (Nat.le_refl _) rfl
end Go.Proofs.YthgmobkmmapgoaaGreat
/- Layer 17: Sorted, Bad. -/
namespace Go.Proofs.YthgmobkmmapgoaaGreat
open Go Go.Vl
variable {G : Gl}
set_option maxRecDepth 4000
set_option maxHeartbeats 1000000 in
theorem CompactN_ok : FnOK Tryz.prog G 48 [.c (.sl [])] (.c (.sl [])) := by
 refine FnOK_by (rs := [.tmp 2]) false [] mixed Tryz.func48 rfl rfl rfl rfl (by kernel_rfl) (by simp) rfl rfl ?_
 simp -implicitDefEqProofs only [pkA, ptA, ↓reduceIte, Nat.reduceEqDiff, Nat.reduceAdd]
 refine vcond_of (fun hlt => ?_) (fun hge => ?_)
 ·simp -implicitDefEqProofs only [pkA, ↓reduceIte, Nat.reduceEqDiff, Nat.reduceAdd]
 ·simp at hge
def sortedF (l : List Fa) : List Fa := compL (sortF l)
theorem sortedF_len (l : List Fa) : (sortedF l).length ≤ l.length := by
 have := cpk_le (sortF l) (sortF l).length
 rw [sortF_len] at this
 unfold sortedF compL
 rw [sortF_len]; exact this
set_option maxHeartbeats 2000000 in
theorem Sorted_ok (l : List Fa) (hm : l.length < 1000000000) : FnOK Tryz.prog G 14 [.c (fsC l)] (.c (fsC (sortedF l))) := by
 by_cases hne : l = []
 ·subst hne
  refine FnOK_by (rs := [.tmp 2]) false [] mixed Tryz.func14 rfl rfl rfl rfl (by kernel_rfl) (by simp) rfl rfl ?_
  have hc := CloneO_fa (G := G) [] (by simp) (by decide)
  simp -implicitDefEqProofs only [pkA, ↓reduceIte, Nat.reduceEqDiff, Nat.reduceAdd, fsC]
  refine call_fn rfl hc (fun h => by cases h) ?_
  simp -implicitDefEqProofs only [pkA, ↓reduceIte, Nat.reduceAdd]
  refine call_fn rfl SortN_ok (fun h => by cases h) ?_
  simp -implicitDefEqProofs only [pkA, ↓reduceIte, Nat.reduceEqDiff, Nat.reduceAdd]
  refine call_fn rfl CompactN_ok (fun h => by cases h) ?_
  simp -implicitDefEqProofs only [pkA, ↓reduceIte]
  have h0 : sortedF [] = [] := by simp [sortedF, sortF, compL, cpk]
  rw [h0]; rfl
 ·have hne2 : l.map faC ≠ [] := by simpa using hne
  refine FnOK_by (rs := [.tmp 2]) true [1000005, 1000007, 1000009] mixed Tryz.func14 rfl rfl rfl rfl (by kernel_rfl) (by simp) rfl rfl ?_
  have hc := CloneB_fa (G := G) (l.map faC) hne2 (by intro e he; obtain ⟨x, _, rfl⟩ := List.mem_map.1 he; rfl) (by simpa using hm)
  simp -implicitDefEqProofs only [pkA, ↓reduceIte, Nat.reduceEqDiff, Nat.reduceAdd, Nat.reduceBEq, fsC]
  refine callB_new rfl hc rfl ?_
  have hfl : (l.map faC).flatten.map V.c = flb faC l := rfl
  simp -implicitDefEqProofs only [pkA, ↓reduceIte, Nat.reduceAdd, Nat.reduceBEq, hfl, V.ren, flb_ren, setBx, Nat.zero_add, List.length_map]
  refine call_box rfl (Sort_ok Compare_cmp l (by omega) l.length (Nat.le_refl _)) rfl rfl rfl ?_
  simp -implicitDefEqProofs only [pkA, ↓reduceIte, Nat.reduceEqDiff, Nat.reduceAdd, Nat.reduceBEq]
  have hC := Compact_ok (G := G) (sortF l) l.length (by rw [sortF_len]; exact Nat.le_refl _) (by rw [sortF_len]; omega)
  rw [sortF_len] at hC
  refine call_box rfl hC rfl rfl (by simp []) ?_
  simp -implicitDefEqProofs only [pkA, ↓reduceIte, retV_fz]
  have hv := fun fr => view_flbT (fr := fr) (bx := up (up (up (fun _ => []) 0 (flb faC l)) 0 (flb faC (sortF l))) 0 (flb faC (compL (sortF l) ++ List.replicate (l.length - (compL (sortF l)).length) zf))) (nb := 1) (b := 0) (a := 0) (n := (compL (sortF l)).length) (o := 0) faC_len (Nat.lt_succ_self 0) (up_same _ _ _) rfl (by simp)
  simp only [List.drop_zero, List.take_left] at hv
  simp only [imm, hv]
  rfl
theorem len_map {α : Type} {c : α → List C} {sz : Nat} (hc : ∀ x, (c x).length = sz) (l : List α) : ∀ e ∈ l.map c, e.length = sz := by
 intro e he; obtain ⟨x, _, rfl⟩ := List.mem_map.1 he; exact hc x
def owF (l : List Fa) : V := .ow (if l.isEmpty then none else some (29, 3)) (l.map faC)
theorem owF_fz {l : List Fa} : (owF l).fz = .c (.sl (l.map faC)) := rfl
theorem owF_ow {l : List Fa} : (owF l).isOw = true := rfl
theorem appF {l m : List Fa} {K : V → Prop} (h : l.length + m.length ≤ 1000000000) (hK : K (owF (l ++ m))) : vappend Tryz.prog 27 (owF l) (.c (.sl (m.map faC))) K := by
 unfold owF
 rw [app_27]
 refine ⟨⟨by cases l <;> simp, len_map faC_len _⟩, ⟨by simp only [List.length_map]; omega, by simp only [List.length_map]; omega, len_map faC_len _⟩, ?_⟩
 have e : (if (m.map faC).isEmpty = true then (if l.isEmpty = true then none else some (29, 3)) else some (29, 3)) = if (l ++ m).isEmpty = true then none else some (29, 3) := by
  cases l <;> cases m <;> simp
 rw [e, ← List.map_append]; exact hK
theorem appF1 {l : List Fa} {x : Fa} {K : V → Prop} (h : l.length + 1 ≤ 1000000000) (hK : K (owF (l ++ [x]))) : vappend Tryz.prog 27 (owF l) (.c (.sl [faC x])) K := appF (m := [x]) h hK
def bad1 (p : Pol) (n : Nat) : List Fa := if hasF p n 64 = true then [leakF ((n : Int) + 1), rawF ((n : Int) + 1)] else []
def badL (p : Pol) : Nat → List Fa
 | 0 => []
 | n + 1 => badL p n ++ bad1 p n
theorem badL_len (p : Pol) : ∀ n, (badL p n).length ≤ 2 * n
 | 0 => Nat.le_refl _
 | n + 1 => by
  have := badL_len p n
  simp only [badL, List.length_append]
  have : (bad1 p n).length ≤ 2 := by unfold bad1; split <;> simp
  omega
def badF (p : Pol) : List Fa := sortedF (badL p p.types.length)
set_option maxHeartbeats 2000000 in
theorem Bad_ok (p : Pol) (hm : p.types.length ≤ 1000000) : FnOK Tryz.prog G 16 [.agg (poC p)] (.c (fsC (badF p))) := by
 refine FnOK_by (rs := [.tmp 2]) false [14] mixed Tryz.func16 rfl rfl rfl rfl (by kernel_rfl) (by simp) rfl rfl ?_
 simp -implicitDefEqProofs only [pkA, ptA, ↓reduceIte, Nat.reduceEqDiff, Nat.reduceAdd, Nat.reduceBEq, Nat.reduceMul, Nat.reduceLT, pkF]
 refine run_loop (fun i : Nat => hdS [(1, .bp 0 0), (3, owF (badL p i)), (7, i64 p.types.length), (8, i64 i)] [(poC p).map .c]) (fun i => p.types.length - i) (fun i => i ≤ p.types.length) 0 (Nat.zero_le _) ?_ ?_
 ·refine le_hd rfl (Nat.zero_le _) (Nat.le_refl _) ?_ (by simp [BL])
  simp [FL, up_apply, badL, owF]
 rintro i hi R hnorm hexit hret
 simp -implicitDefEqProofs only [pkA, ↓reduceIte, Nat.reduceEqDiff, Nat.reduceAdd, Nat.reduceBEq]
 refine vcond_of (fun hlt => ?_) (fun hge => ?_)
 ·have hlt : i < p.types.length := by simpa using hlt
  simp -implicitDefEqProofs only [pkA, ptA, ↓reduceIte, Nat.reduceEqDiff, Nat.reduceAdd, Nat.reduceBEq, Nat.reduceMul, Nat.reduceLT, pkF]
  refine call_fn rfl (Has_ok p i 64 (by omega)) (fun _ => rfl) ?_
  have wi := wrap_of (n := (i : Int) + 1) (k := i + 1) (by omega) (by omega)
  have e1 : ((i + 1 : Nat) : Int) = (i : Int) + 1 := by omega
  have hbl := badL_len p i
  simp -implicitDefEqProofs only [pkA, ↓reduceIte]
  refine vcond_of (fun hy => ?_) (fun hn => ?_)
  ·simp -implicitDefEqProofs only [pkA, ↓reduceIte, Nat.reduceEqDiff, Nat.reduceAdd, Nat.reduceBEq, owF_ow, wi]
   refine call_fn rfl (leak_ok ((i + 1 : Nat) : Int)) (fun _ => rfl) ?_
   simp -implicitDefEqProofs only [pkA, ↓reduceIte, Nat.reduceEqDiff, Nat.reduceAdd, Nat.reduceBEq, wi]
   refine call_fn rfl (raw_ok ((i + 1 : Nat) : Int)) (fun _ => rfl) ?_
   simp -implicitDefEqProofs only [pkA, ptA, ↓reduceIte, Nat.reduceEqDiff, Nat.reduceAdd, Nat.reduceBEq, Nat.reduceMul, Nat.reduceLT, Nat.reduceLeDiff, pkF, isGh_some]
   refine appF (m := [leakF ((i + 1 : Nat) : Int), rawF ((i + 1 : Nat) : Int)]) (by simp; omega) ?_
   simp -implicitDefEqProofs only [pkA, ↓reduceIte, Nat.reduceEqDiff, Nat.reduceAdd, Nat.reduceBEq, owF_ow, wi]
   refine hnorm (i + 1) _ hlt (by omega) (le_hd rfl (Nat.zero_le _) (Nat.le_refl _) ?_ (by simp [BL, bxs]))
   have hb : badL p (i + 1) = badL p i ++ [leakF ((i : Int) + 1), rawF ((i : Int) + 1)] := by simp only [badL, bad1, hy]; simp
   simp [FL, up_apply, hb, e1]
  ·simp -implicitDefEqProofs only [pkA, ↓reduceIte, Nat.reduceEqDiff, Nat.reduceAdd, Nat.reduceBEq, wi]
   refine hnorm (i + 1) _ hlt (by omega) (le_hd rfl (Nat.zero_le _) (Nat.le_refl _) ?_ (by simp [BL, bxs]))
   have hb : badL p (i + 1) = badL p i := by simp only [badL, bad1, hn]; simp
   simp [FL, up_apply, hb, e1]
 ·have : i = p.types.length := by simp at hge; omega
  subst this
  have hbl := badL_len p p.types.length
  simp -implicitDefEqProofs only [pkA]
  refine hexit _ _ ?_
  simp -implicitDefEqProofs only [pkA, ↓reduceIte, Nat.reduceEqDiff, Nat.reduceAdd, Nat.reduceBEq, owF_fz]
  refine call_fn rfl (Sorted_ok _ (by omega)) (fun h => by cases h) ?_
  simp -implicitDefEqProofs only [pkA, ↓reduceIte]
  rfl
