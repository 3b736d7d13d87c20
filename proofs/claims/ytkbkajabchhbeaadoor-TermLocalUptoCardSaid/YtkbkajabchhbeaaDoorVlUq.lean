/- Layer 15: the closure's add. -/
import Derived.Test.YtkbkajabchhbeaaDoorVlUp
set_option linter.unusedSimpArgs false
set_option linter.unusedVariables false
namespace Go.Proofs.YtkbkajabchhbeaaDoor
open Go Go.Vl
set_option maxRecDepth 4000
def gsV (f : Bool) (l : List Tm) : V := .gs none (if f then some (24, 3) else none) (l.map tmC)
def flC (f : Bool) (L L' : List Tm) : Bool := f || decide (L.length < L'.length)
theorem flC_same {f : Bool} {L : List Tm} : flC f L L = f := by simp [flC]
theorem flC_app {f : Bool} {L : List Tm} {u : Tm} : flC f L (L ++ [u]) = true := by simp [flC]
def cB (S : List Tm) (f : Bool) (L : List Tm) : List (List V) := [mS S, [.mr 0], [gsV f L]]
theorem cB_eq {S L : List Tm} {f : Bool} : cB S f L = [mS S, [.mr 0], [gsV f L]] := rfl
theorem cB_ok {S L : List Tm} {f : Bool} {xs : List V} (h : xs.all (fun x => x.ltB 3) = true) : xargsOk xs (cB S f L) = true := by
 simp only [xargsOk, cB, List.all_cons, List.all_nil, mS_ltB, List.length_cons, List.length_nil, h, gsV]; rfl
theorem cB_all {S L : List Tm} {f : Bool} {t : Tm} : ([mS S, [.mr 0], [gsV f L], (tmC t).map .c] : List (List V)).all (fun b => b.all fun x => x.ltB 4) = true := by
 simp only [List.all_cons, List.all_nil, mS_ltB, tmC_ltB, gsV]; rfl
theorem cB_all3 {S L : List Tm} {f : Bool} : ([mS S, [.mr 0], [gsV f L]] : List (List V)).all (fun b => b.all fun x => x.ltB 3) = true := by
 simp only [List.all_cons, List.all_nil, mS_ltB, gsV]; rfl
set_option maxHeartbeats 8000000 in
theorem Add_ok (t : Tm) (hv : validT t = true) (hsz : sizeT t ≤ 1000000000) (S : List Tm) (f : Bool) (L : List Tm) (hS : ValS S) (hL : L.length + sizeT t ≤ 1000000000) : FnB Tryd.prog glT 59 [.agg (tmC t), .bp 1 0, .bp 2 0] (cB S f L) (.tup []) (cB (addC t (S, L)).1 (flC f L (addC t (S, L)).2) (addC t (S, L)).2) := by
 refine FnB_by (rs := []) (k := 3) [1000031, 2850006, 2400037, 3000003] mixed Tryd.func59 rfl rfl rfl rfl (by kernel_rfl) (by simp) rfl rfl rfl (cB_ok rfl) (Nat.le_refl _) ?_
 simp -implicitDefEqProofs only [pkA, ptA, ↓reduceIte, Nat.reduceEqDiff, Nat.reduceAdd, Nat.reduceBEq, Nat.reduceMul, Nat.reduceLT, Nat.reduceLeDiff, pkT, pkU, true_and, cB_eq]
 refine run_loop (fun x : Tm × List Tm => hdS [(1, .bp 1 0), (2, .bp 2 0), (3, .bp 3 0)] [mS x.2, [.mr 0], [gsV f L], (tmC x.1).map .c]) (fun x => sizeT x.1) (fun x => validT x.1 = true ∧ sizeT x.1 ≤ 1000000000 ∧ ValS x.2 ∧ L.length + sizeT x.1 ≤ 1000000000 ∧ addC t (S, L) = addC x.1 (x.2, L)) (t, S) ⟨hv, hsz, hS, hL, rfl⟩ ?_ ?_
 ·exact le_hd (by simp only [leOk]; exact Bool.and_eq_true_iff.2 ⟨rfl, cB_all⟩) (show 3 ≤ 4 by decide) (Nat.le_refl _) (by simp [FL, up_apply]) ⟨by simp [up_apply, bxs], by simp [up_apply, bxs], by simp [up_apply, bxs], by simp [up_apply], trivial⟩
 clear hv hsz hS hL
 rintro ⟨u, S⟩ ⟨hv, hsz, hS, hL, heq⟩ R hnorm hexit hret
 simp only at hv hsz hS hL heq hnorm
 simp -implicitDefEqProofs only [pkA, ptA, ↓reduceIte, Nat.reduceEqDiff, Nat.reduceAdd, Nat.reduceBEq, Nat.reduceMul, Nat.reduceLT, Nat.reduceLeDiff, pkT, pkU, true_and]
 refine call_fn rfl (Text_ok u hv hsz) (fun _ => rfl) ?_
 simp -implicitDefEqProofs only [pkA, ptA, ↓reduceIte, Nat.reduceEqDiff, Nat.reduceAdd, Nat.reduceBEq, Nat.reduceMul, Nat.reduceLT, Nat.reduceLeDiff, pkT, pkU, true_and]
 refine look_mS hS hv rfl (show 0 < 4 by decide) ?_
 simp -implicitDefEqProofs only [pkA, ptA, ↓reduceIte, Nat.reduceEqDiff, Nat.reduceAdd, Nat.reduceBEq, Nat.reduceMul, Nat.reduceLT, Nat.reduceLeDiff, pkT, pkU, true_and]
 obtain ⟨k, n, l⟩ := u
 obtain ⟨_, _, hlen, hvl⟩ := valid_parts hv
 rw [addC_mk] at heq
 refine vcond_of (fun hm => ?_) (fun hm => ?_)
 ·have hm : Tm.mk k n l ∈ S := by simpa using hm
  rw [if_pos hm] at heq
  rw [heq, flC_same] at hret
  simp -implicitDefEqProofs only [pkA, ptA, ↓reduceIte, Nat.reduceEqDiff, Nat.reduceAdd, Nat.reduceBEq, Nat.reduceMul, Nat.reduceLT, Nat.reduceLeDiff, pkT, pkU, true_and]
  refine hret _ ?_
  simp -implicitDefEqProofs only [pkA, ptA, ↓reduceIte, Nat.reduceEqDiff, Nat.reduceAdd, Nat.reduceBEq, Nat.reduceMul, Nat.reduceLT, Nat.reduceLeDiff, pkT, pkU, true_and]
  exact end_B [] rfl (by simp only [leOk]; exact Bool.and_eq_true_iff.2 ⟨rfl, cB_all3⟩) (Nat.le_refl _) (show 3 ≤ 5 by decide) trivial ⟨rfl, rfl, rfl, trivial⟩ retV_none
 ·have hm : Tm.mk k n l ∉ S := by simpa using hm
  rw [if_neg hm] at heq
  have hins : insM S (.mk k n l) = S ++ [.mk k n l] := by unfold insM; rw [if_neg (by simpa using hm)]
  simp -implicitDefEqProofs only [pkA, ptA, ↓reduceIte, Nat.reduceEqDiff, Nat.reduceAdd, Nat.reduceBEq, Nat.reduceMul, Nat.reduceLT, Nat.reduceLeDiff, pkT, pkU, true_and]
  refine call_fn rfl (Text_ok _ hv hsz) (fun _ => rfl) ?_
  simp -implicitDefEqProofs only [pkA, ptA, ↓reduceIte, Nat.reduceEqDiff, Nat.reduceAdd, Nat.reduceBEq, Nat.reduceMul, Nat.reduceLT, Nat.reduceLeDiff, pkT, pkU, true_and]
  refine upd_mS hS hv (by simp [up_apply, bxs]) (show 0 < 5 by decide) ?_
  rw [hins]
  simp -implicitDefEqProofs only [pkA, ptA, ↓reduceIte, Nat.reduceEqDiff, Nat.reduceAdd, Nat.reduceBEq, Nat.reduceMul, Nat.reduceLT, Nat.reduceLeDiff, pkT, pkU, true_and]
  have hS' : ValS (S ++ [.mk k n l]) := by rw [← hins]; exact insM_val hS hv
  have hs1 : sizeL l + 1 ≤ 1000000000 := by simp only [sizeT] at hsz; omega
  refine vgd_of (fun h3 => ?_) (fun h3 => ?_)
  ·have h3 : ¬ k = 3 := by simpa using h3
   simp -implicitDefEqProofs only [pkA, ptA, ↓reduceIte, Nat.reduceEqDiff, Nat.reduceAdd, Nat.reduceBEq, Nat.reduceMul, Nat.reduceLT, Nat.reduceLeDiff, pkT, pkU, true_and, tsC]
   refine vcond_of (fun h4 => ?_) (fun h4 => ?_)
   ·have h4 : ¬ k = 4 := by simpa using h4
    rw [if_neg (fun h => h.elim h3 h4)] at heq
    rw [heq, flC_same] at hret
    simp -implicitDefEqProofs only [pkA, ptA, ↓reduceIte, Nat.reduceEqDiff, Nat.reduceAdd, Nat.reduceBEq, Nat.reduceMul, Nat.reduceLT, Nat.reduceLeDiff, pkT, pkU, true_and, tsC]
    refine hret _ ?_
    simp -implicitDefEqProofs only [pkA, ptA, ↓reduceIte, Nat.reduceEqDiff, Nat.reduceAdd, Nat.reduceBEq, Nat.reduceMul, Nat.reduceLT, Nat.reduceLeDiff, pkT, pkU, true_and, tsC]
    exact end_B [] rfl (by simp only [leOk]; exact Bool.and_eq_true_iff.2 ⟨rfl, cB_all3⟩) (Nat.le_refl _) (show 3 ≤ 5 by decide) trivial ⟨by simp [up_apply], by simp [up_apply, bxs], by simp [up_apply, bxs], trivial⟩ retV_none
   ·have hk : k = 3 ∨ k = 4 := .inr (by simpa using h4)
    have h2 : l.length = 2 := by rcases hk with rfl | rfl <;> simp [arityI] at hlen <;> omega
    obtain ⟨a, b, rfl⟩ : ∃ a b, l = [a, b] := by
     match l, h2 with
     | [a, b], _ => exact ⟨a, b, rfl⟩
    rw [if_pos hk] at heq
    simp only at heq
    have hsab : sizeT a ≤ 1000000000 ∧ sizeT b + 1 ≤ sizeT (.mk k n [a, b]) := by simp only [sizeT, sizeL] at hs1 ⊢; omega
    have ia0 : ∀ K, K (.c (.rp (tmC a) 0)) → vindexAddr Tryd.prog 22 (.c (.sl (List.map tmC [a, b]))) (i64 0) K := fun K hK =>
     ia_of ti_22 rfl ti_24 (by decide) (by decide) (c := tmC a) rfl (tmC_len _) hK
    have ia1 : ∀ K, K (.c (.rp (tmC b) 0)) → vindexAddr Tryd.prog 22 (.c (.sl (List.map tmC [a, b]))) (i64 1) K := fun K hK =>
     ia_of ti_22 rfl ti_24 (by decide) (by decide) (c := tmC b) rfl (tmC_len _) hK
    simp -implicitDefEqProofs only [pkA, ptA, ↓reduceIte, Nat.reduceEqDiff, Nat.reduceAdd, Nat.reduceBEq, Nat.reduceMul, Nat.reduceLT, Nat.reduceLeDiff, pkT, pkU, true_and, tsC]
    refine ia0 _ ?_
    simp -implicitDefEqProofs only [pkA, ptA, ↓reduceIte, Nat.reduceEqDiff, Nat.reduceAdd, Nat.reduceBEq, Nat.reduceMul, Nat.reduceLT, Nat.reduceLeDiff, pkT, pkU, true_and, tsC, ld_24 (tmC_len _)]
    refine callB_same rfl (Built_ok (S ++ [.mk k n [a, b]]) hS' a (hvl a (by simp)) hsab.1) (by simp [V.fz]) (show 1 ≤ 5 by decide) ⟨by simp [up_apply], trivial⟩ (fun _ _ => rfl) ?_
    simp -implicitDefEqProofs only [pkA, ptA, ↓reduceIte, Nat.reduceEqDiff, Nat.reduceAdd, Nat.reduceBEq, Nat.reduceMul, Nat.reduceLT, Nat.reduceLeDiff, pkT, pkU, true_and, tsC]
    refine vcond_of (fun hb => ?_) (fun hb => ?_)
    ·have hb : ¬ builtT (inP (S ++ [.mk k n [a, b]])) a = true := by simpa using hb
     rw [if_neg hb] at heq
     simp -implicitDefEqProofs only [pkA, ptA, ↓reduceIte, Nat.reduceEqDiff, Nat.reduceAdd, Nat.reduceBEq, Nat.reduceMul, Nat.reduceLT, Nat.reduceLeDiff, pkT, pkU, true_and, tsC]
     refine vpa_split (m := 4) (n := 8) rfl rfl rfl ?_
     generalize hu0 : Tm.mk k n [a, b] = u at *
     refine .split 2 0 37 (g := none) (E := if f then some (24, 3) else none) (es := L.map tmC) (show 2 < 5 by decide) (by simp [up_apply, bxs, gsV]; rfl) (by simp [up_apply, bxs, gsV]) rfl fun v _ hgv => .done ?_
     have hlenv : ∀ K, K (i64 (L.length : Int)) → vlen Tryd.prog 22 (.c (.ex v)) K := fun K hK => by
      rcases hgv with ⟨blk, cap, rfl, _⟩ | ⟨h0, _, c, rfl⟩
      ·exact len_hot ti_22 rfl (by rw [List.length_map]; exact hK)
      ·have : L = [] := by cases L with
        | nil => rfl
        | cons => cases h0
       subst this
       exact len_hot ti_22 rfl hK
     simp -implicitDefEqProofs only [pkA, ptA, ↓reduceIte, Nat.reduceEqDiff, Nat.reduceAdd, Nat.reduceBEq, Nat.reduceMul, Nat.reduceLT, Nat.reduceLeDiff, pkT, pkU, true_and, List.set_cons_zero, bxs_zero, bxs_succ, gsV, List.take_succ_cons, List.take_zero]
     refine hlenv _ ?_
     simp -implicitDefEqProofs only [pkA, ptA, ↓reduceIte, Nat.reduceEqDiff, Nat.reduceAdd, Nat.reduceBEq, Nat.reduceMul, Nat.reduceLT, Nat.reduceLeDiff, pkT, pkU, true_and, List.set_cons_zero, bxs_zero, bxs_succ]
     generalize hE : (if f = true then some (24, 3) else none) = E
     have hEE : E = none ∨ E = some (24, 3) := by
      rw [← hE]; cases f <;> simp
     have hls : ∀ z ∈ L.map tmC, z.length = 3 := len_tm
     have hlm : (L.map tmC).length = L.length := List.length_map ..
     have hL1 : L.length + 1 ≤ 1000000000 := by
      have : 1 ≤ sizeT u := by cases u; simp only [sizeT]; omega
      omega
     refine vtree_step (f := 3) (by decide +kernel) (by decide +kernel) ?_
     simp only [opL_cons, opL_nil, Nat.zero_add, Nat.reduceAdd]
     repeat' (first | exact trivial | apply And.intro)
     all_goals first
      | exact .inl (by decide +kernel)
      | refine .inr ?_
     simp -implicitDefEqProofs only [vg_none, pkA, ptA, ↓reduceIte, Nat.reduceEqDiff, Nat.reduceAdd, Nat.reduceBEq, Nat.reduceMul, Nat.reduceLT, Nat.reduceLeDiff, pkT, pkU, true_and, isGh_some, isHo]
     refine gg_app (v := v) (E := E) (es := L.map tmC) (y1 := tmC (.mk 0 0 [])) (sz := 3) (by_ := 40) ti_22 rfl ti_24 rfl rfl rfl (by decide) rfl (by simp [up_apply]) (by simp [up_apply]) ⟨by decide, by simp, by simp⟩ rfl hEE hls (tmC_len _) (by rw [hlm]; omega) (by rw [hlm]; omega) ?_
     simp -implicitDefEqProofs only [pkA, ptA, ↓reduceIte, Nat.reduceEqDiff, Nat.reduceAdd, Nat.reduceBEq, Nat.reduceMul, Nat.reduceLT, Nat.reduceLeDiff, pkT, pkU, true_and]
     obtain ⟨w, hw⟩ : ∃ w : Tm, w = (if u ∈ S then u else zeroTm) := ⟨_, rfl⟩
     refine vtree_stepG (f := 2) (by decide +kernel) (by decide +kernel) (.splitB 37 4 0 (g := none) (E := some (24, 3)) (es := L.map tmC ++ [tmC (.mk 0 0 [])]) (x := .c (cI w.kind)) (by simp [up_apply]) (show 4 < 5 by decide) (by simp [up_apply, mtm]) (by rw [hw]; simp [up_apply, tmC_eq]) fun v' _ hgv' => .done ?_)
     obtain ⟨blk, cap, rfl⟩ : ∃ blk cap, v' = .slice (some ⟨blk, 0, none⟩) (L.map tmC ++ [tmC (.mk 0 0 [])]).length cap := by
      rcases hgv' with ⟨blk, cap, h, _⟩ | ⟨h, _⟩
      ·exact ⟨blk, cap, h⟩
      ·cases hl0 : L <;> simp [hl0] at h
     have hsetl : (L.map tmC ++ [tmC (.mk 0 0 [])]).set L.length (tmC u) = (L ++ [u]).map tmC := by
      rw [List.set_append_right _ _ (by rw [hlm]; exact Nat.le_refl _), hlm, Nat.sub_self, List.map_append]; rfl
     have hset : ∀ (g : V) (w : Tm), ((tmC w).map V.c).set 0 g = [g, .c (cI w.n), .c (tsC w.l)] := fun g w => by rw [tmC_eq]; rfl
     have hln : ((L.map tmC ++ [tmC (.mk 0 0 [])]).length) = L.length + 1 := by simp
     simp only [opL_cons, opL_nil, Nat.zero_add, Nat.reduceAdd]
     repeat' (first | exact trivial | apply And.intro)
     all_goals first
      | exact .inl (by decide +kernel)
      | refine .inr ?_
     all_goals simp -implicitDefEqProofs only [vg_none, pkA, ptA, ↓reduceIte, Nat.reduceEqDiff, Nat.reduceAdd, Nat.reduceBEq, Nat.reduceMul, Nat.reduceLT, Nat.reduceLeDiff, pkT, pkU, true_and, hset, hln]
     repeat' first
      | (refine vtree_step (by decide +kernel) (by decide +kernel) ?_; simp only [opL_cons, opL_nil, Nat.zero_add, Nat.reduceAdd]; (repeat' (first | exact trivial | apply And.intro)); (all_goals (first | exact Or.inl (by decide +kernel) | refine Or.inr ?_)))
      | (refine ix_hot (k := L.length) ti_22 rfl ti_24 rfl (by decide) rfl (Nat.lt_succ_self _) ?_)
      | (refine sto_gg (b := 4) (k := 0) (len := L.length + 1) (cap := cap) (e' := 24) (sz := 3) (q := L.length) (es := L.map tmC ++ [tmC (.mk 0 0 [])]) (cs := tmC u) ti_24 rfl ?_ ?_ ?_ rfl (tmC_len _) (by decide) (by rw [hln]; exact Nat.lt_succ_self _) rfl ?_; (· simp); (· (simp [up_apply]; rfl)); (· simp [up_apply]))
      | (refine vtree_endG (by decide +kernel) ?_)
      | (simp -implicitDefEqProofs only [vg_none, pkA, ptA, ↓reduceIte, Nat.reduceEqDiff, Nat.reduceAdd, Nat.reduceBEq, Nat.reduceMul, Nat.reduceLT, Nat.reduceLeDiff, pkT, pkU, true_and, List.set_cons_zero, bxs_zero, bxs_succ, set1])
     all_goals (
      refine .join 2 0 4 0 (v := .slice (some ⟨blk, 0, none⟩) (L.length + 1) cap) (E := some (24, 3)) (es := (L.map tmC ++ [tmC (.mk 0 0 [])]).set L.length (tmC u)) (show 2 < 5 by decide) ?_ ?_ (show 4 < 5 by decide) ?_ (by decide) ?_ (.unname 2 0 (g := some (.slice (some ⟨blk, 0, none⟩) (L.length + 1) cap)) (E := some (24, 3)) (es := (L.map tmC ++ [tmC (.mk 0 0 [])]).set L.length (tmC u)) (show 2 < 5 by decide) ?_ (.done ?_))
      ·simp [up_apply]; rfl
      ·simp [up_apply]
      ·simp [up_apply]; rfl
      ·simp [up_apply]
      ·simp [up_apply]
      ·simp -implicitDefEqProofs only [pkA, ptA, ↓reduceIte, Nat.reduceEqDiff, Nat.reduceAdd, Nat.reduceBEq, Nat.reduceMul, Nat.reduceLT, Nat.reduceLeDiff, pkT, pkU, true_and, Vl.S.cell, hsetl]
       refine hret _ ?_
       rw [heq, flC_app]
       simp -implicitDefEqProofs only [pkA, ptA, ↓reduceIte, Nat.reduceEqDiff, Nat.reduceAdd, Nat.reduceBEq, Nat.reduceMul, Nat.reduceLT, Nat.reduceLeDiff, pkT, pkU, true_and]
       exact end_B [] rfl (by simp only [leOk]; exact Bool.and_eq_true_iff.2 ⟨rfl, cB_all3⟩) (Nat.le_refl _) (show 3 ≤ 5 by decide) trivial ⟨by simp [up_apply, bxs], by simp [up_apply, bxs], by simp [up_apply, gsV], trivial⟩ retV_none)
    ·have hb : builtT (inP (S ++ [.mk k n [a, b]])) a = true := by simpa using hb
     rw [if_pos hb] at heq
     simp -implicitDefEqProofs only [pkA, ptA, ↓reduceIte, Nat.reduceEqDiff, Nat.reduceAdd, Nat.reduceBEq, Nat.reduceMul, Nat.reduceLT, Nat.reduceLeDiff, pkT, pkU, true_and, tsC]
     refine ia1 _ ?_
     simp -implicitDefEqProofs only [pkA, ptA, ↓reduceIte, Nat.reduceEqDiff, Nat.reduceAdd, Nat.reduceBEq, Nat.reduceMul, Nat.reduceLT, Nat.reduceLeDiff, pkT, pkU, true_and, tsC, ld_24 (tmC_len _)]
     refine hnorm (b, S ++ [.mk k n [a, b]]) _ ⟨hvl b (by simp), Nat.le_trans (Nat.le_of_succ_le hsab.2) hsz, hS', by simp only; omega, heq⟩ (by simp only; omega) (le_hd (by simp only [leOk]; exact Bool.and_eq_true_iff.2 ⟨rfl, cB_all⟩) (show 3 ≤ 4 by decide) (show 4 ≤ 5 by decide) (by simp [FL, up_apply]) ⟨by simp [up_apply], by simp [up_apply, bxs], by simp [up_apply, bxs], by simp [up_apply], trivial⟩)
  ·by_cases hk : k = 3 ∨ k = 4
   ·skip
    have h2 : l.length = 2 := by rcases hk with rfl | rfl <;> simp [arityI] at hlen <;> omega
    obtain ⟨a, b, rfl⟩ : ∃ a b, l = [a, b] := by
     match l, h2 with
     | [a, b], _ => exact ⟨a, b, rfl⟩
    rw [if_pos hk] at heq
    simp only at heq
    have hsab : sizeT a ≤ 1000000000 ∧ sizeT b + 1 ≤ sizeT (.mk k n [a, b]) := by simp only [sizeT, sizeL] at hs1 ⊢; omega
    have ia0 : ∀ K, K (.c (.rp (tmC a) 0)) → vindexAddr Tryd.prog 22 (.c (.sl (List.map tmC [a, b]))) (i64 0) K := fun K hK =>
     ia_of ti_22 rfl ti_24 (by decide) (by decide) (c := tmC a) rfl (tmC_len _) hK
    have ia1 : ∀ K, K (.c (.rp (tmC b) 0)) → vindexAddr Tryd.prog 22 (.c (.sl (List.map tmC [a, b]))) (i64 1) K := fun K hK =>
     ia_of ti_22 rfl ti_24 (by decide) (by decide) (c := tmC b) rfl (tmC_len _) hK
    simp -implicitDefEqProofs only [pkA, ptA, ↓reduceIte, Nat.reduceEqDiff, Nat.reduceAdd, Nat.reduceBEq, Nat.reduceMul, Nat.reduceLT, Nat.reduceLeDiff, pkT, pkU, true_and, tsC]
    refine ia0 _ ?_
    simp -implicitDefEqProofs only [pkA, ptA, ↓reduceIte, Nat.reduceEqDiff, Nat.reduceAdd, Nat.reduceBEq, Nat.reduceMul, Nat.reduceLT, Nat.reduceLeDiff, pkT, pkU, true_and, tsC, ld_24 (tmC_len _)]
    refine callB_same rfl (Built_ok (S ++ [.mk k n [a, b]]) hS' a (hvl a (by simp)) hsab.1) (by simp [V.fz]) (show 1 ≤ 5 by decide) ⟨by simp [up_apply], trivial⟩ (fun _ _ => rfl) ?_
    simp -implicitDefEqProofs only [pkA, ptA, ↓reduceIte, Nat.reduceEqDiff, Nat.reduceAdd, Nat.reduceBEq, Nat.reduceMul, Nat.reduceLT, Nat.reduceLeDiff, pkT, pkU, true_and, tsC]
    refine vcond_of (fun hb => ?_) (fun hb => ?_)
    ·have hb : ¬ builtT (inP (S ++ [.mk k n [a, b]])) a = true := by simpa using hb
     rw [if_neg hb] at heq
     simp -implicitDefEqProofs only [pkA, ptA, ↓reduceIte, Nat.reduceEqDiff, Nat.reduceAdd, Nat.reduceBEq, Nat.reduceMul, Nat.reduceLT, Nat.reduceLeDiff, pkT, pkU, true_and, tsC]
     refine vpa_split (m := 4) (n := 8) rfl rfl rfl ?_
     generalize hu0 : Tm.mk k n [a, b] = u at *
     refine .split 2 0 37 (g := none) (E := if f then some (24, 3) else none) (es := L.map tmC) (show 2 < 5 by decide) (by simp [up_apply, bxs, gsV]; rfl) (by simp [up_apply, bxs, gsV]) rfl fun v _ hgv => .done ?_
     have hlenv : ∀ K, K (i64 (L.length : Int)) → vlen Tryd.prog 22 (.c (.ex v)) K := fun K hK => by
      rcases hgv with ⟨blk, cap, rfl, _⟩ | ⟨h0, _, c, rfl⟩
      ·exact len_hot ti_22 rfl (by rw [List.length_map]; exact hK)
      ·have : L = [] := by cases L with
        | nil => rfl
        | cons => cases h0
       subst this
       exact len_hot ti_22 rfl hK
     simp -implicitDefEqProofs only [pkA, ptA, ↓reduceIte, Nat.reduceEqDiff, Nat.reduceAdd, Nat.reduceBEq, Nat.reduceMul, Nat.reduceLT, Nat.reduceLeDiff, pkT, pkU, true_and, List.set_cons_zero, bxs_zero, bxs_succ, gsV, List.take_succ_cons, List.take_zero]
     refine hlenv _ ?_
     simp -implicitDefEqProofs only [pkA, ptA, ↓reduceIte, Nat.reduceEqDiff, Nat.reduceAdd, Nat.reduceBEq, Nat.reduceMul, Nat.reduceLT, Nat.reduceLeDiff, pkT, pkU, true_and, List.set_cons_zero, bxs_zero, bxs_succ]
     generalize hE : (if f = true then some (24, 3) else none) = E
     have hEE : E = none ∨ E = some (24, 3) := by
      rw [← hE]; cases f <;> simp
     have hls : ∀ z ∈ L.map tmC, z.length = 3 := len_tm
     have hlm : (L.map tmC).length = L.length := List.length_map ..
     have hL1 : L.length + 1 ≤ 1000000000 := by
      have : 1 ≤ sizeT u := by cases u; simp only [sizeT]; omega
      omega
     refine vtree_step (f := 3) (by decide +kernel) (by decide +kernel) ?_
     simp only [opL_cons, opL_nil, Nat.zero_add, Nat.reduceAdd]
     repeat' (first | exact trivial | apply And.intro)
     all_goals first
      | exact .inl (by decide +kernel)
      | refine .inr ?_
     simp -implicitDefEqProofs only [vg_none, pkA, ptA, ↓reduceIte, Nat.reduceEqDiff, Nat.reduceAdd, Nat.reduceBEq, Nat.reduceMul, Nat.reduceLT, Nat.reduceLeDiff, pkT, pkU, true_and, isGh_some, isHo]
     refine gg_app (v := v) (E := E) (es := L.map tmC) (y1 := tmC (.mk 0 0 [])) (sz := 3) (by_ := 40) ti_22 rfl ti_24 rfl rfl rfl (by decide) rfl (by simp [up_apply]) (by simp [up_apply]) ⟨by decide, by simp, by simp⟩ rfl hEE hls (tmC_len _) (by rw [hlm]; omega) (by rw [hlm]; omega) ?_
     simp -implicitDefEqProofs only [pkA, ptA, ↓reduceIte, Nat.reduceEqDiff, Nat.reduceAdd, Nat.reduceBEq, Nat.reduceMul, Nat.reduceLT, Nat.reduceLeDiff, pkT, pkU, true_and]
     obtain ⟨w, hw⟩ : ∃ w : Tm, w = (if u ∈ S then u else zeroTm) := ⟨_, rfl⟩
     refine vtree_stepG (f := 2) (by decide +kernel) (by decide +kernel) (.splitB 37 4 0 (g := none) (E := some (24, 3)) (es := L.map tmC ++ [tmC (.mk 0 0 [])]) (x := .c (cI w.kind)) (by simp [up_apply]) (show 4 < 5 by decide) (by simp [up_apply, mtm]) (by rw [hw]; simp [up_apply, tmC_eq]) fun v' _ hgv' => .done ?_)
     obtain ⟨blk, cap, rfl⟩ : ∃ blk cap, v' = .slice (some ⟨blk, 0, none⟩) (L.map tmC ++ [tmC (.mk 0 0 [])]).length cap := by
      rcases hgv' with ⟨blk, cap, h, _⟩ | ⟨h, _⟩
      ·exact ⟨blk, cap, h⟩
      ·cases hl0 : L <;> simp [hl0] at h
     have hsetl : (L.map tmC ++ [tmC (.mk 0 0 [])]).set L.length (tmC u) = (L ++ [u]).map tmC := by
      rw [List.set_append_right _ _ (by rw [hlm]; exact Nat.le_refl _), hlm, Nat.sub_self, List.map_append]; rfl
     have hset : ∀ (g : V) (w : Tm), ((tmC w).map V.c).set 0 g = [g, .c (cI w.n), .c (tsC w.l)] := fun g w => by rw [tmC_eq]; rfl
     have hln : ((L.map tmC ++ [tmC (.mk 0 0 [])]).length) = L.length + 1 := by simp
     simp only [opL_cons, opL_nil, Nat.zero_add, Nat.reduceAdd]
     repeat' (first | exact trivial | apply And.intro)
     all_goals first
      | exact .inl (by decide +kernel)
      | refine .inr ?_
     all_goals simp -implicitDefEqProofs only [vg_none, pkA, ptA, ↓reduceIte, Nat.reduceEqDiff, Nat.reduceAdd, Nat.reduceBEq, Nat.reduceMul, Nat.reduceLT, Nat.reduceLeDiff, pkT, pkU, true_and, hset, hln]
     repeat' first
      | (refine vtree_step (by decide +kernel) (by decide +kernel) ?_; simp only [opL_cons, opL_nil, Nat.zero_add, Nat.reduceAdd]; (repeat' (first | exact trivial | apply And.intro)); (all_goals (first | exact Or.inl (by decide +kernel) | refine Or.inr ?_)))
      | (refine ix_hot (k := L.length) ti_22 rfl ti_24 rfl (by decide) rfl (Nat.lt_succ_self _) ?_)
      | (refine sto_gg (b := 4) (k := 0) (len := L.length + 1) (cap := cap) (e' := 24) (sz := 3) (q := L.length) (es := L.map tmC ++ [tmC (.mk 0 0 [])]) (cs := tmC u) ti_24 rfl ?_ ?_ ?_ rfl (tmC_len _) (by decide) (by rw [hln]; exact Nat.lt_succ_self _) rfl ?_; (· simp); (· (simp [up_apply]; rfl)); (· simp [up_apply]))
      | (refine vtree_endG (by decide +kernel) ?_)
      | (simp -implicitDefEqProofs only [vg_none, pkA, ptA, ↓reduceIte, Nat.reduceEqDiff, Nat.reduceAdd, Nat.reduceBEq, Nat.reduceMul, Nat.reduceLT, Nat.reduceLeDiff, pkT, pkU, true_and, List.set_cons_zero, bxs_zero, bxs_succ, set1])
     all_goals (
      refine .join 2 0 4 0 (v := .slice (some ⟨blk, 0, none⟩) (L.length + 1) cap) (E := some (24, 3)) (es := (L.map tmC ++ [tmC (.mk 0 0 [])]).set L.length (tmC u)) (show 2 < 5 by decide) ?_ ?_ (show 4 < 5 by decide) ?_ (by decide) ?_ (.unname 2 0 (g := some (.slice (some ⟨blk, 0, none⟩) (L.length + 1) cap)) (E := some (24, 3)) (es := (L.map tmC ++ [tmC (.mk 0 0 [])]).set L.length (tmC u)) (show 2 < 5 by decide) ?_ (.done ?_))
      ·simp [up_apply]; rfl
      ·simp [up_apply]
      ·simp [up_apply]; rfl
      ·simp [up_apply]
      ·simp [up_apply]
      ·simp -implicitDefEqProofs only [pkA, ptA, ↓reduceIte, Nat.reduceEqDiff, Nat.reduceAdd, Nat.reduceBEq, Nat.reduceMul, Nat.reduceLT, Nat.reduceLeDiff, pkT, pkU, true_and, Vl.S.cell, hsetl]
       refine hret _ ?_
       rw [heq, flC_app]
       simp -implicitDefEqProofs only [pkA, ptA, ↓reduceIte, Nat.reduceEqDiff, Nat.reduceAdd, Nat.reduceBEq, Nat.reduceMul, Nat.reduceLT, Nat.reduceLeDiff, pkT, pkU, true_and]
       exact end_B [] rfl (by simp only [leOk]; exact Bool.and_eq_true_iff.2 ⟨rfl, cB_all3⟩) (Nat.le_refl _) (show 3 ≤ 5 by decide) trivial ⟨by simp [up_apply, bxs], by simp [up_apply, bxs], by simp [up_apply, gsV], trivial⟩ retV_none)
    ·have hb : builtT (inP (S ++ [.mk k n [a, b]])) a = true := by simpa using hb
     rw [if_pos hb] at heq
     simp -implicitDefEqProofs only [pkA, ptA, ↓reduceIte, Nat.reduceEqDiff, Nat.reduceAdd, Nat.reduceBEq, Nat.reduceMul, Nat.reduceLT, Nat.reduceLeDiff, pkT, pkU, true_and, tsC]
     refine ia1 _ ?_
     simp -implicitDefEqProofs only [pkA, ptA, ↓reduceIte, Nat.reduceEqDiff, Nat.reduceAdd, Nat.reduceBEq, Nat.reduceMul, Nat.reduceLT, Nat.reduceLeDiff, pkT, pkU, true_and, tsC, ld_24 (tmC_len _)]
     refine hnorm (b, S ++ [.mk k n [a, b]]) _ ⟨hvl b (by simp), Nat.le_trans (Nat.le_of_succ_le hsab.2) hsz, hS', by simp only; omega, heq⟩ (by simp only; omega) (le_hd (by simp only [leOk]; exact Bool.and_eq_true_iff.2 ⟨rfl, cB_all⟩) (show 3 ≤ 4 by decide) (show 4 ≤ 5 by decide) (by simp [FL, up_apply]) ⟨by simp [up_apply], by simp [up_apply, bxs], by simp [up_apply, bxs], by simp [up_apply], trivial⟩)
   ·exact absurd (.inl (by simpa using h3)) hk
