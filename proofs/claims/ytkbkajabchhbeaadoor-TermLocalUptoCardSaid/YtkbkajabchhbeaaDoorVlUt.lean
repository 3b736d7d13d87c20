/- Layer 15: the closure. -/
import Derived.Test.YtkbkajabchhbeaaDoorVlUr
set_option linter.unusedSimpArgs false
set_option linter.unusedVariables false
namespace Go.Proofs.YtkbkajabchhbeaaDoor
open Go Go.Vl
set_option maxRecDepth 4000
theorem addC_len : ∀ (t : Tm) (S L : List Tm), (addC t (S, L)).2.length ≤ L.length + 1 := by
 refine Tm.ind fun k n l ih S L => ?_
 rw [addC_mk]
 split
 ·simp
 ·split
  ·match l, ih with
   | [], _ => simp
   | [a], _ => simp
   | [a, b], ih =>
    simp only
    split
    ·exact ih b (by simp) _ _
    ·simp
   | a :: b :: c :: r, _ => simp
  ·simp
theorem addAllC_len : ∀ (J S L : List Tm), (addAllC J (S, L)).2.length ≤ L.length + J.length
 | [], _, _ => by simp [addAllC]
 | t :: J, S, L => by
  have e : addAllC (t :: J) (S, L) = addAllC J ((addC t (S, L)).1, (addC t (S, L)).2) := rfl
  have h1 := addC_len t S L
  have h2 := addAllC_len J (addC t (S, L)).1 (addC t (S, L)).2
  rw [e, List.length_cons]; omega
theorem flC_ok {f : Bool} {L L' : List Tm} (h : L ≠ [] → f = true) : L' ≠ [] → flC f L L' = true := fun h' => by
 unfold flC
 by_cases hl : L = []
 ·subst hl
  have := List.length_pos_iff.2 h'
  simp [this]
 ·rw [h hl]; rfl
theorem cloC_val {I S L : List Tm} (hv : ∀ t ∈ I, validT t = true) (h : CloC I S L) : ValS S := fun t ht => by
 obtain ⟨w, hw, hsub⟩ := (h.sub t ht).loc rfl
 exact subs_valid w (hv w hw) _ hsub
theorem cloC_size {I S L : List Tm} (h : CloC I S L) : ∀ t ∈ S, sizeT t ≤ sizeL I := fun t ht => by
 obtain ⟨w, hw, hsub⟩ := (h.sub t ht).loc rfl
 exact Nat.le_trans (subs_size w t hsub) (sizeL_mem hw)
theorem cloC_two {I S L : List Tm} (hv : ∀ t ∈ I, validT t = true) (h : CloC I S L) : ∀ t ∈ L, ∃ k n a b, t = .mk k n [a, b] ∧ validT a = true ∧ validT b = true ∧ sizeT a + sizeT b + 1 ≤ sizeL I := fun t ht => by
 obtain ⟨hS, hk⟩ := h.inl t ht
 have hval := cloC_val hv h t hS
 have hsz := cloC_size h t hS
 obtain ⟨a, b, hab⟩ := two_of hval hk
 rw [hab] at hval hsz
 obtain ⟨_, _, _, hvl⟩ := valid_parts hval
 refine ⟨_, _, a, b, hab, hvl a (by simp), hvl b (by simp), ?_⟩
 simp only [sizeT, sizeL] at hsz; omega
def addV : V := .clo (.func 59) [] [.bp 1 0, .bp 2 0]
theorem gs_hdr {E : Option (TypeId × Nat)} {L : List Tm} {v : Value} (h : GsV E (L.map tmC) v) : ∃ a cap, v = .slice a L.length cap ∧ L.length ≤ cap ∧ (L ≠ [] → ∃ blk, a = some ⟨blk, 0, none⟩) := by
 rcases h with ⟨blk, cap, rfl, hc⟩ | ⟨h0, _, a, rfl⟩
 ·rw [List.length_map] at hc ⊢
  exact ⟨_, cap, rfl, hc, fun _ => ⟨blk, rfl⟩⟩
 ·have : L = [] := by cases L with
   | nil => rfl
   | cons => cases h0
  subst this
  exact ⟨a, 0, rfl, Nat.le_refl _, fun h => absurd rfl h⟩
theorem ldv_gsS {v : Value} {E : Option (TypeId × Nat)} {es : List (List C)} : (V.gs (some v) E es).ldv = .c (.ex v) := rfl
theorem isMk_gs {g : Option Value} {E : Option (TypeId × Nat)} {es : List (List C)} : (V.gs g E es).isMk = false := rfl
set_option maxHeartbeats 8000000 in
theorem Closure_ok (I : List Tm) (hv : ∀ t ∈ I, validT t = true) (hsz : sizeL I ≤ 100000000) : FnB Tryd.prog glT 48 [.c (tsC I)] [] (.mr 0) [mS (closC I).1] := by
 have hIl := sizeL_len I
 have hstart : ∀ j, CloC I (addAllC (I.take j) ([], [])).1 (addAllC (I.take j) ([], [])).2 := fun j => (addAllC_ok hv (I.take j) [] [] (fun _ h => List.mem_of_mem_take h) ⟨List.nodup_nil, by simp, by simp, fun _ _ _ _ h => by cases h⟩).1
 refine FnB_by (rs := [.tmp 2]) (k := 0) [2300003, 1000020, 2300009, 1000024, 2850013, 2870013, 1000039, 1000042, 3000000] mixed Tryd.func48 rfl rfl rfl rfl (by kernel_rfl) (by simp) rfl rfl rfl rfl (Nat.zero_le _) ?_
 simp -implicitDefEqProofs only [pkA, ptA, ↓reduceIte, Nat.reduceEqDiff, Nat.reduceAdd, Nat.reduceBEq, Nat.reduceMul, Nat.reduceLT, Nat.reduceLeDiff, pkT, pkU, true_and, mkm_S, alcS, set1, stS_mr]
 refine spl_gsK rfl (.warm 2 0 (show 2 < 3 by decide) rfl (.done ?_))
 simp -implicitDefEqProofs only [pkA, ptA, ↓reduceIte, Nat.reduceEqDiff, Nat.reduceAdd, Nat.reduceBEq, Nat.reduceMul, Nat.reduceLT, Nat.reduceLeDiff, pkT, pkU, true_and, Vl.S.cell, tsC]
 refine run_loop (fun x : Nat × Bool => hdS [(3, .bp 1 0), (4, .bp 2 0), (5, addV), (12, .c (.sl (I.map tmC))), (13, i64 I.length), (14, i64 x.1)] (cB (addAllC (I.take x.1) ([], [])).1 x.2 (addAllC (I.take x.1) ([], [])).2)) (fun x => I.length - x.1)
  (fun x => x.1 ≤ I.length ∧ ((addAllC (I.take x.1) ([], [])).2 ≠ [] → x.2 = true)) (0, false) ⟨Nat.zero_le _, fun h => absurd rfl h⟩ ?_ ?_
 ·refine le_hd (by simp only [leOk]; exact Bool.and_eq_true_iff.2 ⟨rfl, cB_all3⟩) (Nat.zero_le _) (Nat.le_refl 3) (by simp [FL, up_apply, addV]) ⟨by simp [up_apply, addAllC], by simp [up_apply], by simp [up_apply, gsV, addAllC], trivial⟩
 rintro ⟨j, f⟩ ⟨hj, hf⟩ R hnorm hexit hret
 simp only at hj hf hnorm hexit
 have hC := hstart j
 have hlen := addAllC_len (I.take j) [] []
 simp only [List.length_nil, Nat.zero_add, List.length_take] at hlen
 generalize hS : (addAllC (I.take j) ([], [])).1 = S at *
 generalize hL : (addAllC (I.take j) ([], [])).2 = L at *
 have hSL : addAllC (I.take j) ([], []) = (S, L) := by rw [← hS, ← hL]
 simp -implicitDefEqProofs only [pkA, ptA, ↓reduceIte, Nat.reduceEqDiff, Nat.reduceAdd, Nat.reduceBEq, Nat.reduceMul, Nat.reduceLT, Nat.reduceLeDiff, pkT, pkU, true_and, cB_eq]
 refine vcond_of (fun hlt => ?_) (fun hge => ?_)
 ·have hlt : j < I.length := by simpa using hlt
  have hw := wrap_of (n := (j : Int) + 1) (k := j + 1) (by omega) (by omega)
  have hm := sizeL_mem (List.getElem_mem hlt)
  have hstep : addAllC (I.take (j + 1)) ([], []) = addC I[j] (S, L) := by
   rw [← hSL]; unfold addAllC; rw [List.take_succ_eq_append_getElem hlt, List.foldl_append]; rfl
  simp -implicitDefEqProofs only [pkA, ptA, ↓reduceIte, Nat.reduceEqDiff, Nat.reduceAdd, Nat.reduceBEq, Nat.reduceMul, Nat.reduceLT, Nat.reduceLeDiff, pkT, pkU, true_and, addV]
  refine ia_of ti_22 rfl ti_24 (by decide) (Int.natCast_nonneg j) (c := tmC I[j]) (by simp [hlt]) (tmC_len _) ?_
  simp -implicitDefEqProofs only [pkA, ptA, ↓reduceIte, Nat.reduceEqDiff, Nat.reduceAdd, Nat.reduceBEq, Nat.reduceMul, Nat.reduceLT, Nat.reduceLeDiff, pkT, pkU, true_and, ld_24 (tmC_len _), mtm]
  have hadd := Add_ok I[j] (hv _ (List.getElem_mem hlt)) (by omega) S f L (cloC_val hv hC) (by omega)
  rw [← hstep] at hadd
  refine callB_low rfl hadd (by simp [V.fz]) rfl (ltL_of (cB_ok (xs := []) rfl)) (show 3 ≤ 4 by decide) ⟨rfl, rfl, rfl, trivial⟩ (fun _ _ => rfl) (fun bx' hoth hB => ?_)
  simp -implicitDefEqProofs only [pkA, ptA, ↓reduceIte, Nat.reduceEqDiff, Nat.reduceAdd, Nat.reduceBEq, Nat.reduceMul, Nat.reduceLT, Nat.reduceLeDiff, pkT, pkU, true_and]
  exact hnorm (j + 1, flC f L (addAllC (I.take (j + 1)) ([], [])).2) _ ⟨hlt, flC_ok hf⟩ (by simp only; omega) (le_hd (by simp only [leOk]; exact Bool.and_eq_true_iff.2 ⟨rfl, cB_all3⟩) (Nat.zero_le _) (show 3 ≤ 4 by decide) (by simp [FL, up_apply, hw, addV]) ⟨hB.1, hB.2.1, hB.2.2.1, trivial⟩)
 have : j = I.length := by simp at hge; omega
 subst this
 rw [List.take_length] at hSL
 clear hstart hS hL hlen hnorm hret
 simp -implicitDefEqProofs only [pkA, ptA, ↓reduceIte, Nat.reduceEqDiff, Nat.reduceAdd, Nat.reduceBEq, Nat.reduceMul, Nat.reduceLT, Nat.reduceLeDiff, pkT, pkU, true_and]
 refine hexit _ _ ?_
 have hLI : L.length ≤ I.length := by
  have := addAllC_len I [] []
  rw [hSL] at this; simpa using this
 have hclo : closC I = loopC (2 * sizeL I + L.length + 1) (S, L) := by unfold closC; rw [hSL]
 refine run_loop (fun x : Nat × List Tm × List Tm × Bool => hdS [(3, .bp 1 0), (4, .bp 2 0), (5, addV)] (cB x.2.1 x.2.2.2 x.2.2.1)) (fun x => x.1)
  (fun x => CloC I x.2.1 x.2.2.1 ∧ x.2.2.1.length ≤ I.length ∧ (x.2.2.1 ≠ [] → x.2.2.2 = true) ∧ closC I = loopC x.1 (x.2.1, x.2.2.1) ∧ 2 * (sizeL I - x.2.1.length) + x.2.2.1.length < x.1) (2 * sizeL I + L.length + 1, S, L, f) ⟨hC, hLI, hf, hclo, by simp only; omega⟩ ?_ ?_
 ·refine le_hd (by simp only [leOk]; exact Bool.and_eq_true_iff.2 ⟨rfl, cB_all3⟩) (Nat.zero_le _) (Nat.le_refl 3) (by simp [FL, up_apply, addV]) ⟨by simp [bxs], by simp [bxs], by simp [bxs], trivial⟩
 clear hC hf hLI hclo hSL hge hj S L f hexit
 rintro ⟨n, S, L, f⟩ ⟨hC, hLI, hf, hclo, hn⟩ R hnorm hexit hret
 simp only at hC hLI hf hclo hn hnorm hexit
 obtain ⟨n, rfl⟩ : ∃ m, n = m + 1 := ⟨n - 1, by omega⟩
 have hS := cloC_val hv hC
 simp -implicitDefEqProofs only [pkA, ptA, ↓reduceIte, Nat.reduceEqDiff, Nat.reduceAdd, Nat.reduceBEq, Nat.reduceMul, Nat.reduceLT, Nat.reduceLeDiff, pkT, pkU, true_and, cB_eq]
 refine spl_gsK rfl (.name 2 0 (E := if f then some (24, 3) else none) (es := L.map tmC) (show 2 < 3 by decide) rfl rfl fun v hgv => .done ?_)
 obtain ⟨a, cap, rfl, hcap, ha⟩ := gs_hdr hgv
 simp -implicitDefEqProofs only [pkA, ptA, ↓reduceIte, Nat.reduceEqDiff, Nat.reduceAdd, Nat.reduceBEq, Nat.reduceMul, Nat.reduceLT, Nat.reduceLeDiff, pkT, pkU, true_and, Vl.S.cell, addV, ldv_gsS, isMk_gs]
 have h2 := cloC_two hv hC
 have hix := IndexX_ok S hS L (fun t ht => by obtain ⟨k, n, a, b, e, h1, h2, h3⟩ := h2 t ht; exact ⟨k, n, a, b, e, h1, by omega⟩) (by omega) a (if f then some (24, 3) else none) cap ha
 refine callB_same rfl hix (by simp [V.fz, opnV]) (show 3 ≤ 3 by decide) ⟨rfl, rfl, rfl, trivial⟩ (fun _ _ => rfl) ?_
 simp -implicitDefEqProofs only [pkA, ptA, ↓reduceIte, Nat.reduceEqDiff, Nat.reduceAdd, Nat.reduceBEq, Nat.reduceMul, Nat.reduceLT, Nat.reduceLeDiff, pkT, pkU, true_and]
 have hloop : loopC (n + 1) (S, L) = match L.findIdx? (askC S) with
  | none => (S, L)
  | some i => loopC n (addC (conOf (L.getD i zeroTm)) (S, L.eraseIdx i)) := rfl
 rw [hloop] at hclo
 unfold posT
 cases hfi : L.findIdx? (askC S) with
 | none =>
  rw [hfi] at hclo
  simp -implicitDefEqProofs only [pkA, ptA, ↓reduceIte, Nat.reduceEqDiff, Nat.reduceAdd, Nat.reduceBEq, Nat.reduceMul, Nat.reduceLT, Nat.reduceLeDiff, pkT, pkU, true_and]
  refine vcond_of (fun _ => ?_) (fun h => ?_)
  ·simp -implicitDefEqProofs only [pkA, ptA, ↓reduceIte, Nat.reduceEqDiff, Nat.reduceAdd, Nat.reduceBEq, Nat.reduceMul, Nat.reduceLT, Nat.reduceLeDiff, pkT, pkU, true_and]
   refine hret _ ?_
   simp -implicitDefEqProofs only [pkA, ptA, ↓reduceIte, Nat.reduceEqDiff, Nat.reduceAdd, Nat.reduceBEq, Nat.reduceMul, Nat.reduceLT, Nat.reduceLeDiff, pkT, pkU, true_and]
   rw [hclo]
   exact end_B [(2, .mr 0)] rfl (by simp only [leOk, List.all_cons, List.all_nil, mS_ltB, List.length_cons, List.length_nil]; rfl) (Nat.zero_le _) (show 1 ≤ 3 by decide) ⟨by simp [up_apply], trivial⟩ ⟨rfl, trivial⟩ (by simp [hdS, frs, retV_one, up])
  ·exfalso; simp at h
 | some i =>
  rw [hfi] at hclo
  simp only at hclo
  obtain ⟨hlt, hb, _⟩ := List.findIdx?_eq_some_iff_getElem.1 hfi
  obtain ⟨k, m, x, y, hab, hvx, hvy, hxy⟩ := h2 L[i] (List.getElem_mem hlt)
  have hcon : conOf (L.getD i zeroTm) = y := by
   have eg : L.getD i zeroTm = L[i] := by simp [hlt]
   rw [eg, hab]; rfl
  rw [hcon] at hclo
  obtain ⟨blk, rfl⟩ := ha (by intro h; subst h; simp at hlt)
  have hft : f = true := hf (by intro h; subst h; simp at hlt)
  subst hft
  simp -implicitDefEqProofs only [pkA, ptA, ↓reduceIte, Nat.reduceEqDiff, Nat.reduceAdd, Nat.reduceBEq, Nat.reduceMul, Nat.reduceLT, Nat.reduceLeDiff, pkT, pkU, true_and]
  refine vcond_of (fun h => ?_) (fun _ => ?_)
  ·exfalso; simp at h; omega
  simp -implicitDefEqProofs only [pkA, ptA, ↓reduceIte, Nat.reduceEqDiff, Nat.reduceAdd, Nat.reduceBEq, Nat.reduceMul, Nat.reduceLT, Nat.reduceLeDiff, pkT, pkU, true_and, ldv_gsS, isMk_gs]
  refine ix_hot (k := i) ti_22 rfl ti_24 rfl (by decide) rfl hlt ?_
  simp -implicitDefEqProofs only [pkA, ptA, ↓reduceIte, Nat.reduceEqDiff, Nat.reduceAdd, Nat.reduceBEq, Nat.reduceMul, Nat.reduceLT, Nat.reduceLeDiff, pkT, pkU, true_and]
  refine fa_hot ti_24 rfl (by decide) ?_
  simp -implicitDefEqProofs only [pkA, ptA, ↓reduceIte, Nat.reduceEqDiff, Nat.reduceAdd, Nat.reduceBEq, Nat.reduceMul, Nat.reduceLT, Nat.reduceLeDiff, pkT, pkU, true_and]
  refine ld_gsf (b := 2) (k := 0) (q := i) (r := 2) (x := tmC L[i]) (c := .sl ([x, y].map tmC)) (sz := 3) ti_22 rfl (show 2 < 3 by decide) rfl rfl len_tmL (by simp [hlt]) (by rw [hab]; rfl) (by rw [Nat.zero_add]) ?_
  simp -implicitDefEqProofs only [pkA, ptA, ↓reduceIte, Nat.reduceEqDiff, Nat.reduceAdd, Nat.reduceBEq, Nat.reduceMul, Nat.reduceLT, Nat.reduceLeDiff, pkT, pkU, true_and]
  refine ia_of ti_22 rfl ti_24 (by decide) (by decide) (c := tmC y) rfl (tmC_len _) ?_
  simp -implicitDefEqProofs only [pkA, ptA, ↓reduceIte, Nat.reduceEqDiff, Nat.reduceAdd, Nat.reduceBEq, Nat.reduceMul, Nat.reduceLT, Nat.reduceLeDiff, pkT, pkU, true_and, ld_24 (tmC_len _), mtm]
  have hw := wrap_of (n := (i : Int) + 1) (k := i + 1) (by omega) (by omega)
  refine vpa_seq rfl ?_
  refine vseq_on ?_
  simp -implicitDefEqProofs only [vg_none, pkA, ptA, ↓reduceIte, Nat.reduceEqDiff, Nat.reduceAdd, Nat.reduceBEq, Nat.reduceMul, Nat.reduceLT, Nat.reduceLeDiff, pkT, pkU, true_and, ldv_gsS, isMk_gs]
  refine vseq_on ?_
  simp -implicitDefEqProofs only [vg_none, pkA, ptA, ↓reduceIte, Nat.reduceEqDiff, Nat.reduceAdd, Nat.reduceBEq, Nat.reduceMul, Nat.reduceLT, Nat.reduceLeDiff, pkT, pkU, true_and]
  refine vseq_on ?_
  simp -implicitDefEqProofs only [vg_none, pkA, ptA, ↓reduceIte, Nat.reduceEqDiff, Nat.reduceAdd, Nat.reduceBEq, Nat.reduceMul, Nat.reduceLT, Nat.reduceLeDiff, pkT, pkU, true_and]
  refine vseq_on ?_
  simp -implicitDefEqProofs only [vg_none, pkA, ptA, ↓reduceIte, Nat.reduceEqDiff, Nat.reduceAdd, Nat.reduceBEq, Nat.reduceMul, Nat.reduceLT, Nat.reduceLeDiff, pkT, pkU, true_and, hw]
  refine vseq_on ?_
  simp -implicitDefEqProofs only [vg_none, pkA, ptA, ↓reduceIte, Nat.reduceEqDiff, Nat.reduceAdd, Nat.reduceBEq, Nat.reduceMul, Nat.reduceLT, Nat.reduceLeDiff, pkT, pkU, true_and]
  refine callB_sel [2] rfl (Delete_ok L i hlt (by omega) blk cap hcap) (by simp [V.fz, V.ren]) rfl (by decide) rfl ⟨⟨show 2 < 4 by decide, by simp [up_apply, V.ren, rho]⟩, trivial⟩ ?_
  intro bx' hoth hat
  have h0 : bx' 0 = mS S := by rw [hoth 0 (by decide)]; simp [up_apply, bxs]
  have h1 : bx' 1 = [.mr 0] := by rw [hoth 1 (by decide)]; simp [up_apply, bxs]
  have h3 : bx' 3 = (tmC y).map .c := by rw [hoth 3 (by decide)]; simp [up_apply]
  have h2 : bx' 2 = [.gs (some (.slice (some ⟨blk, 0, none⟩) L.length cap)) (some (24, 3)) ((L.eraseIdx i).map tmC ++ [tmC (.mk 0 0 [])])] := hat 0 2 _ rfl rfl
  simp -implicitDefEqProofs only [vg_none, pkA, ptA, ↓reduceIte, Nat.reduceEqDiff, Nat.reduceAdd, Nat.reduceBEq, Nat.reduceMul, Nat.reduceLT, Nat.reduceLeDiff, pkT, pkU, true_and, ren_c, vseq_cons]
  refine .split 2 0 35 (g := some (.slice (some ⟨blk, 0, none⟩) L.length cap)) (E := some (24, 3)) (es := (L.eraseIdx i).map tmC ++ [tmC (.mk 0 0 [])]) (show 2 < 4 by decide) (by simp only [h2]; rfl) (by simp only [h2]; rfl) rfl fun u hu _ => .done ?_
  have hu := hu _ rfl
  subst hu
  simp -implicitDefEqProofs only [vg_none, pkA, ptA, ↓reduceIte, Nat.reduceEqDiff, Nat.reduceAdd, Nat.reduceBEq, Nat.reduceMul, Nat.reduceLT, Nat.reduceLeDiff, pkT, pkU, true_and, h2, List.set_cons_zero]
  have hle : (L.eraseIdx i).length = L.length - 1 := List.length_eraseIdx_of_lt hlt
  have htk : ((L.eraseIdx i).map tmC ++ [tmC (.mk 0 0 [])]).take (L.length - 1) = (L.eraseIdx i).map tmC := List.take_left' (by rw [List.length_map]; exact hle)
  rw [vseq_nil]
  refine .joinT 2 0 35 blk L.length (L.length - 1) cap (e := 24) (sz := 3) (es := (L.eraseIdx i).map tmC ++ [tmC (.mk 0 0 [])]) (show 2 < 4 by decide) ?_ ?_ ?_ (by rw [List.length_append, List.length_map, hle]; omega) ?_
  ·simp [up_apply]; rfl
  ·simp [up_apply]
  ·simp [up_apply]
  rw [htk]
  refine .unname 2 0 (g := some (.slice (some ⟨blk, 0, none⟩) (L.length - 1) cap)) (E := some (24, 3)) (es := (L.eraseIdx i).map tmC) (show 2 < 4 by decide) ?_ (.done ?_)
  ·simp [up_apply]
  simp -implicitDefEqProofs only [pkA, ptA, ↓reduceIte, Nat.reduceEqDiff, Nat.reduceAdd, Nat.reduceBEq, Nat.reduceMul, Nat.reduceLT, Nat.reduceLeDiff, pkT, pkU, true_and, Vl.S.cell, h3]
  obtain ⟨k2, hk2⟩ : ∃ k2, addC y (S, L.eraseIdx i) = k2 := ⟨_, rfl⟩
  have hmem := List.getElem_mem hlt
  have hL2 : ∀ z ∈ L.eraseIdx i, z ∈ L := fun z hz => List.mem_of_mem_eraseIdx hz
  have hSL := hC.sub _ (hC.inl _ hmem).1
  have hkk : k = 3 ∨ k = 4 := by have := (hC.inl _ hmem).2; rw [hab] at this; exact this
  have hKu : Kn I false (.mk k m [x, y]) := by rw [← hab]; exact hSL
  have hbx : builtT (inP S) x = true := by
   have : askC S L[i] = builtT (inP S) x := by rw [hab]; rfl
   rw [← this]; exact hb
  obtain ⟨q1, _, _, q4⟩ := addC_ok (I := I) y S (L.eraseIdx i) hvy hC.nd hC.sub (fun z hz => hC.inl z (hL2 z hz)) (fun k' n' a' b' g1 g2 => by
    rcases hC.opn k' n' a' b' g1 g2 with h | h
    ·exact .inl h
    ·obtain ⟨j, hj, e⟩ := List.getElem_of_mem h
     by_cases hji : j = i
     ·subst hji
      rw [hab] at e
      injection e with _ _ e
      injection e with _ e
      injection e with e _
      exact .inr (.inr e.symm)
     ·refine .inr (.inl ?_)
      rw [List.mem_eraseIdx_iff_getElem]
      exact ⟨j, hj, hji, e⟩) (.opn hKu hkk (built_sound hC.sub x hbx))
  have hcl := cloC_len q1
  have hcl0 := cloC_len hC
  have hadd := Add_ok y hvy (by omega) S true (L.eraseIdx i) hS (by omega)
  refine callB_low rfl hadd (by simp [V.fz, addV]) rfl (ltL_of (cB_ok (xs := []) rfl)) (show 3 ≤ 4 by decide) ⟨by simp [up_apply, h0], by simp [up_apply, h1], by simp [up_apply, gsV], trivial⟩ (fun _ _ => rfl) (fun bx' hoth hB => ?_)
  simp -implicitDefEqProofs only [pkA, ptA, ↓reduceIte, Nat.reduceEqDiff, Nat.reduceAdd, Nat.reduceBEq, Nat.reduceMul, Nat.reduceLT, Nat.reduceLeDiff, pkT, pkU, true_and]
  refine hnorm (n, (addC y (S, L.eraseIdx i)).1, (addC y (S, L.eraseIdx i)).2, flC true (L.eraseIdx i) (addC y (S, L.eraseIdx i)).2) _ ⟨q1, ?_, flC_ok (L := L.eraseIdx i) (fun _ => rfl), hclo, ?_⟩ (by simp only; omega) (le_hd (by simp only [leOk]; exact Bool.and_eq_true_iff.2 ⟨rfl, cB_all3⟩) (Nat.zero_le _) (show 3 ≤ 4 by decide) (by simp [FL, up_apply, addV]) ⟨hB.1, hB.2.1, hB.2.2.1, trivial⟩)
  ·have := addC_len y S (L.eraseIdx i)
   simp only; omega
  ·simp only
   rcases q4 with h | ⟨g1, g2⟩
   ·rw [h]; simp only; omega
   ·omega
end Go.Proofs.YtkbkajabchhbeaaDoor
/- Layer 15: Close, Knows. -/
namespace Go.Proofs.YtkbkajabchhbeaaDoor
open Go Go.Vl
set_option maxRecDepth 4000
theorem sizeS_of {I S L : List Tm} (h : CloC I S L) (hs : sizeL I ≤ 100000000) : S.length ≤ 1000000000 ∧ ∀ t ∈ S, sizeT t ≤ 1000000000 := by
 have h1 := cloC_len h
 exact ⟨by omega, fun t ht => by have := cloC_size h t ht; omega⟩
set_option maxHeartbeats 8000000 in
theorem Close_ok (I : List Tm) (hv : ∀ t ∈ I, validT t = true) (hsz : sizeL I ≤ 100000000) : FnOK Tryd.prog glT 25 [.c (tsC I)] (.c (tsC (closeF I))) := by
 obtain ⟨hC, hso⟩ := closC_ok hv
 obtain ⟨h1, h2⟩ := sizeS_of hC hsz
 have hlist := list_ok (G := glT) (closC I).1 h1 h2 hC.nd
 rw [hso] at hlist
 refine FnOK_by (rs := [.tmp 2]) false [1000004, 1000005] mixed Tryd.func25 rfl rfl rfl rfl (by kernel_rfl) (by simp) rfl rfl ?_
 simp -implicitDefEqProofs only [pkA, ptA, ↓reduceIte, Nat.reduceEqDiff, Nat.reduceAdd, Nat.reduceBEq, Nat.reduceMul, Nat.reduceLT, Nat.reduceLeDiff, pkT, pkU, true_and]
 refine callB_mr rfl (Closure_ok I hv hsz) rfl (fun _ => mS_ren) ?_
 simp -implicitDefEqProofs only [pkA, ptA, ↓reduceIte, Nat.reduceEqDiff, Nat.reduceAdd, Nat.reduceBEq, Nat.reduceMul, Nat.reduceLT, Nat.reduceLeDiff, pkT, pkU, true_and]
 refine callB_sel [0] rfl hlist (by simp [V.fz, V.ren, rho]) rfl (by decide) rfl ⟨⟨show 0 < 1 by decide, by simp only [mS_ren]; rfl⟩, trivial⟩ ?_
 intro bx2 hoth2 hat2
 simp -implicitDefEqProofs only [pkA, ptA, ↓reduceIte, Nat.reduceEqDiff, Nat.reduceAdd, Nat.reduceBEq, Nat.reduceMul, Nat.reduceLT, Nat.reduceLeDiff, pkT, pkU, true_and, ren_c]
set_option maxHeartbeats 8000000 in
theorem Knows_ok (I : List Tm) (t : Tm) (hv : ∀ t ∈ I, validT t = true) (hsz : sizeL I ≤ 100000000) (ht : validT t = true) (hst : sizeT t ≤ 1000000000) : FnOK Tryd.prog glT 27 [.c (tsC I), .agg (tmC t)] (bo (builtT (inP (closeF I)) t)) := by
 obtain ⟨hC, hso⟩ := closC_ok hv
 have hb := Built_ok (closC I).1 (cloC_val hv hC) t ht hst
 rw [← inP_sort, hso] at hb
 refine FnOK_by (rs := [.tmp 4]) false [2850001, 2860001, 1000006, 1000008] mixed Tryd.func27 rfl rfl rfl rfl (by kernel_rfl) (by simp) rfl rfl ?_
 simp -implicitDefEqProofs only [pkA, ptA, ↓reduceIte, Nat.reduceEqDiff, Nat.reduceAdd, Nat.reduceBEq, Nat.reduceMul, Nat.reduceLT, Nat.reduceLeDiff, pkT, pkU, true_and]
 refine vpa_all rfl rfl ?_
 repeat' first
  | (simp -implicitDefEqProofs only [vg_none, pkA, ptA, ↓reduceIte, Nat.reduceEqDiff, Nat.reduceAdd, Nat.reduceBEq, Nat.reduceMul, Nat.reduceLT, Nat.reduceLeDiff, pkT, pkU, true_and, ren_c])
  | (refine vtree_step (by decide +kernel) (by decide +kernel) ?_; simp only [opL_cons, opL_nil, Nat.zero_add, Nat.reduceAdd]; (repeat' (first | exact trivial | apply And.intro)); (all_goals (first | exact Or.inl (by decide +kernel) | refine Or.inr ?_)))
  | (refine callB_mr rfl (Closure_ok I hv hsz) rfl (fun _ => mS_ren) ?_)
  | (refine vtree_end (by decide +kernel) ?_)
  | (refine callB_sel [1] rfl hb (by simp [V.fz, V.ren, rho]) rfl (by decide) rfl ⟨⟨show 1 < 2 by decide, by simp only [mS_ren]; rfl⟩, trivial⟩ ?_; intro bx2 hoth2 hat2)
