/- Layer 15: Subterms. -/
import Derived.Test.YtkbkajabchhbeaaDoorVlUk
set_option linter.unusedSimpArgs false
set_option linter.unusedVariables false
namespace Go.Proofs.YtkbkajabchhbeaaDoor
open Go Go.Vl
set_option maxRecDepth 4000
def ValS (S : List Tm) : Prop := ∀ t ∈ S, validT t = true
theorem fst_prS {S : List Tm} : (prS S).map (·.1) = S.map textT := by unfold prS; rw [List.map_map]; rfl
theorem idx_prS {S : List Tm} (hS : ValS S) {t : Tm} (ht : validT t = true) : idxK (prS S) (textT t) = S.findIdx? (fun u => decide (t = u)) := by
 unfold idxK
 rw [fst_prS]
 induction S with
 | nil => rfl
 | cons u S ih =>
  have hu : decide (textT t = textT u) = decide (t = u) := decide_eq_decide.2 ⟨text_inj ht (hS u (List.mem_cons_self ..)), fun h => by rw [h]⟩
  simp only [List.map_cons, List.findIdx?_cons, hu, ih fun v hv => hS v (List.mem_cons_of_mem _ hv)]
theorem get_prS {S : List Tm} (hS : ValS S) {t : Tm} (ht : validT t = true) : getK (prS S) (textT t) = if t ∈ S then some t else none := by
 unfold getK
 rw [idx_prS hS ht]
 cases hf : S.findIdx? (fun u => decide (t = u)) with
 | none =>
  have : t ∉ S := fun h => by have := List.findIdx?_eq_none_iff.1 hf t h; simp at this
  rw [if_neg this]
 | some j =>
  obtain ⟨h1, h2, _⟩ := List.findIdx?_eq_some_iff_getElem.1 hf
  have h2 : t = S[j] := by simpa using h2
  have : t ∈ S := by rw [h2]; exact List.getElem_mem h1
  rw [if_pos this]
  simp only
  rw [List.getElem?_eq_getElem (by rw [prS_len]; exact h1), prS_at]
  simp [← h2]
theorem set_prS {S : List Tm} (hS : ValS S) {t : Tm} (ht : validT t = true) : setK (prS S) (textT t) t = prS (insM S t) := by
 unfold setK
 rw [idx_prS hS ht]
 cases hf : S.findIdx? (fun u => decide (t = u)) with
 | none =>
  have : t ∉ S := fun h => by have := List.findIdx?_eq_none_iff.1 hf t h; simp at this
  simp only
  unfold insM
  rw [if_neg (by simpa using this)]
  simp [prS]
 | some j =>
  obtain ⟨h1, h2, _⟩ := List.findIdx?_eq_some_iff_getElem.1 hf
  have h2 : t = S[j] := by simpa using h2
  have : t ∈ S := by rw [h2]; exact List.getElem_mem h1
  simp only
  unfold insM
  rw [if_pos (by simpa using this)]
  apply List.ext_getElem?
  intro i
  rw [List.getElem?_set]
  split
  ·rename_i e; subst e
   rw [if_pos (by rw [prS_len]; exact h1), List.getElem?_eq_getElem (by rw [prS_len]; exact h1), prS_at, ← h2]
  ·rfl
theorem upd_mS {S : List Tm} {t : Tm} {s : Vl.S} {i : Nat} {K : Vl.S → Prop} (hS : ValS S) (ht : validT t = true) (hb : s.bx i = mS S) (hi : i < s.nb) (hK : K { s with bx := up s.bx i (mS (insM S t)) }) : vmapSet Tryd.prog 57 s (.mr i) (sv (textT t)) (.agg (tmC t)) K := by
 refine kmap_set (f := sv) (h := tmV) (c := fun a => [cS a]) (b := t) (l := prS S) ti_57 rfl ti_9 rfl ti_24 rfl za_24 (fun _ => rfl) (fun _ => rfl) eqS rfl rfl hb hi ?_
 rw [set_prS hS ht]; exact hK
def zeroTm : Tm := .mk 0 0 []
theorem look_mS {S : List Tm} {t : Tm} {s : Vl.S} {i : Nat} {K : V → Prop} (hS : ValS S) (ht : validT t = true) (hb : s.bx i = mS S) (hi : i < s.nb) (hK : K (.tup [.agg (tmC (if t ∈ S then t else zeroTm)), bo (decide (t ∈ S))])) : vlookup Tryd.prog 57 s (.mr i) (sv (textT t)) true K := by
 refine kmap_look (f := sv) (h := tmV) (c := fun a => [cS a]) (l := prS S) ti_57 rfl ti_9 rfl ti_24 rfl za_24 (fun _ => rfl) (fun _ => rfl) eqS hb hi ?_
 rw [get_prS hS ht]
 by_cases h : t ∈ S
 ·simp only [if_pos h, decide_eq_true h] at hK ⊢; exact hK
 ·simp only [if_neg h, decide_eq_false h] at hK ⊢; exact hK
theorem insM_val {S : List Tm} {t : Tm} (hS : ValS S) (ht : validT t = true) : ValS (insM S t) := fun u hu => by
 unfold insM at hu
 split at hu
 ·exact hS u hu
 ·rcases List.mem_append.1 hu with h | h
  ·exact hS u h
  ·rw [List.mem_singleton] at h; rw [h]; exact ht
def insAll (S : List Tm) (l : List Tm) : List Tm := l.foldl insM S
theorem insAll_val {l : List Tm} : ∀ {S : List Tm}, ValS S → (∀ t ∈ l, validT t = true) → ValS (insAll S l) := by
 induction l with
 | nil => intro S h _; exact h
 | cons t l ih => intro S h hl; exact ih (insM_val h (hl t (List.mem_cons_self ..))) fun u hu => hl u (List.mem_cons_of_mem _ hu)
theorem insAll_app {S a b : List Tm} : insAll S (a ++ b) = insAll (insAll S a) b := List.foldl_append ..
def visF : V := .clo (.func 46) [] [.bp 1 0, .bp 2 0]
def visB (S : List Tm) : List (List V) := [mS S, [.mr 0], [visF]]
theorem visB_eq {S : List Tm} : visB S = [mS S, [.mr 0], [.clo (.func 46) [] [.bp 1 0, .bp 2 0]]] := rfl
theorem visB_ok {S : List Tm} {xs : List V} (h : xs.all (fun x => x.ltB 3) = true) : xargsOk xs (visB S) = true := by
 simp only [xargsOk, visB, List.all_cons, List.all_nil, mS_ltB, List.length_cons, List.length_nil, h]; rfl
theorem visB_all {S : List Tm} : ([mS S, [.mr 0], [visF]] : List (List V)).all (fun b => b.all fun x => x.ltB 3) = true := by
 simp only [List.all_cons, List.all_nil, mS_ltB]; rfl
set_option maxHeartbeats 8000000 in
theorem Visit_ok : ∀ t : Tm, validT t = true → sizeT t ≤ 1000000000 → ∀ S : List Tm, ValS S → FnB Tryd.prog glT 46 [.agg (tmC t), .bp 1 0, .bp 2 0] (visB S) (.tup []) (visB (insAll S (subsT t))) := by
 refine Tm.ind fun k n l ih hv hsz S hS => ?_
 obtain ⟨_, _, _, hvl⟩ := valid_parts hv
 have hs1 : sizeL l + 1 ≤ 1000000000 := by simp only [sizeT] at hsz; omega
 have hll := sizeL_len l
 refine FnB_by (rs := []) (k := 3) [1000019, 3000003] mixed Tryd.func46 rfl rfl rfl rfl (by kernel_rfl) (by simp) rfl rfl rfl (visB_ok rfl) (Nat.le_refl _) ?_
 simp -implicitDefEqProofs only [pkA, ptA, ↓reduceIte, Nat.reduceEqDiff, Nat.reduceAdd, Nat.reduceBEq, Nat.reduceMul, Nat.reduceLT, Nat.reduceLeDiff, pkT, pkU, true_and, visB_eq]
 refine call_fn rfl (Text_ok _ hv hsz) (fun _ => rfl) ?_
 simp -implicitDefEqProofs only [pkA, ptA, ↓reduceIte, Nat.reduceEqDiff, Nat.reduceAdd, Nat.reduceBEq, Nat.reduceMul, Nat.reduceLT, Nat.reduceLeDiff, pkT, pkU, true_and]
 refine upd_mS hS hv rfl (show 0 < 4 by decide) ?_
 simp -implicitDefEqProofs only [pkA, ptA, ↓reduceIte, Nat.reduceEqDiff, Nat.reduceAdd, Nat.reduceBEq, Nat.reduceMul, Nat.reduceLT, Nat.reduceLeDiff, pkT, pkU, true_and, tsC]
 have hhd : ∀ i, i ≤ l.length → insAll S (subsT (.mk k n (l.take i))) = insAll (insM S (.mk k n l)) (subsL (l.take i)) → True := fun _ _ _ => trivial
 clear hhd
 have hvI : ∀ i, ValS (insAll (insM S (.mk k n l)) (subsL (l.take i))) := fun i => insAll_val (insM_val hS hv) fun t ht => by
  obtain ⟨u, hu, h⟩ := subsL_mem.1 ht
  exact subs_valid u (hvl u (List.mem_of_mem_take hu)) t h
 refine run_loop (fun i : Nat => hdS [(1, .bp 1 0), (2, .bp 2 0), (11, .c (.sl (l.map tmC))), (12, i64 l.length), (13, i64 i)] (visB (insAll (insM S (.mk k n l)) (subsL (l.take i))))) (fun i => l.length - i) (fun i => i ≤ l.length) 0 (Nat.zero_le _) ?_ ?_
 ·exact le_hd (by simp only [leOk]; exact Bool.and_eq_true_iff.2 ⟨rfl, visB_all⟩) (Nat.le_refl _) (show 3 ≤ 4 by decide) (by simp [FL, up_apply, Tm.l]) ⟨by simp [up_apply, subsL, insAll], by simp [up_apply, bxs], by simp [up_apply, bxs, visF], trivial⟩
 rintro i hi R hnorm hexit hret
 simp -implicitDefEqProofs only [pkA, ptA, ↓reduceIte, Nat.reduceEqDiff, Nat.reduceAdd, Nat.reduceBEq, Nat.reduceMul, Nat.reduceLT, Nat.reduceLeDiff, pkT, pkU, true_and, visB_eq]
 refine vcond_of (fun hlt => ?_) (fun hge => ?_)
 ·have hlt : i < l.length := by simpa using hlt
  have hw2 := wrap_of (n := (i : Int) + 1) (k := i + 1) (by omega) (by omega)
  have hm := sizeL_mem (List.getElem_mem hlt)
  have hstep : insAll (insM S (.mk k n l)) (subsL (l.take (i + 1))) = insAll (insAll (insM S (.mk k n l)) (subsL (l.take i))) (subsT l[i]) := by
   rw [← insAll_app]; congr 1
   rw [List.take_succ_eq_append_getElem hlt]
   have : ∀ (a : List Tm) (x : Tm), subsL (a ++ [x]) = subsL a ++ subsT x := fun a x => by
    induction a with
    | nil => simp [subsL]
    | cons y a ih => simp only [List.cons_append, subsL, ih, List.append_assoc]
   exact this _ _
  simp -implicitDefEqProofs only [pkA, ptA, ↓reduceIte, Nat.reduceEqDiff, Nat.reduceAdd, Nat.reduceBEq, Nat.reduceMul, Nat.reduceLT, Nat.reduceLeDiff, pkT, pkU, true_and, visB_eq]
  refine ia_of ti_22 rfl ti_24 (by decide) (Int.natCast_nonneg i) (c := tmC l[i]) (by simp [hlt]) (tmC_len _) ?_
  simp -implicitDefEqProofs only [pkA, ptA, ↓reduceIte, Nat.reduceEqDiff, Nat.reduceAdd, Nat.reduceBEq, Nat.reduceMul, Nat.reduceLT, Nat.reduceLeDiff, pkT, pkU, true_and, ld_24 (tmC_len _)]
  refine callB_low rfl (ih l[i] (List.getElem_mem hlt) (hvl _ (List.getElem_mem hlt)) (by omega) _ (hvI i)) (by simp [V.fz]) rfl (ltL_of (visB_ok (xs := []) rfl)) (show 3 ≤ 4 by decide) ⟨rfl, rfl, rfl, trivial⟩ (fun _ _ => rfl) (fun bx' hoth hB => ?_)
  simp -implicitDefEqProofs only [pkA, ptA, ↓reduceIte, Nat.reduceEqDiff, Nat.reduceAdd, Nat.reduceBEq, Nat.reduceMul, Nat.reduceLT, Nat.reduceLeDiff, pkT, pkU, true_and]
  rw [← hstep] at hB
  refine hnorm (i + 1) _ hlt (by omega) (le_hd (by simp only [leOk]; exact Bool.and_eq_true_iff.2 ⟨rfl, visB_all⟩) (Nat.le_refl _) (show 3 ≤ 4 by decide) (by simp [FL, up_apply, hw2]) ⟨hB.1, hB.2.1, hB.2.2.1, trivial⟩)
 ·have : i = l.length := by simp at hge; omega
  subst this
  simp -implicitDefEqProofs only [pkA, ptA, ↓reduceIte, Nat.reduceEqDiff, Nat.reduceAdd, Nat.reduceBEq, Nat.reduceMul, Nat.reduceLT, Nat.reduceLeDiff, pkT, pkU, true_and, visB_eq]
  refine hexit _ _ ?_
  simp -implicitDefEqProofs only [pkA, ptA, ↓reduceIte, Nat.reduceEqDiff, Nat.reduceAdd, Nat.reduceBEq, Nat.reduceMul, Nat.reduceLT, Nat.reduceLeDiff, pkT, pkU, true_and]
  rw [List.take_length]
  have e : insAll S (subsT (.mk k n l)) = insAll (insM S (.mk k n l)) (subsL l) := rfl
  rw [e]
  exact end_B [] rfl (by simp only [leOk]; exact Bool.and_eq_true_iff.2 ⟨rfl, visB_all⟩) (Nat.le_refl _) (Nat.le_refl 3) trivial ⟨rfl, rfl, rfl, trivial⟩ retV_none
end Go.Proofs.YtkbkajabchhbeaaDoor
/- Layer 15: Subterms, whole. -/
namespace Go.Proofs.YtkbkajabchhbeaaDoor
open Go Go.Vl
set_option maxRecDepth 4000
theorem mem_insAll {l : List Tm} : ∀ {S : List Tm} {x : Tm}, x ∈ insAll S l ↔ x ∈ S ∨ x ∈ l := by
 induction l with
 | nil => intro S x; simp [insAll]
 | cons t l ih => intro S x; rw [show insAll S (t :: l) = insAll (insM S t) l from rfl, ih, mem_insM, List.mem_cons]; grind
theorem insAll_nodup {l : List Tm} : ∀ {S : List Tm}, S.Nodup → (insAll S l).Nodup := by
 induction l with
 | nil => intro S h; exact h
 | cons t l ih => intro S h; exact ih (nodup_insM h)
theorem sort_insAll {l : List Tm} : sortT (insAll [] l) = sortT l := strictT_ext (sortT_sorted _) (sortT_sorted _) fun x => by rw [sortT_mem, sortT_mem, mem_insAll]; simp
theorem mkm_S {G : Gl} {tr : List Nat} {ty : TypeId} {d : Option Tmp} {pos : String} {af : Array Edge} {g : Option (Nat × Bool)} {fr : Nat → V} {bx : Nat → List V} {nb : Nat} {H : Vl.S → Prop} : VStep Tryd.prog G tr ⟨d, .makeMap 57 none, ty, pos, af, g⟩ ⟨fr, bx, nb⟩ H = H ((⟨fr, up bx nb (mS []), nb + 1⟩ : Vl.S).put d (.mr nb)) := mkm_57
set_option maxHeartbeats 8000000 in
theorem Subterms_ok (t : Tm) (hv : validT t = true) (hs : sizeT t ≤ 1000000000) : FnOK Tryd.prog glT 23 [.agg (tmC t)] (.c (tsC (rsubsT t))) := by
 have hS : ∀ x ∈ insAll [] (subsT t), x ∈ subsT t := fun x hx => by simpa using mem_insAll.1 hx
 have hlen : (insAll [] (subsT t)).length ≤ 1000000000 := by
  have := nodup_len (insAll_nodup (l := subsT t) List.nodup_nil) hS
  rw [subs_len] at this; omega
 have hlist := list_ok (G := glT) (insAll [] (subsT t)) hlen (fun x hx => Nat.le_trans (subs_size t x (hS x hx)) hs) (insAll_nodup List.nodup_nil)
 rw [sort_insAll, ← rsubs_eq] at hlist
 refine FnOK_by (rs := [.tmp 2]) false [1000009, 1000011] mixed Tryd.func23 rfl rfl rfl rfl (by kernel_rfl) (by simp) rfl rfl ?_
 simp -implicitDefEqProofs only [pkA, ptA, ↓reduceIte, Nat.reduceEqDiff, Nat.reduceAdd, Nat.reduceBEq, Nat.reduceMul, Nat.reduceLT, Nat.reduceLeDiff, pkT, pkU, true_and, mkm_S, alcS, set1, stS_mr]
 refine callB_sel [1, 2, 3] rfl (Visit_ok t hv hs [] (fun x hx => by cases hx)) (by simp [V.fz, V.ren, V.renP, rho]) rfl (by decide) rfl ⟨⟨show 1 < 4 by decide, by simp [up_apply, rho, mS_ren]⟩, ⟨show 2 < 4 by decide, by simp [up_apply, rho, V.ren]⟩, ⟨show 3 < 4 by decide, by simp [up_apply, rho, V.ren, V.renP, visF]⟩, trivial⟩ ?_
 intro bx' hoth hat
 have h1 : bx' 1 = mS (insAll [] (subsT t)) := by
  have := hat 0 1 _ rfl rfl
  rwa [mS_ren] at this
 have h2 : bx' 2 = [.mr 1] := hat 1 2 _ rfl rfl
 simp -implicitDefEqProofs only [pkA, ptA, ↓reduceIte, Nat.reduceEqDiff, Nat.reduceAdd, Nat.reduceBEq, Nat.reduceMul, Nat.reduceLT, Nat.reduceLeDiff, pkT, pkU, true_and, ren_c, h2]
 refine callB_sel [1] rfl hlist (by simp [V.fz, V.ren, rho]) rfl (by decide) rfl ⟨⟨show 1 < 4 by decide, by simp only [mS_ren]; exact h1⟩, trivial⟩ ?_
 intro bx2 hoth2 hat2
 simp -implicitDefEqProofs only [pkA, ptA, ↓reduceIte, Nat.reduceEqDiff, Nat.reduceAdd, Nat.reduceBEq, Nat.reduceMul, Nat.reduceLT, Nat.reduceLeDiff, pkT, pkU, true_and, ren_c]
