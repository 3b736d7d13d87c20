/- Layer 15: built. -/
import Derived.Test.YtkbkajabchhbeaaDoorVlUm
set_option linter.unusedSimpArgs false
set_option linter.unusedVariables false
namespace Go.Proofs.YtkbkajabchhbeaaDoor
open Go Go.Vl
set_option maxRecDepth 4000
def setB (S : List Tm) : List (List V) := [mS S, [.mr 0]]
theorem setB_eq {S : List Tm} : setB S = [mS S, [.mr 0]] := rfl
set_option maxHeartbeats 4000000 in
theorem Built1_ok (S : List Tm) (t : Tm) (h : FnB Tryd.prog glT 50 [.mr 0, .agg (tmC t)] [mS S] (bo (builtT (inP S) t)) [mS S]) : FnB Tryd.prog glT 62 [.agg (tmC t), .bp 1 0] (setB S) (bo (!builtT (inP S) t)) (setB S) := by
 refine FnB_by (rs := [.tmp 3]) (k := 2) [1000006, 3000002] mixed Tryd.func62 rfl rfl rfl rfl (by kernel_rfl) (by simp) rfl rfl rfl (valB2_ok rfl) (Nat.le_refl _) ?_
 simp -implicitDefEqProofs only [pkA, ptA, ↓reduceIte, Nat.reduceEqDiff, Nat.reduceAdd, Nat.reduceBEq, Nat.reduceMul, Nat.reduceLT, Nat.reduceLeDiff, pkT, pkU, true_and, setB_eq]
 refine callB_same rfl h (by simp [V.fz]) (show 1 ≤ 3 by decide) ⟨rfl, trivial⟩ (fun _ _ => rfl) ?_
 simp -implicitDefEqProofs only [pkA, ptA, ↓reduceIte, Nat.reduceEqDiff, Nat.reduceAdd, Nat.reduceBEq, Nat.reduceMul, Nat.reduceLT, Nat.reduceLeDiff, pkT, pkU, true_and]
 exact end_B [(3, bo (!builtT (inP S) t))] rfl (by simp only [leOk, List.all_cons, List.all_nil, mS_ltB, List.length_cons, List.length_nil]; rfl) (Nat.le_refl _) (show 2 ≤ 3 by decide) ⟨by simp [up_apply], trivial⟩ ⟨rfl, rfl, trivial⟩ (by simp [hdS, frs, retV_one, up])
def builtAsk (S : List Tm) (R : Tm → Prop) (h : ∀ t, R t → FnB Tryd.prog glT 50 [.mr 0, .agg (tmC t)] [mS S] (bo (builtT (inP S) t)) [mS S]) : Ask glT (setB S) (.clo (.func 62) [] [.bp 1 0]) R (fun t => !builtT (inP S) t) where
 g := 62
 caps := [.bp 1 0]
 eq := rfl
 lt := by simp [V.ltP, setB]
 ltY := ltL_of (valB2_ok (xs := []) rfl)
 fz := rfl
 ok t ht := Built1_ok S t (h t ht)
theorem builtL_all {S l : List Tm} : (l.any fun t => !builtT (inP S) t) = !builtL (inP S) l := by
 induction l with
 | nil => rfl
 | cons t l ih => simp [builtL, ih]
theorem builtT_mk {p : Tm → Bool} {k n : Int} {l : List Tm} : builtT p (.mk k n l) = (p (.mk k n l) || decide (k = 1) || (!decide (k = 2) && builtL p l)) := by simp [builtT]
set_option maxHeartbeats 8000000 in
theorem Built_ok (S : List Tm) (hS : ValS S) : ∀ t : Tm, validT t = true → sizeT t ≤ 1000000000 → FnB Tryd.prog glT 50 [.mr 0, .agg (tmC t)] [mS S] (bo (builtT (inP S) t)) [mS S] := by
 refine Tm.ind fun k n l ih hv hsz => ?_
 obtain ⟨_, _, _, hvl⟩ := valid_parts hv
 have hs1 : sizeL l + 1 ≤ 1000000000 := by simp only [sizeT] at hsz; omega
 have hll := sizeL_len l
 have hask := builtAsk S (fun t => t ∈ l) (fun t ht => ih t ht (hvl t ht) (by have := sizeL_mem ht; omega))
 refine FnB_by (rs := [.tmp 4]) (k := 1) [1000027, 3000001] mixed Tryd.func50 rfl rfl rfl rfl (by kernel_rfl) (by simp) rfl rfl rfl (by simp only [xargsOk, List.all_cons, List.all_nil, mS_ltB, List.length_cons, List.length_nil]; rfl) (Nat.le_refl _) ?_
 simp -implicitDefEqProofs only [pkA, ptA, ↓reduceIte, Nat.reduceEqDiff, Nat.reduceAdd, Nat.reduceBEq, Nat.reduceMul, Nat.reduceLT, Nat.reduceLeDiff, pkT, pkU, true_and, box_mr]
 refine call_fn rfl (Text_ok _ hv hsz) (fun _ => rfl) ?_
 simp -implicitDefEqProofs only [pkA, ptA, ↓reduceIte, Nat.reduceEqDiff, Nat.reduceAdd, Nat.reduceBEq, Nat.reduceMul, Nat.reduceLT, Nat.reduceLeDiff, pkT, pkU, true_and]
 refine look_mS hS hv rfl (show 0 < 3 by decide) ?_
 simp -implicitDefEqProofs only [pkA, ptA, ↓reduceIte, Nat.reduceEqDiff, Nat.reduceAdd, Nat.reduceBEq, Nat.reduceMul, Nat.reduceLT, Nat.reduceLeDiff, pkT, pkU, true_and, tsC]
 have hend : ∀ (fr : Nat → V) (bx : Nat → List V) (nb : Nat) (e : VE) (b : Bool), isEnd e = true → 1 ≤ nb → bx 0 = mS S → fr 4 = bo b → builtT (inP S) (.mk k n l) = b → endB Tryd.prog 1 (bo (builtT (inP S) (.mk k n l))) [mS S] [.tmp 4] e ⟨fr, bx, nb⟩ := fun fr bx nb e b he hn h0 h4 hb => by
  rw [hb]
  exact end_B [(4, bo b)] he (by simp only [leOk, List.all_cons, List.all_nil, mS_ltB, List.length_cons, List.length_nil]; rfl) (Nat.le_refl _) hn ⟨h4, trivial⟩ ⟨h0, trivial⟩ (by simp [hdS, frs, retV_one, up])
 have hbt := builtT_mk (p := inP S) (k := k) (n := n) (l := l)
 repeat' first
  | (simp -implicitDefEqProofs only [pkA, ptA, ↓reduceIte, Nat.reduceEqDiff, Nat.reduceAdd, Nat.reduceBEq, Nat.reduceMul, Nat.reduceLT, Nat.reduceLeDiff, pkT, pkU, true_and, tsC])
  | refine vgd_of (fun h => ?_) (fun h => ?_)
  | refine vcond_of (fun h => ?_) (fun h => ?_)
  | (refine callB_same rfl (ContainsFunc_ok hask l (fun t h => h) (by omega)) (by simp [V.fz, tsC]) (show 2 ≤ 4 by decide) ⟨rfl, rfl, trivial⟩ (fun _ _ => rfl) ?_)
 all_goals (
  refine hend _ _ _ _ _ rfl (by simp) (by simp [up_apply, bxs]) rfl ?_
  rw [hbt]
  show (decide (Tm.mk k n l ∈ S) || decide (k = 1) || !decide (k = 2) && builtL (inP S) l) = _
  have hall := builtL_all (S := S) (l := l)
  clear hend hask ih hbt
  generalize decide (Tm.mk k n l ∈ S) = b1 at *
  generalize decide (k = 1) = b2 at *
  generalize decide (k = 2) = b3 at *
  generalize builtL (inP S) l = b4 at *
  simp_all)
end Go.Proofs.YtkbkajabchhbeaaDoor
/- Layer 15: the program's closure, on lists. -/
namespace Go.Proofs.YtkbkajabchhbeaaDoor
open Go Go.Vl
set_option maxRecDepth 4000
def addC : Tm → List Tm × List Tm → List Tm × List Tm
 | .mk k n l, (S, L) =>
  if Tm.mk k n l ∈ S then (S, L) else
  if k = 3 ∨ k = 4 then
   match l with
   | [a, b] => if builtT (inP (S ++ [.mk k n [a, b]])) a = true then addC b (S ++ [.mk k n [a, b]], L) else (S ++ [.mk k n [a, b]], L ++ [.mk k n [a, b]])
   | l => (S ++ [.mk k n l], L)
  else (S ++ [.mk k n l], L)
termination_by t => sizeT t
decreasing_by simp only [sizeT, sizeL]; omega
structure CloC (I S L : List Tm) : Prop where
 nd : S.Nodup
 sub : ∀ t ∈ S, Kn I false t
 inl : ∀ t ∈ L, t ∈ S ∧ (t.kind = 3 ∨ t.kind = 4)
 opn : ∀ k n a b, Tm.mk k n [a, b] ∈ S → (k = 3 ∨ k = 4) → b ∈ S ∨ Tm.mk k n [a, b] ∈ L
theorem addC_mk {k n : Int} {l S L : List Tm} : addC (.mk k n l) (S, L) = if Tm.mk k n l ∈ S then (S, L) else
  if k = 3 ∨ k = 4 then
   match l with
   | [a, b] => if builtT (inP (S ++ [.mk k n [a, b]])) a = true then addC b (S ++ [.mk k n [a, b]], L) else (S ++ [.mk k n [a, b]], L ++ [.mk k n [a, b]])
   | l => (S ++ [.mk k n l], L)
  else (S ++ [.mk k n l], L) := by
 rcases l with _ | ⟨a, _ | ⟨b, _ | ⟨c, r⟩⟩⟩
 ·rw [addC]; simp
 ·rw [addC]; simp
 ·rw [addC]
 ·rw [addC]; simp
theorem addC_ok {I : List Tm} : ∀ (t : Tm) (S L : List Tm), validT t = true → S.Nodup → (∀ x ∈ S, Kn I false x) → (∀ x ∈ L, x ∈ S ∧ (x.kind = 3 ∨ x.kind = 4)) →
  (∀ k n a b, Tm.mk k n [a, b] ∈ S → (k = 3 ∨ k = 4) → b ∈ S ∨ Tm.mk k n [a, b] ∈ L ∨ b = t) → Kn I false t →
  CloC I (addC t (S, L)).1 (addC t (S, L)).2 ∧ t ∈ (addC t (S, L)).1 ∧ (∀ x ∈ S, x ∈ (addC t (S, L)).1) ∧ (addC t (S, L) = (S, L) ∨ (S.length < (addC t (S, L)).1.length ∧ (addC t (S, L)).2.length ≤ L.length + 1)) := by
 refine Tm.ind fun k n l ih S L hv hnd hkn hin hop ht => ?_
 obtain ⟨hk6, _, hlen, hvl⟩ := valid_parts hv
 rw [addC_mk]
 by_cases hm : Tm.mk k n l ∈ S
 ·rw [if_pos hm]
  refine ⟨⟨hnd, hkn, hin, fun k' n' a b h1 h2 => ?_⟩, hm, fun x hx => hx, .inl rfl⟩
  rcases hop k' n' a b h1 h2 with h | h | h
  ·exact .inl h
  ·exact .inr h
  ·rw [h]; exact .inl hm
 rw [if_neg hm]
 have hnd' : (S ++ [Tm.mk k n l]).Nodup := List.nodup_append.2 ⟨hnd, by simp, fun a ha b hb e => by rw [List.mem_singleton] at hb; exact hm (by rw [← hb, ← e]; exact ha)⟩
 have hkn' : ∀ x ∈ S ++ [Tm.mk k n l], Kn I false x := fun x hx => by
  rcases List.mem_append.1 hx with h | h
  ·exact hkn x h
  ·rw [List.mem_singleton] at h; rw [h]; exact ht
 have hself : Tm.mk k n l ∈ S ++ [Tm.mk k n l] := by simp
 have hsub : ∀ x ∈ S, x ∈ S ++ [Tm.mk k n l] := fun x hx => List.mem_append_left _ hx
 by_cases hk : k = 3 ∨ k = 4
 ·rw [if_pos hk]
  have h2 : l.length = 2 := by rcases hk with rfl | rfl <;> simp [arityI] at hlen <;> omega
  match l, h2 with
  | [a, b], _ =>
   simp only
   by_cases hb : builtT (inP (S ++ [.mk k n [a, b]])) a = true
   ·rw [if_pos hb]
    have hih := ih b (by simp) (S ++ [.mk k n [a, b]]) L (hvl b (by simp)) hnd' hkn' (fun x hx => ⟨hsub x (hin x hx).1, (hin x hx).2⟩) (fun k' n' a' b' h1 h2 => by
     rcases List.mem_append.1 h1 with h | h
     ·rcases hop k' n' a' b' h h2 with h | h | h
      ·exact .inl (hsub _ h)
      ·exact .inr (.inl h)
      ·rw [h]; exact .inl hself
     ·rw [List.mem_singleton] at h
      cases h; exact .inr (.inr rfl)) (.opn ht hk (built_sound hkn' a hb))
    obtain ⟨q1, q2, q3, q4⟩ := hih
    refine ⟨q1, q3 _ hself, fun x hx => q3 _ (hsub x hx), .inr ?_⟩
    rcases q4 with h | h
    ·rw [h]; exact ⟨by simp, by simp⟩
    ·have := h.1; simp only [List.length_append, List.length_singleton] at this; exact ⟨by omega, h.2⟩
   ·rw [if_neg hb]
    refine ⟨⟨hnd', hkn', fun x hx => ?_, fun k' n' a' b' h1 h2 => ?_⟩, hself, hsub, .inr ⟨by simp, by simp⟩⟩
    ·rcases List.mem_append.1 hx with h | h
     ·exact ⟨hsub x (hin x h).1, (hin x h).2⟩
     ·rw [List.mem_singleton] at h; rw [h]; exact ⟨hself, hk⟩
    ·rcases List.mem_append.1 h1 with h | h
     ·rcases hop k' n' a' b' h h2 with h | h | h
      ·exact .inl (hsub _ h)
      ·exact .inr (List.mem_append_left _ h)
      ·rw [h]; exact .inl hself
     ·rw [List.mem_singleton] at h
      cases h; exact .inr (by simp)
 ·rw [if_neg hk]
  refine ⟨⟨hnd', hkn', fun x hx => ⟨hsub x (hin x hx).1, (hin x hx).2⟩, fun k' n' a' b' h1 h2 => ?_⟩, hself, hsub, .inr ⟨by simp, by simp⟩⟩
  rcases List.mem_append.1 h1 with h | h
  ·rcases hop k' n' a' b' h h2 with h | h | h
   ·exact .inl (hsub _ h)
   ·exact .inr h
   ·rw [h]; exact .inl hself
  ·rw [List.mem_singleton] at h
   cases h; exact absurd h2 hk
def addAllC (I : List Tm) (s : List Tm × List Tm) : List Tm × List Tm := I.foldl (fun s t => addC t s) s
theorem addAllC_ok {I : List Tm} (hv : ∀ t ∈ I, validT t = true) : ∀ (J : List Tm) (S L : List Tm), (∀ t ∈ J, t ∈ I) → CloC I S L → CloC I (addAllC J (S, L)).1 (addAllC J (S, L)).2 ∧ (∀ t ∈ J, t ∈ (addAllC J (S, L)).1) ∧ ∀ x ∈ S, x ∈ (addAllC J (S, L)).1
 | [], S, L, _, h => ⟨h, by simp, fun x hx => hx⟩
 | t :: J, S, L, hJ, h => by
  have ht := hJ t (List.mem_cons_self ..)
  obtain ⟨q1, q2, q3, _⟩ := addC_ok (I := I) t S L (hv t ht) h.nd h.sub h.inl (fun k n a b h1 h2 => (h.opn k n a b h1 h2).imp_right .inl) (.item ht)
  obtain ⟨p1, p2, p3⟩ := addAllC_ok hv J (addC t (S, L)).1 (addC t (S, L)).2 (fun u hu => hJ u (List.mem_cons_of_mem _ hu)) q1
  have e : addAllC (t :: J) (S, L) = addAllC J ((addC t (S, L)).1, (addC t (S, L)).2) := rfl
  rw [e]
  refine ⟨p1, fun u hu => ?_, fun x hx => p3 _ (q3 x hx)⟩
  rcases List.mem_cons.1 hu with rfl | hu
  ·exact p3 _ q2
  ·exact p2 u hu
def keyOf (t : Tm) : Tm := t.l.getD 0 zeroTm
def conOf (t : Tm) : Tm := t.l.getD 1 zeroTm
def loopC : Nat → List Tm × List Tm → List Tm × List Tm
 | 0, s => s
 | f + 1, (S, L) => match L.findIdx? (fun t => builtT (inP S) (keyOf t)) with
  | none => (S, L)
  | some i => loopC f (addC (conOf (L.getD i zeroTm)) (S, L.eraseIdx i))
theorem cloC_len {I S L : List Tm} (h : CloC I S L) : S.length ≤ sizeL I := by
 have hsub : ∀ x ∈ S, x ∈ subsL I := fun x hx => subsL_mem.2 ((h.sub x hx).loc rfl)
 have := nodup_len h.nd hsub
 have e : (subsL I).length = sizeL I := by
  clear hsub this h
  induction I with
  | nil => rfl
  | cons t l ih => simp only [subsL, sizeL, List.length_append, subs_len, ih]
 omega
theorem loopC_ok {I : List Tm} (hv : ∀ t ∈ I, validT t = true) : ∀ (f : Nat) (S L : List Tm), CloC I S L → 2 * (sizeL I - S.length) + L.length < f → CloC I (loopC f (S, L)).1 (loopC f (S, L)).2 ∧ (∀ x ∈ S, x ∈ (loopC f (S, L)).1) ∧ ∀ t ∈ (loopC f (S, L)).2, builtT (inP (loopC f (S, L)).1) (keyOf t) = false
 | 0, _, _, _, h => by omega
 | f + 1, S, L, hC, hf => by
  unfold loopC
  cases hi : L.findIdx? (fun t => builtT (inP S) (keyOf t)) with
  | none =>
   refine ⟨hC, fun x hx => hx, fun t ht => ?_⟩
   exact List.findIdx?_eq_none_iff.1 hi t ht
  | some i =>
   obtain ⟨hlt, hb, _⟩ := List.findIdx?_eq_some_iff_getElem.1 hi
   simp only
   have eg : L.getD i zeroTm = L[i] := by simp [hlt]
   rw [eg]
   have hmem := List.getElem_mem hlt
   obtain ⟨hS, hk⟩ := hC.inl _ hmem
   obtain ⟨w, hw, hsub⟩ := (hC.sub _ hS).loc rfl
   obtain ⟨a, b, hab⟩ := two_of (subs_valid w (hv w hw) _ hsub) hk
   have hkey : keyOf L[i] = a := by rw [hab]; rfl
   have hcon : conOf L[i] = b := by rw [hab]; rfl
   rw [hkey] at hb
   rw [hcon]
   have hvb : validT b = true := by
    have := subs_valid w (hv w hw) _ hsub
    rw [hab] at this
    exact (valid_parts this).2.2.2 b (by simp)
   have hKu : Kn I false (.mk L[i].kind L[i].n [a, b]) := by rw [← hab]; exact hC.sub _ hS
   have hsubL : ∀ x ∈ L.eraseIdx i, x ∈ L := fun x hx => List.mem_of_mem_eraseIdx hx
   obtain ⟨q1, q2, q3, q4⟩ := addC_ok (I := I) b S (L.eraseIdx i) hvb hC.nd hC.sub (fun x hx => hC.inl x (hsubL x hx)) (fun k' n' a' b' h1 h2 => by
    rcases hC.opn k' n' a' b' h1 h2 with h | h
    ·exact .inl h
    ·obtain ⟨j, hj, e⟩ := List.getElem_of_mem h
     by_cases hji : j = i
     ·subst hji
      rw [hab] at e
      injection e with _ _ e
      injection e with _ e
      injection e with e _
      exact .inr (.inr e.symm)
     ·refine .inr (.inl ?_)
      rw [List.mem_eraseIdx_iff_getElem]
      exact ⟨j, hj, hji, e⟩) (.opn hKu hk (built_sound hC.sub a hb))
   have hle : (L.eraseIdx i).length = L.length - 1 := List.length_eraseIdx_of_lt hlt
   have hcl := cloC_len q1
   have hcl0 := cloC_len hC
   have hm : 2 * (sizeL I - (addC b (S, L.eraseIdx i)).1.length) + (addC b (S, L.eraseIdx i)).2.length < f := by
    rcases q4 with h | ⟨h1, h2⟩
    ·rw [h]; simp only; omega
    ·omega
   obtain ⟨p1, p2, p3⟩ := loopC_ok hv f (addC b (S, L.eraseIdx i)).1 (addC b (S, L.eraseIdx i)).2 q1 hm
   exact ⟨p1, fun x hx => p2 x (q3 x hx), p3⟩
theorem inP_sort {S : List Tm} : inP (sortT S) = inP S := funext fun t => decide_eq_decide.2 sortT_mem
theorem closC_done {I S L : List Tm} (hv : ∀ t ∈ I, validT t = true) (hC : CloC I S L) (hI : ∀ t ∈ I, t ∈ S) (hn : ∀ t ∈ L, builtT (inP S) (keyOf t) = false) : sortT S = closeF I := by
 obtain ⟨h1, h2⟩ := closeF_ok hv
 refine clo_unique (I := I) ⟨sortT_sorted S, fun t ht => sortT_mem.2 (hI t ht), fun t ht => hC.sub t (sortT_mem.1 ht)⟩ (fun k n a b hm hk hb => ?_) h1 h2
 rw [inP_sort] at hb
 rcases hC.opn k n a b (sortT_mem.1 hm) hk with h | h
 ·exact sortT_mem.2 h
 ·have := hn _ h
  rw [show keyOf (.mk k n [a, b]) = a from rfl, hb] at this
  cases this
def closC (I : List Tm) : List Tm × List Tm := loopC (2 * sizeL I + (addAllC I ([], [])).2.length + 1) (addAllC I ([], []))
theorem closC_ok {I : List Tm} (hv : ∀ t ∈ I, validT t = true) : CloC I (closC I).1 (closC I).2 ∧ sortT (closC I).1 = closeF I := by
 obtain ⟨p1, p2, _⟩ := addAllC_ok hv I [] [] (fun _ h => h) ⟨List.nodup_nil, by simp, by simp, fun _ _ _ _ h => by cases h⟩
 have e : addAllC I ([], []) = ((addAllC I ([], [])).1, (addAllC I ([], [])).2) := rfl
 obtain ⟨q1, q2, q3⟩ := loopC_ok hv (2 * sizeL I + (addAllC I ([], [])).2.length + 1) _ _ p1 (by omega)
 exact ⟨q1, closC_done hv q1 (fun t ht => q2 t (p2 t ht)) q3⟩
end Go.Proofs.YtkbkajabchhbeaaDoor
/- Layer 15: the closure's question: is a key built? -/
namespace Go.Proofs.YtkbkajabchhbeaaDoor
open Go Go.Vl
set_option maxRecDepth 4000
set_option maxHeartbeats 4000000 in
theorem Clos2_ok (S : List Tm) (hS : ValS S) (k n : Int) (a b : Tm) (hva : validT a = true) (hsz : sizeT a ≤ 1000000000) : FnB Tryd.prog glT 60 [.agg (tmC (.mk k n [a, b])), .bp 1 0] (setB S) (bo (builtT (inP S) a)) (setB S) := by
 refine FnB_by (rs := [.tmp 3]) (k := 2) [1000009, 3000002] mixed Tryd.func60 rfl rfl rfl rfl (by kernel_rfl) (by simp) rfl rfl rfl (valB2_ok rfl) (Nat.le_refl _) ?_
 simp -implicitDefEqProofs only [pkA, ptA, ↓reduceIte, Nat.reduceEqDiff, Nat.reduceAdd, Nat.reduceBEq, Nat.reduceMul, Nat.reduceLT, Nat.reduceLeDiff, pkT, pkU, true_and, setB_eq, tsC]
 refine ia_of ti_22 rfl ti_24 (by decide) (by decide) (c := tmC a) rfl (tmC_len _) ?_
 simp -implicitDefEqProofs only [pkA, ptA, ↓reduceIte, Nat.reduceEqDiff, Nat.reduceAdd, Nat.reduceBEq, Nat.reduceMul, Nat.reduceLT, Nat.reduceLeDiff, pkT, pkU, true_and, ld_24 (tmC_len _)]
 refine callB_same rfl (Built_ok S hS a hva hsz) (by simp [V.fz]) (show 1 ≤ 3 by decide) ⟨rfl, trivial⟩ (fun _ _ => rfl) ?_
 simp -implicitDefEqProofs only [pkA, ptA, ↓reduceIte, Nat.reduceEqDiff, Nat.reduceAdd, Nat.reduceBEq, Nat.reduceMul, Nat.reduceLT, Nat.reduceLeDiff, pkT, pkU, true_and]
 exact end_B [(3, bo (builtT (inP S) a))] rfl (by simp only [leOk, List.all_cons, List.all_nil, mS_ltB, List.length_cons, List.length_nil]; rfl) (Nat.le_refl _) (show 2 ≤ 3 by decide) ⟨by simp [up_apply], trivial⟩ ⟨rfl, rfl, trivial⟩ (by simp [hdS, frs, retV_one, up])
