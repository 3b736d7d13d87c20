/- Layer 15: slices.IndexFunc and slices.Delete of the seals and boxes that are not open yet. -/
import Derived.Test.YtkbkajabchhbeaaDoorVlUq
set_option linter.unusedSimpArgs false
set_option linter.unusedVariables false
namespace Go.Proofs.YtkbkajabchhbeaaDoor
open Go Go.Vl
set_option maxRecDepth 4000
def xV (a : Option Addr) (E : Option (TypeId × Nat)) (cap : Nat) (L : List Tm) : V := .gs (some (.slice a L.length cap)) E (L.map tmC)
def xB (S : List Tm) (a : Option Addr) (E : Option (TypeId × Nat)) (cap : Nat) (L : List Tm) : List (List V) := [mS S, [.mr 0], [xV a E cap L]]
theorem xB_eq {S L : List Tm} {a : Option Addr} {E : Option (TypeId × Nat)} {cap : Nat} : xB S a E cap L = [mS S, [.mr 0], [xV a E cap L]] := rfl
theorem xB_ok {S L : List Tm} {a : Option Addr} {E : Option (TypeId × Nat)} {cap : Nat} {xs : List V} (h : xs.all (fun x => x.ltB 3) = true) : xargsOk xs (xB S a E cap L) = true := by
 simp only [xargsOk, xB, List.all_cons, List.all_nil, mS_ltB, List.length_cons, List.length_nil, h, xV]; rfl
theorem xB_all {S L : List Tm} {a : Option Addr} {E : Option (TypeId × Nat)} {cap : Nat} : ([mS S, [.mr 0], [xV a E cap L]] : List (List V)).all (fun b => b.all fun x => x.ltB 3) = true := by
 simp only [List.all_cons, List.all_nil, mS_ltB, xV]; rfl
theorem len_tmL {L : List Tm} : ∀ z ∈ L.map tmC, z.length = 3 := fun z hz => by
 obtain ⟨t, _, rfl⟩ := List.mem_map.1 hz
 exact tmC_len t
def askC (S : List Tm) (t : Tm) : Bool := builtT (inP S) (keyOf t)
def opnV : V := .clo (.func 60) [] [.bp 1 0]
set_option maxHeartbeats 4000000 in
theorem IndexX_ok (S : List Tm) (hS : ValS S) (L : List Tm) (hL : ∀ t ∈ L, ∃ k n a b, t = .mk k n [a, b] ∧ validT a = true ∧ sizeT a ≤ 1000000000) (hm : L.length ≤ 1000000000) (a : Option Addr) (E : Option (TypeId × Nat)) (cap : Nat) (ha : L ≠ [] → ∃ blk, a = some ⟨blk, 0, none⟩) :
  FnB Tryd.prog glT 51 [.c (.ex (.slice a L.length cap)), opnV] (xB S a E cap L) (i64 (posT (askC S) L)) (xB S a E cap L) := by
 refine FnB_by (rs := [.tmp 4]) (k := 3) [1000016, 3000003] mixed Tryd.func51 rfl rfl rfl rfl (by kernel_rfl) (by simp) rfl rfl rfl (xB_ok rfl) (Nat.le_refl _) ?_
 simp -implicitDefEqProofs only [pkA, ptA, ↓reduceIte, Nat.reduceEqDiff, Nat.reduceAdd, Nat.reduceBEq, Nat.reduceMul, Nat.reduceLT, Nat.reduceLeDiff, pkT, true_and, xB_eq]
 refine len_hot ti_22 rfl ?_
 simp -implicitDefEqProofs only [pkA, ptA, ↓reduceIte, Nat.reduceEqDiff, Nat.reduceAdd, Nat.reduceBEq, Nat.reduceMul, Nat.reduceLT, Nat.reduceLeDiff, pkT, true_and, xB_eq]
 refine run_loop (fun i : Nat => hdS [(0, .c (.ex (.slice a L.length cap))), (1, opnV), (7, i64 L.length), (8, i64 i)] (xB S a E cap L)) (fun i => L.length - i) (fun i => i ≤ L.length ∧ ∀ j (h : j < L.length), j < i → askC S L[j] = false) 0 ⟨Nat.zero_le _, fun j h h' => absurd h' (Nat.not_lt_zero _)⟩ ?_ ?_
 ·exact le_hd (by simp only [leOk]; exact Bool.and_eq_true_iff.2 ⟨rfl, xB_all⟩) (Nat.le_refl _) (Nat.le_refl _) (by simp [FL, up_apply]) ⟨rfl, rfl, rfl, trivial⟩
 rintro i ⟨hi, hno⟩ R hnorm hexit hret
 simp -implicitDefEqProofs only [pkA, ptA, ↓reduceIte, Nat.reduceEqDiff, Nat.reduceAdd, Nat.reduceBEq, Nat.reduceMul, Nat.reduceLT, Nat.reduceLeDiff, pkT, true_and, xB_eq]
 refine vcond_of (fun hlt => ?_) (fun hge => ?_)
 ·have hlt : i < L.length := by simpa using hlt
  have hw := wrap_of (n := (i : Int) + 1) (k := i + 1) (by omega) (by omega)
  obtain ⟨blk, rfl⟩ := ha (by intro h; subst h; simp at hlt)
  obtain ⟨k, n, x, y, ht, hvx, hsx⟩ := hL L[i] (List.getElem_mem hlt)
  have hb := Clos2_ok S hS k n x y hvx hsx
  have hask : askC S L[i] = builtT (inP S) x := by rw [ht]; rfl
  rw [← ht, ← hask] at hb
  simp -implicitDefEqProofs only [pkA, ptA, ↓reduceIte, Nat.reduceEqDiff, Nat.reduceAdd, Nat.reduceBEq, Nat.reduceMul, Nat.reduceLT, Nat.reduceLeDiff, pkT, true_and, opnV]
  refine ix_hot (k := i) ti_22 rfl ti_24 rfl (by decide) rfl hlt ?_
  simp -implicitDefEqProofs only [pkA, ptA, ↓reduceIte, Nat.reduceEqDiff, Nat.reduceAdd, Nat.reduceBEq, Nat.reduceMul, Nat.reduceLT, Nat.reduceLeDiff, pkT, true_and, opnV]
  refine ld_gs (b := 2) (k := 0) (q := i) (x := tmC L[i]) ti_24 rfl rfl (show 2 < 3 by decide) rfl rfl len_tmL (by simp [hlt]) (by rw [Nat.zero_add]) ?_
  simp -implicitDefEqProofs only [pkA, ptA, ↓reduceIte, Nat.reduceEqDiff, Nat.reduceAdd, Nat.reduceBEq, Nat.reduceMul, Nat.reduceLT, Nat.reduceLeDiff, pkT, true_and, opnV]
  refine callB_same rfl hb (by simp [V.fz]) (show 2 ≤ 3 by decide) ⟨rfl, rfl, trivial⟩ (fun _ _ => rfl) ?_
  simp -implicitDefEqProofs only [pkA, ptA, ↓reduceIte, Nat.reduceEqDiff, Nat.reduceAdd, Nat.reduceBEq, Nat.reduceMul, Nat.reduceLT, Nat.reduceLeDiff, pkT, true_and]
  refine vcond_of (fun hy => ?_) (fun hn => ?_)
  ·simp -implicitDefEqProofs only [pkA, ptA, ↓reduceIte, Nat.reduceEqDiff, Nat.reduceAdd, Nat.reduceBEq, Nat.reduceMul, Nat.reduceLT, Nat.reduceLeDiff, pkT, true_and]
   refine hret _ ?_
   simp -implicitDefEqProofs only [pkA, ptA, ↓reduceIte, Nat.reduceEqDiff, Nat.reduceAdd, Nat.reduceBEq, Nat.reduceMul, Nat.reduceLT, Nat.reduceLeDiff, pkT, true_and]
   rw [posT_at hlt hy hno]
   exact end_B [(4, i64 i)] rfl (by simp only [leOk]; exact Bool.and_eq_true_iff.2 ⟨rfl, xB_all⟩) (Nat.le_refl _) (Nat.le_refl _) ⟨by simp [up_apply], trivial⟩ ⟨rfl, rfl, rfl, trivial⟩ (by simp [hdS, frs, retV_one, up])
  ·simp -implicitDefEqProofs only [pkA, ptA, ↓reduceIte, Nat.reduceEqDiff, Nat.reduceAdd, Nat.reduceBEq, Nat.reduceMul, Nat.reduceLT, Nat.reduceLeDiff, pkT, true_and]
   refine hnorm (i + 1) _ ⟨hlt, fun j h hj => ?_⟩ (by omega) (le_hd (by simp only [leOk]; exact Bool.and_eq_true_iff.2 ⟨rfl, xB_all⟩) (Nat.le_refl _) (Nat.le_refl _) (by simp [FL, up_apply, hw, opnV]) ⟨rfl, rfl, rfl, trivial⟩)
   rcases Nat.lt_or_ge j i with h1 | h1
   ·exact hno j h h1
   ·have : j = i := by omega
    subst this; exact hn
 ·have : i = L.length := by simp at hge; omega
  subst this
  simp -implicitDefEqProofs only [pkA, ptA, ↓reduceIte, Nat.reduceEqDiff, Nat.reduceAdd, Nat.reduceBEq, Nat.reduceMul, Nat.reduceLT, Nat.reduceLeDiff, pkT, true_and]
  refine hexit _ _ ?_
  simp -implicitDefEqProofs only [pkA, ptA, ↓reduceIte, Nat.reduceEqDiff, Nat.reduceAdd, Nat.reduceBEq, Nat.reduceMul, Nat.reduceLT, Nat.reduceLeDiff, pkT, true_and]
  rw [posT_none (fun j h => hno j h h)]
  exact end_B [(4, i64 (-1))] rfl (by simp only [leOk]; exact Bool.and_eq_true_iff.2 ⟨rfl, xB_all⟩) (Nat.le_refl _) (Nat.le_refl _) ⟨by simp [up_apply], trivial⟩ ⟨rfl, rfl, rfl, trivial⟩ (by simp [hdS, frs, retV_one, up])
def dB (blk cap : Nat) (n : Nat) (es : List (List C)) : List (List V) := [[.gs (some (.slice (some ⟨blk, 0, none⟩) n cap)) (some (24, 3)) es]]
theorem dB_eq {blk cap n : Nat} {es : List (List C)} : dB blk cap n es = [[.gs (some (.slice (some ⟨blk, 0, none⟩) n cap)) (some (24, 3)) es]] := rfl
theorem del_es {L : List Tm} {i : Nat} (h : i < L.length) : ((L.map tmC).take i ++ ((L.map tmC).drop (i + 1)).take (L.length - (i + 1)) ++ (L.map tmC).drop (i + (L.length - (i + 1)))) = (L.eraseIdx i).map tmC ++ (L.map tmC).drop (L.length - 1) := by
 have h2 : ((L.map tmC).drop (i + 1)).take (L.length - (i + 1)) = (L.map tmC).drop (i + 1) := List.take_of_length_le (by simp)
 rw [h2, show i + (L.length - (i + 1)) = L.length - 1 by omega, List.eraseIdx_eq_take_drop_succ, List.map_append, List.map_take, List.map_drop]
set_option maxHeartbeats 4000000 in
theorem Delete_ok (L : List Tm) (i : Nat) (hi : i < L.length) (hm : L.length ≤ 1000000000) (blk cap : Nat) (hc : L.length ≤ cap) :
  FnB Tryd.prog glT 61 [.c (.ex (.slice (some ⟨blk, 0, none⟩) L.length cap)), i64 i, i64 ((i + 1 : Nat) : Int)] (dB blk cap L.length (L.map tmC)) (.c (.ex (.slice (some ⟨blk, 0, none⟩) (L.length - 1) cap))) (dB blk cap L.length ((L.eraseIdx i).map tmC ++ [tmC (.mk 0 0 [])])) := by
 have hle : (L.eraseIdx i).length = L.length - 1 := List.length_eraseIdx_of_lt hi
 refine FnB_by (rs := [.tmp 6]) (k := 1) [2700026, 3000001] mixed Tryd.func61 rfl rfl rfl rfl (by kernel_rfl) (by simp) rfl rfl rfl rfl (Nat.le_refl _) ?_
 simp -implicitDefEqProofs only [pkA, ptA, ↓reduceIte, Nat.reduceEqDiff, Nat.reduceAdd, Nat.reduceBEq, Nat.reduceMul, Nat.reduceLT, Nat.reduceLeDiff, pkT, true_and, dB_eq]
 refine len_hot ti_22 rfl ?_
 simp -implicitDefEqProofs only [pkA, ptA, ↓reduceIte, Nat.reduceEqDiff, Nat.reduceAdd, Nat.reduceBEq, Nat.reduceMul, Nat.reduceLT, Nat.reduceLeDiff, pkT, true_and]
 refine sl_ex (l := i) (h := i + 1) (m := L.length) (sz := 3) ti_22 rfl ti_24 rfl rfl rfl rfl (by omega) (by omega) hc (fun _ => rfl) ?_
 simp -implicitDefEqProofs only [pkA, ptA, ↓reduceIte, Nat.reduceEqDiff, Nat.reduceAdd, Nat.reduceBEq, Nat.reduceMul, Nat.reduceLT, Nat.reduceLeDiff, pkT, true_and]
 refine vcond_of (fun h => ?_) (fun _ => ?_)
 ·exfalso; have h := of_decide_eq_true h; omega
 simp -implicitDefEqProofs only [pkA, ptA, ↓reduceIte, Nat.reduceEqDiff, Nat.reduceAdd, Nat.reduceBEq, Nat.reduceMul, Nat.reduceLT, Nat.reduceLeDiff, pkT, true_and]
 refine len_hot ti_22 rfl ?_
 simp -implicitDefEqProofs only [pkA, ptA, ↓reduceIte, Nat.reduceEqDiff, Nat.reduceAdd, Nat.reduceBEq, Nat.reduceMul, Nat.reduceLT, Nat.reduceLeDiff, pkT, true_and]
 refine sl_ex (l := 0) (h := i) (m := cap) (sz := 3) ti_22 rfl ti_24 rfl rfl rfl rfl (by omega) (by omega) (Nat.le_refl _) (fun h => by cases h) ?_
 simp -implicitDefEqProofs only [pkA, ptA, ↓reduceIte, Nat.reduceEqDiff, Nat.reduceAdd, Nat.reduceBEq, Nat.reduceMul, Nat.reduceLT, Nat.reduceLeDiff, pkT, true_and]
 refine sl_ex (l := i + 1) (h := L.length) (m := cap) (sz := 3) ti_22 rfl ti_24 rfl rfl rfl rfl (by omega) (by omega) (Nat.le_refl _) (fun h => by cases h) ?_
 simp -implicitDefEqProofs only [pkA, ptA, ↓reduceIte, Nat.reduceEqDiff, Nat.reduceAdd, Nat.reduceBEq, Nat.reduceMul, Nat.reduceLT, Nat.reduceLeDiff, pkT, true_and, ite_self, Nat.sub_zero]
 have hlm : (L.map tmC).length = L.length := List.length_map ..
 refine room_ex (es := L.map tmC) (b := 0) (k := 0) (q := i + 1) (m := L.length - (i + 1)) (n' := i) (e' := 24) (cap := cap) (sz := 3) ti_22 rfl ti_24 rfl (by decide) (show 0 < 1 by decide) rfl (by rw [hlm]; rfl) ?_ (by rw [hlm]; omega) (by rw [hlm]; omega) (by omega) ?_
 ·by_cases h : cap = i + 1
  ·exact .inl (by omega)
  ·exact .inr (by rw [if_neg h, Nat.zero_add])
 rw [del_es hi, hlm]
 have hn1 : i + (L.length - (i + 1)) = L.length - 1 := by omega
 rw [hn1]
 simp -implicitDefEqProofs only [pkA, ptA, ↓reduceIte, Nat.reduceEqDiff, Nat.reduceAdd, Nat.reduceBEq, Nat.reduceMul, Nat.reduceLT, Nat.reduceLeDiff, pkT, true_and]
 refine len_hot ti_22 rfl ?_
 simp -implicitDefEqProofs only [pkA, ptA, ↓reduceIte, Nat.reduceEqDiff, Nat.reduceAdd, Nat.reduceBEq, Nat.reduceMul, Nat.reduceLT, Nat.reduceLeDiff, pkT, true_and]
 refine sl_ex (l := L.length - 1) (h := L.length) (m := cap) (sz := 3) ti_22 rfl ti_24 rfl rfl rfl rfl (by omega) (by omega) (Nat.le_refl _) (fun h => by cases h) ?_
 simp -implicitDefEqProofs only [pkA, ptA, ↓reduceIte, Nat.reduceEqDiff, Nat.reduceAdd, Nat.reduceBEq, Nat.reduceMul, Nat.reduceLT, Nat.reduceLeDiff, pkT, true_and]
 have hes : ((L.eraseIdx i).map tmC ++ (L.map tmC).drop (L.length - 1)).length = L.length := by
  rw [List.length_append, List.length_map, List.length_drop, hlm, hle]; omega
 refine clear_ex (es := (L.eraseIdx i).map tmC ++ (L.map tmC).drop (L.length - 1)) (b := 0) (k := 0) (q := L.length - 1) (e' := 24) (cap := cap) (sz := 3) (z := tmC (.mk 0 0 [])) ti_22 rfl ti_24 rfl rfl (by decide) rfl (show 0 < 1 by decide) rfl (by rw [hes]; rfl) ?_ (by rw [hes]; omega) ?_
 ·by_cases h : cap = L.length - 1
  ·exact .inl (by omega)
  ·exact .inr (by rw [if_neg h, Nat.zero_add])
 have hend : ((L.eraseIdx i).map tmC ++ (L.map tmC).drop (L.length - 1)).take (L.length - 1) ++ List.replicate (L.length - (L.length - 1)) (tmC (.mk 0 0 [])) ++ ((L.eraseIdx i).map tmC ++ (L.map tmC).drop (L.length - 1)).drop (L.length - 1 + (L.length - (L.length - 1))) = (L.eraseIdx i).map tmC ++ [tmC (.mk 0 0 [])] := by
  have h1 : L.length - (L.length - 1) = 1 := by omega
  have hd : ((L.eraseIdx i).map tmC ++ (L.map tmC).drop (L.length - 1)).drop L.length = [] := List.drop_of_length_le (by rw [hes]; exact Nat.le_refl _)
  rw [h1, show L.length - 1 + 1 = L.length by omega, hd, List.append_nil, List.take_left' (by rw [List.length_map]; exact hle)]; rfl
 rw [hend, hes]
 simp -implicitDefEqProofs only [pkA, ptA, ↓reduceIte, Nat.reduceEqDiff, Nat.reduceAdd, Nat.reduceBEq, Nat.reduceMul, Nat.reduceLT, Nat.reduceLeDiff, pkT, true_and]
 exact end_B [(6, .c (.ex (.slice (some ⟨blk, 0, none⟩) (L.length - 1) cap)))] rfl rfl (Nat.le_refl _) (Nat.le_refl _) ⟨by simp [up_apply], trivial⟩ ⟨rfl, trivial⟩ (by simp [hdS, frs, retV_one, up])
