/- Layer 15: sorting terms. -/
import Derived.Test.YtkbkajabchhbeaaDoorVlUi
import Derived.Test.YtkbkajabchhbeaaDoorSrt
import Derived.Test.YtkbkajabchhbeaaDoorVlSrt
set_option linter.unusedSimpArgs false
set_option linter.unusedVariables false
namespace Go.Proofs.YtkbkajabchhbeaaDoor
open Go Go.Vl
variable {G : Gl}
set_option maxRecDepth 4000
abbrev Ts := { t : Tm // sizeT t ≤ 1000000000 }
def tsCell (t : Ts) : List C := tmC t.1
def cmpS (x y : Ts) : Int := cmpT x.1 y.1
theorem ltOf_cmpS (x y : Ts) : ltOf cmpS x y = ltT x.1 y.1 := rfl
theorem ltS_swo : Go.Sort.SWO (ltOf cmpS) where
 irrefl x := by rw [ltOf_cmpS]; exact ltT_irrefl _
 trans x y z h1 h2 := by rw [ltOf_cmpS] at *; exact ltT_trans h1 h2
 ntrans x y z h1 h2 := by
  rw [ltOf_cmpS] at *
  cases h : ltT x.1 z.1 with
  | false => rfl
  | true =>
   cases h3 : ltT y.1 x.1 with
   | true => rw [ltT_trans h3 h] at h2; cases h2
   | false =>
    have := ltT_tot h1 h3
    rw [this] at h; rw [h] at h2; cases h2
theorem fn_sort : ∃ fn, Tryd.prog.funcs[67]? = some fn ∧ (fn.name == "runtime.NumGoroutine") = false ∧ ∃ b, fn.body = some b := ⟨_, Tryd.func67, rfl, _, rfl⟩
theorem nodup_perm {l m : List Tm} (h1 : l.Nodup) (h2 : m.Nodup) (h : ∀ x, x ∈ l ↔ x ∈ m) : l.Perm m := (List.perm_ext_iff_of_nodup h1 h2).2 h
theorem perm_of_map {α β : Type} {f : α → β} (hf : ∀ x y, f x = f y → x = y) {l m : List α} (h1 : (l.map f).Nodup) (h2 : (m.map f).Nodup) (h : ∀ y, y ∈ l.map f ↔ y ∈ m.map f) : l.Perm m := by
 have n1 : l.Nodup := (List.pairwise_map.1 h1).imp fun h e => h (by rw [e])
 have n2 : m.Nodup := (List.pairwise_map.1 h2).imp fun h e => h (by rw [e])
 refine (List.perm_ext_iff_of_nodup n1 n2).2 fun x => ⟨fun hx => ?_, fun hx => ?_⟩
 ·obtain ⟨y, hy, e⟩ := List.mem_map.1 ((h (f x)).1 (List.mem_map.2 ⟨x, hx, rfl⟩))
  rw [← hf _ _ e]; exact hy
 ·obtain ⟨y, hy, e⟩ := List.mem_map.1 ((h (f x)).2 (List.mem_map.2 ⟨x, hx, rfl⟩))
  rw [← hf _ _ e]; exact hy
theorem flb_att {l : List Tm} (h : ∀ t ∈ l, sizeT t ≤ 1000000000) : flb tsCell (l.attachWith _ h) = flb tmC l := by
 unfold flb
 have : (l.attachWith _ h).map tsCell = l.map tmC := by
  have e : (l.attachWith _ h).map tsCell = ((l.attachWith _ h).map Subtype.val).map tmC := by rw [List.map_map]; rfl
  rw [e, List.attachWith_map_subtype_val]
 rw [this]
theorem Sort_ok (l : List Tm) (hs : ∀ t ∈ l, sizeT t ≤ 1000000000) (hnd : l.Nodup) (hl : l.length < 4611686018427387904) (cap : Nat) (hc : l.length ≤ cap) :
  FnB Tryd.prog G 67 [.ms 0 0 l.length cap 3, .c (.fn (.func 16) [] [])] [flb tmC l] (.tup []) [flb tmC (sortT l)] := by
 have hs' : ∀ t ∈ sortT l, sizeT t ≤ 1000000000 := fun t ht => hs t (sortT_mem.1 ht)
 have h := FnB_sort (P := Tryd.prog) (G := G) (ρ := Tryd.sortTm_ren) (c := tsCell) Tryd.sortTm fn_sort Tryd.isAgg24 Tryd.sizeOf24 (fun t => tmC_len t.1) (by decide) ⟨.mk 0 0 [], by decide⟩ [.int .i64 0, .int .i64 0, .slice none 0 0] rfl (fun v hv => by simp at hv; rcases hv with rfl | rfl | rfl <;> rfl)
  (fun I w j x hx => by
   match j with
   | 0 | 1 => simp only [tsCell, tmC, tmCs, cI, List.getElem?_cons_zero, List.getElem?_cons_succ, Option.some.injEq] at hx; subst hx; exact .lit _ rfl
   | 2 => simp only [tsCell, tmC, tmCs, cI, List.getElem?_cons_zero, List.getElem?_cons_succ, Option.some.injEq] at hx; subst hx; exact .nil none 0 (fun _ => rfl)
   | j + 3 => simp [tsCell, tmC] at hx)
  cmpS ltS_swo 16 [] (enters_of Tryd.func16 (by kernel_rfl) rfl) (fun x y => Compare_ok x.1 y.1 x.2 y.2) (l.attachWith _ hs) ((sortT l).attachWith _ hs') (by simpa using hl)
  (perm_of_map (f := Subtype.val) (fun x y h => Subtype.ext h) (by rw [List.attachWith_map_subtype_val]; exact (sortT_sorted l).nodup) (by rw [List.attachWith_map_subtype_val]; exact hnd) (fun y => by rw [List.attachWith_map_subtype_val, List.attachWith_map_subtype_val]; exact sortT_mem))
  (by
   have hp : ((sortT l).attachWith _ hs').Pairwise fun x y => ltT x.1 y.1 = true := by
    have := sortT_sorted l
    rw [← List.pairwise_map (f := Subtype.val) (R := fun x y => ltT x y = true), List.attachWith_map_subtype_val]; exact this
   exact hp.imp fun h => by rw [ltOf_cmpS]; exact ltT_asymm h)
  (fun x _ y _ h1 h2 => by rw [ltOf_cmpS] at h1 h2; exact Subtype.ext (ltT_tot h1 h2)) cap (by simpa using hc)
 rw [flb_att, flb_att, List.length_attachWith] at h
 exact h
theorem SortN_ok {x : C} : FnOK Tryd.prog G 67 [.c (.sl []), .c x] (.tup []) :=
 FnOK_sort_nil (ρ := Tryd.sortTm_ren) Tryd.sortTm fn_sort
end Go.Proofs.YtkbkajabchhbeaaDoor
/- Layer 15: slices.SortedFunc, list. -/
namespace Go.Proofs.YtkbkajabchhbeaaDoor
open Go Go.Vl
variable {G : Gl}
set_option maxRecDepth 4000
theorem valB2_ok {S : List Tm} {xs : List V} (h : xs.all (fun x => x.ltB 2) = true) : xargsOk xs [mS S, [.mr 0]] = true := by
 simp only [xargsOk, List.all_cons, List.all_nil, mS_ltB, List.length_cons, List.length_nil, h]; rfl
set_option maxHeartbeats 4000000 in
theorem Sorted_nil : FnB Tryd.prog G 57 [valC, .c (.fn (.func 16) [] [])] [mS [], [.mr 0]] (.c (tsC [])) [mS [], [.mr 0]] := by
 refine FnB_by (rs := [.tmp 4]) (k := 2) [1500007, 3000002] mixed Tryd.func57 rfl rfl rfl rfl (by kernel_rfl) (by simp) rfl rfl rfl (valB2_ok rfl) (Nat.le_refl _) ?_
 simp -implicitDefEqProofs only [pkA, ptA, ↓reduceIte, Nat.reduceEqDiff, Nat.reduceAdd, Nat.reduceBEq, Nat.reduceMul, Nat.reduceLT, Nat.reduceLeDiff, isMb_flb, pkT, pkU, true_and, valC]
 refine callR_all rfl Collect_nil (by simp [V.fz, valC]) rfl ⟨rfl, rfl, trivial⟩ ?_
 rintro r b1 ⟨rfl, j, rfl, hj⟩
 simp -implicitDefEqProofs only [pkA, ptA, ↓reduceIte, Nat.reduceEqDiff, Nat.reduceAdd, Nat.reduceBEq, Nat.reduceMul, Nat.reduceLT, Nat.reduceLeDiff, isMb_flb, pkT, pkU, true_and]
 refine call_fn rfl SortN_ok (fun h => by cases h) ?_
 simp -implicitDefEqProofs only [pkA, ptA, ↓reduceIte, Nat.reduceEqDiff, Nat.reduceAdd, Nat.reduceBEq, Nat.reduceMul, Nat.reduceLT, Nat.reduceLeDiff, isMb_flb, pkT, pkU, true_and]
 exact end_B [(4, .c (tsC []))] rfl (by simp only [leOk, List.all_cons, List.all_nil, mS_ltB, List.length_cons, List.length_nil]; rfl) (Nat.le_refl _) (show 2 ≤ 4 by decide) ⟨by simp [up_apply, tsC], trivial⟩ ⟨rfl, rfl, trivial⟩ (by simp [hdS, frs, retV_one, up])
theorem LZ_refl {s : Vl.S} {m : Nat} : ∀ xs : List V, LZ s m xs xs
 | [] => trivial
 | _ :: xs => ⟨.inl rfl, LZ_refl xs⟩
set_option maxHeartbeats 4000000 in
theorem Sorted_ok (S : List Tm) (hS : S.length ≤ 1000000000) (hne : S ≠ []) (hs : ∀ t ∈ S, sizeT t ≤ 1000000000) (hnd : S.Nodup) : FnB Tryd.prog G 57 [valC, .c (.fn (.func 16) [] [])] [mS S, [.mr 0]] (.c (tsC (sortT S))) [mS S, [.mr 0]] := by
 refine FnB_by (rs := [.tmp 4]) (k := 2) [1500007, 1000010, 2600003, 3000002] mixed Tryd.func57 rfl rfl rfl rfl (by kernel_rfl) (by simp) rfl rfl rfl (valB2_ok rfl) (Nat.le_refl _) ?_
 simp -implicitDefEqProofs only [pkA, ptA, ↓reduceIte, Nat.reduceEqDiff, Nat.reduceAdd, Nat.reduceBEq, Nat.reduceMul, Nat.reduceLT, Nat.reduceLeDiff, isMb_flb, pkT, pkU, true_and, valC]
 refine callR_all rfl (Collect_ok S hS hne) (by simp [V.fz, valC]) rfl ⟨rfl, rfl, trivial⟩ ?_
 rintro r b1 ⟨l, j, hl, rfl, rfl, hj⟩
 have hso : sortT l = sortT S := strictT_ext (sortT_sorted l) (sortT_sorted S) fun x => by rw [sortT_mem, sortT_mem]; exact hl.mem_iff
 have hsrt := Sort_ok (G := G) l (fun t ht => hs t (hl.mem_iff.1 ht)) (hl.nodup_iff.2 hnd) (by rw [hl.length_eq]; omega) l.length (Nat.le_refl _)
 rw [hso, hl.length_eq] at hsrt
 simp -implicitDefEqProofs only [pkA, ptA, ↓reduceIte, Nat.reduceEqDiff, Nat.reduceAdd, Nat.reduceBEq, Nat.reduceMul, Nat.reduceLT, Nat.reduceLeDiff, isMb_flb, pkT, pkU, true_and]
 refine callB_sel [4] rfl hsrt (by simp [V.fz, V.ren, rho]) rfl (by decide) rfl ⟨⟨show 4 < 5 by decide, by simp only [flb_ren]; rfl⟩, trivial⟩ ?_
 intro bx' hoth hat
 have h0 : bx' 0 = mS S := by rw [hoth 0 (by decide)]; rfl
 have h1 : bx' 1 = [.mr 0] := by rw [hoth 1 (by decide)]; rfl
 have h4 : bx' 4 = flb tmC (sortT S) := by
  have := hat 0 4 _ rfl rfl
  rwa [flb_ren] at this
 simp -implicitDefEqProofs only [pkA, ptA, ↓reduceIte, Nat.reduceEqDiff, Nat.reduceAdd, Nat.reduceBEq, Nat.reduceMul, Nat.reduceLT, Nat.reduceLeDiff, isMb_flb, pkT, pkU, true_and]
 refine fz_hd (l := [(5, .c (tsC (sortT S)))]) (bl := [mS S, [.mr 0]]) (by simp only [leOk, List.all_cons, List.all_nil, mS_ltB, List.length_cons, List.length_nil]; rfl) (Nat.le_refl _) (show 2 ≤ 5 by decide) ⟨.inr ?_, trivial⟩ ⟨by rw [h0]; exact LZ_refl _, by rw [h1]; exact LZ_refl _, trivial⟩ ?_
 ·have hlen : S.length = (sortT S).length := by
   have h1 := (nodup_perm (sortT_sorted S).nodup hnd (fun x => sortT_mem)).length_eq
   exact h1.symm
  exact ⟨4, 0, S.length, S.length, 3, tsC (sortT S), by simp [up_apply], show 2 ≤ 4 by decide, view_flb tmC_len (show 4 < 5 by decide) h4 hlen, rfl⟩
 simp -implicitDefEqProofs only [pkA, ptA, ↓reduceIte, Nat.reduceEqDiff, Nat.reduceAdd, Nat.reduceBEq, Nat.reduceMul, Nat.reduceLT, Nat.reduceLeDiff, isMb_flb, pkT, pkU, true_and, tsC]
 exact end_B [(4, .c (tsC (sortT S)))] rfl (by simp only [leOk, List.all_cons, List.all_nil, mS_ltB, List.length_cons, List.length_nil]; rfl) (Nat.le_refl _) (Nat.le_refl 2) ⟨by simp [up_apply, tsC], trivial⟩ ⟨rfl, rfl, trivial⟩ (by simp [hdS, frs, retV_one, up, tsC])
set_option maxHeartbeats 4000000 in
theorem list_ok (S : List Tm) (hS : S.length ≤ 1000000000) (hs : ∀ t ∈ S, sizeT t ≤ 1000000000) (hnd : S.Nodup) : FnB Tryd.prog G 47 [.mr 0] [mS S] (.c (tsC (sortT S))) [mS S] := by
 refine FnB_by (rs := [.tmp 2]) (k := 1) [1000004, 1000005, 3000001] mixed Tryd.func47 rfl rfl rfl rfl (by kernel_rfl) (by simp) rfl rfl rfl (by simp only [xargsOk, List.all_cons, List.all_nil, mS_ltB, List.length_cons, List.length_nil]; rfl) (Nat.le_refl _) ?_
 simp -implicitDefEqProofs only [pkA, ptA, ↓reduceIte, Nat.reduceEqDiff, Nat.reduceAdd, Nat.reduceBEq, Nat.reduceMul, Nat.reduceLT, Nat.reduceLeDiff, isMb_flb, pkT, pkU, true_and]
 refine callB_all rfl (Values_ok S) rfl rfl ⟨rfl, trivial⟩ ?_
 simp -implicitDefEqProofs only [pkA, ptA, ↓reduceIte, Nat.reduceEqDiff, Nat.reduceAdd, Nat.reduceBEq, Nat.reduceMul, Nat.reduceLT, Nat.reduceLeDiff, isMb_flb, pkT, pkU, true_and]
 have hsrt : FnB Tryd.prog G 57 [valC, .c (.fn (.func 16) [] [])] [mS S, [.mr 0]] (.c (tsC (sortT S))) [mS S, [.mr 0]] := by
  by_cases h : S = []
  ·subst h; exact Sorted_nil
  ·exact Sorted_ok S hS h hs hnd
 refine callB_same rfl hsrt (by simp [V.fz, valC]) (show 2 ≤ 2 by decide) ⟨rfl, rfl, trivial⟩ (fun _ _ => rfl) ?_
 simp -implicitDefEqProofs only [pkA, ptA, ↓reduceIte, Nat.reduceEqDiff, Nat.reduceAdd, Nat.reduceBEq, Nat.reduceMul, Nat.reduceLT, Nat.reduceLeDiff, isMb_flb, pkT, pkU, true_and]
 exact end_B [(2, .c (tsC (sortT S)))] rfl (by simp only [leOk, List.all_cons, List.all_nil, mS_ltB, List.length_cons, List.length_nil]; rfl) (Nat.le_refl _) (show 1 ≤ 2 by decide) ⟨by simp [up_apply], trivial⟩ ⟨rfl, trivial⟩ (by simp [hdS, frs, retV_one, up])
