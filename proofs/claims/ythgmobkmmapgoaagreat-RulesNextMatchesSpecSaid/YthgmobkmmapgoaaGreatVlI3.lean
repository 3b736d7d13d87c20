/- Layer 17: slices.DeleteFunc with a set's Has, in place. -/
import Derived.Test.YthgmobkmmapgoaaGreatVlI2
set_option linter.unusedSimpArgs false
set_option linter.unusedVariables false
namespace Go.Proofs.YthgmobkmmapgoaaGreat
open Go Go.Vl
variable {G : Gl}
set_option maxRecDepth 4000
def set4 (l con : List Fa) : List (List V) := [mseq faC l, [.mr 0], flb faC con]
theorem set4_eq {l con : List Fa} : set4 l con = [mseq faC l, [.mr 0], flb faC con] := rfl
theorem flb_ltB {l : List Fa} {m : Nat} : (flb faC l).all (fun x => x.ltB m) = true := all_ltB_c _ _
theorem set4_ok {l con : List Fa} {xs : List V} (h : xs.all (fun x => x.ltB 3) = true) : xargsOk xs (set4 l con) = true := by
 simp only [xargsOk, set4, List.all_cons, List.all_nil, mseq_ltB, flb_ltB, List.length_cons, List.length_nil, h]; rfl
theorem le4 {l con : List Fa} {k nb : Nat} {fl : List (Nat × V)} {fr : Nat → V} {bx : Nat → List V} (hok : fl.all (fun p => p.2.ltB 3) = true) (hk : k ≤ 3) (hn : 3 ≤ nb) (h : FL fl fr) (h0 : bx 0 = mseq faC l) (h1 : bx 1 = [.mr 0]) (h2 : bx 2 = flb faC con) : S.Le k (hdS fl (set4 l con)) ⟨fr, bx, nb⟩ :=
 le_hd (by simp only [leOk, set4, List.all_cons, List.all_nil, mseq_ltB, flb_ltB, List.length_cons, List.length_nil, hok]; rfl) hk hn h ⟨h0, h1, h2, trivial⟩
theorem end4 {l con : List Fa} {r : V} {t : Tmp} {e : VE} {fr : Nat → V} {bx : Nat → List V} {nb : Nat} (he : isEnd e = true) (hn : 3 ≤ nb) (h0 : bx 0 = mseq faC l) (h1 : bx 1 = [.mr 0]) (h2 : bx 2 = flb faC con) (ht : fr t = r) (hr : r.ltB 3 = true) (hr2 : r.fz = r) : endB Tryz.prog 3 r (set4 l con) [.tmp t] e ⟨fr, bx, nb⟩ :=
 end_B [(t, r)] he (by simp only [leOk, set4, List.all_cons, List.all_nil, mseq_ltB, flb_ltB, hr, List.length_cons, List.length_nil]; rfl) (Nat.le_refl _) hn ⟨ht, trivial⟩ ⟨h0, h1, h2, trivial⟩ (by simp [hdS, frs, retV_one, up])
def hasM : V := .clo (.func 35) [.bp 1 0] []
theorem has_call {l : List Fa} {f : Fa} {nb : Nat} {fr : Nat → V} {bx : Nat → List V} {K : Vl.S → V → Prop} (hn : 3 ≤ nb) (h0 : bx 0 = mseq faC l) (h1 : bx 1 = [.mr 0])
  (hK : ∀ bx' : Nat → List V, (∀ j, j ≠ 0 → j ≠ 1 → bx' j = bx j) → bx' 0 = mseq faC l → bx' 1 = [.mr 0] → K ⟨fr, bx', nb⟩ (bo (decide (f ∈ l)))) : vcallB Tryz.prog G ⟨fr, bx, nb⟩ hasM [.agg (faC f)] K := by
 have setren : ∀ (ρ : Nat → Nat) (m : List Fa), (mseq faC m).map (V.ren ρ) = mseq faC m := fun ρ m => mseq_ren
 refine callB_sel [0, 1] rfl (Has_okS l f) (by simp [V.fz, V.ren, rho]) rfl (by decide) rfl ⟨⟨show 0 < nb by omega, by simp [h0, setren, rho]⟩, ⟨show 1 < nb by omega, by simp [h1, rho, V.ren]⟩, trivial⟩ ?_
 intro bx' hoth hat
 refine hK bx' (fun j hj0 hj1 => hoth j (by simp [hj0, hj1])) ?_ (hat 1 1 _ rfl rfl)
 rw [← setren]; exact hat 0 0 _ rfl rfl
set_option maxHeartbeats 1000000 in
theorem IndexHas_ok (l con : List Fa) (hm : con.length ≤ 1000000000) : FnB Tryz.prog G 89 [.ms 2 0 con.length con.length 3, hasM] (set4 l con) (i64 (posOf (fun f => decide (f ∈ l)) con)) (set4 l con) := by
 refine FnB_by (rs := [.tmp 4]) (k := 3) [1000016, 3000003] mixed Tryz.func89 rfl rfl rfl rfl (by kernel_rfl) (by simp) rfl rfl rfl (set4_ok rfl) (Nat.le_refl _) ?_
 simp -implicitDefEqProofs only [pkA, ptA, ↓reduceIte, Nat.reduceEqDiff, Nat.reduceAdd, Nat.reduceBEq, set4_eq, hasM]
 refine run_loop (fun i : Nat => hdS [(0, .ms 2 0 con.length con.length 3), (1, hasM), (7, i64 con.length), (8, i64 i)] (set4 l con)) (fun i => con.length - i) (fun i => i ≤ con.length ∧ ∀ j (h : j < con.length), j < i → decide (con[j] ∈ l) = false) 0 ⟨Nat.zero_le _, fun j h h' => absurd h' (Nat.not_lt_zero _)⟩ ?_ ?_
 ·refine le4 rfl (Nat.le_refl _) (Nat.le_refl _) ?_ rfl rfl rfl
  simp [FL, up_apply, hasM]
 rintro i ⟨hi, hno⟩ R hnorm hexit hret
 simp -implicitDefEqProofs only [pkA, ↓reduceIte, Nat.reduceEqDiff, Nat.reduceAdd, Nat.reduceBEq, set4_eq]
 refine vcond_of (fun hlt => ?_) (fun hge => ?_)
 ·have hlt : i < con.length := by simpa using hlt
  have hasfz : hasM.fz = hasM := rfl
  have hasow : hasM.isOw = false := rfl
  simp -implicitDefEqProofs only [pkA, ↓reduceIte, Nat.reduceEqDiff, Nat.reduceAdd, Nat.reduceBEq, hasfz]
  refine ix_flb ti_27 rfl ti_29 rfl (by decide) rfl hlt ?_
  simp -implicitDefEqProofs only [pkA, ptA, ↓reduceIte, Nat.reduceAdd, Nat.reduceBEq, Nat.reduceMul, Nat.reduceLT, isMb_flb, isMb_flb]
  refine ld_flb faC_len rfl (Nat.lt_succ_self 2) (List.getElem?_eq_getElem hlt) ?_
  simp -implicitDefEqProofs only [pkA, ↓reduceIte, Nat.reduceEqDiff, Nat.reduceAdd, Nat.reduceBEq]
  refine has_call (Nat.le_refl _) rfl rfl (fun bx' hoth h0 h1 => ?_)
  have h2 : bx' 2 = flb faC con := hoth 2 (by decide) (by decide)
  simp -implicitDefEqProofs only [pkA, ↓reduceIte]
  refine vcond_of (fun hy => ?_) (fun hn => ?_)
  ·simp -implicitDefEqProofs only [pkA, ↓reduceIte, Nat.reduceEqDiff, Nat.reduceAdd, Nat.reduceBEq]
   refine hret _ ?_
   simp -implicitDefEqProofs only [pkA]
   rw [posOf_at hlt hy hno]
   exact end4 rfl (Nat.le_refl _) h0 h1 h2 (by simp []) rfl rfl
  ·have hw := wrap_of (n := (i : Int) + 1) (k := i + 1) (by omega) (by omega)
   simp -implicitDefEqProofs only [pkA, ↓reduceIte, Nat.reduceEqDiff, Nat.reduceAdd, Nat.reduceBEq]
   refine hnorm (i + 1) _ ⟨hlt, fun j h hj => ?_⟩ (by omega) (le4 rfl (Nat.le_refl _) (Nat.le_refl _) ?_ h0 h1 h2)
   ·rcases Nat.lt_or_ge j i with h1 | h1
    ·exact hno j h h1
    ·have : j = i := by omega
     subst this; exact hn
   ·simp [FL, up_apply, hw]
 ·have : i = con.length := by simp at hge; omega
  subst this
  simp -implicitDefEqProofs only [pkA]
  refine hexit _ _ ?_
  simp -implicitDefEqProofs only [pkA, ↓reduceIte, Nat.reduceAdd, Nat.reduceBEq]
  rw [posOf_none (fun j h _ => hno j h h)]
  exact end4 rfl (Nat.le_refl _) rfl rfl rfl (by simp []) rfl rfl
def keepL (l con : List Fa) : List Fa := con.filter fun f => !decide (f ∈ l)
theorem keep_in {l con : List Fa} {j : Nat} (hj : j < con.length) (h : con[j] ∈ l) : keepL l (con.take (j + 1)) = keepL l (con.take j) := by
 unfold keepL
 rw [List.take_succ_eq_append_getElem hj, List.filter_append]; simp [h]
theorem keep_out {l con : List Fa} {j : Nat} (hj : j < con.length) (h : con[j] ∉ l) : keepL l (con.take (j + 1)) = keepL l (con.take j) ++ [con[j]] := by
 unfold keepL
 rw [List.take_succ_eq_append_getElem hj, List.filter_append]; simp [h]
theorem keep_all {l con : List Fa} (h : ∀ j (h : j < con.length), con[j] ∉ l) : keepL l con = con := by
 unfold keepL
 rw [List.filter_eq_self]
 intro a ha
 obtain ⟨i, hi, rfl⟩ := List.getElem_of_mem ha
 simp [h i hi]
theorem posOf_cases {α : Type} (p : α → Bool) (l : List α) : (posOf p l = -1 ∧ ∀ j (h : j < l.length), p l[j] = false) ∨ ∃ i, ∃ h : i < l.length, posOf p l = (i : Int) ∧ p l[i] = true ∧ ∀ j (hj : j < l.length), j < i → p l[j] = false := by
 cases hf : l.findIdx? p with
 | none =>
  have hn : ∀ j (h : j < l.length), p l[j] = false := fun j h => by
   have := List.findIdx?_eq_none_iff.1 hf l[j] (List.getElem_mem h)
   simpa using this
  exact .inl ⟨posOf_none fun j h _ => hn j h, hn⟩
 | some i =>
  obtain ⟨h1, h2, h3⟩ := List.findIdx?_eq_some_iff_getElem.1 hf
  have hn : ∀ j (hj : j < l.length), j < i → p l[j] = false := fun j hj hji => by simpa using h3 j hji
  exact .inr ⟨i, h1, posOf_at h1 h2 hn, h2, hn⟩
set_option maxHeartbeats 4000000 in
theorem DeleteHas_ok (l con : List Fa) (hm : con.length ≤ 1000000000) : FnB Tryz.prog G 60 [.ms 2 0 con.length con.length 3, hasM] (set4 l con) (.ms 2 0 (keepL l con).length con.length 3) (set4 l (keepL l con ++ List.replicate (con.length - (keepL l con).length) zf)) := by
 refine FnB_by (rs := [.tmp 4]) (k := 3) [1000010, 1000028, 3000003] mixed Tryz.func60 rfl rfl rfl rfl (by kernel_rfl) (by simp) rfl rfl rfl (set4_ok rfl) (Nat.le_refl _) ?_
 have hasfz : hasM.fz = hasM := rfl
 have hasow : hasM.isOw = false := rfl
 simp -implicitDefEqProofs only [pkA, ↓reduceIte, Nat.reduceEqDiff, Nat.reduceAdd, Nat.reduceBEq, set4_eq, hasfz]
 refine callB_all rfl (IndexHas_ok l con hm) rfl rfl ⟨rfl, rfl, rfl, trivial⟩ ?_
 simp -implicitDefEqProofs only [pkA, ↓reduceIte, Nat.reduceAdd, Nat.reduceBEq, set4_eq]
 rcases posOf_cases (fun f => decide (f ∈ l)) con with ⟨hp, hno⟩ | ⟨i0, hi0, hp, hin, hno⟩
 ·have hk : keepL l con = con := keep_all fun j h => by simpa using hno j h
  rw [hp]
  simp -implicitDefEqProofs only [pkA, ↓reduceIte, Nat.reduceEqDiff, Nat.reduceAdd, Nat.reduceBEq, decide_true]
  rw [hk]
  exact end4 rfl (Nat.le_refl _) rfl rfl (by simp) (by simp []) rfl rfl
 ·have hne : decide ((i0 : Int) = -1) = false := decide_eq_false (by omega)
  have hin : con[i0] ∈ l := by simpa using hin
  have hk0 : keepL l (con.take i0) = con.take i0 := keep_all fun j h => by
   rw [List.length_take] at h
   have := hno j (by omega) (by omega)
   rw [List.getElem_take]
   simpa using this
  have hk1 : keepL l (con.take (i0 + 1)) = con.take i0 := by rw [keep_in hi0 hin, hk0]
  have w0 := wrap_of (n := (i0 : Int) + 1) (k := i0 + 1) (by omega) (by omega)
  rw [hp]
  simp -implicitDefEqProofs only [pkA, ↓reduceIte, Nat.reduceEqDiff, Nat.reduceAdd, Nat.reduceBEq, hne, w0]
  refine run_loop (fun x : Nat × List Fa => hdS [(0, .ms 2 0 con.length con.length 3), (1, hasM), (5, i64 (keepL l (con.take x.1)).length), (6, i64 x.1)] (set4 l x.2)) (fun x => con.length - x.1)
   (fun x => x.1 ≤ con.length ∧ x.2.length = con.length ∧ x.2.take (keepL l (con.take x.1)).length = keepL l (con.take x.1) ∧ (keepL l (con.take x.1)).length < x.1 ∧ ∀ q, x.1 ≤ q → x.2[q]? = con[q]?) (i0 + 1, con)
   ⟨hi0, rfl, by simp only [hk1]; rw [List.length_take, Nat.min_eq_left (by omega)], by simp only [hk1]; rw [List.length_take, Nat.min_eq_left (by omega)]; omega, fun _ _ => rfl⟩ ?_ ?_
  ·refine le4 rfl (Nat.le_refl _) (Nat.le_refl _) ?_ rfl rfl rfl
   have e1 : ((keepL l (con.take (i0 + 1))).length : Int) = i0 := by rw [hk1, List.length_take, Nat.min_eq_left (by omega)]
   simp [FL, up_apply, e1]
  rintro ⟨j, L⟩ ⟨hjn, hLl, hLt, hkk, hLj⟩ R hnorm hexit hret
  simp only at hjn hLl hLt hkk hLj
  simp -implicitDefEqProofs only [pkA, ptA, ↓reduceIte, Nat.reduceEqDiff, Nat.reduceAdd, Nat.reduceBEq, set4_eq]
  refine vcond_of (fun hlt => ?_) (fun hge => ?_)
  ·have hlt : j < con.length := by simpa using hlt
   have hjw := wrap_of (n := (j : Int) + 1) (k := j + 1) (by omega) (by omega)
   have ej : ((j + 1 : Nat) : Int) = (j : Int) + 1 := by omega
   have g1 : L[j]? = some con[j] := by rw [hLj _ (Nat.le_refl _), List.getElem?_eq_getElem hlt]
   simp -implicitDefEqProofs only [pkA, ↓reduceIte, Nat.reduceEqDiff, Nat.reduceAdd, Nat.reduceBEq]
   refine ix_flb ti_27 rfl ti_29 rfl (by decide) rfl hlt ?_
   simp -implicitDefEqProofs only [pkA, ptA, ↓reduceIte, Nat.reduceAdd, Nat.reduceBEq, Nat.reduceMul, Nat.reduceLT, isMb_flb, isMb_flb]
   refine ld_flb faC_len rfl (Nat.lt_succ_self 2) g1 ?_
   have q1 : ∀ a b c : V, setV [a, b, c] 0 ((faC con[j]).map .c) = (faC con[j]).map .c := fun _ _ _ => rfl
   simp -implicitDefEqProofs only [pkA, ptA, ↓reduceIte, Nat.reduceEqDiff, Nat.reduceAdd, Nat.reduceBEq, Nat.reduceMul, Nat.reduceLT, Nat.reduceLeDiff, pkT, hasfz, q1]
   refine has_call (l := l) (show 3 ≤ 4 by decide) (by simp [up_apply, bxs]) (by simp [up_apply, bxs]) (fun bx' hoth h0 h1 => ?_)
   have h2 : bx' 2 = flb faC L := by rw [hoth 2 (by decide) (by decide)]; simp [up_apply, bxs]
   have h3 : bx' 3 = (faC con[j]).map .c := by rw [hoth 3 (by decide) (by decide)]; simp []
   simp -implicitDefEqProofs only [pkA, ↓reduceIte]
   refine vcond_of (fun hy => ?_) (fun hn => ?_)
   ·have hy : con[j] ∉ l := by simpa using hy
    have hko := keep_out hlt hy
    have wk := wrap_of (n := ((keepL l (con.take j)).length : Int) + 1) (k := (keepL l (con.take j)).length + 1) (by omega) (by omega)
    simp -implicitDefEqProofs only [pkA, ptA, ↓reduceIte, Nat.reduceEqDiff, Nat.reduceAdd, Nat.reduceBEq, Nat.reduceMul, Nat.reduceLT, pkT, h3]
    refine ix_flb ti_27 rfl ti_29 rfl (by decide) rfl (show (keepL l (con.take j)).length < con.length by omega) ?_
    obtain ⟨s1, s2⟩ := stq (sz := 3) (c := faC) faC_len (l := L) (i := (keepL l (con.take j)).length) (y := con[j]) (by omega) rfl
    simp -implicitDefEqProofs only [pkA, ptA, ↓reduceIte, Nat.reduceEqDiff, Nat.reduceAdd, Nat.reduceBEq, Nat.reduceMul, Nat.reduceLT, isMb_flb, pkT, isMb_flb, h2, s1, s2, wk, hjw]
    refine hnorm (j + 1, L.set (keepL l (con.take j)).length con[j]) _ ⟨hlt, by simpa using hLl, ?_, ?_, fun q hq => ?_⟩ (by simp only; omega) (le4 rfl (Nat.le_refl _) (show 3 ≤ 4 by decide) ?_ (by simp [up_apply, h0]) (by simp [up_apply, h1]) (by simp []))
    ·simp only [hko, List.length_append, List.length_singleton]
     rw [take_set_at (by omega), hLt]
    ·simp only [hko, List.length_append, List.length_singleton]; omega
    ·simp only at hq ⊢
     rw [List.getElem?_set_ne (by omega)]; exact hLj _ (by omega)
    ·have e1 : ((keepL l (con.take (j + 1))).length : Int) = (keepL l (con.take j)).length + 1 := by rw [hko]; simp
     simp [FL, up_apply, e1, ej]
   ·have hn : con[j] ∈ l := by simpa using hn
    have hki := keep_in hlt hn
    simp -implicitDefEqProofs only [pkA, ↓reduceIte, Nat.reduceEqDiff, Nat.reduceAdd, Nat.reduceBEq, hjw]
    refine hnorm (j + 1, L) _ ⟨hlt, hLl, by simp only [hki]; exact hLt, by simp only [hki]; omega, fun q hq => ?_⟩ (by simp only; omega) (le4 rfl (Nat.le_refl _) (show 3 ≤ 4 by decide) ?_ h0 h1 h2)
    ·simp only at hq ⊢; exact hLj _ (by omega)
    ·have e1 : ((keepL l (con.take (j + 1))).length : Int) = (keepL l (con.take j)).length := by rw [hki]
     simp [FL, up_apply, e1, ej]
  ·have hje : j = con.length := by simp at hge; omega
   subst hje
   rw [List.take_length] at hLt hkk ⊢
   simp -implicitDefEqProofs only [pkA]
   refine hexit _ _ ?_
   simp -implicitDefEqProofs only [pkA, ↓reduceIte, Nat.reduceEqDiff, Nat.reduceAdd, Nat.reduceBEq]
   refine sl_ms ti_27 rfl ti_29 rfl (l := (keepL l con).length) (h := con.length) (m := con.length) rfl rfl rfl (by omega) (Nat.le_refl _) (Nat.le_refl _) (fun h => by cases h) ?_
   simp -implicitDefEqProofs only [pkA, ↓reduceIte, Nat.zero_add]
   have hz : setV (flb faC L) ((keepL l con).length * 3) ((List.replicate (con.length - (keepL l con).length) (faC zf)).flatten.map .c) = flb faC (keepL l con ++ List.replicate (con.length - (keepL l con).length) zf) := by
    have h1 : (List.replicate (con.length - (keepL l con).length) (faC zf)).flatten.map V.c = flb faC (List.replicate (con.length - (keepL l con).length) zf) := by unfold flb; rw [List.map_replicate]
    rw [h1, flb_put faC_len (by simp; omega), hLt]
    congr 1
    rw [List.drop_eq_nil_of_le (by simp; omega), List.append_nil]
   refine clear_of ti_27 rfl ti_29 rfl (z := faC zf) rfl (by decide) rfl (show 2 < 3 by decide) isMb_flb (by show (keepL l con).length * 3 + (con.length - (keepL l con).length) * 3 ≤ (flb faC L).length; rw [flb_len faC_len, hLl]; omega) ?_
   rw [show bxs [mseq faC l, [.mr 0], flb faC L] 2 = flb faC L from rfl, hz]
   simp -implicitDefEqProofs only [pkA, ↓reduceIte, Nat.reduceEqDiff, Nat.reduceAdd, Nat.reduceBEq]
   refine sl_ms ti_27 rfl ti_29 rfl (l := 0) (h := (keepL l con).length) (m := con.length) rfl rfl rfl (by omega) (by omega) (Nat.le_refl _) (fun h => by cases h) ?_
   simp -implicitDefEqProofs only [pkA, ↓reduceIte, Nat.zero_add, Nat.sub_zero, Nat.zero_mul]
   exact end4 rfl (Nat.le_refl _) (by simp [up_apply, bxs]) (by simp [up_apply, bxs]) (by simp []) (by simp []) rfl rfl
