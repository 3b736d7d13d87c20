/- Layer 17: sets of facts. -/
import Derived.Test.YthgmobkmmapgoaaGreatVlH4
set_option linter.unusedSimpArgs false
set_option linter.unusedVariables false
namespace Go.Proofs.YthgmobkmmapgoaaGreat
open Go Go.Vl
variable {G : Gl}
set_option maxRecDepth 4000
def setB (l : List Fa) : List (List V) := [mseq faC l, [.mr 0]]
theorem setB_eq {l : List Fa} : setB l = [mseq faC l, [.mr 0]] := rfl
theorem setB_ok {l : List Fa} {f : Fa} : xargsOk [.bp 1 0, .agg (faC f)] (setB l) = true := by
 simp only [xargsOk, setB, List.all_cons, List.all_nil, mseq_ltB, List.length_cons, List.length_nil]; rfl
theorem isMb_mr {i : Nat} : isMb [V.mr i] = false := rfl
theorem gmr {nb q i : Nat} {K : V → Prop} : ldB nb q [.mr i] 0 K = (q < nb ∧ K (.mr i)) := rfl
theorem lok_fa {nb q : Nat} {f : Fa} {K : V → Prop} : ldA nb q ((faC f).map .c) 0 3 K = (q < nb ∧ K (.agg (faC f))) := by
 unfold ldA
 exact propext ⟨fun h => ⟨h.1, h.2.2⟩, fun h => ⟨h.1, ⟨rfl, rfl⟩, h.2⟩⟩
theorem isMb_fa {f : Fa} : isMb ((faC f).map V.c) = false := rfl
theorem pkS : type_of% (And.intro @pkF (And.intro @isMb_mr (And.intro @gmr (And.intro @lok_fa (@isMb_fa))))) := ⟨@pkF, @isMb_mr, @gmr, @lok_fa, @isMb_fa⟩
theorem look_fa {l : List Fa} {f : Fa} {s : Vl.S} {i : Nat} {K : V → Prop} (hb : s.bx i = mseq faC l) (hi : i < s.nb) (hK : K (bo (decide (f ∈ l)))) : vlookup Tryz.prog 85 s (.mr i) (.agg (faC f)) false K :=
 mset_look (l := l) (bs := List.range l.length) (cl := l.length) ti_85 rfl ti_29 rfl rfl ti_4 rfl za_4 (fun _ => rfl) eq_fa hb hi hK
theorem upd_fa {l : List Fa} {f : Fa} {s : Vl.S} {i : Nat} {K : Vl.S → Prop} (hb : s.bx i = mseq faC l) (hi : i < s.nb) (hK : K { s with bx := up s.bx i (mseq faC (insM l f)) }) : vmapSet Tryz.prog 85 s (.mr i) (.agg (faC f)) (bo true) K :=
 mseq_set ti_85 rfl ti_29 rfl rfl ti_4 rfl za_4 (fun _ => rfl) eq_fa hb hi hK
theorem endSet {l : List Fa} {r : V} {t : Tmp} {e : VE} {fr : Nat → V} {bx : Nat → List V} {nb : Nat} (he : isEnd e = true) (hn : 2 ≤ nb) (h0 : bx 0 = mseq faC l) (h1 : bx 1 = [.mr 0]) (ht : fr t = r) (hr : r.ltB 2 = true) (hr2 : r.fz = r) : endB Tryz.prog 2 r (setB l) [.tmp t] e ⟨fr, bx, nb⟩ :=
 end_B [(t, r)] he (by simp only [leOk, setB, List.all_cons, List.all_nil, mseq_ltB, hr, List.length_cons, List.length_nil]; rfl) (Nat.le_refl _) hn ⟨ht, trivial⟩ ⟨h0, h1, trivial⟩ (by simp [hdS, frs, retV_one, up])
set_option maxHeartbeats 1000000 in
theorem Has_okS (l : List Fa) (f : Fa) : FnB Tryz.prog G 35 [.bp 1 0, .agg (faC f)] (setB l) (bo (decide (f ∈ l))) (setB l) := by
 refine FnB_by (rs := [.tmp 4]) (k := 2) [3000002] mixed Tryz.func35 rfl rfl rfl rfl (by kernel_rfl) (by simp) rfl rfl rfl setB_ok (Nat.le_refl _) ?_
 simp -implicitDefEqProofs only [pkA, ptA, ↓reduceIte, Nat.reduceEqDiff, Nat.reduceAdd, Nat.reduceBEq, Nat.reduceMul, Nat.reduceLT, pkS, setB_eq]
 refine look_fa rfl (show 0 < 3 by decide) ?_
 simp -implicitDefEqProofs only [pkA, ↓reduceIte]
 exact endSet rfl (show 2 ≤ 3 by decide) rfl rfl (by simp []) rfl rfl
set_option maxHeartbeats 1000000 in
theorem Add_okS (l : List Fa) (f : Fa) : FnB Tryz.prog G 36 [.bp 1 0, .agg (faC f)] (setB l) (bo (!decide (f ∈ l))) (setB (insM l f)) := by
 refine FnB_by (rs := [.tmp 4]) (k := 2) [3000002] mixed Tryz.func36 rfl rfl rfl rfl (by kernel_rfl) (by simp) rfl rfl rfl setB_ok (Nat.le_refl _) ?_
 simp -implicitDefEqProofs only [pkA, ptA, ↓reduceIte, Nat.reduceEqDiff, Nat.reduceAdd, Nat.reduceBEq, Nat.reduceMul, Nat.reduceLT, pkS, setB_eq]
 refine look_fa rfl (show 0 < 3 by decide) ?_
 simp -implicitDefEqProofs only [pkA, ptA, ↓reduceIte, Nat.reduceEqDiff, Nat.reduceAdd, Nat.reduceBEq, Nat.reduceMul, Nat.reduceLT, pkS]
 refine upd_fa rfl (show 0 < 3 by decide) ?_
 simp -implicitDefEqProofs only [pkA, ↓reduceIte, Nat.reduceEqDiff, Nat.reduceAdd, Nat.reduceBEq]
 exact endSet rfl (show 2 ≤ 3 by decide) (by simp []) (by simp [up_apply, bxs]) (by simp []) rfl rfl
set_option maxHeartbeats 1000000 in
theorem Len_okS (l : List Fa) : FnB Tryz.prog G 39 [.bp 1 0] (setB l) (i64 l.length) (setB l) := by
 refine FnB_by (rs := [.tmp 2]) (k := 2) [3000002, 1600007] mixed Tryz.func39 rfl rfl rfl rfl (by kernel_rfl) (by simp) rfl rfl rfl (by simp only [xargsOk, setB, List.all_cons, List.all_nil, mseq_ltB, List.length_cons, List.length_nil]; rfl) (Nat.le_refl _) ?_
 simp -implicitDefEqProofs only [pkA, ptA, ↓reduceIte, Nat.reduceEqDiff, Nat.reduceAdd, Nat.reduceBEq, Nat.reduceMul, Nat.reduceLT, setB_eq]
 refine lenM_of (b := 0) (bs := List.range l.length) (cl := l.length) ti_85 rfl rfl (show 0 < 2 by decide) ?_
 simp -implicitDefEqProofs only [pkA, ↓reduceIte, List.length_range]
 exact endSet rfl (Nat.le_refl _) rfl rfl (by simp []) rfl rfl
theorem bldK_mag {flds : List (Nat × Nat × Bool)} {z : List C} {parts : List (Nat × V)} {K : V → Prop} {o : Option (List C)} {l : List V} (h0 : o = none) (h : fillM flds parts (z.map .c) = some l) (hK : K (.mag l)) : bldK flds z parts K o := by
 subst h0
 simp only [bldK, h]; exact hK
def newL (l : List Fa) : List Fa := l.foldl insM []
theorem newL_take {l : List Fa} {i : Nat} (h : i < l.length) : newL (l.take (i + 1)) = insM (newL (l.take i)) l[i] := by
 unfold newL
 rw [List.take_succ_eq_append_getElem h, List.foldl_append]; rfl
theorem mem_newL {l : List Fa} {f : Fa} : f ∈ newL l ↔ f ∈ l := by
 have : ∀ (l m : List Fa), f ∈ l.foldl insM m ↔ f ∈ l ∨ f ∈ m := fun l => by
  induction l with
  | nil => intro m; simp
  | cons x l ih => intro m; rw [List.foldl_cons, ih, mem_insM, List.mem_cons]; grind
 unfold newL; rw [this]; simp
set_option maxHeartbeats 2000000 in
theorem New_okS (l : List Fa) (hm : l.length ≤ 1000000000) : FnB Tryz.prog G 34 [.c (fsC l)] [] (.bp 1 0) (setB (newL l)) := by
 refine FnB_by (rs := [.tmp 2]) (k := 0) [1000017] mixed Tryz.func34 rfl rfl rfl rfl (by kernel_rfl) (by simp) rfl rfl rfl rfl (Nat.zero_le _) ?_
 simp -implicitDefEqProofs only [pkA, ptA, ↓reduceIte, Nat.reduceAdd, Nat.reduceBEq, setB_eq, fsC, mkm_85]
 refine bldK_mag (l := [.mr 0]) rfl rfl ?_
 simp -implicitDefEqProofs only [pkA, ptA, ↓reduceIte, Nat.reduceEqDiff, Nat.reduceAdd, Nat.reduceBEq]
 have setren : ∀ (ρ : Nat → Nat) (m : List Fa), (mseq faC m).map (V.ren ρ) = mseq faC m := fun ρ m => mseq_ren
 refine run_loop (fun i : Nat => hdS [(3, .bp 1 0), (9, .c (.sl (l.map faC))), (10, i64 l.length), (11, i64 i)] (setB (newL (l.take i)))) (fun i => l.length - i) (fun i => i ≤ l.length) 0 (Nat.zero_le _) ?_ ?_
 ·refine le_hd (by simp only [leOk, setB, List.all_cons, List.all_nil, mseq_ltB, List.length_cons, List.length_nil]; rfl) (Nat.zero_le _) (Nat.le_refl _) ?_ (by simp [BL, up_apply, setB, newL, mseq_nil])
  simp [FL, up_apply]
 rintro i hi R hnorm hexit hret
 simp -implicitDefEqProofs only [pkA, ↓reduceIte, Nat.reduceEqDiff, Nat.reduceAdd, Nat.reduceBEq, setB_eq]
 refine vcond_of (fun hlt => ?_) (fun hge => ?_)
 ·have hlt : i < l.length := by simpa using hlt
  have hw := wrap_of (n := (i : Int) + 1) (k := i + 1) (by omega) (by omega)
  have e1 : ((i + 1 : Nat) : Int) = (i : Int) + 1 := by omega
  simp -implicitDefEqProofs only [pkA, ↓reduceIte, Nat.reduceEqDiff, Nat.reduceAdd, Nat.reduceBEq]
  refine ia_of ti_27 rfl ti_29 (by decide) (Int.natCast_nonneg i) (c := faC l[i]) (by simp [hlt]) rfl ?_
  simp -implicitDefEqProofs only [pkA, ptA, ↓reduceIte, Nat.reduceEqDiff, Nat.reduceAdd, Nat.reduceBEq, Nat.reduceMul, Nat.reduceLT, Nat.reduceLeDiff, pkS]
  have q1 : ∀ a b c : V, setV [a, b, c] 0 ((faC l[i]).map .c) = (faC l[i]).map .c := fun _ _ _ => rfl
  simp -implicitDefEqProofs only [pkA, ↓reduceIte, Nat.reduceEqDiff, Nat.reduceAdd, Nat.reduceBEq, pkS, q1]
  refine callB_sel [0, 1] rfl (Add_okS (newL (l.take i)) l[i]) (by simp [V.fz, V.ren, rho]) rfl (by decide) rfl ⟨⟨show 0 < 3 by decide, by simp [up_apply, bxs, setren, rho]⟩, ⟨show 1 < 3 by decide, by simp [up_apply, bxs, rho, V.ren]⟩, trivial⟩ ?_
  intro bx' hoth hat
  have b0 : bx' 0 = mseq faC (newL (l.take (i + 1))) := by rw [newL_take hlt, ← setren]; exact hat 0 0 _ rfl rfl
  have b1 : bx' 1 = [.mr 0] := hat 1 1 _ rfl rfl
  simp -implicitDefEqProofs only [pkA, ↓reduceIte, Nat.reduceEqDiff, Nat.reduceAdd, Nat.reduceBEq, hw]
  refine hnorm (i + 1) _ hlt (by omega) (le_hd (by simp only [leOk, setB, List.all_cons, List.all_nil, mseq_ltB, List.length_cons, List.length_nil]; rfl) (Nat.zero_le _) (show 2 ≤ 3 by decide) ?_ ⟨b0, b1, trivial⟩)
  simp [FL, up_apply, e1]
 ·have : i = l.length := by simp at hge; omega
  subst this
  simp -implicitDefEqProofs only [pkA]
  refine hexit _ _ ?_
  simp -implicitDefEqProofs only [pkA, ↓reduceIte, Nat.reduceEqDiff, Nat.reduceAdd, Nat.reduceBEq]
  rw [List.take_length]
  exact end_B [(2, .bp 1 0)] rfl (by simp only [leOk, List.all_cons, List.all_nil, mseq_ltB, List.length_cons, List.length_nil]; rfl) (Nat.zero_le _) (Nat.le_refl _) ⟨by simp [], trivial⟩ ⟨rfl, rfl, trivial⟩ rfl
end Go.Proofs.YthgmobkmmapgoaaGreat
/- Layer 17: all: are all facts of a list in a set? -/
namespace Go.Proofs.YthgmobkmmapgoaaGreat
open Go Go.Vl
variable {G : Gl}
set_option maxRecDepth 4000
def set3 (l : List Fa) : List (List V) := [mseq faC l, [.mr 0], [.bp 1 0]]
theorem set3_eq {l : List Fa} : set3 l = [mseq faC l, [.mr 0], [.bp 1 0]] := rfl
theorem isMb_bp {i o : Nat} : isMb [V.bp i o] = false := rfl
theorem gbp {nb q i o : Nat} {K : V → Prop} : ldB nb q [.bp i o] 0 K = (q < nb ∧ K (.bp i o)) := rfl
theorem pkT : type_of% (And.intro @pkS (And.intro @isMb_bp (@gbp))) := ⟨@pkS, @isMb_bp, @gbp⟩
theorem endSet3 {l : List Fa} {r : V} {t : Tmp} {e : VE} {fr : Nat → V} {bx : Nat → List V} {nb : Nat} (he : isEnd e = true) (hn : 3 ≤ nb) (h0 : bx 0 = mseq faC l) (h1 : bx 1 = [.mr 0]) (h2 : bx 2 = [.bp 1 0]) (ht : fr t = r) (hr : r.ltB 3 = true) (hr2 : r.fz = r) : endB Tryz.prog 3 r (set3 l) [.tmp t] e ⟨fr, bx, nb⟩ :=
 end_B [(t, r)] he (by simp only [leOk, set3, List.all_cons, List.all_nil, mseq_ltB, hr, List.length_cons, List.length_nil]; rfl) (Nat.le_refl _) hn ⟨ht, trivial⟩ ⟨h0, h1, h2, trivial⟩ (by simp [hdS, frs, retV_one, up])
theorem set3_ok {l : List Fa} {xs : List V} (h : xs.all (fun x => x.ltB 3) = true) : xargsOk xs (set3 l) = true := by
 simp only [xargsOk, set3, List.all_cons, List.all_nil, mseq_ltB, List.length_cons, List.length_nil, h]; rfl
set_option maxHeartbeats 1000000 in
theorem notin_ok (l : List Fa) (f : Fa) : FnB Tryz.prog G 88 [.agg (faC f), .bp 2 0] (set3 l) (bo (!decide (f ∈ l))) (set3 l) := by
 refine FnB_by (rs := [.tmp 3]) (k := 3) [3000003] mixed Tryz.func88 rfl rfl rfl rfl (by kernel_rfl) (by simp) rfl rfl rfl (set3_ok rfl) (Nat.le_refl _) ?_
 simp -implicitDefEqProofs only [pkA, ptA, ↓reduceIte, Nat.reduceEqDiff, Nat.reduceAdd, Nat.reduceBEq, Nat.reduceMul, Nat.reduceLT, pkT, set3_eq]
 refine look_fa rfl (show 0 < 4 by decide) ?_
 simp -implicitDefEqProofs only [pkA, ↓reduceIte]
 exact endSet3 rfl (show 3 ≤ 4 by decide) rfl rfl rfl (by simp []) rfl rfl
set_option maxHeartbeats 1000000 in
theorem IndexNot_ok (l fs : List Fa) (hm : fs.length ≤ 1000000000) : FnB Tryz.prog G 89 [.c (fsC fs), .clo (.func 88) [] [.bp 2 0]] (set3 l) (i64 (posOf (fun f => !decide (f ∈ l)) fs)) (set3 l) := by
 refine FnB_by (rs := [.tmp 4]) (k := 3) [1000016, 3000003] mixed Tryz.func89 rfl rfl rfl rfl (by kernel_rfl) (by simp) rfl rfl rfl (set3_ok rfl) (Nat.le_refl _) ?_
 have setren : ∀ (ρ : Nat → Nat) (m : List Fa), (mseq faC m).map (V.ren ρ) = mseq faC m := fun ρ m => mseq_ren
 simp -implicitDefEqProofs only [pkA, ptA, ↓reduceIte, Nat.reduceEqDiff, Nat.reduceAdd, Nat.reduceBEq, set3_eq, fsC]
 refine run_loop (fun i : Nat => hdS [(0, .c (.sl (fs.map faC))), (1, .clo (.func 88) [] [.bp 2 0]), (7, i64 fs.length), (8, i64 i)] (set3 l)) (fun i => fs.length - i) (fun i => i ≤ fs.length ∧ ∀ j (h : j < fs.length), j < i → (!decide (fs[j] ∈ l)) = false) 0 ⟨Nat.zero_le _, fun j h h' => absurd h' (Nat.not_lt_zero _)⟩ ?_ ?_
 ·refine le_hd (by simp only [leOk, set3, List.all_cons, List.all_nil, mseq_ltB, List.length_cons, List.length_nil]; rfl) (Nat.le_refl _) (Nat.le_refl _) ?_ ⟨rfl, rfl, rfl, trivial⟩
  simp [FL, up_apply]
 rintro i ⟨hi, hno⟩ R hnorm hexit hret
 simp -implicitDefEqProofs only [pkA, ↓reduceIte, Nat.reduceEqDiff, Nat.reduceAdd, Nat.reduceBEq, set3_eq]
 refine vcond_of (fun hlt => ?_) (fun hge => ?_)
 ·have hlt : i < fs.length := by simpa using hlt
  simp -implicitDefEqProofs only [pkA, ↓reduceIte, Nat.reduceEqDiff, Nat.reduceAdd, Nat.reduceBEq]
  refine ia_of ti_27 rfl ti_29 (by decide) (Int.natCast_nonneg i) (c := faC fs[i]) (by simp [hlt]) rfl ?_
  simp -implicitDefEqProofs only [pkA, ptA, ↓reduceIte, Nat.reduceEqDiff, Nat.reduceAdd, Nat.reduceBEq, pkT]
  refine callB_all rfl (notin_ok l fs[i]) rfl rfl ⟨rfl, rfl, rfl, trivial⟩ ?_
  simp -implicitDefEqProofs only [pkA, ↓reduceIte, Nat.reduceAdd, set3_eq]
  refine vcond_of (fun hy => ?_) (fun hn => ?_)
  ·simp -implicitDefEqProofs only [pkA, ↓reduceIte, Nat.reduceEqDiff, Nat.reduceAdd, Nat.reduceBEq]
   refine hret _ ?_
   simp -implicitDefEqProofs only [pkA]
   rw [posOf_at hlt hy hno]
   exact endSet3 rfl (Nat.le_refl _) rfl rfl rfl (by simp []) rfl rfl
  ·have hw := wrap_of (n := (i : Int) + 1) (k := i + 1) (by omega) (by omega)
   simp -implicitDefEqProofs only [pkA, ↓reduceIte, Nat.reduceEqDiff, Nat.reduceAdd, Nat.reduceBEq]
   refine hnorm (i + 1) _ ⟨hlt, fun j h hj => ?_⟩ (by omega) (le_hd (by simp only [leOk, set3, List.all_cons, List.all_nil, mseq_ltB, List.length_cons, List.length_nil]; rfl) (Nat.le_refl _) (Nat.le_refl _) ?_ ⟨rfl, rfl, rfl, trivial⟩)
   ·rcases Nat.lt_or_ge j i with h1 | h1
    ·exact hno j h h1
    ·have : j = i := by omega
     subst this; exact hn
   ·simp [FL, up_apply, hw]
 ·have : i = fs.length := by simp at hge; omega
  subst this
  simp -implicitDefEqProofs only [pkA]
  refine hexit _ _ ?_
  simp -implicitDefEqProofs only [pkA, ↓reduceIte, Nat.reduceAdd, Nat.reduceBEq]
  rw [posOf_none (fun j h _ => hno j h h)]
  exact endSet3 rfl (Nat.le_refl _) rfl rfl rfl (by simp []) rfl rfl
set_option maxHeartbeats 1000000 in
theorem ContainsNot_ok (l fs : List Fa) (hm : fs.length ≤ 1000000000) : FnB Tryz.prog G 87 [.c (fsC fs), .clo (.func 88) [] [.bp 2 0]] (set3 l) (bo (fs.any fun f => !decide (f ∈ l))) (set3 l) := by
 refine FnB_by (rs := [.tmp 4]) (k := 3) [1000007, 3000003] mixed Tryz.func87 rfl rfl rfl rfl (by kernel_rfl) (by simp) rfl rfl rfl (set3_ok rfl) (Nat.le_refl _) ?_
 simp -implicitDefEqProofs only [pkA, ↓reduceIte, Nat.reduceEqDiff, Nat.reduceAdd, Nat.reduceBEq, set3_eq]
 refine callB_all rfl (IndexNot_ok l fs hm) rfl rfl ⟨rfl, rfl, rfl, trivial⟩ ?_
 simp -implicitDefEqProofs only [pkA, ↓reduceIte, Nat.reduceAdd, set3_eq]
 rw [posOf_nonneg]
 exact endSet3 rfl (Nat.le_refl _) rfl rfl rfl (by simp []) rfl rfl
set_option maxHeartbeats 1000000 in
theorem setall_ok (l fs : List Fa) (hm : fs.length ≤ 1000000000) : FnB Tryz.prog G 59 [.bp 1 0, .c (fsC fs)] (setB l) (bo (fs.all fun f => decide (f ∈ l))) (setB l) := by
 refine FnB_by (rs := [.tmp 4]) (k := 2) [1000007, 3000002] mixed Tryz.func59 rfl rfl rfl rfl (by kernel_rfl) (by simp) rfl rfl rfl (by simp only [xargsOk, setB, List.all_cons, List.all_nil, mseq_ltB, List.length_cons, List.length_nil]; rfl) (Nat.le_refl _) ?_
 simp -implicitDefEqProofs only [pkA, ↓reduceIte, Nat.reduceEqDiff, Nat.reduceAdd, Nat.reduceBEq, setB_eq]
 refine callB_all rfl (ContainsNot_ok l fs hm) rfl rfl ⟨rfl, rfl, rfl, trivial⟩ ?_
 simp -implicitDefEqProofs only [pkA, ↓reduceIte]
 refine endSet rfl (show 2 ≤ 3 by decide) rfl rfl ?_ rfl rfl
 simp [List.all_eq_not_any_not]
