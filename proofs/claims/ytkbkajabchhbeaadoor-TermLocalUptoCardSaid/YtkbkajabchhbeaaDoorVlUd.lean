/- Layer 15: the shapes of the kinds, a map. -/
import Derived.Test.YtkbkajabchhbeaaDoorVlTa
import Derived.Test.YtkbkajabchhbeaaDoorVlFlb
set_option linter.unusedSimpArgs false
set_option linter.unusedVariables false
namespace Go.Proofs.YtkbkajabchhbeaaDoor
open Go Go.Vl
variable {G : Gl}
set_option maxRecDepth 4000
theorem eqI (a b : Int) : eqCs [.int] [cI a] [cI b] = some (decide (a = b)) := by
 show some (decide (a = b) && true) = _; rw [Bool.and_true]
def cS (b : By) : C := .lit (.string (bs8 b))
theorem eqS (a b : By) : eqCs [.str] [cS a] [cS b] = some (decide (a = b)) := by
 show some (decide (bs8 a = bs8 b) && true) = _; rw [Bool.and_true, bs8_dec]
def shC (k : Int) : List C := [cS (nameK k), cI (max 0 (arityI k)), .lit (.bool (countK k))]
def shV (k : Int) : V := .agg (shC k)
def shL : List (Int × Int) := [(1, 1), (2, 2), (3, 3), (4, 4), (5, 5), (6, 6)]
def shM : List V := kmap i64 shV shL
theorem ins_sh {l m : List (Int × Int)} {k : Int} {s : Vl.S} {i : Nat} {x : V} {K : Vl.S → Prop} (hb : s.bx i = kmap i64 shV l) (hi : i < s.nb) (hx : x = shV k) (hm : setK l k k = m) (hK : K { s with bx := up s.bx i (kmap i64 shV m) }) : vmapSet Tryd.prog 42 s (.mr i) (i64 k) x K := by
 subst hx; subst hm
 exact kmap_set (f := i64) (h := shV) (c := fun a => [cI a]) ti_42 rfl ti_3 rfl ti_45 rfl za_45 (fun _ => rfl) (fun _ => rfl) eqI rfl rfl hb hi hK
def shZ : V := .agg [cS [], cI 0, .lit (.bool false)]
theorem look_sh {l : List (Int × Int)} {k : Int} {s : Vl.S} {i : Nat} {K : V → Prop} (hb : s.bx i = kmap i64 shV l) (hi : i < s.nb) (hK : K (.tup [((getK l k).map shV).getD shZ, bo (getK l k).isSome])) : vlookup Tryd.prog 42 s (.mr i) (i64 k) true K := by
 refine kmap_look (f := i64) (h := shV) (c := fun a => [cI a]) ti_42 rfl ti_3 rfl ti_45 rfl za_45 (fun _ => rfl) (fun _ => rfl) eqI hb hi ?_
 have e : ∀ o : Option Int, ((o.map shV).getD (.agg [.lit (.string (ByteArray.mk #[])), cI 0, .lit (.bool false)])).dr = (o.map shV).getD shZ := fun o => by cases o <;> rfl
 rw [← e] at hK; exact hK
theorem look_sh1 {l : List (Int × Int)} {k : Int} {s : Vl.S} {i : Nat} {K : V → Prop} (hb : s.bx i = kmap i64 shV l) (hi : i < s.nb) (hK : K (((getK l k).map shV).getD shZ)) : vlookup Tryd.prog 42 s (.mr i) (i64 k) false K :=
 kmap_look1 (f := i64) (h := shV) (c := fun a => [cI a]) ti_42 rfl ti_3 rfl ti_45 rfl za_45 (fun _ => rfl) (fun _ => rfl) eqI hb hi hK
def kndB (k : Int) : Bool := decide (1 ≤ k) && decide (k ≤ 6)
theorem get_sh {k : Int} : getK shL k = if kndB k = true then some k else none := by
 by_cases h : kndB k = true
 ·rw [if_pos h]
  simp only [kndB, Bool.and_eq_true, decide_eq_true_eq] at h
  have : k = 1 ∨ k = 2 ∨ k = 3 ∨ k = 4 ∨ k = 5 ∨ k = 6 := by omega
  rcases this with rfl | rfl | rfl | rfl | rfl | rfl <;> decide
 ·rw [if_neg h]
  simp only [kndB, Bool.and_eq_true, decide_eq_true_eq] at h
  have hn : k ∉ shL.map (·.1) := by simp [shL]; omega
  have := getK_mem (l := shL) (a := k)
  rw [decide_eq_false hn] at this
  cases hg : getK shL k with
  | none => rfl
  | some x => rw [hg] at this; cases this
theorem shM_ltB {m : Nat} : shM.all (fun x => x.ltB m) = true := kmap_ltB (fun _ => rfl) (fun _ => rfl)
theorem shM_ren {ρ : Nat → Nat} : shM.map (V.ren ρ) = shM := kmap_ren (fun _ => rfl) (fun _ => rfl)
set_option maxHeartbeats 4000000 in
theorem shapes_ok : FnB Tryd.prog G 33 [] [] (.mr 0) [shM] := by
 refine FnB_by (rs := [.tmp 0]) (k := 0) [] mixed Tryd.func33 rfl rfl rfl rfl (by kernel_rfl) (by simp) rfl rfl rfl rfl (Nat.zero_le _) ?_
 simp -implicitDefEqProofs only [pkA, ptA, ↓reduceIte, Nat.reduceEqDiff, Nat.reduceAdd, Nat.reduceBEq, Nat.reduceMul, Nat.reduceLT, Nat.reduceLeDiff, pkT, true_and, mkm_42]
 refine ins_sh (l := []) (m := [(1, 1)]) rfl (show 0 < 1 by decide) rfl rfl ?_
 simp -implicitDefEqProofs only [pkA, ptA, ↓reduceIte, Nat.reduceEqDiff, Nat.reduceAdd, Nat.reduceBEq, Nat.reduceMul, Nat.reduceLT, Nat.reduceLeDiff, pkT, true_and]
 refine ins_sh (l := [(1, 1)]) (m := [(1, 1), (2, 2)]) (by simp [up_apply]) (show 0 < 1 by decide) rfl rfl ?_
 simp -implicitDefEqProofs only [pkA, ptA, ↓reduceIte, Nat.reduceEqDiff, Nat.reduceAdd, Nat.reduceBEq, Nat.reduceMul, Nat.reduceLT, Nat.reduceLeDiff, pkT, true_and]
 refine ins_sh (l := [(1, 1), (2, 2)]) (m := [(1, 1), (2, 2), (3, 3)]) (by simp [up_apply]) (show 0 < 1 by decide) rfl rfl ?_
 simp -implicitDefEqProofs only [pkA, ptA, ↓reduceIte, Nat.reduceEqDiff, Nat.reduceAdd, Nat.reduceBEq, Nat.reduceMul, Nat.reduceLT, Nat.reduceLeDiff, pkT, true_and]
 refine ins_sh (l := [(1, 1), (2, 2), (3, 3)]) (m := [(1, 1), (2, 2), (3, 3), (4, 4)]) (by simp [up_apply]) (show 0 < 1 by decide) rfl rfl ?_
 simp -implicitDefEqProofs only [pkA, ptA, ↓reduceIte, Nat.reduceEqDiff, Nat.reduceAdd, Nat.reduceBEq, Nat.reduceMul, Nat.reduceLT, Nat.reduceLeDiff, pkT, true_and]
 refine ins_sh (l := [(1, 1), (2, 2), (3, 3), (4, 4)]) (m := [(1, 1), (2, 2), (3, 3), (4, 4), (5, 5)]) (by simp [up_apply]) (show 0 < 1 by decide) rfl rfl ?_
 simp -implicitDefEqProofs only [pkA, ptA, ↓reduceIte, Nat.reduceEqDiff, Nat.reduceAdd, Nat.reduceBEq, Nat.reduceMul, Nat.reduceLT, Nat.reduceLeDiff, pkT, true_and]
 refine ins_sh (l := [(1, 1), (2, 2), (3, 3), (4, 4), (5, 5)]) (m := shL) (by simp [up_apply]) (show 0 < 1 by decide) rfl rfl ?_
 simp -implicitDefEqProofs only [pkA, ptA, ↓reduceIte, Nat.reduceEqDiff, Nat.reduceAdd, Nat.reduceBEq, Nat.reduceMul, Nat.reduceLT, Nat.reduceLeDiff, pkT, true_and]
 exact end_B [(0, .mr 0)] rfl (by simp only [leOk, List.all_cons, List.all_nil, shM_ltB, List.length_cons, List.length_nil]; rfl) (Nat.zero_le _) (Nat.le_refl _) ⟨by simp [up_apply], trivial⟩ ⟨by simp [up_apply, shM], trivial⟩ rfl
end Go.Proofs.YtkbkajabchhbeaaDoor
/- Layer 15: slices.IndexFunc, slices.ContainsFunc with a closure over boxes. -/
namespace Go.Proofs.YtkbkajabchhbeaaDoor
open Go Go.Vl
variable {G : Gl}
set_option maxRecDepth 4000
def posT (p : Tm → Bool) (l : List Tm) : Int := match l.findIdx? p with
 | some i => (i : Int)
 | none => -1
theorem posT_at {p : Tm → Bool} {l : List Tm} {i : Nat} (h : i < l.length) (hp : p l[i] = true) (hn : ∀ j (hj : j < l.length), j < i → p l[j] = false) : posT p l = (i : Int) := by
 have : l.findIdx? p = some i := List.findIdx?_eq_some_iff_getElem.2 ⟨h, hp, fun j hj => by rw [hn j (by omega) hj]; simp⟩
 unfold posT; rw [this]
theorem posT_none {p : Tm → Bool} {l : List Tm} (hn : ∀ j (hj : j < l.length), p l[j] = false) : posT p l = -1 := by
 have : l.findIdx? p = none := List.findIdx?_eq_none_iff.2 fun x hx => by
  obtain ⟨j, hj, rfl⟩ := List.getElem_of_mem hx
  exact hn j hj
 unfold posT; rw [this]
theorem posT_any {p : Tm → Bool} {l : List Tm} : decide (posT p l ≥ 0) = l.any p := by
 unfold posT
 cases h : l.findIdx? p with
 | none =>
  have := List.findIdx?_eq_none_iff.1 h
  have h2 : l.any p = false := by rw [List.any_eq_false]; exact fun x hx => by rw [this x hx]; simp
  rw [h2]; decide
 | some i =>
  obtain ⟨h1, h2, _⟩ := List.findIdx?_eq_some_iff_getElem.1 h
  have h2 : l.any p = true := List.any_eq_true.2 ⟨_, List.getElem_mem h1, h2⟩
  rw [h2]; simp
structure Ask (G : Gl) (Y : List (List V)) (f : V) (R : Tm → Prop) (p : Tm → Bool) where
 g : FuncId
 caps : List V
 eq : f = .clo (.func g) [] caps
 lt : ∀ x ∈ caps, x.ltP Y.length
 ltY : ltL Y.length Y
 fz : caps.map V.fz = caps
 ok : ∀ t, R t → FnB Tryd.prog G g (.agg (tmC t) :: caps) Y (bo (p t)) Y
theorem callB_ask {Y : List (List V)} {g : FuncId} {f : V} {args all cargs : List V} {fr : Nat → V} {K : S → V → Prop} {r : V} (hc : calleeV f args = some (g, all)) (hf : FnB Tryd.prog G g cargs Y r Y) (hall : all.map V.fz = cargs) (hlt : ltL Y.length Y) (hr : ∀ ρ, r.ren ρ = r)
  (hK : K ⟨fr, bxs Y, kx Y.length 0⟩ r) : vcallB Tryd.prog G ⟨fr, bxs Y, kx Y.length 0⟩ f args K := by
 have := callB_pre (Y := Y) (Y' := Y) (ls := []) (rest := []) (n := 0) (k := Y.length) (fr := fr) (K := K) hc (by simpa using hf) hall rfl rfl hlt rfl hr (by simpa using hK)
 simpa using this
theorem ask_le {Y : List (List V)} {l : List (Nat × V)} {fr : Nat → V} (hlt : ltL Y.length Y) (hl : ∀ q ∈ l, q.2.lt (kx Y.length 0)) (h1 : FL l fr) : S.Le (kx Y.length 0) (hdS l Y) ⟨fr, bxs Y, kx Y.length 0⟩ := by
 have := le_E (Y := Y) (ls := []) (rest := []) (k := Y.length) (m := 0) (n := 0) (j := 0) (l := l) (fr := fr) rfl hlt rfl rfl (fun b hb => by cases hb) hl h1 (Nat.le_refl _)
 simpa using this
theorem ask_end {Y : List (List V)} {e : VE} {r : V} {t : Nat} {fr : Nat → V} (he : isEnd e = true) (hlt : ltL Y.length Y) (hr : r.lt (kx Y.length 0)) (hr2 : retV Tryd.prog false (hdS [(t, r)] Y) r [.tmp t]) (h : fr t = r) : endB Tryd.prog (kx Y.length 0) r Y [.tmp t] e ⟨fr, bxs Y, kx Y.length 0⟩ := by
 have := end_E (P := Tryd.prog) (Y := Y) (ls := []) (rest := []) (k := Y.length) (m := 0) (n := 0) (e := e) (r := r) (rs := [.tmp t]) (fr := fr) [(t, r)] he rfl hlt rfl rfl (fun b hb => by cases hb) (by simpa using hr) (by simp [FL, h]) (by simpa using hr2)
 simpa using this
set_option maxHeartbeats 4000000 in
theorem IndexFunc_ok {Y : List (List V)} {f : V} {R : Tm → Prop} {p : Tm → Bool} (h : Ask G Y f R p) (l : List Tm) (hl : ∀ t ∈ l, R t) (hm : l.length ≤ 1000000000) : FnB Tryd.prog G 51 [.c (tsC l), f] Y (i64 (posT p l)) Y := by
 obtain ⟨g, caps, rfl, hcl, hltY, hcf, hok⟩ := h
 have hcv : (V.clo (.func g) [] caps).lt (kx Y.length 0) := ⟨fun x hx => (by cases hx), hcl⟩
 have hcz : (V.clo (.func g) [] caps).fz = V.clo (.func g) [] caps := rfl
 have key : FnB Tryd.prog G 51 [.c (tsC l), .clo (.func g) [] caps] (Y ++ []) (i64 (posT p l)) (Y ++ []) := by
  refine FnB_byE (k := Y.length) (m := 0) (rs := [.tmp 4]) [1000016] mixed Tryd.func51 rfl rfl rfl rfl (by kernel_rfl) (by simp) rfl rfl rfl hltY rfl (fun b hb => by cases hb) (fun x hx => ?_) ?_
  ·simp only [List.mem_cons, List.not_mem_nil, or_false] at hx
   rcases hx with rfl | rfl
   ·trivial
   ·exact hcv
  simp -implicitDefEqProofs only [pkA, ptA, ↓reduceIte, Nat.reduceEqDiff, Nat.reduceAdd, Nat.reduceBEq, Nat.reduceMul, Nat.reduceLT, Nat.reduceLeDiff, pkT, true_and, tsC, List.append_nil]
  refine run_loop (fun i : Nat => hdS [(0, .c (.sl (l.map tmC))), (1, .clo (.func g) [] caps), (7, i64 l.length), (8, i64 i)] Y) (fun i => l.length - i) (fun i => i ≤ l.length ∧ ∀ j (h : j < l.length), j < i → p l[j] = false) 0 ⟨Nat.zero_le _, fun j h h' => absurd h' (Nat.not_lt_zero _)⟩ ?_ ?_
  ·exact ask_le hltY (by simp [V.lt]; exact hcl) (by simp [FL, up_apply])
  rintro i ⟨hi, hno⟩ R hnorm hexit hret
  have hlen : Y.length = kx Y.length 0 := rfl
  simp -implicitDefEqProofs only [pkA, ptA, ↓reduceIte, Nat.reduceEqDiff, Nat.reduceAdd, Nat.reduceBEq, Nat.reduceMul, Nat.reduceLT, Nat.reduceLeDiff, pkT, true_and, tsC]
  refine vcond_of (fun hlt => ?_) (fun hge => ?_)
  ·have hlt : i < l.length := by simpa using hlt
   have hw := wrap_of (n := (i : Int) + 1) (k := i + 1) (by omega) (by omega)
   simp -implicitDefEqProofs only [pkA, ptA, ↓reduceIte, Nat.reduceEqDiff, Nat.reduceAdd, Nat.reduceBEq, Nat.reduceMul, Nat.reduceLT, Nat.reduceLeDiff, pkT, true_and, tsC, hcz]
   refine ia_of ti_22 rfl ti_24 (by decide) (Int.natCast_nonneg i) (c := tmC l[i]) (by simp [hlt]) (tmC_len _) ?_
   simp -implicitDefEqProofs only [pkA, ptA, ↓reduceIte, Nat.reduceEqDiff, Nat.reduceAdd, Nat.reduceBEq, Nat.reduceMul, Nat.reduceLT, Nat.reduceLeDiff, pkT, true_and, tsC, hcz, ld_24 (tmC_len _)]
   refine callB_ask rfl (hok _ (hl _ (List.getElem_mem hlt))) (by simp [V.fz, hcf]) hltY (fun _ => rfl) ?_
   simp -implicitDefEqProofs only [pkA, ptA, ↓reduceIte, Nat.reduceEqDiff, Nat.reduceAdd, Nat.reduceBEq, Nat.reduceMul, Nat.reduceLT, Nat.reduceLeDiff, pkT, true_and, tsC]
   refine vcond_of (fun hy => ?_) (fun hn => ?_)
   ·simp -implicitDefEqProofs only [pkA, ptA, ↓reduceIte, Nat.reduceEqDiff, Nat.reduceAdd, Nat.reduceBEq, Nat.reduceMul, Nat.reduceLT, Nat.reduceLeDiff, pkT, true_and, tsC]
    refine hret _ ?_
    simp -implicitDefEqProofs only [pkA, ptA, ↓reduceIte, Nat.reduceEqDiff, Nat.reduceAdd, Nat.reduceBEq, Nat.reduceMul, Nat.reduceLT, Nat.reduceLeDiff, pkT, true_and, tsC]
    rw [posT_at hlt hy hno]
    exact ask_end rfl hltY trivial (by simp [hdS, frs, retV_one, up]) (by simp [up_apply])
   ·simp -implicitDefEqProofs only [pkA, ptA, ↓reduceIte, Nat.reduceEqDiff, Nat.reduceAdd, Nat.reduceBEq, Nat.reduceMul, Nat.reduceLT, Nat.reduceLeDiff, pkT, true_and, tsC]
    refine hnorm (i + 1) _ ⟨hlt, fun j h hj => ?_⟩ (by omega) (ask_le hltY (by simp [V.lt]; exact hcl) (by simp [FL, up_apply, hw, hcz]))
    rcases Nat.lt_or_ge j i with h1 | h1
    ·exact hno j h h1
    ·have : j = i := by omega
     subst this; exact hn
  ·have : i = l.length := by simp at hge; omega
   subst this
   simp -implicitDefEqProofs only [pkA, ptA, ↓reduceIte, Nat.reduceEqDiff, Nat.reduceAdd, Nat.reduceBEq, Nat.reduceMul, Nat.reduceLT, Nat.reduceLeDiff, pkT, true_and, tsC]
   refine hexit _ _ ?_
   simp -implicitDefEqProofs only [pkA, ptA, ↓reduceIte, Nat.reduceEqDiff, Nat.reduceAdd, Nat.reduceBEq, Nat.reduceMul, Nat.reduceLT, Nat.reduceLeDiff, pkT, true_and, tsC]
   rw [posT_none (fun j h => hno j h h)]
   exact ask_end rfl hltY trivial (by simp [hdS, frs, retV_one, up]) (by simp [up_apply])
 simpa using key
set_option maxHeartbeats 4000000 in
theorem ContainsFunc_ok {Y : List (List V)} {f : V} {R : Tm → Prop} {p : Tm → Bool} (h : Ask G Y f R p) (l : List Tm) (hl : ∀ t ∈ l, R t) (hm : l.length ≤ 1000000000) : FnB Tryd.prog G 35 [.c (tsC l), f] Y (bo (l.any p)) Y := by
 have hix := IndexFunc_ok h l hl hm
 obtain ⟨g, caps, rfl, hcl, hltY, hcf, hok⟩ := h
 have hcv : (V.clo (.func g) [] caps).lt (kx Y.length 0) := ⟨fun x hx => (by cases hx), hcl⟩
 have hcz : (V.clo (.func g) [] caps).fz = V.clo (.func g) [] caps := rfl
 have key : FnB Tryd.prog G 35 [.c (tsC l), .clo (.func g) [] caps] (Y ++ []) (bo (l.any p)) (Y ++ []) := by
  refine FnB_byE (k := Y.length) (m := 0) (rs := [.tmp 4]) [1000007] mixed Tryd.func35 rfl rfl rfl rfl (by kernel_rfl) (by simp) rfl rfl rfl hltY rfl (fun b hb => by cases hb) (fun x hx => ?_) ?_
  ·simp only [List.mem_cons, List.not_mem_nil, or_false] at hx
   rcases hx with rfl | rfl
   ·trivial
   ·exact hcv
  simp -implicitDefEqProofs only [pkA, ptA, ↓reduceIte, Nat.reduceEqDiff, Nat.reduceAdd, Nat.reduceBEq, Nat.reduceMul, Nat.reduceLT, Nat.reduceLeDiff, pkT, true_and, tsC, List.append_nil, hcz]
  refine callB_ask rfl hix (by simp [V.fz, tsC]) hltY (fun _ => rfl) ?_
  simp -implicitDefEqProofs only [pkA, ptA, ↓reduceIte, Nat.reduceEqDiff, Nat.reduceAdd, Nat.reduceBEq, Nat.reduceMul, Nat.reduceLT, Nat.reduceLeDiff, pkT, true_and, tsC, posT_any]
  exact ask_end rfl hltY trivial (by simp [hdS, frs, retV_one, up]) (by simp [up_apply])
 simpa using key
end Go.Proofs.YtkbkajabchhbeaaDoor
/- Layer 15: Valid. -/
namespace Go.Proofs.YtkbkajabchhbeaaDoor
open Go Go.Vl
variable {G : Gl}
set_option maxRecDepth 4000
theorem ltL_of {xs : List V} {Y : List (List V)} (h : xargsOk xs Y = true) : ltL Y.length Y := by
 simp only [xargsOk, Bool.and_eq_true, List.all_eq_true] at h
 exact fun b hb x hx => V.ltB_ok (h.2 b hb x hx)
def valF : V := .clo (.func 34) [] [.bp 1 0, .bp 2 0]
def valB : List (List V) := [shM, [.mr 0], [valF]]
theorem valB_eq : valB = [shM, [.mr 0], [.clo (.func 34) [] [.bp 1 0, .bp 2 0]]] := rfl
theorem valB_ok {xs : List V} (h : xs.all (fun x => x.ltB 3) = true) : xargsOk xs valB = true := by
 simp only [xargsOk, valB, List.all_cons, List.all_nil, shM_ltB, List.length_cons, List.length_nil, h]; rfl
theorem isMb_mr {i : Nat} : isMb [V.mr i] = false := rfl
theorem gmr {nb q i : Nat} {K : V → Prop} : ldB nb q [.mr i] 0 K = (q < nb ∧ K (.mr i)) := rfl
theorem isMb_clo {f : Fn} {a b : List V} : isMb [V.clo f a b] = false := rfl
theorem gclo {nb q : Nat} {f : Fn} {a b : List V} {K : V → Prop} : ldB nb q [.clo f a b] 0 K = (q < nb ∧ K (.clo f a b)) := rfl
theorem set3 {a b c x y z : V} : setV [a, b, c] 0 [x, y, z] = [x, y, z] := rfl
theorem isMb_c {x : C} {l : List V} : isMb (V.c x :: l) = false := rfl
theorem pkU : type_of% (And.intro @isMb_mr (And.intro @gmr (And.intro @isMb_clo (And.intro @gclo (And.intro @set3 (@isMb_c)))))) := ⟨@isMb_mr, @gmr, @isMb_clo, @gclo, @set3, @isMb_c⟩
theorem endVal {r : V} {t : Tmp} {e : VE} {fr : Nat → V} {bx : Nat → List V} {nb : Nat} (he : isEnd e = true) (hn : 3 ≤ nb) (h0 : bx 0 = shM) (h1 : bx 1 = [.mr 0]) (h2 : bx 2 = [valF]) (ht : fr t = r) (hr : r.ltB 3 = true) (hr2 : r.fz = r) : endB Tryd.prog 3 r valB [.tmp t] e ⟨fr, bx, nb⟩ :=
 end_B [(t, r)] he (by simp only [leOk, valB, List.all_cons, List.all_nil, shM_ltB, hr, List.length_cons, List.length_nil]; rfl) (Nat.le_refl _) hn ⟨ht, trivial⟩ ⟨h0, h1, h2, trivial⟩ (by simp [hdS, frs, retV_one, up])
set_option maxHeartbeats 4000000 in
theorem Valid11_ok (t : Tm) (h : FnB Tryd.prog G 34 [.agg (tmC t), .bp 1 0, .bp 2 0] valB (bo (validT t)) valB) : FnB Tryd.prog G 36 [.agg (tmC t), .bp 2 0] valB (bo (!validT t)) valB := by
 refine FnB_by (rs := [.tmp 3]) (k := 3) [1000006, 3000003] mixed Tryd.func36 rfl rfl rfl rfl (by kernel_rfl) (by simp) rfl rfl rfl (valB_ok rfl) (Nat.le_refl _) ?_
 simp -implicitDefEqProofs only [pkA, ptA, ↓reduceIte, Nat.reduceEqDiff, Nat.reduceAdd, Nat.reduceBEq, Nat.reduceMul, Nat.reduceLT, Nat.reduceLeDiff, pkT, pkU, true_and, valB_eq]
 refine callB_same rfl h (by simp [V.fz]) (show 3 ≤ 4 by decide) ⟨rfl, rfl, rfl, trivial⟩ (fun _ _ => rfl) ?_
 simp -implicitDefEqProofs only [pkA, ptA, ↓reduceIte, Nat.reduceEqDiff, Nat.reduceAdd, Nat.reduceBEq, Nat.reduceMul, Nat.reduceLT, Nat.reduceLeDiff, pkT, pkU, true_and]
 exact endVal rfl (show 3 ≤ 4 by decide) rfl rfl rfl (by simp [up_apply]) rfl rfl
def valAsk (R : Tm → Prop) (h : ∀ t, R t → FnB Tryd.prog G 34 [.agg (tmC t), .bp 1 0, .bp 2 0] valB (bo (validT t)) valB) : Ask G valB (.clo (.func 36) [] [.bp 2 0]) R (fun t => !validT t) where
 g := 36
 caps := [.bp 2 0]
 eq := rfl
 lt := by simp [V.ltP, valB]
 ltY := ltL_of (valB_ok (xs := []) rfl)
 fz := rfl
 ok t ht := Valid11_ok t (h t ht)
theorem validL_all {l : List Tm} : (l.any fun t => !validT t) = !validL l := by
 induction l with
 | nil => rfl
 | cons t l ih => simp [validL, ih]
set_option maxHeartbeats 8000000 in
theorem Valid1_ok : ∀ t : Tm, FnB Tryd.prog G 34 [.agg (tmC t), .bp 1 0, .bp 2 0] valB (bo (validT t)) valB := by
 refine Tm.ind fun k n l ih => ?_
 have hask := valAsk (G := G) (fun t => t ∈ l) ih
 refine FnB_by (rs := [.tmp 4]) (k := 3) [1000047, 3000003] mixed Tryd.func34 rfl rfl rfl rfl (by kernel_rfl) (by simp) rfl rfl rfl (valB_ok rfl) (Nat.le_refl _) ?_
 simp -implicitDefEqProofs only [pkA, ptA, ↓reduceIte, Nat.reduceEqDiff, Nat.reduceAdd, Nat.reduceBEq, Nat.reduceMul, Nat.reduceLT, Nat.reduceLeDiff, pkT, pkU, true_and, valB_eq]
 refine look_sh rfl (show 0 < 4 by decide) ?_
 rw [get_sh]
 cases hk : kndB k with
 | false =>
  simp -implicitDefEqProofs only [pkA, ptA, ↓reduceIte, Nat.reduceEqDiff, Nat.reduceAdd, Nat.reduceBEq, Nat.reduceMul, Nat.reduceLT, Nat.reduceLeDiff, pkT, pkU, true_and, Bool.false_eq_true, Option.map_none, Option.getD_none, Option.isSome_none, shZ]
  have hv : validT (.mk k n l) = false := by
   have : arityI k = -1 := by
    simp only [kndB, Bool.and_eq_false_iff, decide_eq_false_iff_not] at hk
    unfold arityI; rw [if_neg (by omega), if_neg (by omega), if_neg (by omega)]
   rw [validT_mk, this]
   have : decide ((l.length : Int) = -1) = false := decide_eq_false (by omega)
   simp [this]
  rw [hv]
  exact endVal rfl (show 3 ≤ 5 by decide) rfl rfl rfl (by simp [up_apply]) rfl rfl
 | true =>
  have hk6 : k = 1 ∨ k = 2 ∨ k = 3 ∨ k = 4 ∨ k = 5 ∨ k = 6 := by
   simp only [kndB, Bool.and_eq_true, decide_eq_true_eq] at hk; omega
  have har : max 0 (arityI k) = arityI k ∧ arityI k ≤ 2 ∧ (!decide (k = 3 ∨ k = 6)) = countK k := by rcases hk6 with rfl | rfl | rfl | rfl | rfl | rfl <;> decide
  have hvv : validT (.mk k n l) = ((!decide (n < 0) && !decide (2147483647 < n) && decide (((l.map tmC).length : Int) = max 0 (arityI k)) && (countK k || decide (n = 0))) && validL l) := by
   rw [validT_mk, har.1, har.2.2, List.length_map]
   have e1 : decide (0 ≤ n) = !decide (n < 0) := by rw [← decide_not]; exact decide_eq_decide.2 (by omega)
   have e2 : decide (n ≤ 2147483647) = !decide (2147483647 < n) := by rw [← decide_not]; exact decide_eq_decide.2 (by omega)
   rw [e1, e2]
  have hn0 : ∀ (fr : Nat → V) (bx : Nat → List V) (e : VE), isEnd e = true → bx 0 = shM → bx 1 = [.mr 0] → bx 2 = [valF] → fr 4 = bo false → validT (.mk k n l) = false → endB Tryd.prog 3 (bo (validT (.mk k n l))) [shM, [.mr 0], [.clo (.func 34) [] [.bp 1 0, .bp 2 0]]] [.tmp 4] e ⟨fr, bx, 5⟩ := fun fr bx e he h0 h1 h2 h4 hv => by
   rw [hv]; exact endVal he (show 3 ≤ 5 by decide) h0 h1 h2 h4 rfl rfl
  repeat' first
   | (simp -implicitDefEqProofs only [pkA, ptA, ↓reduceIte, Nat.reduceEqDiff, Nat.reduceAdd, Nat.reduceBEq, Nat.reduceMul, Nat.reduceLT, Nat.reduceLeDiff, pkT, pkU, true_and, Option.map_some, Option.getD_some, Option.isSome_some, shV, shC, cS, cI])
   | refine vgd_of (fun h => ?_) (fun h => ?_)
   | refine vcond_of (fun h => ?_) (fun h => ?_)
  all_goals first
   | (
     refine hn0 _ _ _ rfl rfl rfl rfl (by simp [up_apply]) ?_
     clear hn0 hask ih
     rw [hvv]; clear hvv har hk6
     generalize decide (n < 0) = b1 at *; generalize decide (2147483647 < n) = b2 at *; generalize decide (n = 0) = b3 at *; generalize decide (((l.map tmC).length : Int) = max 0 (arityI k)) = b4 at *; generalize countK k = b5 at *; generalize validL l = b6
     clear hk
     simp_all)
   | (
     have hv2 : validT (.mk k n l) = validL l := by
      rw [hvv]; clear hn0 hask ih hvv har hk6
      generalize decide (n < 0) = b1 at *; generalize decide (2147483647 < n) = b2 at *; generalize decide (n = 0) = b3 at *; generalize decide (((l.map tmC).length : Int) = max 0 (arityI k)) = b4 at *; generalize countK k = b5 at *; generalize validL l = b6
      clear hk
      simp_all
     have hl2 : l.length ≤ 1000000000 := by
      have : ((l.map tmC).length : Int) = max 0 (arityI k) := by
       refine of_decide_eq_true ?_
       clear hn0 hask ih hvv har hk6
       generalize decide (((l.map tmC).length : Int) = max 0 (arityI k)) = b4 at *
       simp_all
      rw [List.length_map] at this; omega
     refine callB_same rfl (ContainsFunc_ok hask l (fun t h => h) hl2) (by simp [V.fz, tsC]) (show 3 ≤ 5 by decide) ⟨rfl, rfl, rfl, trivial⟩ (fun _ _ => rfl) ?_
     simp -implicitDefEqProofs only [pkA, ptA, ↓reduceIte, Nat.reduceEqDiff, Nat.reduceAdd, Nat.reduceBEq, Nat.reduceMul, Nat.reduceLT, Nat.reduceLeDiff, pkT, pkU, true_and, validL_all, Bool.not_not]
     rw [hv2]
     exact endVal rfl (show 3 ≤ 5 by decide) rfl rfl rfl (by simp [up_apply]) rfl rfl)
end Go.Proofs.YtkbkajabchhbeaaDoor
/- Layer 15: Valid, whole. -/
namespace Go.Proofs.YtkbkajabchhbeaaDoor
open Go Go.Vl
variable {G : Gl}
set_option maxRecDepth 4000
section
variable {tr : List Nat} {ty : TypeId} {d : Nat} {pos : String} {af : Array Edge} {g : Option (Nat × Bool)} {fr : Nat → V} {bx : Nat → List V} {nb : Nat} {H : Vl.S → Prop}
theorem alcM : VStep Tryd.prog G tr ⟨some d, .alloc 42, ty, pos, af, g⟩ ⟨fr, bx, nb⟩ H = H ⟨up fr d (.bp nb 0), up bx nb [.c (.lit (.map none))], nb + 1⟩ := alc_of ti_42 rfl
theorem alcS : VStep Tryd.prog G tr ⟨some d, .alloc 57, ty, pos, af, g⟩ ⟨fr, bx, nb⟩ H = H ⟨up fr d (.bp nb 0), up bx nb [.c (.lit (.map none))], nb + 1⟩ := alc_of ti_57 rfl
end
theorem callB_mr {s : Vl.S} {f : V} {args all cargs : List V} {g : FuncId} {K : Vl.S → V → Prop} {M : List V} (hc : calleeV f args = some (g, all)) (hf : FnB Tryd.prog G g cargs [] (.mr 0) [M]) (hall : all.map V.fz = cargs) (hM : ∀ ρ, M.map (V.ren ρ) = M)
  (hK : K { s with bx := up s.bx s.nb M, nb := s.nb + 1 } (.mr s.nb)) : vcallB Tryd.prog G s f args K := by
 refine callB_new hc hf hall ?_
 simp only [setBx, hM, List.length_singleton, V.ren, Nat.add_zero]
 exact hK
theorem stS_mr {fr : Nat → V} {bx : Nat → List V} {nb : Nat} {t : Tmp} {dO : Option Tmp} {b o i : Nat} {K : Vl.S → Prop} (h : fr t = .mr i) : stS 1 (some t) dO b o (.mr i) ⟨fr, bx, nb⟩ K =
  ((b < nb ∧ o + 1 ≤ (bx b).length) ∧ K ((⟨fr, up bx b (setV (bx b) o [.mr i]), nb⟩ : Vl.S).put dO .sk)) := by
 simp [stS, V.bcells, use_some, h, V.isOw]
theorem ren_c {ρ : Nat → Nat} {x : C} : (V.c x).ren ρ = .c x := rfl
theorem set1 {x y : V} : setV [x] 0 [y] = [y] := rfl
set_option maxHeartbeats 4000000 in
theorem Valid_ok (t : Tm) : FnOK Tryd.prog G 10 [.agg (tmC t)] (bo (validT t)) := by
 refine FnOK_by (rs := [.tmp 2]) false [1000005, 1000009] mixed Tryd.func10 rfl rfl rfl rfl (by kernel_rfl) (by simp) rfl rfl ?_
 simp -implicitDefEqProofs only [pkA, ptA, ↓reduceIte, Nat.reduceEqDiff, Nat.reduceAdd, Nat.reduceBEq, Nat.reduceMul, Nat.reduceLT, Nat.reduceLeDiff, pkT, pkU, true_and]
 refine callB_mr rfl shapes_ok rfl (fun _ => shM_ren) ?_
 simp -implicitDefEqProofs only [pkA, ptA, ↓reduceIte, Nat.reduceEqDiff, Nat.reduceAdd, Nat.reduceBEq, Nat.reduceMul, Nat.reduceLT, Nat.reduceLeDiff, pkT, pkU, true_and, alcM, set1, stS_mr]
 refine callB_sel [1, 2, 3] rfl (Valid1_ok t) (by simp [V.fz, V.ren, V.renP, rho, valF]) rfl (by decide) rfl ⟨⟨show 1 < 4 by decide, by simp [up_apply, shM_ren, rho]⟩, ⟨show 2 < 4 by decide, by simp [up_apply, rho, V.ren]⟩, ⟨show 3 < 4 by decide, by simp [up_apply, rho, V.ren, V.renP, valF]⟩, trivial⟩ ?_
 intro bx' hoth hat
 simp -implicitDefEqProofs only [pkA, ptA, ↓reduceIte, Nat.reduceEqDiff, Nat.reduceAdd, Nat.reduceBEq, Nat.reduceMul, Nat.reduceLT, Nat.reduceLeDiff, pkT, pkU, true_and, ren_c]
