/- Layer 17, the specification: Insert, Sorted, Bad; instances compared. -/
import Derived.Test.YthgmobkmmapgoaaGreatVlR2
set_option linter.unusedSimpArgs false
set_option linter.unusedVariables false
namespace Go.Proofs.YthgmobkmmapgoaaGreat
open Go Go.Vl
variable {G : Gl}
set_option maxRecDepth 4000
def InSm (x : In) : Prop := x.pre.length ≤ 1000000000 ∧ x.con.length ≤ 1000000000
section
variable {x : In} {nb q : Nat} {K : V → Prop}
theorem gin0 : ldB nb q ((inC x).map .c) 0 K = (q < nb ∧ K (i64 x.rule)) := rfl
theorem gin1 : ldB nb q ((inC x).map .c) 1 K = (q < nb ∧ K (.c (fsC x.pre))) := rfl
theorem gin2 : ldB nb q ((inC x).map .c) 2 K = (q < nb ∧ K (.c (fsC x.con))) := rfl
theorem isMb_in : isMb ((inC x).map V.c) = false := rfl
theorem lok_in : ldA nb q ((inC x).map .c) 0 3 K = (q < nb ∧ K (.agg (inC x))) := by
 unfold ldA
 exact propext ⟨fun h => ⟨h.1, h.2.2⟩, fun h => ⟨h.1, ⟨rfl, rfl⟩, h.2⟩⟩
end
theorem pkI : type_of% (And.intro @pkQ (And.intro @gin0 (And.intro @gin1 (And.intro @gin2 (And.intro @isMb_in (@lok_in)))))) := ⟨@pkQ, @gin0, @gin1, @gin2, @isMb_in, @lok_in⟩
set_option maxHeartbeats 2000000 in
theorem SameIn_ok (x y : In) (hx : InSm x) (hy : InSm y) : FnOK Tryz.prog G 31 [.agg (inC x), .agg (inC y)] (bo (decide (x = y))) := by
 refine FnOK_by (rs := [.tmp 4]) false [] mixed Tryz.func31 rfl rfl rfl rfl (by kernel_rfl) (by simp) rfl rfl ?_
 simp -implicitDefEqProofs only [pkA, ptA, ↓reduceIte, Nat.reduceEqDiff, Nat.reduceAdd, Nat.reduceMul, Nat.reduceLT, pkI]
 refine call_fn rfl (Same_ok x.pre y.pre hx.1) (fun _ => rfl) ?_
 simp -implicitDefEqProofs only [pkA, ptA, ↓reduceIte, Nat.reduceEqDiff, Nat.reduceAdd, Nat.reduceMul, Nat.reduceLT, pkI]
 refine call_fn rfl (Same_ok x.con y.con hx.2) (fun _ => rfl) ?_
 have key : (decide (x = y)) = (decide (x.pre = y.pre) && (decide (x.con = y.con) && decide (x.rule = y.rule))) := by
  rw [Bool.eq_iff_iff]
  simp only [decide_eq_true_eq, Bool.and_eq_true]
  constructor
  ·rintro rfl; exact ⟨rfl, rfl, rfl⟩
  ·rintro ⟨h1, h2, h3⟩
   cases x; cases y
   simp only at h1 h2 h3
   rw [h1, h2, h3]
 rw [key]
 repeat' first
  | (simp -implicitDefEqProofs only [pkA, ptA, ↓reduceIte, Nat.reduceEqDiff, Nat.reduceAdd, Nat.reduceMul, Nat.reduceLT, pkI])
  | refine vgd_of (fun h => ?_) (fun h => ?_)
 all_goals simp_all
def insC (l : List In) : C := .sl (l.map inC)
def insP (l : List Fa) (f : Fa) : Nat := l.findIdx fun y => !ltF y f
def insR (l : List Fa) (f : Fa) : List Fa := if l[insP l f]? = some f then l else l.take (insP l f) ++ f :: l.drop (insP l f)
theorem insP_le {l : List Fa} {f : Fa} : insP l f ≤ l.length := List.findIdx_le_length
theorem insP_at {l : List Fa} {f : Fa} {i : Nat} (hi : i ≤ l.length) (h1 : ∀ j (h : j < l.length), j < i → ltF l[j] f = true) (h2 : ∀ h : i < l.length, ltF l[i] f = false) : insP l f = i := by
 unfold insP
 rcases Nat.lt_or_ge i l.length with h | h
 ·rw [List.findIdx_eq h]
  exact ⟨by simp [h2 h], fun j hj => by simp [h1 j (by omega) hj]⟩
 ·have : i = l.length := by omega
  subst this
  rw [List.findIdx_eq_length]
  intro x hx
  obtain ⟨j, hj, rfl⟩ := List.getElem_of_mem hx
  simp [h1 j hj hj]
theorem insR_len {l : List Fa} {f : Fa} : (insR l f).length ≤ l.length + 1 := by
 unfold insR
 split
 ·omega
 ·simp only [List.length_append, List.length_take, List.length_cons, List.length_drop]; omega
theorem slA_of {P : Program} {T e : TypeId} {i j : TI} {es : List (List C)} {lo hi : Option V} {l h : Nat} {K : V → Prop} (hT : ti P T = some i) (hk : i.kd = .slice e) (hE : ti P e = some j) (h1 : optInt 0 lo = some (l : Nat)) (h2 : optInt es.length hi = some (h : Nat)) (hlh : l ≤ h) (hhe : h ≤ es.length) (hx : ∀ x ∈ es, x.length = j.size)
  (hK : K (.c (.sl ((es.take h).drop l)))) : vslice P T (.c (.sl es)) lo hi none K := by
 obtain ⟨kd, a, b, c, d, f, g⟩ := i; simp only at hk; subst hk
 simp only [vslice, hT, hE, h1, h2]
 exact ⟨⟨by omega, by omega, by omega, hx⟩, hK⟩
set_option maxHeartbeats 2000000 in
theorem Insert_ok (l : List Fa) (f : Fa) (hm : l.length ≤ 1000000) : FnOK Tryz.prog G 37 [.c (fsC l), .agg (faC f)] (.c (fsC (insR l f))) := by
 refine FnOK_by (rs := [.tmp 4]) false [35, 40, 44] mixed Tryz.func37 rfl rfl rfl rfl (by kernel_rfl) (by simp) rfl rfl ?_
 simp -implicitDefEqProofs only [pkA, ↓reduceIte, Nat.reduceEqDiff, Nat.reduceAdd, Nat.reduceBEq, fsC]
 refine run_loop (fun i : Nat => hdS [(0, .c (.sl (l.map faC))), (3, .bp 0 0), (5, i64 i)] [(faC f).map .c]) (fun i => l.length - i) (fun i => i ≤ l.length ∧ ∀ j (h : j < l.length), j < i → ltF l[j] f = true) 0 ⟨Nat.zero_le _, fun j h h' => absurd h' (Nat.not_lt_zero _)⟩ ?_ ?_
 ·exact le_hd rfl (Nat.zero_le _) (Nat.le_refl _) (by simp [FL, up_apply]) (by simp [BL])
 rintro i ⟨hi, hno⟩ R hnorm hexit hret
 have hmove : ∀ es : List (List C), (V.c (.sl es)).fz = .c (.sl es) := fun _ => rfl
 have tl : ∀ m : List Fa, ∀ x ∈ m.map faC, x.length = 3 := fun m => len_map faC_len m
 have post : (∀ h : i < l.length, ltF l[i] f = false) → ∀ fr : Nat → V, fr 0 = .c (.sl (l.map faC)) → fr 3 = .bp 0 0 → fr 5 = i64 i → R (.exit 0) ⟨fr, bxs [(faC f).map .c], 1⟩ := fun h2 fr f0 f3 f5 => by
  have hp := insP_at hi hno h2
  have new : l[i]? ≠ some f → insR l f = l.take i ++ f :: l.drop i := fun h => by unfold insR; rw [hp, if_neg h]
  have ht : ((l.map faC).take i).drop 0 = (l.take i).map faC := by rw [List.drop_zero, List.map_take]
  have hd : ((l.map faC).take l.length).drop i = (l.drop i).map faC := by rw [List.take_of_length_le (by simp), List.map_drop]
  refine hexit _ _ ?_
  simp -implicitDefEqProofs only [pkA, ptA, ↓reduceIte, Nat.reduceEqDiff, Nat.reduceAdd, Nat.reduceBEq, List.length_map, f0, f5]
  refine vgd_of (fun hlt => ?_) (fun hge => ?_)
  ·have hlt : i < l.length := by simpa using hlt
   simp -implicitDefEqProofs only [pkA, ↓reduceIte, Nat.reduceEqDiff, Nat.reduceBEq, f0, f5]
   refine ia_of ti_27 rfl ti_29 (by decide) (Int.natCast_nonneg i) (c := faC l[i]) (by simp [hlt]) rfl ?_
   simp -implicitDefEqProofs only [pkA, ptA, ↓reduceIte, Nat.reduceEqDiff, Nat.reduceAdd, Nat.reduceBEq, Nat.reduceMul, Nat.reduceLT, pkQ, f3]
   refine vcond_of (fun hy => ?_) (fun hn => ?_)
   ·have hy : l[i] = f := by simpa using hy
    simp -implicitDefEqProofs only [pkA, ↓reduceIte, Nat.reduceEqDiff, Nat.reduceAdd, Nat.reduceBEq, f0]
    unfold insR
    rw [hp, if_pos (by rw [List.getElem?_eq_getElem hlt, hy])]
   ·have hn : ¬ l[i] = f := by simpa using hn
    rw [new (by rw [List.getElem?_eq_getElem hlt]; simpa using hn)]
    simp -implicitDefEqProofs only [pkA, ↓reduceIte, Nat.reduceEqDiff, Nat.reduceAdd, Nat.reduceBEq, f0, f5]
    refine slA_of (l := 0) (h := i) ti_27 rfl ti_29 rfl rfl (Nat.zero_le _) (by simp; omega) (tl l) ?_
    rw [ht]
    simp -implicitDefEqProofs only [pkA, ↓reduceIte, Nat.reduceEqDiff, Nat.reduceAdd, Nat.reduceBEq, isGh_some]
    refine appF (l := []) (m := l.take i) (by simp; omega) ?_
    rw [List.nil_append]
    simp -implicitDefEqProofs only [pkA, ptA, ↓reduceIte, Nat.reduceEqDiff, Nat.reduceAdd, Nat.reduceBEq, Nat.reduceMul, Nat.reduceLT, Nat.reduceLeDiff, pkQ, f3, isGh_some, owF_ow]
    refine appF1 (l := l.take i) (x := f) (by simp; omega) ?_
    simp -implicitDefEqProofs only [pkA, ↓reduceIte, Nat.reduceEqDiff, Nat.reduceAdd, Nat.reduceBEq, f0, f5, owF_ow]
    refine slA_of (l := i) (h := l.length) ti_27 rfl ti_29 rfl (by rw [List.length_map]; rfl) hi (by simp) (tl l) ?_
    rw [hd]
    simp -implicitDefEqProofs only [pkA, ↓reduceIte, Nat.reduceEqDiff, Nat.reduceAdd, Nat.reduceBEq, isGh_some]
    refine appF (l := l.take i ++ [f]) (m := l.drop i) (by simp; omega) ?_
    simp -implicitDefEqProofs only [pkA, ↓reduceIte, Nat.reduceEqDiff, Nat.reduceAdd, Nat.reduceBEq, owF_fz, owF_ow]
    rw [List.append_assoc]; rfl
  ·have hge : ¬ i < l.length := by simpa using hge
   rw [new (by rw [List.getElem?_eq_none (by omega)]; simp)]
   simp -implicitDefEqProofs only [pkA, ↓reduceIte, Nat.reduceEqDiff, Nat.reduceAdd, Nat.reduceBEq, f0, f5]
   refine slA_of (l := 0) (h := i) ti_27 rfl ti_29 rfl rfl (Nat.zero_le _) (by simp; omega) (tl l) ?_
   rw [ht]
   simp -implicitDefEqProofs only [pkA, ↓reduceIte, Nat.reduceEqDiff, Nat.reduceAdd, Nat.reduceBEq, isGh_some]
   refine appF (l := []) (m := l.take i) (by simp; omega) ?_
   rw [List.nil_append]
   simp -implicitDefEqProofs only [pkA, ptA, ↓reduceIte, Nat.reduceEqDiff, Nat.reduceAdd, Nat.reduceBEq, Nat.reduceMul, Nat.reduceLT, Nat.reduceLeDiff, pkQ, f3, isGh_some, owF_ow]
   refine appF1 (l := l.take i) (x := f) (by simp; omega) ?_
   simp -implicitDefEqProofs only [pkA, ↓reduceIte, Nat.reduceEqDiff, Nat.reduceAdd, Nat.reduceBEq, f0, f5, owF_ow]
   refine slA_of (l := i) (h := l.length) ti_27 rfl ti_29 rfl (by rw [List.length_map]; rfl) hi (by simp) (tl l) ?_
   rw [hd]
   simp -implicitDefEqProofs only [pkA, ↓reduceIte, Nat.reduceEqDiff, Nat.reduceAdd, Nat.reduceBEq, isGh_some]
   refine appF (l := l.take i ++ [f]) (m := l.drop i) (by simp; omega) ?_
   simp -implicitDefEqProofs only [pkA, ↓reduceIte, Nat.reduceEqDiff, Nat.reduceAdd, Nat.reduceBEq, owF_fz, owF_ow]
   rw [List.append_assoc]; rfl
 simp -implicitDefEqProofs only [pkA, ptA, ↓reduceIte, Nat.reduceEqDiff, Nat.reduceAdd, Nat.reduceBEq, List.length_map]
 refine vgd_of (fun hlt => ?_) (fun hge => ?_)
 ·have hlt : i < l.length := by simpa using hlt
  have hw := wrap_of (n := (i : Int) + 1) (k := i + 1) (by omega) (by omega)
  simp -implicitDefEqProofs only [pkA, ↓reduceIte, Nat.reduceEqDiff, Nat.reduceBEq]
  refine ia_of ti_27 rfl ti_29 (by decide) (Int.natCast_nonneg i) (c := faC l[i]) (by simp [hlt]) rfl ?_
  simp -implicitDefEqProofs only [pkA, ptA, ↓reduceIte, Nat.reduceEqDiff, Nat.reduceAdd, Nat.reduceBEq, Nat.reduceMul, Nat.reduceLT, pkQ]
  refine call_fn rfl (rCompare_ok l[i] f) (fun _ => rfl) ?_
  have hlt2 : decide (cmpF l[i] f < 0) = ltF l[i] f := ltOf_cmpF _ _
  simp -implicitDefEqProofs only [pkA, ↓reduceIte, Nat.reduceEqDiff, hlt2]
  refine vcond_of (fun hy => ?_) (fun hn => ?_)
  ·simp -implicitDefEqProofs only [pkA, ↓reduceIte, Nat.reduceEqDiff, Nat.reduceAdd, Nat.reduceBEq]
   refine hnorm (i + 1) _ ⟨hlt, fun j h hj => ?_⟩ (by omega) (le_hd rfl (Nat.zero_le _) (Nat.le_refl _) (by simp [FL, up_apply, hw]) (by simp [BL, bxs]))
   rcases Nat.lt_or_ge j i with h1 | h1
   ·exact hno j h h1
   ·have : j = i := by omega
    subst this; exact hy
  ·simp -implicitDefEqProofs only [pkA]
   exact post (fun _ => hn) _ rfl rfl rfl
 ·have hge : ¬ i < l.length := by simpa using hge
  simp -implicitDefEqProofs only [pkA, ↓reduceIte, Nat.reduceEqDiff]
  exact post (fun h => absurd h hge) _ rfl rfl rfl
end Go.Proofs.YthgmobkmmapgoaaGreat
/- Layer 17, the specification: Sorted, Bad. -/
namespace Go.Proofs.YthgmobkmmapgoaaGreat
open Go Go.Vl
variable {G : Gl}
set_option maxRecDepth 4000
def nV (b : Bool) (l : List Fa) : V := if b then .ow none [] else .c (fsC l)
theorem nV_fz {b : Bool} {l : List Fa} (h : b = true → l = []) : (nV b l).fz = .c (fsC l) := by
 cases b
 ·rfl
 ·rw [h rfl]; rfl
theorem nV_ltB {b : Bool} {l : List Fa} {m : Nat} : (nV b l).ltB m = true := by cases b <;> rfl
theorem nV_f {l : List Fa} : nV false l = .c (fsC l) := rfl
theorem nV_t : nV true [] = .ow none [] := rfl
def insL (l : List Fa) : List Fa := l.foldl insR []
