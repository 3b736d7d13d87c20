/- Layer 17, the specification: the rules 6 to 10. Printed by genr8.py. -/
import Derived.Test.YthgmobkmmapgoaaGreatVlR8
set_option linter.unusedSimpArgs false
set_option linter.unusedVariables false
namespace Go.Proofs.YthgmobkmmapgoaaGreat
open Go Go.Vl
variable {G : Gl}
set_option maxRecDepth 4000
theorem r10_none {n a b v w : Nat} (hv : v = 0) (hw : 0 < w) : classL n (fun s1 => r10 none a b v s1) w = [] := by
 unfold classL
 rw [List.flatMap_eq_nil_iff]
 intro x hx
 rw [List.mem_range'_1] at hx
 unfold r10; rw [if_pos ⟨by omega, hv⟩]
theorem wk_in (x : In) : (inC x).map C.wk = inC x := rfl
theorem cool_z {p : Pol} {es : List In} {a b s0 s1 : Nat} (h : s1 = 0) : (lbh p es ⟨10, [handleF s0 a, blobF s0 s1], [handleF s1 b]⟩).set 5 (.ow (some (50, 3)) ((es.map inC ++ [hotC ⟨10, [handleF s0 a, blobF s0 s1], [handleF s1 b]⟩]).map (·.map C.wk))) = lbx p (es ++ [i10 a b s0 s1]) := by
 subst h
 unfold lbh lbx owI
 simp only [List.set_cons_succ, List.set_cons_zero, List.map_append, List.map_map, List.map_cons, List.map_nil]
 have e : (fun e : List C => e.map C.wk) ∘ inC = inC := by funext x; exact wk_in x
 rw [e]
 have h2 : (es ++ [i10 a b s0 0]).isEmpty = false := by cases es <;> rfl
 rw [h2]
 rfl
theorem cool_w {p : Pol} {es : List In} {a b s0 s1 : Nat} {v0 v1 : V} (h : 0 < s1) : (((lbh p es ⟨10, [handleF s0 a, blobF s0 s1], [handleF s1 b]⟩).set 5 v0).set 5 v1).set 5 (.ow (some (50, 3)) ((es.map inC ++ [(hotC ⟨10, [handleF s0 a, blobF s0 s1], [handleF s1 b]⟩).set 2 (.sl [faC (handleF s1 b), faC (rawF s1)])]).map (·.map C.wk))) = lbx p (es ++ [i10 a b s0 s1]) := by
 unfold lbh lbx owI
 simp only [List.set_cons_succ, List.set_cons_zero, List.map_append, List.map_map, List.map_cons, List.map_nil]
 have e : (fun e : List C => e.map C.wk) ∘ inC = inC := by funext x; exact wk_in x
 rw [e]
 have h2 : (es ++ [i10 a b s0 s1]).isEmpty = false := by cases es <;> rfl
 have h3 : i10 a b s0 s1 = ⟨10, [handleF s0 a, blobF s0 s1], [handleF s1 b, rawF s1]⟩ := by unfold i10; rw [if_pos h]
 rw [h2, h3]
 rfl
theorem flat_l {es : List In} : (es.map inC).flatten.length = es.length * 3 := by
 induction es with
 | nil => rfl
 | cons x l ih => simp only [List.map_cons, List.flatten_cons, List.length_append, ih, inC_len, List.length_cons]; omega
theorem flat_hot {es : List In} {x : In} : ((es.map inC ++ [hotC x]).flatten)[0 + es.length * 3 + 2]? = some (.sx (x.con.map faC)) := by
 rw [List.flatten_append, List.getElem?_append_right (by rw [flat_l]; omega), flat_l, show 0 + es.length * 3 + 2 - es.length * 3 = 2 by omega]
 rfl
theorem flat_len {es : List In} : (es.map inC).flatten.length + 2 = 0 + es.length * 3 + 2 := by rw [flat_l]; omega
theorem hot_ap {x y : Fa} {K : V → Prop} (hK : K (.ow (some (29, 3)) [faC x, faC y])) : vappend Tryz.prog 27 (.ow none [faC x]) (.c (.sl [faC y])) K := by
 rw [app_27]
 exact ⟨⟨by simp, fun e he => by rw [List.mem_singleton] at he; subst he; rfl⟩, ⟨by simp, by simp, fun e he => by rw [List.mem_singleton] at he; subst he; rfl⟩, hK⟩
section
variable {p : Pol} {es : List In} {x : In} {v : Value} {E : Option (TypeId × Nat)} {l : List (List C)} {y : V} {nb q : Nat} {K : V → Prop}
theorem nm_mb : isMb ((lbh p es x).set 5 y) = false := rfl
theorem nm_ld : ldB nb q ((lbh p es x).set 5 (.hh (some v) E l)) 5 K = (q < nb ∧ K (.c (.ex v))) := rfl
end
set_option maxHeartbeats 8000000 in
theorem rusing_ok (p : Pol) (es : List In) (hn : p.types.length ≤ 1000) (hr' : p.rules.length ≤ 1000) (hlen : (es ++ t6 p none ++ t7 p none ++ t8 p none ++ t9 p none ++ t10 p none).length < 900000) :
  FnB Tryz.prog G 57 [.bp 0 0] [lbx p es] (.tup []) [lbx p (es ++ t6 p none ++ t7 p none ++ t8 p none ++ t9 p none ++ t10 p none)] := by
 simp only [List.length_append] at hlen
 refine FnB_by (rs := []) (k := 1) [1000019, 1000044, 1000046, 1000071, 1000073, 1000114, 1000116, 1000151, 1000153, 1000202, 2300050, 2300047, 3000001] mixed Tryz.func57 rfl rfl rfl rfl (by kernel_rfl) (by simp) rfl rfl rfl (lbx_ok rfl) (Nat.le_refl _) ?_
 simp -implicitDefEqProofs only [pkA, ↓reduceIte, Nat.reduceAdd, Nat.reduceBEq]
 refine call_box rfl (rflagged_k p (es) 4 (by unfold I64; omega) (by omega)) rfl rfl (by simp [bxs]) ?_
 have hL1 : (fgN p 4 p.types.length).length ≤ 1000 := Nat.le_trans fgN_len (by omega)
 simp -implicitDefEqProofs only [pkA, ↓reduceIte, Nat.reduceAdd, Nat.reduceBEq]
 have hf1 : (fgN p 4 p.types.length).flatMap (fun t => m6 p none t) = t6 p none := fgN_flat
 refine run_loop (fun x : Nat × List In => hdS [(0, .bp 0 0), (2, .c (tsC (fgN p 4 p.types.length))), (3, i64 x.1)] [lbx p x.2]) (fun x => (fgN p 4 p.types.length).length - x.1) (fun x => x.1 ≤ (fgN p 4 p.types.length).length ∧ x.2 ++ ((fgN p 4 p.types.length).drop x.1).flatMap (fun t => m6 p none t) = es ++ t6 p none) (0, es) ⟨Nat.zero_le _, by rw [List.drop_zero, hf1]⟩ ?_ ?_
 ·exact (le1 rfl (Nat.le_refl _) (Nat.le_refl _) (by simp [FL, up_apply]) (by simp []))
 rintro ⟨i, cur⟩ ⟨hi, hT⟩ R hnorm hexit hret
 simp only at hi hT
 simp -implicitDefEqProofs only [pkA, ↓reduceIte, Nat.reduceEqDiff, Nat.reduceAdd, Nat.reduceBEq, pkM]
 refine vcond_of (fun hlt => ?_) (fun hge => ?_)
 ·have hlt : i < (fgN p 4 p.types.length).length := by simpa using hlt
  rw [dropL_cons hlt] at hT
  have hw := wrap_of (n := (i : Int) + 1) (k := i + 1) (by omega) (by omega)
  have hl := congrArg List.length hT
  simp only [List.length_append] at hl
  obtain ⟨t, ht⟩ : ∃ t, t = (fgN p 4 p.types.length)[i] := ⟨_, rfl⟩
  have htn : t < p.types.length := by rw [ht]; exact fgN_lt _
  rw [← ht] at hT hl
  simp -implicitDefEqProofs only [pkA, ↓reduceIte, Nat.reduceAdd, Nat.reduceBEq]
  rw [show m6 p none t = classL p.types.length (fun s0 => emL none (i6 t s0)) 1 from rfl] at hT hl
  refine run_loop (fun x : Nat × List In => hdS [(0, .bp 0 0), (2, .c (tsC (fgN p 4 p.types.length))), (3, i64 i), (4, i64 x.1)] [lbx p x.2]) (fun x => p.types.length + 1 - x.1) (fun x => (1 ≤ x.1 ∧ x.1 ≤ p.types.length + 1) ∧ x.2 ++ classL p.types.length (fun s0 => emL none (i6 t s0)) x.1 = cur ++ classL p.types.length (fun s0 => emL none (i6 t s0)) 1) (1, cur) ⟨⟨Nat.le_refl _, by omega⟩, rfl⟩ ?_ ?_
  ·exact (le1 rfl (Nat.le_refl _) (Nat.le_refl _) (by simp [FL, up_apply]) (by simp [bxs]))
  rintro ⟨s0, c0⟩ ⟨⟨hs0a, hs0b⟩, hc0⟩ R0 hnorm0 hexit0 hret0
  simp only at hs0a hs0b hc0
  have hl0 := congrArg List.length hc0
  simp only [List.length_append] at hl0
  simp -implicitDefEqProofs only [pkA, ptA, ↓reduceIte, Nat.reduceEqDiff, Nat.reduceAdd, Nat.reduceBEq, Nat.reduceMul, Nat.reduceLT, pkM]
  refine vcond_of (fun hlt0 => ?_) (fun hge0 => ?_)
  ·have hlt0 : s0 ≤ p.types.length := by simp at hlt0; omega
   rw [classL_cons hlt0] at hc0 hl0
   simp only [List.length_append] at hl0
   have hw0 := wrap_of (n := (s0 : Int) + 1) (k := s0 + 1) (by omega) (by omega)
   simp -implicitDefEqProofs only [pkA, ↓reduceIte, Nat.reduceEqDiff, Nat.reduceAdd, Nat.reduceBEq]
   have hd : (emL none (i6 t s0)).length = 1 := rfl
   repeat first
    | (simp -implicitDefEqProofs only [pkA, ptA, ↓reduceIte, Nat.reduceEqDiff, Nat.reduceAdd, Nat.reduceBEq, pkM])
    | refine ia_of ti_71 rfl ti_3 (by decide) (Int.natCast_nonneg i) (c := [cI (t : Int)]) (by simp [ht, hlt]) rfl ?_
    | refine call_fn rfl (rHandle_ok _ _) (fun _ => rfl) ?_
    | refine call_fn rfl (rBlob_ok _ _) (fun _ => rfl) ?_
    | refine call_fn rfl (rLeak_ok _) (fun _ => rfl) ?_
    | refine call_fn rfl (rRaw_ok _) (fun _ => rfl) ?_
   refine call_box rfl (add_ok p c0 6 (handleF s0 t) zfa (leakF s0) (by omega)) rfl rfl (by simp [bxs]) ?_
   have hx : addX 6 (handleF s0 t) zfa (leakF s0) = i6 t s0 := addX_b (by simp [handleF])
   rw [hx]
   simp -implicitDefEqProofs only [pkA, ↓reduceIte, Nat.reduceEqDiff, Nat.reduceAdd, Nat.reduceBEq, hw0]
   exact hnorm0 (s0 + 1, c0 ++ [i6 t s0]) _ ⟨⟨by omega, by omega⟩, by rw [List.append_assoc]; exact hc0⟩ (by simp only; omega) (le1 rfl (Nat.le_refl _) (Nat.le_refl _) (by simp [FL, up_apply]) (by simp []))
  have hie0 : s0 = p.types.length + 1 := by simp at hge0; omega
  subst hie0
  rw [classL_end (Nat.lt_succ_self _), List.append_nil] at hc0
  subst hc0
  simp -implicitDefEqProofs only [pkA]
  refine hexit0 _ _ ?_
  simp -implicitDefEqProofs only [pkA, ↓reduceIte, Nat.reduceEqDiff, Nat.reduceAdd, Nat.reduceBEq, hw]
  exact hnorm (i + 1, cur ++ classL p.types.length (fun s0 => emL none (i6 t s0)) 1) _ ⟨hlt, by rw [List.append_assoc]; exact hT⟩ (by simp only; omega) (le1 rfl (Nat.le_refl _) (Nat.le_refl _) (by simp [FL, up_apply]) (by simp [bxs]))
 have hie : i = (fgN p 4 p.types.length).length := by simp at hge; omega
 subst hie
 rw [List.drop_length, List.flatMap_nil, List.append_nil] at hT
 subst hT
 simp -implicitDefEqProofs only [pkA]
 refine hexit _ _ ?_
 simp -implicitDefEqProofs only [pkA, ↓reduceIte, Nat.reduceEqDiff, Nat.reduceAdd, Nat.reduceBEq]
 refine call_box rfl (rflagged_k p (es ++ t6 p none) 8 (by unfold I64; omega) (by omega)) rfl rfl (by simp [bxs]) ?_
 have hL2 : (fgN p 8 p.types.length).length ≤ 1000 := Nat.le_trans fgN_len (by omega)
 simp -implicitDefEqProofs only [pkA, ↓reduceIte, Nat.reduceAdd, Nat.reduceBEq]
 have hf2 : (fgN p 8 p.types.length).flatMap (fun t => m7 p none t) = t7 p none := fgN_flat
 refine run_loop (fun x : Nat × List In => hdS [(0, .bp 0 0), (2, .c (tsC (fgN p 8 p.types.length))), (5, i64 x.1)] [lbx p x.2]) (fun x => (fgN p 8 p.types.length).length - x.1) (fun x => x.1 ≤ (fgN p 8 p.types.length).length ∧ x.2 ++ ((fgN p 8 p.types.length).drop x.1).flatMap (fun t => m7 p none t) = es ++ t6 p none ++ t7 p none) (0, es ++ t6 p none) ⟨Nat.zero_le _, by rw [List.drop_zero, hf2]⟩ ?_ ?_
 ·exact (le1 rfl (Nat.le_refl _) (Nat.le_refl _) (by simp [FL, up_apply]) (by simp []))
 rintro ⟨i, cur⟩ ⟨hi, hT⟩ R hnorm hexit hret
 simp only at hi hT
 simp -implicitDefEqProofs only [pkA, ↓reduceIte, Nat.reduceEqDiff, Nat.reduceAdd, Nat.reduceBEq, pkM]
 refine vcond_of (fun hlt => ?_) (fun hge => ?_)
 ·have hlt : i < (fgN p 8 p.types.length).length := by simpa using hlt
  rw [dropL_cons hlt] at hT
  have hw := wrap_of (n := (i : Int) + 1) (k := i + 1) (by omega) (by omega)
  have hl := congrArg List.length hT
  simp only [List.length_append] at hl
  obtain ⟨t, ht⟩ : ∃ t, t = (fgN p 8 p.types.length)[i] := ⟨_, rfl⟩
  have htn : t < p.types.length := by rw [ht]; exact fgN_lt _
  rw [← ht] at hT hl
  simp -implicitDefEqProofs only [pkA, ↓reduceIte, Nat.reduceAdd, Nat.reduceBEq]
  rw [show m7 p none t = classL p.types.length (fun s0 => emL none (i7 t s0)) 0 from rfl] at hT hl
  refine run_loop (fun x : Nat × List In => hdS [(0, .bp 0 0), (2, .c (tsC (fgN p 8 p.types.length))), (5, i64 i), (6, i64 x.1)] [lbx p x.2]) (fun x => p.types.length + 1 - x.1) (fun x => (0 ≤ x.1 ∧ x.1 ≤ p.types.length + 1) ∧ x.2 ++ classL p.types.length (fun s0 => emL none (i7 t s0)) x.1 = cur ++ classL p.types.length (fun s0 => emL none (i7 t s0)) 0) (0, cur) ⟨⟨Nat.le_refl _, by omega⟩, rfl⟩ ?_ ?_
  ·exact (le1 rfl (Nat.le_refl _) (Nat.le_refl _) (by simp [FL, up_apply]) (by simp [bxs]))
  rintro ⟨s0, c0⟩ ⟨⟨hs0a, hs0b⟩, hc0⟩ R0 hnorm0 hexit0 hret0
  simp only at hs0a hs0b hc0
  have hl0 := congrArg List.length hc0
  simp only [List.length_append] at hl0
  simp -implicitDefEqProofs only [pkA, ptA, ↓reduceIte, Nat.reduceEqDiff, Nat.reduceAdd, Nat.reduceBEq, Nat.reduceMul, Nat.reduceLT, pkM]
  refine vcond_of (fun hlt0 => ?_) (fun hge0 => ?_)
  ·have hlt0 : s0 ≤ p.types.length := by simp at hlt0; omega
   rw [classL_cons hlt0] at hc0 hl0
   simp only [List.length_append] at hl0
   have hw0 := wrap_of (n := (s0 : Int) + 1) (k := s0 + 1) (by omega) (by omega)
   simp -implicitDefEqProofs only [pkA, ↓reduceIte, Nat.reduceEqDiff, Nat.reduceAdd, Nat.reduceBEq]
   have hd : (emL none (i7 t s0)).length = 1 := rfl
   repeat first
    | (simp -implicitDefEqProofs only [pkA, ptA, ↓reduceIte, Nat.reduceEqDiff, Nat.reduceAdd, Nat.reduceBEq, pkM])
    | refine ia_of ti_71 rfl ti_3 (by decide) (Int.natCast_nonneg i) (c := [cI (t : Int)]) (by simp [ht, hlt]) rfl ?_
    | refine call_fn rfl (rHandle_ok _ _) (fun _ => rfl) ?_
    | refine call_fn rfl (rBlob_ok _ _) (fun _ => rfl) ?_
    | refine call_fn rfl (rLeak_ok _) (fun _ => rfl) ?_
    | refine call_fn rfl (rRaw_ok _) (fun _ => rfl) ?_
   refine call_box rfl (add_ok p c0 7 (handleF s0 t) zfa (blobF s0 0) (by omega)) rfl rfl (by simp [bxs]) ?_
   have hx : addX 7 (handleF s0 t) zfa (blobF s0 0) = i7 t s0 := addX_b (by simp [handleF])
   rw [hx]
   simp -implicitDefEqProofs only [pkA, ↓reduceIte, Nat.reduceEqDiff, Nat.reduceAdd, Nat.reduceBEq, hw0]
   exact hnorm0 (s0 + 1, c0 ++ [i7 t s0]) _ ⟨⟨by omega, by omega⟩, by rw [List.append_assoc]; exact hc0⟩ (by simp only; omega) (le1 rfl (Nat.le_refl _) (Nat.le_refl _) (by simp [FL, up_apply]) (by simp []))
  have hie0 : s0 = p.types.length + 1 := by simp at hge0; omega
  subst hie0
  rw [classL_end (Nat.lt_succ_self _), List.append_nil] at hc0
  subst hc0
  simp -implicitDefEqProofs only [pkA]
  refine hexit0 _ _ ?_
  simp -implicitDefEqProofs only [pkA, ↓reduceIte, Nat.reduceEqDiff, Nat.reduceAdd, Nat.reduceBEq, hw]
  exact hnorm (i + 1, cur ++ classL p.types.length (fun s0 => emL none (i7 t s0)) 0) _ ⟨hlt, by rw [List.append_assoc]; exact hT⟩ (by simp only; omega) (le1 rfl (Nat.le_refl _) (Nat.le_refl _) (by simp [FL, up_apply]) (by simp [bxs]))
 have hie : i = (fgN p 8 p.types.length).length := by simp at hge; omega
 subst hie
 rw [List.drop_length, List.flatMap_nil, List.append_nil] at hT
 subst hT
 simp -implicitDefEqProofs only [pkA]
 refine hexit _ _ ?_
 simp -implicitDefEqProofs only [pkA, ↓reduceIte, Nat.reduceEqDiff, Nat.reduceAdd, Nat.reduceBEq]
 refine call_box rfl (rruled_ok p (es ++ t6 p none ++ t7 p none) 3 (by omega)) rfl rfl (by simp [bxs]) ?_
 have hL3 : (ruR p 3 p.rules.length).length ≤ 1000 := Nat.le_trans ruR_len (by omega)
 simp -implicitDefEqProofs only [pkA, ↓reduceIte, Nat.reduceAdd, Nat.reduceBEq]
 have hf3 : (ruR p 3 p.rules.length).flatMap (fun r : Ru => (fun a b => m8 p none a b) r.a.toNat r.b.toNat) = t8 p none := ruR_flat (D := fun a b => m8 p none a b)
 refine run_loop (fun x : Nat × List In => hdS [(0, .bp 0 0), (7, .c (.sl ((ruR p 3 p.rules.length).map ruC))), (8, i64 x.1)] [lbx p x.2]) (fun x => (ruR p 3 p.rules.length).length - x.1) (fun x => x.1 ≤ (ruR p 3 p.rules.length).length ∧ x.2 ++ ((ruR p 3 p.rules.length).drop x.1).flatMap (fun r : Ru => (fun a b => m8 p none a b) r.a.toNat r.b.toNat) = es ++ t6 p none ++ t7 p none ++ t8 p none) (0, es ++ t6 p none ++ t7 p none) ⟨Nat.zero_le _, by rw [List.drop_zero, hf3]⟩ ?_ ?_
 ·exact (le1 rfl (Nat.le_refl _) (Nat.le_refl _) (by simp [FL, up_apply]) (by simp []))
 rintro ⟨i, cur⟩ ⟨hi, hT⟩ R hnorm hexit hret
 simp only at hi hT
 simp -implicitDefEqProofs only [pkA, ptA, ↓reduceIte, Nat.reduceEqDiff, Nat.reduceAdd, Nat.reduceBEq]
 refine vcond_of (fun hlt => ?_) (fun hge => ?_)
 ·have hlt : i < (ruR p 3 p.rules.length).length := by simpa using hlt
  rw [dropL_cons hlt] at hT
  have hw := wrap_of (n := (i : Int) + 1) (k := i + 1) (by omega) (by omega)
  have hl := congrArg List.length hT
  simp only [List.length_append] at hl
  obtain ⟨r, hr⟩ : ∃ r, r = (ruR p 3 p.rules.length)[i] := ⟨_, rfl⟩
  obtain ⟨a, b, ha, hb, han, hbn⟩ := ruR_at hlt
  have ha : r.a = (a : Int) := by rw [hr]; exact ha
  have hb : r.b = (b : Int) := by rw [hr]; exact hb
  rw [← hr, ha, hb, Int.toNat_natCast, Int.toNat_natCast] at hT hl
  simp -implicitDefEqProofs only [pkA, ↓reduceIte, Nat.reduceAdd, Nat.reduceBEq]
  rw [show m8 p none a b = classL p.types.length (fun s0 => classL p.types.length (fun s1 => emL none (i8 a b s0 s1)) 0) 0 from rfl] at hT hl
  refine run_loop (fun x : Nat × List In => hdS [(0, .bp 0 0), (7, .c (.sl ((ruR p 3 p.rules.length).map ruC))), (8, i64 i), (9, i64 x.1)] [lbx p x.2]) (fun x => p.types.length + 1 - x.1) (fun x => (0 ≤ x.1 ∧ x.1 ≤ p.types.length + 1) ∧ x.2 ++ classL p.types.length (fun s0 => classL p.types.length (fun s1 => emL none (i8 a b s0 s1)) 0) x.1 = cur ++ classL p.types.length (fun s0 => classL p.types.length (fun s1 => emL none (i8 a b s0 s1)) 0) 0) (0, cur) ⟨⟨Nat.le_refl _, by omega⟩, rfl⟩ ?_ ?_
  ·exact (le1 rfl (Nat.le_refl _) (Nat.le_refl _) (by simp [FL, up_apply]) (by simp [bxs]))
  rintro ⟨s0, c0⟩ ⟨⟨hs0a, hs0b⟩, hc0⟩ R0 hnorm0 hexit0 hret0
  simp only at hs0a hs0b hc0
  have hl0 := congrArg List.length hc0
  simp only [List.length_append] at hl0
  simp -implicitDefEqProofs only [pkA, ptA, ↓reduceIte, Nat.reduceEqDiff, Nat.reduceAdd, Nat.reduceBEq, Nat.reduceMul, Nat.reduceLT, pkM]
  refine vcond_of (fun hlt0 => ?_) (fun hge0 => ?_)
  ·have hlt0 : s0 ≤ p.types.length := by simp at hlt0; omega
   rw [classL_cons hlt0] at hc0 hl0
   simp only [List.length_append] at hl0
   have hw0 := wrap_of (n := (s0 : Int) + 1) (k := s0 + 1) (by omega) (by omega)
   simp -implicitDefEqProofs only [pkA, ↓reduceIte, Nat.reduceAdd, Nat.reduceBEq]
   refine run_loop (fun x : Nat × List In => hdS [(0, .bp 0 0), (7, .c (.sl ((ruR p 3 p.rules.length).map ruC))), (8, i64 i), (9, i64 s0), (10, i64 x.1)] [lbx p x.2]) (fun x => p.types.length + 1 - x.1) (fun x => (0 ≤ x.1 ∧ x.1 ≤ p.types.length + 1) ∧ x.2 ++ classL p.types.length (fun s1 => emL none (i8 a b s0 s1)) x.1 = c0 ++ classL p.types.length (fun s1 => emL none (i8 a b s0 s1)) 0) (0, c0) ⟨⟨Nat.le_refl _, by omega⟩, rfl⟩ ?_ ?_
   ·exact (le1 rfl (Nat.le_refl _) (Nat.le_refl _) (by simp [FL, up_apply]) (by simp [bxs]))
   rintro ⟨s1, c1⟩ ⟨⟨hs1a, hs1b⟩, hc1⟩ R1 hnorm1 hexit1 hret1
   simp only at hs1a hs1b hc1
   have hl1 := congrArg List.length hc1
   simp only [List.length_append] at hl1
   simp -implicitDefEqProofs only [pkA, ptA, ↓reduceIte, Nat.reduceEqDiff, Nat.reduceAdd, Nat.reduceBEq, Nat.reduceMul, Nat.reduceLT, pkM]
   refine vcond_of (fun hlt1 => ?_) (fun hge1 => ?_)
   ·have hlt1 : s1 ≤ p.types.length := by simp at hlt1; omega
    rw [classL_cons hlt1] at hc1 hl1
    simp only [List.length_append] at hl1
    have hw1 := wrap_of (n := (s1 : Int) + 1) (k := s1 + 1) (by omega) (by omega)
    simp -implicitDefEqProofs only [pkA, ↓reduceIte, Nat.reduceEqDiff, Nat.reduceAdd, Nat.reduceBEq]
    have hd : (emL none (i8 a b s0 s1)).length = 1 := rfl
    repeat first
     | (simp -implicitDefEqProofs only [pkA, ptA, ↓reduceIte, Nat.reduceEqDiff, Nat.reduceAdd, Nat.reduceBEq, pkM, ha, hb])
     | refine ia_of ti_23 rfl ti_55 (by decide) (Int.natCast_nonneg i) (c := ruC r) (by simp [hr, hlt]) rfl ?_
     | refine call_fn rfl (rHandle_ok _ _) (fun _ => rfl) ?_
     | refine call_fn rfl (rBlob_ok _ _) (fun _ => rfl) ?_
     | refine call_fn rfl (rLeak_ok _) (fun _ => rfl) ?_
     | refine call_fn rfl (rRaw_ok _) (fun _ => rfl) ?_
    refine call_box rfl (add_ok p c1 8 (handleF s0 a) (handleF s1 b) (blobF s0 s1) (by omega)) rfl rfl (by simp [bxs]) ?_
    have hx : addX 8 (handleF s0 a) (handleF s1 b) (blobF s0 s1) = i8 a b s0 s1 := addX_c (by simp [handleF]) (by simp [handleF])
    rw [hx]
    simp -implicitDefEqProofs only [pkA, ↓reduceIte, Nat.reduceEqDiff, Nat.reduceAdd, Nat.reduceBEq, hw1]
    exact hnorm1 (s1 + 1, c1 ++ [i8 a b s0 s1]) _ ⟨⟨by omega, by omega⟩, by rw [List.append_assoc]; exact hc1⟩ (by simp only; omega) (le1 rfl (Nat.le_refl _) (Nat.le_refl _) (by simp [FL, up_apply]) (by simp []))
   have hie1 : s1 = p.types.length + 1 := by simp at hge1; omega
   subst hie1
   rw [classL_end (Nat.lt_succ_self _), List.append_nil] at hc1
   subst hc1
   simp -implicitDefEqProofs only [pkA]
   refine hexit1 _ _ ?_
   simp -implicitDefEqProofs only [pkA, ↓reduceIte, Nat.reduceEqDiff, Nat.reduceAdd, Nat.reduceBEq, hw0]
   exact hnorm0 (s0 + 1, c0 ++ classL p.types.length (fun s1 => emL none (i8 a b s0 s1)) 0) _ ⟨⟨by omega, by omega⟩, by rw [List.append_assoc]; exact hc0⟩ (by simp only; omega) (le1 rfl (Nat.le_refl _) (Nat.le_refl _) (by simp [FL, up_apply]) (by simp [bxs]))
  have hie0 : s0 = p.types.length + 1 := by simp at hge0; omega
  subst hie0
  rw [classL_end (Nat.lt_succ_self _), List.append_nil] at hc0
  subst hc0
  simp -implicitDefEqProofs only [pkA]
  refine hexit0 _ _ ?_
  simp -implicitDefEqProofs only [pkA, ↓reduceIte, Nat.reduceEqDiff, Nat.reduceAdd, Nat.reduceBEq, hw]
  exact hnorm (i + 1, cur ++ classL p.types.length (fun s0 => classL p.types.length (fun s1 => emL none (i8 a b s0 s1)) 0) 0) _ ⟨hlt, by rw [List.append_assoc]; exact hT⟩ (by simp only; omega) (le1 rfl (Nat.le_refl _) (Nat.le_refl _) (by simp [FL, up_apply]) (by simp [bxs]))
 have hie : i = (ruR p 3 p.rules.length).length := by simp at hge; omega
 subst hie
 rw [List.drop_length, List.flatMap_nil, List.append_nil] at hT
 subst hT
 simp -implicitDefEqProofs only [pkA]
 refine hexit _ _ ?_
 simp -implicitDefEqProofs only [pkA, ↓reduceIte, Nat.reduceEqDiff, Nat.reduceAdd, Nat.reduceBEq]
 refine call_box rfl (rflagged_k p (es ++ t6 p none ++ t7 p none ++ t8 p none) 16 (by unfold I64; omega) (by omega)) rfl rfl (by simp [bxs]) ?_
 have hL4 : (fgN p 16 p.types.length).length ≤ 1000 := Nat.le_trans fgN_len (by omega)
 simp -implicitDefEqProofs only [pkA, ↓reduceIte, Nat.reduceAdd, Nat.reduceBEq]
 have hf4 : (fgN p 16 p.types.length).flatMap (fun t => m9 p none t) = t9 p none := fgN_flat
 refine run_loop (fun x : Nat × List In => hdS [(0, .bp 0 0), (2, .c (tsC (fgN p 16 p.types.length))), (11, i64 x.1)] [lbx p x.2]) (fun x => (fgN p 16 p.types.length).length - x.1) (fun x => x.1 ≤ (fgN p 16 p.types.length).length ∧ x.2 ++ ((fgN p 16 p.types.length).drop x.1).flatMap (fun t => m9 p none t) = es ++ t6 p none ++ t7 p none ++ t8 p none ++ t9 p none) (0, es ++ t6 p none ++ t7 p none ++ t8 p none) ⟨Nat.zero_le _, by rw [List.drop_zero, hf4]⟩ ?_ ?_
 ·exact (le1 rfl (Nat.le_refl _) (Nat.le_refl _) (by simp [FL, up_apply]) (by simp []))
 rintro ⟨i, cur⟩ ⟨hi, hT⟩ R hnorm hexit hret
 simp only at hi hT
 simp -implicitDefEqProofs only [pkA, ↓reduceIte, Nat.reduceEqDiff, Nat.reduceAdd, Nat.reduceBEq, pkM]
 refine vcond_of (fun hlt => ?_) (fun hge => ?_)
 ·have hlt : i < (fgN p 16 p.types.length).length := by simpa using hlt
  rw [dropL_cons hlt] at hT
  have hw := wrap_of (n := (i : Int) + 1) (k := i + 1) (by omega) (by omega)
  have hl := congrArg List.length hT
  simp only [List.length_append] at hl
  obtain ⟨t, ht⟩ : ∃ t, t = (fgN p 16 p.types.length)[i] := ⟨_, rfl⟩
  have htn : t < p.types.length := by rw [ht]; exact fgN_lt _
  rw [← ht] at hT hl
  simp -implicitDefEqProofs only [pkA, ↓reduceIte, Nat.reduceAdd, Nat.reduceBEq]
  rw [show m9 p none t = classL p.types.length (fun s0 => classL p.types.length (fun s1 => emL none (i9 t s0 s1)) 1) 0 from rfl] at hT hl
  refine run_loop (fun x : Nat × List In => hdS [(0, .bp 0 0), (2, .c (tsC (fgN p 16 p.types.length))), (11, i64 i), (12, i64 x.1)] [lbx p x.2]) (fun x => p.types.length + 1 - x.1) (fun x => (0 ≤ x.1 ∧ x.1 ≤ p.types.length + 1) ∧ x.2 ++ classL p.types.length (fun s0 => classL p.types.length (fun s1 => emL none (i9 t s0 s1)) 1) x.1 = cur ++ classL p.types.length (fun s0 => classL p.types.length (fun s1 => emL none (i9 t s0 s1)) 1) 0) (0, cur) ⟨⟨Nat.le_refl _, by omega⟩, rfl⟩ ?_ ?_
  ·exact (le1 rfl (Nat.le_refl _) (Nat.le_refl _) (by simp [FL, up_apply]) (by simp [bxs]))
  rintro ⟨s0, c0⟩ ⟨⟨hs0a, hs0b⟩, hc0⟩ R0 hnorm0 hexit0 hret0
  simp only at hs0a hs0b hc0
  have hl0 := congrArg List.length hc0
  simp only [List.length_append] at hl0
  simp -implicitDefEqProofs only [pkA, ptA, ↓reduceIte, Nat.reduceEqDiff, Nat.reduceAdd, Nat.reduceBEq, Nat.reduceMul, Nat.reduceLT, pkM]
  refine vcond_of (fun hlt0 => ?_) (fun hge0 => ?_)
  ·have hlt0 : s0 ≤ p.types.length := by simp at hlt0; omega
   rw [classL_cons hlt0] at hc0 hl0
   simp only [List.length_append] at hl0
   have hw0 := wrap_of (n := (s0 : Int) + 1) (k := s0 + 1) (by omega) (by omega)
   simp -implicitDefEqProofs only [pkA, ↓reduceIte, Nat.reduceAdd, Nat.reduceBEq]
   refine run_loop (fun x : Nat × List In => hdS [(0, .bp 0 0), (2, .c (tsC (fgN p 16 p.types.length))), (11, i64 i), (12, i64 s0), (13, i64 x.1)] [lbx p x.2]) (fun x => p.types.length + 1 - x.1) (fun x => (1 ≤ x.1 ∧ x.1 ≤ p.types.length + 1) ∧ x.2 ++ classL p.types.length (fun s1 => emL none (i9 t s0 s1)) x.1 = c0 ++ classL p.types.length (fun s1 => emL none (i9 t s0 s1)) 1) (1, c0) ⟨⟨Nat.le_refl _, by omega⟩, rfl⟩ ?_ ?_
   ·exact (le1 rfl (Nat.le_refl _) (Nat.le_refl _) (by simp [FL, up_apply]) (by simp [bxs]))
   rintro ⟨s1, c1⟩ ⟨⟨hs1a, hs1b⟩, hc1⟩ R1 hnorm1 hexit1 hret1
   simp only at hs1a hs1b hc1
   have hl1 := congrArg List.length hc1
   simp only [List.length_append] at hl1
   simp -implicitDefEqProofs only [pkA, ptA, ↓reduceIte, Nat.reduceEqDiff, Nat.reduceAdd, Nat.reduceBEq, Nat.reduceMul, Nat.reduceLT, pkM]
   refine vcond_of (fun hlt1 => ?_) (fun hge1 => ?_)
   ·have hlt1 : s1 ≤ p.types.length := by simp at hlt1; omega
    rw [classL_cons hlt1] at hc1 hl1
    simp only [List.length_append] at hl1
    have hw1 := wrap_of (n := (s1 : Int) + 1) (k := s1 + 1) (by omega) (by omega)
    simp -implicitDefEqProofs only [pkA, ↓reduceIte, Nat.reduceEqDiff, Nat.reduceAdd, Nat.reduceBEq]
    have hd : (emL none (i9 t s0 s1)).length = 1 := rfl
    repeat first
     | (simp -implicitDefEqProofs only [pkA, ptA, ↓reduceIte, Nat.reduceEqDiff, Nat.reduceAdd, Nat.reduceBEq, pkM])
     | refine ia_of ti_71 rfl ti_3 (by decide) (Int.natCast_nonneg i) (c := [cI (t : Int)]) (by simp [ht, hlt]) rfl ?_
     | refine call_fn rfl (rHandle_ok _ _) (fun _ => rfl) ?_
     | refine call_fn rfl (rBlob_ok _ _) (fun _ => rfl) ?_
     | refine call_fn rfl (rLeak_ok _) (fun _ => rfl) ?_
     | refine call_fn rfl (rRaw_ok _) (fun _ => rfl) ?_
    refine call_box rfl (add_ok p c1 9 (handleF s0 t) (blobF s0 s1) (leakF s1) (by omega)) rfl rfl (by simp [bxs]) ?_
    have hx : addX 9 (handleF s0 t) (blobF s0 s1) (leakF s1) = i9 t s0 s1 := addX_c (by simp [handleF]) (by simp [blobF])
    rw [hx]
    simp -implicitDefEqProofs only [pkA, ↓reduceIte, Nat.reduceEqDiff, Nat.reduceAdd, Nat.reduceBEq, hw1]
    exact hnorm1 (s1 + 1, c1 ++ [i9 t s0 s1]) _ ⟨⟨by omega, by omega⟩, by rw [List.append_assoc]; exact hc1⟩ (by simp only; omega) (le1 rfl (Nat.le_refl _) (Nat.le_refl _) (by simp [FL, up_apply]) (by simp []))
   have hie1 : s1 = p.types.length + 1 := by simp at hge1; omega
   subst hie1
   rw [classL_end (Nat.lt_succ_self _), List.append_nil] at hc1
   subst hc1
   simp -implicitDefEqProofs only [pkA]
   refine hexit1 _ _ ?_
   simp -implicitDefEqProofs only [pkA, ↓reduceIte, Nat.reduceEqDiff, Nat.reduceAdd, Nat.reduceBEq, hw0]
   exact hnorm0 (s0 + 1, c0 ++ classL p.types.length (fun s1 => emL none (i9 t s0 s1)) 1) _ ⟨⟨by omega, by omega⟩, by rw [List.append_assoc]; exact hc0⟩ (by simp only; omega) (le1 rfl (Nat.le_refl _) (Nat.le_refl _) (by simp [FL, up_apply]) (by simp [bxs]))
  have hie0 : s0 = p.types.length + 1 := by simp at hge0; omega
  subst hie0
  rw [classL_end (Nat.lt_succ_self _), List.append_nil] at hc0
  subst hc0
  simp -implicitDefEqProofs only [pkA]
  refine hexit0 _ _ ?_
  simp -implicitDefEqProofs only [pkA, ↓reduceIte, Nat.reduceEqDiff, Nat.reduceAdd, Nat.reduceBEq, hw]
  exact hnorm (i + 1, cur ++ classL p.types.length (fun s0 => classL p.types.length (fun s1 => emL none (i9 t s0 s1)) 1) 0) _ ⟨hlt, by rw [List.append_assoc]; exact hT⟩ (by simp only; omega) (le1 rfl (Nat.le_refl _) (Nat.le_refl _) (by simp [FL, up_apply]) (by simp [bxs]))
 have hie : i = (fgN p 16 p.types.length).length := by simp at hge; omega
 subst hie
 rw [List.drop_length, List.flatMap_nil, List.append_nil] at hT
 subst hT
 simp -implicitDefEqProofs only [pkA]
 refine hexit _ _ ?_
 simp -implicitDefEqProofs only [pkA, ↓reduceIte, Nat.reduceEqDiff, Nat.reduceAdd, Nat.reduceBEq]
 refine call_box rfl (rruled_ok p (es ++ t6 p none ++ t7 p none ++ t8 p none ++ t9 p none) 4 (by omega)) rfl rfl (by simp [bxs]) ?_
 have hL5 : (ruR p 4 p.rules.length).length ≤ 1000 := Nat.le_trans ruR_len (by omega)
 simp -implicitDefEqProofs only [pkA, ↓reduceIte, Nat.reduceAdd, Nat.reduceBEq]
 have hf5 : (ruR p 4 p.rules.length).flatMap (fun r : Ru => (fun a b => m10 p none a b) r.a.toNat r.b.toNat) = t10 p none := ruR_flat (D := fun a b => m10 p none a b)
 refine run_loop (fun x : Nat × List In => hdS [(0, .bp 0 0), (7, .c (.sl ((ruR p 4 p.rules.length).map ruC))), (14, i64 x.1)] [lbx p x.2]) (fun x => (ruR p 4 p.rules.length).length - x.1) (fun x => x.1 ≤ (ruR p 4 p.rules.length).length ∧ x.2 ++ ((ruR p 4 p.rules.length).drop x.1).flatMap (fun r : Ru => (fun a b => m10 p none a b) r.a.toNat r.b.toNat) = es ++ t6 p none ++ t7 p none ++ t8 p none ++ t9 p none ++ t10 p none) (0, es ++ t6 p none ++ t7 p none ++ t8 p none ++ t9 p none) ⟨Nat.zero_le _, by rw [List.drop_zero, hf5]⟩ ?_ ?_
 ·exact (le1 rfl (Nat.le_refl _) (Nat.le_refl _) (by simp [FL, up_apply]) (by simp []))
 rintro ⟨i, cur⟩ ⟨hi, hT⟩ R hnorm hexit hret
 simp only at hi hT
 simp -implicitDefEqProofs only [pkA, ptA, ↓reduceIte, Nat.reduceEqDiff, Nat.reduceAdd, Nat.reduceBEq]
 refine vcond_of (fun hlt => ?_) (fun hge => ?_)
 ·have hlt : i < (ruR p 4 p.rules.length).length := by simpa using hlt
  rw [dropL_cons hlt] at hT
  have hw := wrap_of (n := (i : Int) + 1) (k := i + 1) (by omega) (by omega)
  have hl := congrArg List.length hT
  simp only [List.length_append] at hl
  obtain ⟨r, hr⟩ : ∃ r, r = (ruR p 4 p.rules.length)[i] := ⟨_, rfl⟩
  obtain ⟨a, b, ha, hb, han, hbn⟩ := ruR_at hlt
  have ha : r.a = (a : Int) := by rw [hr]; exact ha
  have hb : r.b = (b : Int) := by rw [hr]; exact hb
  rw [← hr, ha, hb, Int.toNat_natCast, Int.toNat_natCast] at hT hl
  simp -implicitDefEqProofs only [pkA, ↓reduceIte, Nat.reduceAdd, Nat.reduceBEq]
  rw [show m10 p none a b = classL p.types.length (fun s0 => classL p.types.length (fun s1 => r10 none a b s0 s1) 0) 0 from rfl] at hT hl
  refine run_loop (fun x : Nat × List In => hdS [(0, .bp 0 0), (7, .c (.sl ((ruR p 4 p.rules.length).map ruC))), (14, i64 i), (15, i64 x.1)] [lbx p x.2]) (fun x => p.types.length + 1 - x.1) (fun x => (0 ≤ x.1 ∧ x.1 ≤ p.types.length + 1) ∧ x.2 ++ classL p.types.length (fun s0 => classL p.types.length (fun s1 => r10 none a b s0 s1) 0) x.1 = cur ++ classL p.types.length (fun s0 => classL p.types.length (fun s1 => r10 none a b s0 s1) 0) 0) (0, cur) ⟨⟨Nat.le_refl _, by omega⟩, rfl⟩ ?_ ?_
  ·exact (le1 rfl (Nat.le_refl _) (Nat.le_refl _) (by simp [FL, up_apply]) (by simp [bxs]))
  rintro ⟨s0, c0⟩ ⟨⟨hs0a, hs0b⟩, hc0⟩ R0 hnorm0 hexit0 hret0
  simp only at hs0a hs0b hc0
  have hl0 := congrArg List.length hc0
  simp only [List.length_append] at hl0
  simp -implicitDefEqProofs only [pkA, ptA, ↓reduceIte, Nat.reduceEqDiff, Nat.reduceAdd, Nat.reduceBEq, Nat.reduceMul, Nat.reduceLT, pkM]
  refine vcond_of (fun hlt0 => ?_) (fun hge0 => ?_)
  ·have hlt0 : s0 ≤ p.types.length := by simp at hlt0; omega
   rw [classL_cons hlt0] at hc0 hl0
   simp only [List.length_append] at hl0
   have hw0 := wrap_of (n := (s0 : Int) + 1) (k := s0 + 1) (by omega) (by omega)
   simp -implicitDefEqProofs only [pkA, ↓reduceIte, Nat.reduceAdd, Nat.reduceBEq]
   refine run_loop (fun x : Nat × List In => hdS [(0, .bp 0 0), (7, .c (.sl ((ruR p 4 p.rules.length).map ruC))), (14, i64 i), (15, i64 s0), (16, i64 x.1)] [lbx p x.2]) (fun x => p.types.length + 1 - x.1) (fun x => (0 ≤ x.1 ∧ x.1 ≤ p.types.length + 1) ∧ x.2 ++ classL p.types.length (fun s1 => r10 none a b s0 s1) x.1 = c0 ++ classL p.types.length (fun s1 => r10 none a b s0 s1) 0) (0, c0) ⟨⟨Nat.le_refl _, by omega⟩, rfl⟩ ?_ ?_
   ·exact (le1 rfl (Nat.le_refl _) (Nat.le_refl _) (by simp [FL, up_apply]) (by simp [bxs]))
   rintro ⟨s1, c1⟩ ⟨⟨hs1a, hs1b⟩, hc1⟩ R1 hnorm1 hexit1 hret1
   simp only at hs1a hs1b hc1
   have hl1 := congrArg List.length hc1
   simp only [List.length_append] at hl1
   simp -implicitDefEqProofs only [pkA, ptA, ↓reduceIte, Nat.reduceEqDiff, Nat.reduceAdd, Nat.reduceBEq, Nat.reduceMul, Nat.reduceLT, pkM]
   have hn1 : decide ((s1 : Int) ≤ p.types.length) = decide (s1 ≤ p.types.length) := by rw [decide_eq_decide]; omega
   have hn2 : decide (0 < (s0 : Int)) = decide (0 < s0) := by rw [decide_eq_decide]; omega
   have hn3 : decide ((s1 : Int) = 0) = decide (s1 = 0) := by rw [decide_eq_decide]; omega
   have hn4 : decide (0 < (s1 : Int)) = decide (0 < s1) := by rw [decide_eq_decide]; omega
   by_cases hA : s1 ≤ p.types.length
   ·have hA' : decide (s1 ≤ p.types.length) = true := decide_eq_true hA
    by_cases hB : 0 < s0
    ·have hB' : decide (0 < s0) = true := decide_eq_true hB
     by_cases hz : s1 = 0
     ·have hz' : decide (0 < s1) = false := decide_eq_false (by omega)
      simp -implicitDefEqProofs only [pkA, ↓reduceIte, Nat.reduceEqDiff, Nat.reduceAdd, Nat.reduceBEq, hn1, hn2, hA', hB']
      rw [classL_cons hA] at hc1 hl1
      simp only [List.length_append] at hl1
      have hr10 : r10 none a b s0 s1 = [i10 a b s0 s1] := by unfold r10; rw [if_neg (by omega)]; rfl
      rw [hr10] at hc1 hl1
      have hw1 := wrap_of (n := (s1 : Int) + 1) (k := s1 + 1) (by omega) (by omega)
      repeat first
       | (simp -implicitDefEqProofs only [pkA, ptA, ↓reduceIte, Nat.reduceEqDiff, Nat.reduceAdd, Nat.reduceBEq, pkM, ha, hb])
       | refine ia_of ti_23 rfl ti_55 (by decide) (Int.natCast_nonneg i) (c := ruC r) (by simp [hr, hlt]) rfl ?_
       | refine call_fn rfl (rHandle_ok _ _) (fun _ => rfl) ?_
       | refine call_fn rfl (rBlob_ok _ _) (fun _ => rfl) ?_
       | refine call_fn rfl (rLeak_ok _) (fun _ => rfl) ?_
       | refine call_fn rfl (rRaw_ok _) (fun _ => rfl) ?_
      refine call_box rfl (addH_ok p c1 10 (handleF s0 a) (blobF s0 s1) (handleF s1 b) (by omega) (by simp [handleF]) (by simp [blobF])) rfl rfl (by simp [bxs]) ?_
      simp -implicitDefEqProofs only [pkA, ↓reduceIte, Nat.reduceEqDiff, Nat.reduceAdd, Nat.reduceBEq, hn4, hz']
      refine spl_cool 0 5 rfl (show 0 < 1 by decide) rfl ?_
      simp -implicitDefEqProofs only [pkA, ↓reduceIte, Nat.reduceEqDiff, Nat.reduceBEq, hw1, S.cool]
      exact hnorm1 (s1 + 1, c1 ++ [i10 a b s0 s1]) _ ⟨⟨by omega, by omega⟩, by rw [List.append_assoc]; exact hc1⟩ (by simp only; omega) (le1 rfl (Nat.le_refl _) (Nat.le_refl _) (by simp [FL, up_apply]) (by simp only [up_apply, if_true]; exact cool_z hz))
     ·have hz' : decide (0 < s1) = true := decide_eq_true (by omega)
      simp -implicitDefEqProofs only [pkA, ↓reduceIte, Nat.reduceEqDiff, Nat.reduceAdd, Nat.reduceBEq, hn1, hn2, hA', hB']
      rw [classL_cons hA] at hc1 hl1
      simp only [List.length_append] at hl1
      have hr10 : r10 none a b s0 s1 = [i10 a b s0 s1] := by unfold r10; rw [if_neg (by omega)]; rfl
      rw [hr10] at hc1 hl1
      have hw1 := wrap_of (n := (s1 : Int) + 1) (k := s1 + 1) (by omega) (by omega)
      repeat first
       | (simp -implicitDefEqProofs only [pkA, ptA, ↓reduceIte, Nat.reduceEqDiff, Nat.reduceAdd, Nat.reduceBEq, pkM, ha, hb])
       | refine ia_of ti_23 rfl ti_55 (by decide) (Int.natCast_nonneg i) (c := ruC r) (by simp [hr, hlt]) rfl ?_
       | refine call_fn rfl (rHandle_ok _ _) (fun _ => rfl) ?_
       | refine call_fn rfl (rBlob_ok _ _) (fun _ => rfl) ?_
       | refine call_fn rfl (rLeak_ok _) (fun _ => rfl) ?_
       | refine call_fn rfl (rRaw_ok _) (fun _ => rfl) ?_
      refine call_box rfl (addH_ok p c1 10 (handleF s0 a) (blobF s0 s1) (handleF s1 b) (by omega) (by simp [handleF]) (by simp [blobF])) rfl rfl (by simp [bxs]) ?_
      simp -implicitDefEqProofs only [pkA, ↓reduceIte, Nat.reduceEqDiff, Nat.reduceAdd, Nat.reduceBEq, hn4, hz']
      refine spl_name 0 5 rfl (show 0 < 1 by decide) rfl rfl ?_
      intro blk cap
      have hlz : (c1.map inC ++ [hotC ⟨10, [handleF s0 a, blobF s0 s1], [handleF s1 b]⟩]).length = c1.length + 1 := by simp
      have hwl := wrap_of (n := ((c1.length + 1 : Nat) : Int) - 1) (k := c1.length) (by omega) (by omega)
      rw [hlz]
      simp -implicitDefEqProofs only [pkA, ptA, ↓reduceIte, Nat.reduceEqDiff, Nat.reduceAdd, Nat.reduceBEq, Nat.reduceMul, Nat.reduceLT, S.name, nm_ld, nm_mb]
      refine len_hot ti_40 rfl ?_
      simp -implicitDefEqProofs only [pkA, ptA, ↓reduceIte, Nat.reduceEqDiff, Nat.reduceAdd, Nat.reduceBEq, Nat.reduceMul, Nat.reduceLT, nm_ld, nm_mb, hwl]
      refine ix_hot (k := c1.length) ti_40 rfl ti_50 rfl (by decide) rfl (by omega) ?_
      simp -implicitDefEqProofs only [pkA, ↓reduceIte]
      refine fa_hot ti_50 rfl (by decide) ?_
      simp -implicitDefEqProofs only [pkA, ↓reduceIte, Nat.reduceAdd, Nat.reduceBEq]
      refine ld_hot (b := 0) (k := 5) (c := .sx [faC (handleF s1 b)]) ti_27 rfl (show 0 < 1 by decide) rfl rfl flat_hot ?_
      rw [show (C.sx [faC (handleF s1 b)]).ldc = .ow none [faC (handleF s1 b)] from rfl]
      simp -implicitDefEqProofs only [pkA, ↓reduceIte, Nat.reduceEqDiff, Nat.reduceAdd, Nat.reduceBEq]
      refine call_fn rfl (rRaw_ok _) (fun _ => rfl) ?_
      simp -implicitDefEqProofs only [pkA, ptA, ↓reduceIte, Nat.reduceEqDiff, Nat.reduceAdd, Nat.reduceBEq, Nat.reduceMul, Nat.reduceLeDiff, pkM, isGh_some]
      refine hot_ap ?_
      simp -implicitDefEqProofs only [pkA, ↓reduceIte, Nat.reduceEqDiff]
      refine ix_hot (k := c1.length) ti_40 rfl ti_50 rfl (by decide) rfl (by omega) ?_
      simp -implicitDefEqProofs only [pkA, ↓reduceIte]
      refine fa_hot ti_50 rfl (by decide) ?_
      simp -implicitDefEqProofs only [pkA, ↓reduceIte, Nat.reduceEqDiff, Nat.reduceAdd, Nat.reduceBEq]
      refine sto_hot (b := 0) (k := 5) (es := c1.map inC) (x := hotC ⟨10, [handleF s0 a, blobF s0 s1], [handleF s1 b]⟩) (r := 2) (c := .sl [faC (handleF s1 b), faC (rawF s1)]) ti_27 rfl (show 0 < 1 by decide) rfl rfl flat_len (show 2 < 3 by decide) rfl ?_
      simp -implicitDefEqProofs only [pkA, ↓reduceIte, Nat.reduceEqDiff, Nat.reduceAdd, Nat.reduceBEq]
      refine spl_cool 0 5 rfl (show 0 < 1 by decide) rfl ?_
      simp -implicitDefEqProofs only [pkA, ↓reduceIte, Nat.reduceEqDiff, Nat.reduceBEq, hw1, S.cool]
      exact hnorm1 (s1 + 1, c1 ++ [i10 a b s0 s1]) _ ⟨⟨by omega, by omega⟩, by rw [List.append_assoc]; exact hc1⟩ (by simp only; omega) (le1 rfl (Nat.le_refl _) (Nat.le_refl _) (by simp [FL, up_apply]) (by simp only [up_apply, if_true]; exact cool_w (by omega)))
    ·have hB' : decide (0 < s0) = false := decide_eq_false hB
     by_cases hz : s1 = 0
     ·have hz' : decide (0 < s1) = false := decide_eq_false (by omega)
      have hz2 : decide (s1 = 0) = true := decide_eq_true hz
      simp -implicitDefEqProofs only [pkA, ↓reduceIte, Nat.reduceEqDiff, Nat.reduceAdd, Nat.reduceBEq, hn1, hn2, hn3, hA', hB', hz2]
      rw [classL_cons hA] at hc1 hl1
      simp only [List.length_append] at hl1
      have hr10 : r10 none a b s0 s1 = [i10 a b s0 s1] := by unfold r10; rw [if_neg (by omega)]; rfl
      rw [hr10] at hc1 hl1
      have hw1 := wrap_of (n := (s1 : Int) + 1) (k := s1 + 1) (by omega) (by omega)
      repeat first
       | (simp -implicitDefEqProofs only [pkA, ptA, ↓reduceIte, Nat.reduceEqDiff, Nat.reduceAdd, Nat.reduceBEq, pkM, ha, hb])
       | refine ia_of ti_23 rfl ti_55 (by decide) (Int.natCast_nonneg i) (c := ruC r) (by simp [hr, hlt]) rfl ?_
       | refine call_fn rfl (rHandle_ok _ _) (fun _ => rfl) ?_
       | refine call_fn rfl (rBlob_ok _ _) (fun _ => rfl) ?_
       | refine call_fn rfl (rLeak_ok _) (fun _ => rfl) ?_
       | refine call_fn rfl (rRaw_ok _) (fun _ => rfl) ?_
      refine call_box rfl (addH_ok p c1 10 (handleF s0 a) (blobF s0 s1) (handleF s1 b) (by omega) (by simp [handleF]) (by simp [blobF])) rfl rfl (by simp [bxs]) ?_
      simp -implicitDefEqProofs only [pkA, ↓reduceIte, Nat.reduceEqDiff, Nat.reduceAdd, Nat.reduceBEq, hn4, hz']
      refine spl_cool 0 5 rfl (show 0 < 1 by decide) rfl ?_
      simp -implicitDefEqProofs only [pkA, ↓reduceIte, Nat.reduceEqDiff, Nat.reduceBEq, hw1, S.cool]
      exact hnorm1 (s1 + 1, c1 ++ [i10 a b s0 s1]) _ ⟨⟨by omega, by omega⟩, by rw [List.append_assoc]; exact hc1⟩ (by simp only; omega) (le1 rfl (Nat.le_refl _) (Nat.le_refl _) (by simp [FL, up_apply]) (by simp only [up_apply, if_true]; exact cool_z hz))
     ·have hz2 : decide (s1 = 0) = false := decide_eq_false hz
      simp -implicitDefEqProofs only [pkA, ↓reduceIte, Nat.reduceEqDiff, Nat.reduceBEq, hn1, hn2, hn3, hA', hB', hz2]
      have hie : classL p.types.length (fun s1 => r10 none a b s0 s1) s1 = [] := r10_none (by omega) (by omega)
      rw [hie, List.append_nil] at hc1
      subst hc1
      refine hexit1 _ _ ?_
      simp -implicitDefEqProofs only [pkA, ↓reduceIte, Nat.reduceEqDiff, Nat.reduceAdd, Nat.reduceBEq, hw0]
      exact hnorm0 (s0 + 1, c0 ++ classL p.types.length (fun s1 => r10 none a b s0 s1) 0) _ ⟨⟨by omega, by omega⟩, by rw [List.append_assoc]; exact hc0⟩ (by simp only; omega) (le1 rfl (Nat.le_refl _) (Nat.le_refl _) (by simp [FL, up_apply]) (by simp [bxs]))
   ·have hA' : decide (s1 ≤ p.types.length) = false := decide_eq_false hA
    simp -implicitDefEqProofs only [pkA, ↓reduceIte, Nat.reduceEqDiff, hn1, hA']
    have hie : classL p.types.length (fun s1 => r10 none a b s0 s1) s1 = [] := classL_end (by omega)
    rw [hie, List.append_nil] at hc1
    subst hc1
    refine hexit1 _ _ ?_
    simp -implicitDefEqProofs only [pkA, ↓reduceIte, Nat.reduceEqDiff, Nat.reduceAdd, Nat.reduceBEq, hw0]
    exact hnorm0 (s0 + 1, c0 ++ classL p.types.length (fun s1 => r10 none a b s0 s1) 0) _ ⟨⟨by omega, by omega⟩, by rw [List.append_assoc]; exact hc0⟩ (by simp only; omega) (le1 rfl (Nat.le_refl _) (Nat.le_refl _) (by simp [FL, up_apply]) (by simp [bxs]))
  have hie0 : s0 = p.types.length + 1 := by simp at hge0; omega
  subst hie0
  rw [classL_end (Nat.lt_succ_self _), List.append_nil] at hc0
  subst hc0
  simp -implicitDefEqProofs only [pkA]
  refine hexit0 _ _ ?_
  simp -implicitDefEqProofs only [pkA, ↓reduceIte, Nat.reduceEqDiff, Nat.reduceAdd, Nat.reduceBEq, hw]
  exact hnorm (i + 1, cur ++ classL p.types.length (fun s0 => classL p.types.length (fun s1 => r10 none a b s0 s1) 0) 0) _ ⟨hlt, by rw [List.append_assoc]; exact hT⟩ (by simp only; omega) (le1 rfl (Nat.le_refl _) (Nat.le_refl _) (by simp [FL, up_apply]) (by simp [bxs]))
 have hie : i = (ruR p 4 p.rules.length).length := by simp at hge; omega
 subst hie
 rw [List.drop_length, List.flatMap_nil, List.append_nil] at hT
 subst hT
 simp -implicitDefEqProofs only [pkA]
 refine hexit _ _ ?_
 simp -implicitDefEqProofs only [pkA, ↓reduceIte]
 exact end1n rfl (Nat.le_refl _) (by simp [bxs])
