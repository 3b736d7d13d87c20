/- Layer 17, the specification: the rules 11 to 15. Printed by genr8.py. -/
import Derived.Test.YthgmobkmmapgoaaGreatVlR9
set_option linter.unusedSimpArgs false
set_option linter.unusedVariables false
namespace Go.Proofs.YthgmobkmmapgoaaGreat
open Go Go.Vl
variable {G : Gl}
set_option maxRecDepth 4000
theorem sub0 (b : Int) : subI 0 b = true := by
 unfold subI
 rw [andNot_bits]
 simp
theorem has0 {p : Pol} {t : Nat} (h : t < p.types.length) : hasF p t 0 = true := by
 unfold hasF
 rw [List.getElem?_eq_getElem h]
 exact sub0 _
theorem flag0_cons {p : Pol} {D : Nat → List In} {t : Nat} (h : t < p.types.length) : flagL p none 0 D t = D t ++ flagL p none 0 D (t + 1) := by
 rw [flagL_cons h]
 unfold flagT
 rw [if_pos (by rw [has0 h]; rfl)]
set_option maxHeartbeats 8000000 in
theorem knowing_ok (p : Pol) (es : List In) (hn : p.types.length ≤ 1000) (hr' : p.rules.length ≤ 1000) (hlen : (es ++ t11 p none ++ t12 p none ++ t13 p none ++ t14 none ++ t15 p none).length < 900000) :
  FnB Tryz.prog G 58 [.bp 0 0] [lbx p es] (.tup []) [lbx p (es ++ t11 p none ++ t12 p none ++ t13 p none ++ t14 none ++ t15 p none)] := by
 simp only [List.length_append] at hlen
 refine FnB_by (rs := []) (k := 1) [1000010, 1000031, 1000033, 1000064, 1000089, 1000094, 1000109, 3000001] mixed Tryz.func58 rfl rfl rfl rfl (by kernel_rfl) (by simp) rfl rfl rfl (lbx_ok rfl) (Nat.le_refl _) ?_
 simp -implicitDefEqProofs only [pkA, ↓reduceIte, Nat.reduceAdd, Nat.reduceBEq]
 refine call_box rfl (rruled_ok p (es) 2 (by omega)) rfl rfl (by simp [bxs]) ?_
 have hL1 : (ruR p 2 p.rules.length).length ≤ 1000 := Nat.le_trans ruR_len (by omega)
 simp -implicitDefEqProofs only [pkA, ↓reduceIte, Nat.reduceAdd, Nat.reduceBEq]
 have hf1 : (ruR p 2 p.rules.length).flatMap (fun r : Ru => (fun a b => emL none (i11 a b)) r.a.toNat r.b.toNat) = t11 p none := ruR_flat (D := fun a b => emL none (i11 a b))
 refine run_loop (fun x : Nat × List In => hdS [(0, .bp 0 0), (2, .c (.sl ((ruR p 2 p.rules.length).map ruC))), (3, i64 x.1)] [lbx p x.2]) (fun x => (ruR p 2 p.rules.length).length - x.1) (fun x => x.1 ≤ (ruR p 2 p.rules.length).length ∧ x.2 ++ ((ruR p 2 p.rules.length).drop x.1).flatMap (fun r : Ru => (fun a b => emL none (i11 a b)) r.a.toNat r.b.toNat) = es ++ t11 p none) (0, es) ⟨Nat.zero_le _, by rw [List.drop_zero, hf1]⟩ ?_ ?_
 ·exact (le1 rfl (Nat.le_refl _) (Nat.le_refl _) (by simp [FL, up_apply]) (by simp []))
 rintro ⟨i, cur⟩ ⟨hi, hT⟩ R hnorm hexit hret
 simp only at hi hT
 simp -implicitDefEqProofs only [pkA, ptA, ↓reduceIte, Nat.reduceEqDiff, Nat.reduceAdd, Nat.reduceBEq]
 refine vcond_of (fun hlt => ?_) (fun hge => ?_)
 ·have hlt : i < (ruR p 2 p.rules.length).length := by simpa using hlt
  rw [dropL_cons hlt] at hT
  have hw := wrap_of (n := (i : Int) + 1) (k := i + 1) (by omega) (by omega)
  have hl := congrArg List.length hT
  simp only [List.length_append] at hl
  obtain ⟨r, hr⟩ : ∃ r, r = (ruR p 2 p.rules.length)[i] := ⟨_, rfl⟩
  obtain ⟨a, b, ha, hb, han, hbn⟩ := ruR_at hlt
  have ha : r.a = (a : Int) := by rw [hr]; exact ha
  have hb : r.b = (b : Int) := by rw [hr]; exact hb
  rw [← hr, ha, hb, Int.toNat_natCast, Int.toNat_natCast] at hT hl
  simp -implicitDefEqProofs only [pkA, ↓reduceIte, Nat.reduceEqDiff, Nat.reduceAdd, Nat.reduceBEq]
  have hd : (emL none (i11 a b)).length = 1 := rfl
  repeat first
   | (simp -implicitDefEqProofs only [pkA, ptA, ↓reduceIte, Nat.reduceEqDiff, Nat.reduceAdd, Nat.reduceBEq, pkM, ha, hb])
   | refine ia_of ti_23 rfl ti_55 (by decide) (Int.natCast_nonneg i) (c := ruC r) (by simp [hr, hlt]) rfl ?_
   | refine call_fn rfl (rHandle_ok _ _) (fun _ => rfl) ?_
   | refine call_fn rfl (rBlob_ok _ _) (fun _ => rfl) ?_
   | refine call_fn rfl (rLeak_ok _) (fun _ => rfl) ?_
   | refine call_fn rfl (rRaw_ok _) (fun _ => rfl) ?_
  refine call_box rfl (add_ok p cur 11 (handleF 0 a) zfa (handleF 0 b) (by omega)) rfl rfl (by simp [bxs]) ?_
  have hx : addX 11 (handleF 0 a) zfa (handleF 0 b) = i11 a b := addX_b (by simp [handleF])
  rw [hx]
  simp -implicitDefEqProofs only [pkA, ↓reduceIte, Nat.reduceEqDiff, Nat.reduceAdd, Nat.reduceBEq, hw]
  exact hnorm (i + 1, cur ++ [i11 a b]) _ ⟨hlt, by rw [List.append_assoc]; exact hT⟩ (by simp only; omega) (le1 rfl (Nat.le_refl _) (Nat.le_refl _) (by simp [FL, up_apply]) (by simp []))
 have hie : i = (ruR p 2 p.rules.length).length := by simp at hge; omega
 subst hie
 rw [List.drop_length, List.flatMap_nil, List.append_nil] at hT
 subst hT
 simp -implicitDefEqProofs only [pkA]
 refine hexit _ _ ?_
 simp -implicitDefEqProofs only [pkA, ↓reduceIte, Nat.reduceEqDiff, Nat.reduceAdd, Nat.reduceBEq]
 refine call_box rfl (rruled_ok p (es ++ t11 p none) 1 (by omega)) rfl rfl (by simp [bxs]) ?_
 have hL2 : (ruR p 1 p.rules.length).length ≤ 1000 := Nat.le_trans ruR_len (by omega)
 simp -implicitDefEqProofs only [pkA, ↓reduceIte, Nat.reduceAdd, Nat.reduceBEq]
 have hf2 : (ruR p 1 p.rules.length).flatMap (fun r : Ru => (fun a b => m12 p none a b) r.a.toNat r.b.toNat) = t12 p none := ruR_flat (D := fun a b => m12 p none a b)
 refine run_loop (fun x : Nat × List In => hdS [(0, .bp 0 0), (2, .c (.sl ((ruR p 1 p.rules.length).map ruC))), (4, i64 x.1)] [lbx p x.2]) (fun x => (ruR p 1 p.rules.length).length - x.1) (fun x => x.1 ≤ (ruR p 1 p.rules.length).length ∧ x.2 ++ ((ruR p 1 p.rules.length).drop x.1).flatMap (fun r : Ru => (fun a b => m12 p none a b) r.a.toNat r.b.toNat) = es ++ t11 p none ++ t12 p none) (0, es ++ t11 p none) ⟨Nat.zero_le _, by rw [List.drop_zero, hf2]⟩ ?_ ?_
 ·exact (le1 rfl (Nat.le_refl _) (Nat.le_refl _) (by simp [FL, up_apply]) (by simp []))
 rintro ⟨i, cur⟩ ⟨hi, hT⟩ R hnorm hexit hret
 simp only at hi hT
 simp -implicitDefEqProofs only [pkA, ptA, ↓reduceIte, Nat.reduceEqDiff, Nat.reduceAdd, Nat.reduceBEq]
 refine vcond_of (fun hlt => ?_) (fun hge => ?_)
 ·have hlt : i < (ruR p 1 p.rules.length).length := by simpa using hlt
  rw [dropL_cons hlt] at hT
  have hw := wrap_of (n := (i : Int) + 1) (k := i + 1) (by omega) (by omega)
  have hl := congrArg List.length hT
  simp only [List.length_append] at hl
  obtain ⟨r, hr⟩ : ∃ r, r = (ruR p 1 p.rules.length)[i] := ⟨_, rfl⟩
  obtain ⟨a, b, ha, hb, han, hbn⟩ := ruR_at hlt
  have ha : r.a = (a : Int) := by rw [hr]; exact ha
  have hb : r.b = (b : Int) := by rw [hr]; exact hb
  rw [← hr, ha, hb, Int.toNat_natCast, Int.toNat_natCast] at hT hl
  simp -implicitDefEqProofs only [pkA, ↓reduceIte, Nat.reduceAdd, Nat.reduceBEq]
  rw [show m12 p none a b = classL p.types.length (fun s0 => emL none (i12 a b s0)) 1 from rfl] at hT hl
  refine run_loop (fun x : Nat × List In => hdS [(0, .bp 0 0), (2, .c (.sl ((ruR p 1 p.rules.length).map ruC))), (4, i64 i), (5, i64 x.1)] [lbx p x.2]) (fun x => p.types.length + 1 - x.1) (fun x => (1 ≤ x.1 ∧ x.1 ≤ p.types.length + 1) ∧ x.2 ++ classL p.types.length (fun s0 => emL none (i12 a b s0)) x.1 = cur ++ classL p.types.length (fun s0 => emL none (i12 a b s0)) 1) (1, cur) ⟨⟨Nat.le_refl _, by omega⟩, rfl⟩ ?_ ?_
  ·exact (le1 rfl (Nat.le_refl _) (Nat.le_refl _) (by simp [FL, up_apply]) (by simp [bxs]))
  rintro ⟨s0, c0⟩ ⟨⟨hs0a, hs0b⟩, hc0⟩ R0 hnorm0 hexit0 hret0
  simp only at hs0a hs0b hc0
  have hl0 := congrArg List.length hc0
  simp only [List.length_append] at hl0
  simp -implicitDefEqProofs only [pkA, ptA, ↓reduceIte, Nat.reduceEqDiff, Nat.reduceAdd, Nat.reduceBEq, Nat.reduceMul, Nat.reduceLT, pkM]
  refine vcond_of (fun hlt0 => ?_) (fun hge0 => ?_)
  ·have hlt0 : s0 ≤ p.types.length := by simp at hlt0; omega
   rw [classL_cons hlt0] at hc0 hl0
   simp only [List.length_append] at hl0
   have hw0 := wrap_of (n := (s0 : Int) + 1) (k := s0 + 1) (by omega) (by omega)
   simp -implicitDefEqProofs only [pkA, ↓reduceIte, Nat.reduceEqDiff, Nat.reduceAdd, Nat.reduceBEq]
   have hd : (emL none (i12 a b s0)).length = 1 := rfl
   repeat first
    | (simp -implicitDefEqProofs only [pkA, ptA, ↓reduceIte, Nat.reduceEqDiff, Nat.reduceAdd, Nat.reduceBEq, pkM, ha, hb])
    | refine ia_of ti_23 rfl ti_55 (by decide) (Int.natCast_nonneg i) (c := ruC r) (by simp [hr, hlt]) rfl ?_
    | refine call_fn rfl (rHandle_ok _ _) (fun _ => rfl) ?_
    | refine call_fn rfl (rBlob_ok _ _) (fun _ => rfl) ?_
    | refine call_fn rfl (rLeak_ok _) (fun _ => rfl) ?_
    | refine call_fn rfl (rRaw_ok _) (fun _ => rfl) ?_
   refine call_box rfl (add_ok p c0 12 (handleF 0 a) (handleF s0 b) (leakF s0) (by omega)) rfl rfl (by simp [bxs]) ?_
   have hx : addX 12 (handleF 0 a) (handleF s0 b) (leakF s0) = i12 a b s0 := addX_c (by simp [handleF]) (by simp [handleF])
   rw [hx]
   simp -implicitDefEqProofs only [pkA, ↓reduceIte, Nat.reduceEqDiff, Nat.reduceAdd, Nat.reduceBEq, hw0]
   exact hnorm0 (s0 + 1, c0 ++ [i12 a b s0]) _ ⟨⟨by omega, by omega⟩, by rw [List.append_assoc]; exact hc0⟩ (by simp only; omega) (le1 rfl (Nat.le_refl _) (Nat.le_refl _) (by simp [FL, up_apply]) (by simp []))
  have hie0 : s0 = p.types.length + 1 := by simp at hge0; omega
  subst hie0
  rw [classL_end (Nat.lt_succ_self _), List.append_nil] at hc0
  subst hc0
  simp -implicitDefEqProofs only [pkA]
  refine hexit0 _ _ ?_
  simp -implicitDefEqProofs only [pkA, ↓reduceIte, Nat.reduceEqDiff, Nat.reduceAdd, Nat.reduceBEq, hw]
  exact hnorm (i + 1, cur ++ classL p.types.length (fun s0 => emL none (i12 a b s0)) 1) _ ⟨hlt, by rw [List.append_assoc]; exact hT⟩ (by simp only; omega) (le1 rfl (Nat.le_refl _) (Nat.le_refl _) (by simp [FL, up_apply]) (by simp [bxs]))
 have hie : i = (ruR p 1 p.rules.length).length := by simp at hge; omega
 subst hie
 rw [List.drop_length, List.flatMap_nil, List.append_nil] at hT
 subst hT
 simp -implicitDefEqProofs only [pkA]
 refine hexit _ _ ?_
 simp -implicitDefEqProofs only [pkA, ↓reduceIte, Nat.reduceAdd, Nat.reduceBEq]
 refine run_loop (fun x : Nat × List In => hdS [(0, .bp 0 0), (6, i64 x.1)] [lbx p x.2]) (fun x => p.types.length - x.1) (fun x => x.1 ≤ p.types.length ∧ x.2 ++ flagL p none 0 (fun t => m13 p none t) x.1 = es ++ t11 p none ++ t12 p none ++ t13 p none) (0, es ++ t11 p none ++ t12 p none) ⟨Nat.zero_le _, rfl⟩ ?_ ?_
 ·exact (le1 rfl (Nat.le_refl _) (Nat.le_refl _) (by simp [FL, up_apply]) (by simp [bxs]))
 rintro ⟨t, cur⟩ ⟨hi, hT⟩ R hnorm hexit hret
 simp only at hi hT
 simp -implicitDefEqProofs only [pkA, ptA, ↓reduceIte, Nat.reduceEqDiff, Nat.reduceAdd, Nat.reduceBEq, Nat.reduceMul, Nat.reduceLT, pkM]
 refine vcond_of (fun hlt => ?_) (fun hge => ?_)
 ·have hlt : t < p.types.length := by simpa using hlt
  rw [flag0_cons hlt] at hT
  have hw := wrap_of (n := (t : Int) + 1) (k := t + 1) (by omega) (by omega)
  have hl := congrArg List.length hT
  simp only [List.length_append] at hl
  rw [show m13 p none t = classL p.types.length (fun s0 => emL none (i13 t s0)) 1 from rfl] at hT hl
  simp -implicitDefEqProofs only [pkA, ↓reduceIte, Nat.reduceAdd, Nat.reduceBEq]
  refine run_loop (fun x : Nat × List In => hdS [(0, .bp 0 0), (6, i64 t), (7, i64 x.1)] [lbx p x.2]) (fun x => p.types.length + 1 - x.1) (fun x => (1 ≤ x.1 ∧ x.1 ≤ p.types.length + 1) ∧ x.2 ++ classL p.types.length (fun s0 => emL none (i13 t s0)) x.1 = cur ++ classL p.types.length (fun s0 => emL none (i13 t s0)) 1) (1, cur) ⟨⟨Nat.le_refl _, by omega⟩, rfl⟩ ?_ ?_
  ·exact (le1 rfl (Nat.le_refl _) (Nat.le_refl _) (by simp [FL, up_apply]) (by simp [bxs]))
  rintro ⟨s0, c0⟩ ⟨⟨hs0a, hs0b⟩, hc0⟩ R0 hnorm0 hexit0 hret0
  simp only at hs0a hs0b hc0
  have hl0 := congrArg List.length hc0
  simp only [List.length_append] at hl0
  simp -implicitDefEqProofs only [pkA, ptA, ↓reduceIte, Nat.reduceEqDiff, Nat.reduceAdd, Nat.reduceBEq, Nat.reduceMul, Nat.reduceLT, pkM]
  refine vcond_of (fun hlt0 => ?_) (fun hge0 => ?_)
  ·have hlt0 : s0 ≤ p.types.length := by simp at hlt0; omega
   rw [classL_cons hlt0] at hc0 hl0
   simp only [List.length_append] at hl0
   have hw0 := wrap_of (n := (s0 : Int) + 1) (k := s0 + 1) (by omega) (by omega)
   simp -implicitDefEqProofs only [pkA, ↓reduceIte, Nat.reduceEqDiff, Nat.reduceAdd, Nat.reduceBEq]
   have hd : (emL none (i13 t s0)).length = 1 := rfl
   repeat first
    | (simp -implicitDefEqProofs only [pkA, ↓reduceIte, Nat.reduceEqDiff, Nat.reduceAdd, Nat.reduceBEq])
    | fail
    | refine call_fn rfl (rHandle_ok _ _) (fun _ => rfl) ?_
    | refine call_fn rfl (rBlob_ok _ _) (fun _ => rfl) ?_
    | refine call_fn rfl (rLeak_ok _) (fun _ => rfl) ?_
    | refine call_fn rfl (rRaw_ok _) (fun _ => rfl) ?_
   refine call_box rfl (add_ok p c0 13 (leakF s0) (handleF s0 t) (handleF 0 t) (by omega)) rfl rfl (by simp [bxs]) ?_
   have hx : addX 13 (leakF s0) (handleF s0 t) (handleF 0 t) = i13 t s0 := addX_c (by simp [leakF]) (by simp [handleF])
   rw [hx]
   simp -implicitDefEqProofs only [pkA, ↓reduceIte, Nat.reduceEqDiff, Nat.reduceAdd, Nat.reduceBEq, hw0]
   exact hnorm0 (s0 + 1, c0 ++ [i13 t s0]) _ ⟨⟨by omega, by omega⟩, by rw [List.append_assoc]; exact hc0⟩ (by simp only; omega) (le1 rfl (Nat.le_refl _) (Nat.le_refl _) (by simp [FL, up_apply]) (by simp []))
  have hie0 : s0 = p.types.length + 1 := by simp at hge0; omega
  subst hie0
  rw [classL_end (Nat.lt_succ_self _), List.append_nil] at hc0
  subst hc0
  simp -implicitDefEqProofs only [pkA]
  refine hexit0 _ _ ?_
  simp -implicitDefEqProofs only [pkA, ↓reduceIte, Nat.reduceEqDiff, Nat.reduceAdd, Nat.reduceBEq, hw]
  exact hnorm (t + 1, cur ++ classL p.types.length (fun s0 => emL none (i13 t s0)) 1) _ ⟨hlt, by rw [List.append_assoc]; exact hT⟩ (by simp only; omega) (le1 rfl (Nat.le_refl _) (Nat.le_refl _) (by simp [FL, up_apply]) (by simp [bxs]))
 have hie : t = p.types.length := by simp at hge; omega
 subst hie
 rw [flagL_end, List.append_nil] at hT
 subst hT
 simp -implicitDefEqProofs only [pkA]
 refine hexit _ _ ?_
 simp -implicitDefEqProofs only [pkA, ptA, ↓reduceIte, Nat.reduceEqDiff, Nat.reduceAdd, Nat.reduceBEq]
 refine call_fn rfl (rBlob_ok _ _) (fun _ => rfl) ?_
 simp -implicitDefEqProofs only [pkA, ↓reduceIte, Nat.reduceEqDiff, Nat.reduceAdd, Nat.reduceBEq]
 refine call_box rfl (add_ok p (es ++ t11 p none ++ t12 p none ++ t13 p none) 14 zfa zfa (blobF 0 0) (by simp only [List.length_append]; omega)) rfl rfl (by simp [bxs]) ?_
 have hx : addX 14 zfa zfa (blobF 0 0) = i14 := addX_a
 rw [hx]
 simp -implicitDefEqProofs only [pkA, ↓reduceIte, Nat.reduceAdd, Nat.reduceBEq]
 rw [show t15 p none = classL p.types.length (fun s0 => emL none (i15 s0)) 1 from rfl] at hlen
 rw [show t14 none = [i14] from rfl] at hlen
 have h14 : [i14].length = 1 := rfl
 refine run_loop (fun x : Nat × List In => hdS [(0, .bp 0 0), (8, i64 x.1)] [lbx p x.2]) (fun x => p.types.length + 1 - x.1) (fun x => (1 ≤ x.1 ∧ x.1 ≤ p.types.length + 1) ∧ x.2 ++ classL p.types.length (fun s0 => emL none (i15 s0)) x.1 = (es ++ t11 p none ++ t12 p none ++ t13 p none ++ [i14]) ++ classL p.types.length (fun s0 => emL none (i15 s0)) 1) (1, (es ++ t11 p none ++ t12 p none ++ t13 p none ++ [i14])) ⟨⟨Nat.le_refl _, by omega⟩, rfl⟩ ?_ ?_
 ·exact (le1 rfl (Nat.le_refl _) (Nat.le_refl _) (by simp [FL, up_apply]) (by simp []))
 rintro ⟨s0, c0⟩ ⟨⟨hs0a, hs0b⟩, hc0⟩ R0 hnorm0 hexit0 hret0
 simp only at hs0a hs0b hc0
 have hl0 := congrArg List.length hc0
 simp only [List.length_append] at hl0
 simp -implicitDefEqProofs only [pkA, ptA, ↓reduceIte, Nat.reduceEqDiff, Nat.reduceAdd, Nat.reduceBEq, Nat.reduceMul, Nat.reduceLT, pkM]
 refine vcond_of (fun hlt0 => ?_) (fun hge0 => ?_)
 ·have hlt0 : s0 ≤ p.types.length := by simp at hlt0; omega
  rw [classL_cons hlt0] at hc0 hl0
  simp only [List.length_append] at hl0
  have hw0 := wrap_of (n := (s0 : Int) + 1) (k := s0 + 1) (by omega) (by omega)
  simp -implicitDefEqProofs only [pkA, ↓reduceIte, Nat.reduceEqDiff, Nat.reduceAdd, Nat.reduceBEq]
  have hd : (emL none (i15 s0)).length = 1 := rfl
  repeat first
   | (simp -implicitDefEqProofs only [pkA, ptA, ↓reduceIte, Nat.reduceEqDiff, Nat.reduceAdd, Nat.reduceBEq])
   | fail
   | refine call_fn rfl (rHandle_ok _ _) (fun _ => rfl) ?_
   | refine call_fn rfl (rBlob_ok _ _) (fun _ => rfl) ?_
   | refine call_fn rfl (rLeak_ok _) (fun _ => rfl) ?_
   | refine call_fn rfl (rRaw_ok _) (fun _ => rfl) ?_
  refine call_box rfl (add_ok p c0 15 (blobF 0 s0) zfa (leakF s0) (by omega)) rfl rfl (by simp [bxs]) ?_
  have hx : addX 15 (blobF 0 s0) zfa (leakF s0) = i15 s0 := addX_b (by simp [blobF])
  rw [hx]
  simp -implicitDefEqProofs only [pkA, ↓reduceIte, Nat.reduceEqDiff, Nat.reduceAdd, Nat.reduceBEq, hw0]
  exact hnorm0 (s0 + 1, c0 ++ [i15 s0]) _ ⟨⟨by omega, by omega⟩, by rw [List.append_assoc]; exact hc0⟩ (by simp only; omega) (le1 rfl (Nat.le_refl _) (Nat.le_refl _) (by simp [FL, up_apply]) (by simp []))
 have hie0 : s0 = p.types.length + 1 := by simp at hge0; omega
 subst hie0
 rw [classL_end (Nat.lt_succ_self _), List.append_nil] at hc0
 subst hc0
 simp -implicitDefEqProofs only [pkA]
 refine hexit0 _ _ ?_
 simp -implicitDefEqProofs only [pkA, ↓reduceIte]
 exact end1n rfl (Nat.le_refl _) (by simp [bxs]; rfl)
end Go.Proofs.YthgmobkmmapgoaaGreat
/- Layer 17, the specification: all instances. -/
namespace Go.Proofs.YthgmobkmmapgoaaGreat
open Go Go.Vl
variable {G : Gl}
set_option maxRecDepth 4000
theorem lbx_ren {p : Pol} {es : List In} {ρ : Nat → Nat} : (lbx p es).map (V.ren ρ) = lbx p es := rfl
theorem list_call {p : Pol} {es es' : List In} {g : FuncId} {fr : Nat → V} {bx : Nat → List V} {K : Vl.S → V → Prop} (h : FnB Tryz.prog G g [.bp 0 0] [lbx p es] (.tup []) [lbx p es']) (h1 : bx 1 = lbx p es)
  (hK : ∀ bx' : Nat → List V, bx' 0 = bx 0 → bx' 1 = lbx p es' → K ⟨fr, bx', 2⟩ (.tup [])) : vcallB Tryz.prog G ⟨fr, bx, 2⟩ (.c (.fn (.func g) [] [])) [.bp 1 0] K := by
 refine callB_sel [1] rfl h (by simp [V.fz, V.ren, rho]) rfl (by decide) rfl ⟨⟨show 1 < 2 by decide, by rw [lbx_ren]; exact h1⟩, trivial⟩ ?_
 intro bx' hoth hat
 exact hK bx' (hoth 0 (by decide)) (by rw [← lbx_ren (p := p) (es := es')]; exact hat 0 1 _ rfl rfl)
theorem allL_eq {p : Pol} {o : Option Fa} : allL p o = [] ++ t1 p o ++ t2 p o ++ t3 p o ++ t4 p o ++ t5 p o ++ t6 p o ++ t7 p o ++ t8 p o ++ t9 p o ++ t10 p o ++ t11 p o ++ t12 p o ++ t13 p o ++ t14 o ++ t15 p o := by
 unfold allL tops
 simp only [List.flatten_cons, List.flatten_nil, List.append_nil, List.nil_append, List.append_assoc]
set_option maxHeartbeats 1000000 in
theorem rInst_ok (p : Pol) (hn : p.types.length ≤ 1000) (hr : p.rules.length ≤ 1000) (hlen : (allL p none).length ≤ 20000) : FnOK Tryz.prog G 25 [.agg (poC p)] (.c (.sl ((allL p none).map inC))) := by
 have hl := hlen
 rw [allL_eq] at hl
 simp only [List.length_append] at hl
 refine FnOK_by (rs := [.tmp 2]) false [1000011, 1000013, 1000015, 2500008] mixed Tryz.func25 rfl rfl rfl rfl (by kernel_rfl) (by simp) rfl rfl ?_
 simp -implicitDefEqProofs only [pkA, ptA, ↓reduceIte, Nat.reduceEqDiff, Nat.reduceAdd, Nat.reduceBEq, Nat.reduceMul, Nat.reduceLT, Nat.reduceLeDiff, pkM]
 refine bldZK_of (l := lbx p []) (by rw [show (p.types.map tyC).length = p.types.length from List.length_map ..]; rfl) ?_
 have hbm : ∀ {t d : Nat} {fr : Nat → V} {bx : Nat → List V} {nb : Nat} {K : Vl.S → Prop}, fr t = .mag (lbx p []) → boxK (some t) d (.mag (lbx p [])) ⟨fr, bx, nb⟩ K = K ⟨up fr d (.bp nb 0), up bx nb (lbx p []), nb + 1⟩ := fun h => box_mag h
 simp -implicitDefEqProofs only [pkA, ↓reduceIte, Nat.reduceAdd, Nat.reduceBEq, hbm]
 refine list_call (making_ok p [] hn hr (by simp only [List.length_append, List.length_nil]; omega)) rfl ?_
 intro bx1 h10 h11
 simp -implicitDefEqProofs only [pkA, ↓reduceIte, Nat.reduceEqDiff, Nat.reduceAdd, Nat.reduceBEq]
 refine list_call (rusing_ok p _ hn hr (by simp only [List.length_append, List.length_nil]; omega)) h11 ?_
 intro bx2 h20 h21
 simp -implicitDefEqProofs only [pkA, ↓reduceIte, Nat.reduceEqDiff, Nat.reduceAdd, Nat.reduceBEq]
 refine list_call (knowing_ok p _ hn hr (by simp only [List.length_append, List.length_nil]; omega)) h21 ?_
 intro bx3 h30 h31
 rw [← allL_eq] at h31
 have lb5 : ∀ nb q K, ldB nb q (lbx p (allL p none)) 5 K = (q < nb ∧ K (.c (.sl ((allL p none).map inC)))) := fun nb q K => by
  have hne : (allL p none).isEmpty = false := by
   rw [allL_eq]; simp [t14, em_n]
  unfold ldB lbx owI
  rw [hne]; rfl
 simp -implicitDefEqProofs only [pkA, ptA, ↓reduceIte, Nat.reduceEqDiff, Nat.reduceAdd, Nat.reduceBEq, Nat.reduceMul, Nat.reduceLT, pkM, h31, lb5]
