/- The functions behind slices.SortStableFunc: what they do to a box that holds a list. -/
import Derived.Test.YtbhfbbfifmnniaaDoorVlPol
import Derived.Test.YtbhfbbfifmnniaaDoorVlSortB
set_option linter.unusedSimpArgs false
set_option linter.unusedVariables false
namespace Go.Proofs.YtbhfbbfifmnniaaDoor
open Go Go.Vl

variable {G : Gl}

set_option maxRecDepth 100000 in
set_option maxHeartbeats 2000000 in
theorem swapRange_ru (P X Q Y S : List Ru) (a b n : Nat) (ha : P.length = a) (hx : X.length = n) (hy : Y.length = n) (hb : a + n + Q.length = b) (L cap : Nat) (hL : L = (P ++ (X ++ (Q ++ (Y ++ S)))).length) (hbig : L ≤ 4611686018427387904) (f : C) :
    FnB Tryd.prog G 69 [.ms 0 0 L cap 3, i64 a, i64 b, i64 n, .c f] [flb ruC (P ++ (X ++ (Q ++ (Y ++ S))))] (.tup []) [flb ruC (P ++ (Y ++ (Q ++ (X ++ S))))] := by
  refine FnB_by (rs := []) (k := 1) [3000001] mixed Tryd.func69 rfl rfl rfl rfl (by kernel_rfl) (by simp) rfl rfl rfl (argsB_ok rfl) (by simp) ?_
  simp only [List.length_append] at hL
  simp -implicitDefEqProofs only [pkA, ptA, ↓reduceIte, Nat.reduceEqDiff, Nat.reduceAdd, Nat.reduceBEq, Nat.reduceMul, Nat.reduceLT, Nat.reduceLeDiff, isMb_flb, pkP, List.length_map]
  refine run_loop (fun t : List Ru × List Ru × List Ru × List Ru => hdS [(0, .ms 0 0 L cap 3), (1, i64 a), (2, i64 b), (3, i64 n), (10, i64 t.1.length)] [flb ruC (P ++ (t.2.2.1 ++ (t.2.1 ++ (Q ++ (t.1 ++ (t.2.2.2 ++ S))))))])
    (fun t => t.2.1.length) (fun t => t.1 ++ t.2.1 = X ∧ t.2.2.1 ++ t.2.2.2 = Y ∧ t.1.length = t.2.2.1.length) ([], X, [], Y) ⟨rfl, rfl, rfl⟩ ?_ ?_
  · exact le_box rfl (by decide) (by simp) (by simp [FL, up_apply]) (by simp [bxs])
  rintro ⟨X1, X2, Y1, Y2⟩ ⟨h1, h2, h3⟩ R hnorm hexit hret
  simp only at h1 h2 h3
  subst h1; subst h2
  simp only [List.length_append] at hx hy hL
  simp -implicitDefEqProofs only [pkA, ptA, ↓reduceIte, Nat.reduceEqDiff, Nat.reduceAdd, Nat.reduceBEq, Nat.reduceMul, Nat.reduceLT, Nat.reduceLeDiff, isMb_flb, pkP, List.length_map]
  refine vcond_of (fun hlt => ?_) (fun hge => ?_)
  · have hlt : X1.length < n := by simpa using hlt
    obtain ⟨x, X2, rfl⟩ : ∃ x t, X2 = x :: t := List.exists_cons_of_ne_nil (by rintro rfl; simp at hx; omega)
    obtain ⟨y, Y2, rfl⟩ : ∃ x t, Y2 = x :: t := List.exists_cons_of_ne_nil (by rintro rfl; simp at hy; omega)
    simp only [List.length_cons] at hx hy hL
    have w1 : IntKind.i64.wrap ((a : Int) + X1.length) = (a + X1.length : Nat) := wrap_of (by omega) (by omega)
    have w2 : IntKind.i64.wrap ((b : Int) + X1.length) = (b + X1.length : Nat) := wrap_of (by omega) (by omega)
    have w3 : IntKind.i64.wrap ((X1.length : Int) + 1) = (X1.length + 1 : Nat) := wrap_of (by omega) (by omega)
    have e0 : P ++ (Y1 ++ ((x :: X2) ++ (Q ++ (X1 ++ ((y :: Y2) ++ S))))) = (P ++ Y1) ++ x :: ((X2 ++ (Q ++ X1)) ++ y :: (Y2 ++ S)) := by simp
    have hi : (P ++ Y1).length = a + X1.length := by simp; omega
    have hj : a + X1.length + 1 + (X2 ++ (Q ++ X1)).length = b + X1.length := by simp; omega
    have g1 : ((P ++ Y1) ++ x :: ((X2 ++ (Q ++ X1)) ++ y :: (Y2 ++ S)))[a + X1.length]? = some x := get_mid hi
    have g2 : ((P ++ Y1) ++ x :: ((X2 ++ (Q ++ X1)) ++ y :: (Y2 ++ S)))[b + X1.length]? = some y := by
      have : (P ++ Y1) ++ x :: ((X2 ++ (Q ++ X1)) ++ y :: (Y2 ++ S)) = ((P ++ Y1) ++ x :: (X2 ++ (Q ++ X1))) ++ y :: (Y2 ++ S) := by simp
      rw [this]; exact get_mid (by simp only [List.length_append, List.length_cons] at hi hj ⊢; omega)
    rw [e0]
    simp -implicitDefEqProofs only [pkA, ptA, ↓reduceIte, Nat.reduceEqDiff, Nat.reduceAdd, Nat.reduceBEq, Nat.reduceMul, Nat.reduceLT, Nat.reduceLeDiff, isMb_flb, pkP, List.length_map, w1, w2]
    refine ix_flb ti_23 rfl ti_40 rfl (by decide) rfl (by omega) ?_
    simp -implicitDefEqProofs only [pkA, ptA, ↓reduceIte, Nat.reduceEqDiff, Nat.reduceAdd, Nat.reduceBEq, Nat.reduceMul, Nat.reduceLT, Nat.reduceLeDiff, isMb_flb, pkP, List.length_map, w1, w2]
    refine ld_flb ruC_len rfl (by decide) g2 ?_
    simp -implicitDefEqProofs only [pkA, ptA, ↓reduceIte, Nat.reduceEqDiff, Nat.reduceAdd, Nat.reduceBEq, Nat.reduceMul, Nat.reduceLT, Nat.reduceLeDiff, isMb_flb, pkP, List.length_map, w1, w2]
    refine ix_flb ti_23 rfl ti_40 rfl (by decide) rfl (by omega) ?_
    simp -implicitDefEqProofs only [pkA, ptA, ↓reduceIte, Nat.reduceEqDiff, Nat.reduceAdd, Nat.reduceBEq, Nat.reduceMul, Nat.reduceLT, Nat.reduceLeDiff, isMb_flb, pkP, List.length_map, w1, w2]
    refine ld_flb ruC_len rfl (by decide) g1 ?_
    simp -implicitDefEqProofs only [pkA, ptA, ↓reduceIte, Nat.reduceEqDiff, Nat.reduceAdd, Nat.reduceBEq, Nat.reduceMul, Nat.reduceLT, Nat.reduceLeDiff, isMb_flb, pkP, List.length_map, w1, w2]
    refine ix_flb ti_23 rfl ti_40 rfl (by decide) rfl (by omega) ?_
    have hl0 : ((P ++ Y1) ++ x :: ((X2 ++ (Q ++ X1)) ++ y :: (Y2 ++ S))).length = L := by simp only [List.length_append, List.length_cons]; omega
    obtain ⟨c1, s1⟩ := stq (i := a + X1.length) (y := y) ruC_len (by rw [hl0]; omega) (Eq.refl (((P ++ Y1) ++ x :: ((X2 ++ (Q ++ X1)) ++ y :: (Y2 ++ S))).set (a + X1.length) y))
    obtain ⟨c2, s2⟩ := stq (i := b + X1.length) (y := x) ruC_len (by rw [List.length_set, hl0]; omega) (swap_mid hi hj)
    simp -implicitDefEqProofs only [pkA, ptA, ↓reduceIte, Nat.reduceEqDiff, Nat.reduceAdd, Nat.reduceBEq, Nat.reduceMul, Nat.reduceLT, Nat.reduceLeDiff, isMb_flb, pkP, List.length_map, w1, w2, c1, s1]
    refine ix_flb ti_23 rfl ti_40 rfl (by decide) rfl (by omega) ?_
    simp -implicitDefEqProofs only [pkA, ptA, ↓reduceIte, Nat.reduceEqDiff, Nat.reduceAdd, Nat.reduceBEq, Nat.reduceMul, Nat.reduceLT, Nat.reduceLeDiff, isMb_flb, pkP, List.length_map, w3, c2, s2]
    refine hnorm (X1 ++ [x], X2, Y1 ++ [y], Y2) _ ⟨by simp, by simp, by simp [h3]⟩ (by simp) (le_box rfl (by decide) (by simp) (by simp [FL, up_apply]) (by simp [bxs]))
  · have : X2 = [] := List.eq_nil_of_length_eq_zero (by simp at hge; omega)
    subst this
    have : Y2 = [] := List.eq_nil_of_length_eq_zero (by simp at hge hx; omega)
    subst this
    simp -implicitDefEqProofs only [pkA, ptA, ↓reduceIte, Nat.reduceEqDiff, Nat.reduceAdd, Nat.reduceBEq, Nat.reduceMul, Nat.reduceLT, Nat.reduceLeDiff, isMb_flb, pkP, List.length_map]
    refine hexit _ _ ?_
    simp -implicitDefEqProofs only [pkA, ptA, ↓reduceIte, Nat.reduceEqDiff, Nat.reduceAdd, Nat.reduceBEq, Nat.reduceMul, Nat.reduceLT, Nat.reduceLeDiff, isMb_flb, pkP, List.length_map]
    exact end_box rfl (by decide) (by simp) (by simp [bxs])

set_option maxRecDepth 100000 in
set_option maxHeartbeats 2000000 in
theorem rotate_ru (P A B S : List Ru) (a m b : Nat) (ha : P.length = a) (hm : a + A.length = m) (hb : m + B.length = b) (hA : A ≠ []) (hB : B ≠ []) (L cap : Nat) (hL : L = (P ++ (A ++ (B ++ S))).length) (hbig : L ≤ 4611686018427387904) (f : C) :
    FnB Tryd.prog G 67 [.ms 0 0 L cap 3, i64 a, i64 m, i64 b, .c f] [flb ruC (P ++ (A ++ (B ++ S)))] (.tup []) [flb ruC (P ++ (B ++ (A ++ S)))] := by
  refine FnB_by (rs := []) (k := 1) [1000031, 1000046, 1000057, 3000001] mixed Tryd.func67 rfl rfl rfl rfl (by kernel_rfl) (by simp) rfl rfl rfl (argsB_ok rfl) (by simp) ?_
  simp only [List.length_append] at hL
  have wa : IntKind.i64.wrap ((m : Int) - a) = (A.length : Nat) := wrap_of (by omega) (by omega)
  have wb : IntKind.i64.wrap ((b : Int) - m) = (B.length : Nat) := wrap_of (by omega) (by omega)
  simp -implicitDefEqProofs only [pkA, ptA, ↓reduceIte, Nat.reduceEqDiff, Nat.reduceAdd, Nat.reduceBEq, Nat.reduceMul, Nat.reduceLT, Nat.reduceLeDiff, isMb_flb, pkP, List.length_map, wa, wb]
  refine run_loop (fun t : List Ru × List Ru × List Ru × List Ru => hdS [(0, .ms 0 0 L cap 3), (2, i64 m), (4, .c f), (10, i64 t.2.1.length), (11, i64 t.2.2.1.length)] [flb ruC (t.1 ++ (t.2.1 ++ (t.2.2.1 ++ t.2.2.2)))])
    (fun t => t.2.1.length + t.2.2.1.length) (fun t => t.1.length + t.2.1.length = m ∧ t.2.1 ≠ [] ∧ t.2.2.1 ≠ [] ∧ t.1 ++ (t.2.2.1 ++ (t.2.1 ++ t.2.2.2)) = P ++ (B ++ (A ++ S))) (P, A, B, S) ⟨by simp only; omega, hA, hB, rfl⟩ ?_ ?_
  · exact le_box rfl (by decide) (by simp) (by simp [FL, up_apply]) (by simp [bxs])
  rintro ⟨P', A', B', S'⟩ ⟨h1, h2, h3, h4⟩ R hnorm hexit hret
  simp only at h1 h2 h3 h4
  have hlen := congrArg List.length h4
  simp only [List.length_append] at hlen
  have pA := List.length_pos_iff.2 h2
  have pB := List.length_pos_iff.2 h3
  have w1 : IntKind.i64.wrap ((m : Int) - A'.length) = (P'.length : Nat) := wrap_of (by omega) (by omega)
  simp -implicitDefEqProofs only [pkA, ptA, ↓reduceIte, Nat.reduceEqDiff, Nat.reduceAdd, Nat.reduceBEq, Nat.reduceMul, Nat.reduceLT, Nat.reduceLeDiff, isMb_flb, pkP, List.length_map, w1]
  refine vcond_of (fun hne => ?_) (fun heq => ?_)
  · have hne : A'.length ≠ B'.length := by simp at hne; omega
    simp -implicitDefEqProofs only [pkA, ptA, ↓reduceIte, Nat.reduceEqDiff, Nat.reduceAdd, Nat.reduceBEq, Nat.reduceMul, Nat.reduceLT, Nat.reduceLeDiff, isMb_flb, pkP, List.length_map, w1]
    refine vcond_of (fun hgt => ?_) (fun hle => ?_)
    · have hgt : B'.length < A'.length := by simpa using hgt
      have w2 : IntKind.i64.wrap ((A'.length : Int) - B'.length) = (A'.length - B'.length : Nat) := wrap_of (by omega) (by omega)
      obtain ⟨X, A2, rfl, hX⟩ : ∃ X A2, A' = X ++ A2 ∧ X.length = B'.length := ⟨A'.take B'.length, A'.drop B'.length, (List.take_append_drop _ _).symm, by simp; omega⟩
      simp only [List.length_append] at *
      simp -implicitDefEqProofs only [pkA, ptA, ↓reduceIte, Nat.reduceEqDiff, Nat.reduceAdd, Nat.reduceBEq, Nat.reduceMul, Nat.reduceLT, Nat.reduceLeDiff, isMb_flb, pkP, List.length_map, w1]
      refine call_box rfl (swapRange_ru P' X A2 B' S' P'.length m B'.length rfl hX rfl (by omega) L cap (by simp only [List.length_append]; omega) hbig f) rfl rfl (by simp [bxs]) ?_
      simp -implicitDefEqProofs only [pkA, ptA, ↓reduceIte, Nat.reduceEqDiff, Nat.reduceAdd, Nat.reduceBEq, Nat.reduceMul, Nat.reduceLT, Nat.reduceLeDiff, isMb_flb, pkP, List.length_map, w2]
      refine hnorm (P' ++ B', A2, X, S') _ ⟨by simp; omega, ?_, ?_, by rw [← h4]; simp⟩ (by simp only; omega) (le_box rfl (by decide) (by simp) ?_ (by simp [bxs]))
      · rintro rfl; simp at hgt; omega
      · rintro rfl; simp at hX; omega
      · have : X.length + A2.length - B'.length = A2.length := by omega
        simp [FL, up_apply, hX, this]
    · have hle : A'.length < B'.length := by simp at hle; omega
      have w2 : IntKind.i64.wrap ((B'.length : Int) - A'.length) = (B'.length - A'.length : Nat) := wrap_of (by omega) (by omega)
      have w3 : IntKind.i64.wrap ((m : Int) + B'.length) = (m + B'.length : Nat) := wrap_of (by omega) (by omega)
      have w4 : IntKind.i64.wrap (((m + B'.length : Nat) : Int) - A'.length) = (m + B'.length - A'.length : Nat) := wrap_of (by omega) (by omega)
      obtain ⟨B2, Y, rfl, hY⟩ : ∃ B2 Y, B' = B2 ++ Y ∧ Y.length = A'.length := ⟨B'.take (B'.length - A'.length), B'.drop (B'.length - A'.length), (List.take_append_drop _ _).symm, by simp; omega⟩
      simp only [List.length_append] at *
      simp -implicitDefEqProofs only [pkA, ptA, ↓reduceIte, Nat.reduceEqDiff, Nat.reduceAdd, Nat.reduceBEq, Nat.reduceMul, Nat.reduceLT, Nat.reduceLeDiff, isMb_flb, pkP, List.length_map, w1, w3, w4]
      refine call_box rfl (swapRange_ru P' A' B2 Y S' P'.length (m + (B2.length + Y.length) - A'.length) A'.length rfl rfl hY (by omega) L cap (by simp only [List.length_append]; omega) hbig f) rfl rfl (by simp [bxs]) ?_
      simp -implicitDefEqProofs only [pkA, ptA, ↓reduceIte, Nat.reduceEqDiff, Nat.reduceAdd, Nat.reduceBEq, Nat.reduceMul, Nat.reduceLT, Nat.reduceLeDiff, isMb_flb, pkP, List.length_map, w2]
      refine hnorm (P', Y, B2, A' ++ S') _ ⟨by simp; omega, ?_, ?_, by rw [← h4]; simp⟩ (by simp only; omega) (le_box rfl (by decide) (by simp) ?_ (by simp [bxs]))
      · rintro rfl; simp at hY; omega
      · rintro rfl; simp at hle; omega
      · have : B2.length + Y.length - A'.length = B2.length := by omega
        simp [FL, up_apply, hY, this]
  · have heq : A'.length = B'.length := by simp at heq; omega
    simp -implicitDefEqProofs only [pkA, ptA, ↓reduceIte, Nat.reduceEqDiff, Nat.reduceAdd, Nat.reduceBEq, Nat.reduceMul, Nat.reduceLT, Nat.reduceLeDiff, isMb_flb, pkP, List.length_map, w1]
    refine hexit _ _ ?_
    simp -implicitDefEqProofs only [pkA, ptA, ↓reduceIte, Nat.reduceEqDiff, Nat.reduceAdd, Nat.reduceBEq, Nat.reduceMul, Nat.reduceLT, Nat.reduceLeDiff, isMb_flb, pkP, List.length_map, w1]
    refine call_box rfl (swapRange_ru P' A' [] B' S' P'.length m A'.length rfl rfl heq.symm (by simp; omega) L cap (by simp only [List.length_append, List.length_nil]; omega) hbig f) rfl rfl (by simp [bxs]) ?_
    simp -implicitDefEqProofs only [pkA, ptA, ↓reduceIte, Nat.reduceEqDiff, Nat.reduceAdd, Nat.reduceBEq, Nat.reduceMul, Nat.reduceLT, Nat.reduceLeDiff, isMb_flb, pkP, List.length_map]
    exact end_box rfl (by decide) (by simp) (by simp [bxs, h4])

set_option maxRecDepth 100000 in
set_option maxHeartbeats 2000000 in
theorem insertion_ru (cm : Ru → Ru → Int) (hc : Cmp cm) (g : FuncId) (caps : List C) (hcm : ∀ x y, FnOK Tryd.prog G g (.agg (ruC x) :: .agg (ruC y) :: caps.map .c) (i64 (cm x y)))
    (P A S : List Ru) (a b : Nat) (ha : P.length = a) (hb : a + A.length = b) (L cap : Nat) (hL : L = (P ++ (A ++ S)).length) (hbig : L ≤ 4611686018427387904) :
    FnB Tryd.prog G 63 [.ms 0 0 L cap 3, i64 a, i64 b, .c (.fn (.func g) [] caps)] [flb ruC (P ++ (A ++ S))] (.tup []) [flb ruC (P ++ (ssort cm A ++ S))] := by
  refine FnB_by (rs := []) (k := 1) [3000001] mixed Tryd.func63 rfl rfl rfl rfl (by kernel_rfl) (by simp) rfl rfl rfl (argsB_ok rfl) (by simp) ?_
  simp only [List.length_append] at hL
  have wa : IntKind.i64.wrap ((a : Int) + 1) = (a + 1 : Nat) := wrap_of (by omega) (by omega)
  simp -implicitDefEqProofs only [pkA, ptA, ↓reduceIte, Nat.reduceEqDiff, Nat.reduceAdd, Nat.reduceBEq, Nat.reduceMul, Nat.reduceLT, Nat.reduceLeDiff, isMb_flb, pkP, List.length_map, wa]
  rcases A with _ | ⟨x0, U0⟩
  · refine run_loop (fun t : Unit => hdS [(2, i64 b), (8, i64 (a + 1 : Nat))] [flb ruC (P ++ ([] ++ S))]) (fun _ => 0) (fun _ => True) () trivial ?_ ?_
    · exact le_box rfl (by decide) (by simp) (by simp [FL, up_apply]) (by simp [bxs])
    rintro _ _ R hnorm hexit hret
    have d1 : decide (((a + 1 : Nat) : Int) < b) = false := by simp at hb ⊢; omega
    simp -implicitDefEqProofs only [pkA, ptA, ↓reduceIte, Nat.reduceEqDiff, Nat.reduceAdd, Nat.reduceBEq, Nat.reduceMul, Nat.reduceLT, Nat.reduceLeDiff, isMb_flb, pkP, List.length_map, d1]
    refine hexit _ _ ?_
    simp -implicitDefEqProofs only [pkA, ptA, ↓reduceIte, Nat.reduceEqDiff, Nat.reduceAdd, Nat.reduceBEq, Nat.reduceMul, Nat.reduceLT, Nat.reduceLeDiff, isMb_flb, pkP, List.length_map]
    exact end_box rfl (by decide) (by simp) (by simp [bxs, ssort])
  refine run_loop (fun t : List Ru × List Ru => hdS [(0, .ms 0 0 L cap 3), (1, i64 a), (2, i64 b), (3, .c (.fn (.func g) [] caps)), (8, i64 (a + t.1.length : Nat))] [flb ruC (P ++ (ssort cm t.1 ++ (t.2 ++ S)))])
    (fun t => t.2.length) (fun t => t.1 ++ t.2 = x0 :: U0) ([x0], U0) rfl ?_ ?_
  · exact le_box rfl (by decide) (by simp) (by simp [FL, up_apply]) (by simp [bxs, ssort, ins])
  rintro ⟨D, U⟩ hDU R hnorm hexit hret
  simp only at hDU
  have hlen := congrArg List.length hDU
  rw [← hDU] at hb hL hexit hret
  simp only [List.length_append] at hlen hb hL
  simp -implicitDefEqProofs only [pkA, ptA, ↓reduceIte, Nat.reduceEqDiff, Nat.reduceAdd, Nat.reduceBEq, Nat.reduceMul, Nat.reduceLT, Nat.reduceLeDiff, isMb_flb, pkP, List.length_map]
  refine vcond_of (fun hlt => ?_) (fun hge => ?_)
  · have hlt : a + D.length < b := by simp at hlt; omega
    obtain ⟨y, U, rfl⟩ : ∃ x t, U = x :: t := List.exists_cons_of_ne_nil (by rintro rfl; simp at hb; omega)
    have hsl : (ssort cm D).length = D.length := ssort_len D
    have wi : IntKind.i64.wrap (((a + D.length : Nat) : Int) + 1) = (a + D.length + 1 : Nat) := wrap_of (by omega) (by simp only [List.length_cons] at *; omega)
    simp only [List.length_cons] at hb hL hlen
    simp -implicitDefEqProofs only [pkA, ptA, ↓reduceIte, Nat.reduceEqDiff, Nat.reduceAdd, Nat.reduceBEq, Nat.reduceMul, Nat.reduceLT, Nat.reduceLeDiff, isMb_flb, pkP, List.length_map]
    refine run_loop (fun t : List Ru × List Ru => hdS [(0, .ms 0 0 L cap 3), (1, i64 a), (2, i64 b), (3, .c (.fn (.func g) [] caps)), (8, i64 (a + D.length : Nat)), (9, i64 (a + t.1.length : Nat))] [flb ruC (P ++ (t.1 ++ (y :: (t.2 ++ (U ++ S)))))])
      (fun t => t.1.length) (fun t => t.1 ++ t.2 = ssort cm D ∧ ∀ z ∈ t.2, cm y z < 0) (ssort cm D, []) ⟨by simp, by simp⟩ ?_ ?_
    · exact le_box rfl (by decide) (by simp) (by simp [FL, up_apply, hsl]) (by simp [bxs])
    rintro ⟨X, Y⟩ ⟨hXY, hY⟩ R2 hnorm2 hexit2 hret2
    simp only at hXY hY
    have hl2 := congrArg List.length hXY
    simp only [List.length_append, hsl] at hl2
    have hs := ssort_srt hc D
    rw [← hXY] at hs
    rcases List.eq_nil_or_concat X with rfl | ⟨X, x, rfl⟩
    · have d1 : decide ((a : Int) < ((a + 0 : Nat) : Int)) = false := by simp
      simp -implicitDefEqProofs only [pkA, ptA, ↓reduceIte, Nat.reduceEqDiff, Nat.reduceAdd, Nat.reduceBEq, Nat.reduceMul, Nat.reduceLT, Nat.reduceLeDiff, isMb_flb, pkP, List.length_map, d1]
      refine hexit2 _ _ ?_
      simp -implicitDefEqProofs only [pkA, ptA, ↓reduceIte, Nat.reduceEqDiff, Nat.reduceAdd, Nat.reduceBEq, Nat.reduceMul, Nat.reduceLT, Nat.reduceLeDiff, isMb_flb, pkP, List.length_map, wi]
      have e1 : [] ++ y :: Y = ssort cm (D ++ [y]) := ssort_snoc hc hXY hY (by simp)
      refine hnorm (D ++ [y], U) _ (by simp [← hDU]) (by simp) (le_box rfl (by decide) (by simp) (by simp [FL, up_apply, Nat.add_assoc]) (by rw [← e1]; simp [bxs]))
    · rw [List.concat_eq_append] at *
      simp only [List.length_append, List.length_cons, List.length_nil, Nat.zero_add] at hl2 ⊢
      have d1 : decide ((a : Int) < ((a + (X.length + 1) : Nat) : Int)) = true := by simp; omega
      have w1 : IntKind.i64.wrap (((a + (X.length + 1) : Nat) : Int) - 1) = (a + X.length : Nat) := wrap_of (by omega) (by omega)
      have e0 : P ++ ((X ++ [x]) ++ (y :: (Y ++ (U ++ S)))) = (P ++ X) ++ x :: y :: (Y ++ (U ++ S)) := by simp
      have hi : (P ++ X).length = a + X.length := by simp; omega
      have g1 : ((P ++ X) ++ x :: y :: (Y ++ (U ++ S)))[a + X.length]? = some x := get_mid hi
      have g2 : ((P ++ X) ++ x :: y :: (Y ++ (U ++ S)))[a + (X.length + 1)]? = some y := get_next (by omega)
      have hl0 : ((P ++ X) ++ x :: y :: (Y ++ (U ++ S))).length = L := by simp only [List.length_append, List.length_cons]; omega
      rw [e0]
      simp -implicitDefEqProofs only [pkA, ptA, ↓reduceIte, Nat.reduceEqDiff, Nat.reduceAdd, Nat.reduceBEq, Nat.reduceMul, Nat.reduceLT, Nat.reduceLeDiff, isMb_flb, pkP, List.length_map, d1, w1]
      refine ix_flb ti_23 rfl ti_40 rfl (by decide) rfl (by omega) ?_
      simp -implicitDefEqProofs only [pkA, ptA, ↓reduceIte, Nat.reduceEqDiff, Nat.reduceAdd, Nat.reduceBEq, Nat.reduceMul, Nat.reduceLT, Nat.reduceLeDiff, isMb_flb, pkP, List.length_map, w1]
      refine ld_flb ruC_len rfl (by decide) g2 ?_
      simp -implicitDefEqProofs only [pkA, ptA, ↓reduceIte, Nat.reduceEqDiff, Nat.reduceAdd, Nat.reduceBEq, Nat.reduceMul, Nat.reduceLT, Nat.reduceLeDiff, isMb_flb, pkP, List.length_map, w1]
      refine ix_flb ti_23 rfl ti_40 rfl (by decide) rfl (by omega) ?_
      simp -implicitDefEqProofs only [pkA, ptA, ↓reduceIte, Nat.reduceEqDiff, Nat.reduceAdd, Nat.reduceBEq, Nat.reduceMul, Nat.reduceLT, Nat.reduceLeDiff, isMb_flb, pkP, List.length_map, w1]
      refine ld_flb ruC_len rfl (by decide) g1 ?_
      simp -implicitDefEqProofs only [pkA, ptA, ↓reduceIte, Nat.reduceEqDiff, Nat.reduceAdd, Nat.reduceBEq, Nat.reduceMul, Nat.reduceLT, Nat.reduceLeDiff, isMb_flb, pkP, List.length_map, w1]
      refine call_fn rfl (hcm y x) (by simp [V.boxy]) ?_
      simp -implicitDefEqProofs only [pkA, ptA, ↓reduceIte, Nat.reduceEqDiff, Nat.reduceAdd, Nat.reduceBEq, Nat.reduceMul, Nat.reduceLT, Nat.reduceLeDiff, isMb_flb, pkP, List.length_map, w1]
      refine vcond_of (fun hless => ?_) (fun hno => ?_)
      · have hless : cm y x < 0 := by simpa using hless
        obtain ⟨c1, s1⟩ := stq (i := a + (X.length + 1)) (y := x) ruC_len (by rw [hl0]; omega) (Eq.refl (((P ++ X) ++ x :: y :: (Y ++ (U ++ S))).set (a + (X.length + 1)) x))
        obtain ⟨c2, s2⟩ := stq (i := a + X.length) (y := y) ruC_len (by rw [List.length_set, hl0]; omega) (swap_adj' (i := a + X.length) (j := a + (X.length + 1)) hi (by omega))
        simp -implicitDefEqProofs only [pkA, ptA, ↓reduceIte, Nat.reduceEqDiff, Nat.reduceAdd, Nat.reduceBEq, Nat.reduceMul, Nat.reduceLT, Nat.reduceLeDiff, isMb_flb, pkP, List.length_map, w1]
        refine ix_flb ti_23 rfl ti_40 rfl (by decide) rfl (by omega) ?_
        simp -implicitDefEqProofs only [pkA, ptA, ↓reduceIte, Nat.reduceEqDiff, Nat.reduceAdd, Nat.reduceBEq, Nat.reduceMul, Nat.reduceLT, Nat.reduceLeDiff, isMb_flb, pkP, List.length_map, w1]
        refine ld_flb ruC_len rfl (by decide) g1 ?_
        simp -implicitDefEqProofs only [pkA, ptA, ↓reduceIte, Nat.reduceEqDiff, Nat.reduceAdd, Nat.reduceBEq, Nat.reduceMul, Nat.reduceLT, Nat.reduceLeDiff, isMb_flb, pkP, List.length_map, w1]
        refine ix_flb ti_23 rfl ti_40 rfl (by decide) rfl (by omega) ?_
        simp -implicitDefEqProofs only [pkA, ptA, ↓reduceIte, Nat.reduceEqDiff, Nat.reduceAdd, Nat.reduceBEq, Nat.reduceMul, Nat.reduceLT, Nat.reduceLeDiff, isMb_flb, pkP, List.length_map, w1]
        refine ld_flb ruC_len rfl (by decide) g2 ?_
        simp -implicitDefEqProofs only [pkA, ptA, ↓reduceIte, Nat.reduceEqDiff, Nat.reduceAdd, Nat.reduceBEq, Nat.reduceMul, Nat.reduceLT, Nat.reduceLeDiff, isMb_flb, pkP, List.length_map, w1]
        refine ix_flb ti_23 rfl ti_40 rfl (by decide) rfl (by omega) ?_
        simp -implicitDefEqProofs only [pkA, ptA, ↓reduceIte, Nat.reduceEqDiff, Nat.reduceAdd, Nat.reduceBEq, Nat.reduceMul, Nat.reduceLT, Nat.reduceLeDiff, isMb_flb, pkP, List.length_map, w1, c1, s1]
        refine ix_flb ti_23 rfl ti_40 rfl (by decide) rfl (by omega) ?_
        simp -implicitDefEqProofs only [pkA, ptA, ↓reduceIte, Nat.reduceEqDiff, Nat.reduceAdd, Nat.reduceBEq, Nat.reduceMul, Nat.reduceLT, Nat.reduceLeDiff, isMb_flb, pkP, List.length_map, w1, c2, s2]
        refine hnorm2 (X, x :: Y) _ ⟨by rw [← hXY]; simp, fun z hz => ?_⟩ (by simp) (le_box rfl (by decide) (by simp) (by simp [FL, up_apply]) (by simp [bxs]))
        rcases List.mem_cons.1 hz with e | e
        · rw [e]; exact hless
        · exact hY z e
      · have hno : ¬ cm y x < 0 := by simpa using hno
        simp -implicitDefEqProofs only [pkA, ptA, ↓reduceIte, Nat.reduceEqDiff, Nat.reduceAdd, Nat.reduceBEq, Nat.reduceMul, Nat.reduceLT, Nat.reduceLeDiff, isMb_flb, pkP, List.length_map, w1]
        refine hexit2 _ _ ?_
        simp -implicitDefEqProofs only [pkA, ptA, ↓reduceIte, Nat.reduceEqDiff, Nat.reduceAdd, Nat.reduceBEq, Nat.reduceMul, Nat.reduceLT, Nat.reduceLeDiff, isMb_flb, pkP, List.length_map, wi]
        have e1 : (X ++ [x]) ++ y :: Y = ssort cm (D ++ [y]) := ssort_snoc hc hXY hY (fun z hz => by
          rcases List.mem_append.1 hz with e | e
          · exact hc.trans _ _ _ (hs.left.cross z e x (by simp)) (hc.nlt hno)
          · rw [List.mem_singleton.1 e]; exact hc.nlt hno)
        refine hnorm (D ++ [y], U) _ (by simp [← hDU]) (by simp) (le_box rfl (by decide) (by simp) (by simp [FL, up_apply, Nat.add_assoc]) (by rw [← e1]; simp [bxs]))
  · have : U = [] := List.eq_nil_of_length_eq_zero (by simp at hge; omega)
    subst this
    simp -implicitDefEqProofs only [pkA, ptA, ↓reduceIte, Nat.reduceEqDiff, Nat.reduceAdd, Nat.reduceBEq, Nat.reduceMul, Nat.reduceLT, Nat.reduceLeDiff, isMb_flb, pkP, List.length_map]
    refine hexit _ _ ?_
    simp -implicitDefEqProofs only [pkA, ptA, ↓reduceIte, Nat.reduceEqDiff, Nat.reduceAdd, Nat.reduceBEq, Nat.reduceMul, Nat.reduceLT, Nat.reduceLeDiff, isMb_flb, pkP, List.length_map]
    exact end_box rfl (by decide) (by simp) (by simp [bxs])
set_option maxRecDepth 100000 in
set_option maxHeartbeats 2000000 in
theorem swapRange_qu (P X Q Y S : List Qu) (a b n : Nat) (ha : P.length = a) (hx : X.length = n) (hy : Y.length = n) (hb : a + n + Q.length = b) (L cap : Nat) (hL : L = (P ++ (X ++ (Q ++ (Y ++ S)))).length) (hbig : L ≤ 4611686018427387904) (f : C) :
    FnB Tryd.prog G 70 [.ms 0 0 L cap 5, i64 a, i64 b, i64 n, .c f] [flb quC (P ++ (X ++ (Q ++ (Y ++ S))))] (.tup []) [flb quC (P ++ (Y ++ (Q ++ (X ++ S))))] := by
  refine FnB_by (rs := []) (k := 1) [3000001] mixed Tryd.func70 rfl rfl rfl rfl (by kernel_rfl) (by simp) rfl rfl rfl (argsB_ok rfl) (by simp) ?_
  simp only [List.length_append] at hL
  simp -implicitDefEqProofs only [pkA, ptA, ↓reduceIte, Nat.reduceEqDiff, Nat.reduceAdd, Nat.reduceBEq, Nat.reduceMul, Nat.reduceLT, Nat.reduceLeDiff, isMb_flb, pkP, List.length_map]
  refine run_loop (fun t : List Qu × List Qu × List Qu × List Qu => hdS [(0, .ms 0 0 L cap 5), (1, i64 a), (2, i64 b), (3, i64 n), (10, i64 t.1.length)] [flb quC (P ++ (t.2.2.1 ++ (t.2.1 ++ (Q ++ (t.1 ++ (t.2.2.2 ++ S))))))])
    (fun t => t.2.1.length) (fun t => t.1 ++ t.2.1 = X ∧ t.2.2.1 ++ t.2.2.2 = Y ∧ t.1.length = t.2.2.1.length) ([], X, [], Y) ⟨rfl, rfl, rfl⟩ ?_ ?_
  · exact le_box rfl (by decide) (by simp) (by simp [FL, up_apply]) (by simp [bxs])
  rintro ⟨X1, X2, Y1, Y2⟩ ⟨h1, h2, h3⟩ R hnorm hexit hret
  simp only at h1 h2 h3
  subst h1; subst h2
  simp only [List.length_append] at hx hy hL
  simp -implicitDefEqProofs only [pkA, ptA, ↓reduceIte, Nat.reduceEqDiff, Nat.reduceAdd, Nat.reduceBEq, Nat.reduceMul, Nat.reduceLT, Nat.reduceLeDiff, isMb_flb, pkP, List.length_map]
  refine vcond_of (fun hlt => ?_) (fun hge => ?_)
  · have hlt : X1.length < n := by simpa using hlt
    obtain ⟨x, X2, rfl⟩ : ∃ x t, X2 = x :: t := List.exists_cons_of_ne_nil (by rintro rfl; simp at hx; omega)
    obtain ⟨y, Y2, rfl⟩ : ∃ x t, Y2 = x :: t := List.exists_cons_of_ne_nil (by rintro rfl; simp at hy; omega)
    simp only [List.length_cons] at hx hy hL
    have w1 : IntKind.i64.wrap ((a : Int) + X1.length) = (a + X1.length : Nat) := wrap_of (by omega) (by omega)
    have w2 : IntKind.i64.wrap ((b : Int) + X1.length) = (b + X1.length : Nat) := wrap_of (by omega) (by omega)
    have w3 : IntKind.i64.wrap ((X1.length : Int) + 1) = (X1.length + 1 : Nat) := wrap_of (by omega) (by omega)
    have e0 : P ++ (Y1 ++ ((x :: X2) ++ (Q ++ (X1 ++ ((y :: Y2) ++ S))))) = (P ++ Y1) ++ x :: ((X2 ++ (Q ++ X1)) ++ y :: (Y2 ++ S)) := by simp
    have hi : (P ++ Y1).length = a + X1.length := by simp; omega
    have hj : a + X1.length + 1 + (X2 ++ (Q ++ X1)).length = b + X1.length := by simp; omega
    have g1 : ((P ++ Y1) ++ x :: ((X2 ++ (Q ++ X1)) ++ y :: (Y2 ++ S)))[a + X1.length]? = some x := get_mid hi
    have g2 : ((P ++ Y1) ++ x :: ((X2 ++ (Q ++ X1)) ++ y :: (Y2 ++ S)))[b + X1.length]? = some y := by
      have : (P ++ Y1) ++ x :: ((X2 ++ (Q ++ X1)) ++ y :: (Y2 ++ S)) = ((P ++ Y1) ++ x :: (X2 ++ (Q ++ X1))) ++ y :: (Y2 ++ S) := by simp
      rw [this]; exact get_mid (by simp only [List.length_append, List.length_cons] at hi hj ⊢; omega)
    rw [e0]
    simp -implicitDefEqProofs only [pkA, ptA, ↓reduceIte, Nat.reduceEqDiff, Nat.reduceAdd, Nat.reduceBEq, Nat.reduceMul, Nat.reduceLT, Nat.reduceLeDiff, isMb_flb, pkP, List.length_map, w1, w2]
    refine ix_flb ti_24 rfl ti_42 rfl (by decide) rfl (by omega) ?_
    simp -implicitDefEqProofs only [pkA, ptA, ↓reduceIte, Nat.reduceEqDiff, Nat.reduceAdd, Nat.reduceBEq, Nat.reduceMul, Nat.reduceLT, Nat.reduceLeDiff, isMb_flb, pkP, List.length_map, w1, w2]
    refine ld_flb quC_len rfl (by decide) g2 ?_
    simp -implicitDefEqProofs only [pkA, ptA, ↓reduceIte, Nat.reduceEqDiff, Nat.reduceAdd, Nat.reduceBEq, Nat.reduceMul, Nat.reduceLT, Nat.reduceLeDiff, isMb_flb, pkP, List.length_map, w1, w2]
    refine ix_flb ti_24 rfl ti_42 rfl (by decide) rfl (by omega) ?_
    simp -implicitDefEqProofs only [pkA, ptA, ↓reduceIte, Nat.reduceEqDiff, Nat.reduceAdd, Nat.reduceBEq, Nat.reduceMul, Nat.reduceLT, Nat.reduceLeDiff, isMb_flb, pkP, List.length_map, w1, w2]
    refine ld_flb quC_len rfl (by decide) g1 ?_
    simp -implicitDefEqProofs only [pkA, ptA, ↓reduceIte, Nat.reduceEqDiff, Nat.reduceAdd, Nat.reduceBEq, Nat.reduceMul, Nat.reduceLT, Nat.reduceLeDiff, isMb_flb, pkP, List.length_map, w1, w2]
    refine ix_flb ti_24 rfl ti_42 rfl (by decide) rfl (by omega) ?_
    have hl0 : ((P ++ Y1) ++ x :: ((X2 ++ (Q ++ X1)) ++ y :: (Y2 ++ S))).length = L := by simp only [List.length_append, List.length_cons]; omega
    obtain ⟨c1, s1⟩ := stq (i := a + X1.length) (y := y) quC_len (by rw [hl0]; omega) (Eq.refl (((P ++ Y1) ++ x :: ((X2 ++ (Q ++ X1)) ++ y :: (Y2 ++ S))).set (a + X1.length) y))
    obtain ⟨c2, s2⟩ := stq (i := b + X1.length) (y := x) quC_len (by rw [List.length_set, hl0]; omega) (swap_mid hi hj)
    simp -implicitDefEqProofs only [pkA, ptA, ↓reduceIte, Nat.reduceEqDiff, Nat.reduceAdd, Nat.reduceBEq, Nat.reduceMul, Nat.reduceLT, Nat.reduceLeDiff, isMb_flb, pkP, List.length_map, w1, w2, c1, s1]
    refine ix_flb ti_24 rfl ti_42 rfl (by decide) rfl (by omega) ?_
    simp -implicitDefEqProofs only [pkA, ptA, ↓reduceIte, Nat.reduceEqDiff, Nat.reduceAdd, Nat.reduceBEq, Nat.reduceMul, Nat.reduceLT, Nat.reduceLeDiff, isMb_flb, pkP, List.length_map, w3, c2, s2]
    refine hnorm (X1 ++ [x], X2, Y1 ++ [y], Y2) _ ⟨by simp, by simp, by simp [h3]⟩ (by simp) (le_box rfl (by decide) (by simp) (by simp [FL, up_apply]) (by simp [bxs]))
  · have : X2 = [] := List.eq_nil_of_length_eq_zero (by simp at hge; omega)
    subst this
    have : Y2 = [] := List.eq_nil_of_length_eq_zero (by simp at hge hx; omega)
    subst this
    simp -implicitDefEqProofs only [pkA, ptA, ↓reduceIte, Nat.reduceEqDiff, Nat.reduceAdd, Nat.reduceBEq, Nat.reduceMul, Nat.reduceLT, Nat.reduceLeDiff, isMb_flb, pkP, List.length_map]
    refine hexit _ _ ?_
    simp -implicitDefEqProofs only [pkA, ptA, ↓reduceIte, Nat.reduceEqDiff, Nat.reduceAdd, Nat.reduceBEq, Nat.reduceMul, Nat.reduceLT, Nat.reduceLeDiff, isMb_flb, pkP, List.length_map]
    exact end_box rfl (by decide) (by simp) (by simp [bxs])

set_option maxRecDepth 100000 in
set_option maxHeartbeats 2000000 in
theorem rotate_qu (P A B S : List Qu) (a m b : Nat) (ha : P.length = a) (hm : a + A.length = m) (hb : m + B.length = b) (hA : A ≠ []) (hB : B ≠ []) (L cap : Nat) (hL : L = (P ++ (A ++ (B ++ S))).length) (hbig : L ≤ 4611686018427387904) (f : C) :
    FnB Tryd.prog G 68 [.ms 0 0 L cap 5, i64 a, i64 m, i64 b, .c f] [flb quC (P ++ (A ++ (B ++ S)))] (.tup []) [flb quC (P ++ (B ++ (A ++ S)))] := by
  refine FnB_by (rs := []) (k := 1) [1000031, 1000046, 1000057, 3000001] mixed Tryd.func68 rfl rfl rfl rfl (by kernel_rfl) (by simp) rfl rfl rfl (argsB_ok rfl) (by simp) ?_
  simp only [List.length_append] at hL
  have wa : IntKind.i64.wrap ((m : Int) - a) = (A.length : Nat) := wrap_of (by omega) (by omega)
  have wb : IntKind.i64.wrap ((b : Int) - m) = (B.length : Nat) := wrap_of (by omega) (by omega)
  simp -implicitDefEqProofs only [pkA, ptA, ↓reduceIte, Nat.reduceEqDiff, Nat.reduceAdd, Nat.reduceBEq, Nat.reduceMul, Nat.reduceLT, Nat.reduceLeDiff, isMb_flb, pkP, List.length_map, wa, wb]
  refine run_loop (fun t : List Qu × List Qu × List Qu × List Qu => hdS [(0, .ms 0 0 L cap 5), (2, i64 m), (4, .c f), (10, i64 t.2.1.length), (11, i64 t.2.2.1.length)] [flb quC (t.1 ++ (t.2.1 ++ (t.2.2.1 ++ t.2.2.2)))])
    (fun t => t.2.1.length + t.2.2.1.length) (fun t => t.1.length + t.2.1.length = m ∧ t.2.1 ≠ [] ∧ t.2.2.1 ≠ [] ∧ t.1 ++ (t.2.2.1 ++ (t.2.1 ++ t.2.2.2)) = P ++ (B ++ (A ++ S))) (P, A, B, S) ⟨by simp only; omega, hA, hB, rfl⟩ ?_ ?_
  · exact le_box rfl (by decide) (by simp) (by simp [FL, up_apply]) (by simp [bxs])
  rintro ⟨P', A', B', S'⟩ ⟨h1, h2, h3, h4⟩ R hnorm hexit hret
  simp only at h1 h2 h3 h4
  have hlen := congrArg List.length h4
  simp only [List.length_append] at hlen
  have pA := List.length_pos_iff.2 h2
  have pB := List.length_pos_iff.2 h3
  have w1 : IntKind.i64.wrap ((m : Int) - A'.length) = (P'.length : Nat) := wrap_of (by omega) (by omega)
  simp -implicitDefEqProofs only [pkA, ptA, ↓reduceIte, Nat.reduceEqDiff, Nat.reduceAdd, Nat.reduceBEq, Nat.reduceMul, Nat.reduceLT, Nat.reduceLeDiff, isMb_flb, pkP, List.length_map, w1]
  refine vcond_of (fun hne => ?_) (fun heq => ?_)
  · have hne : A'.length ≠ B'.length := by simp at hne; omega
    simp -implicitDefEqProofs only [pkA, ptA, ↓reduceIte, Nat.reduceEqDiff, Nat.reduceAdd, Nat.reduceBEq, Nat.reduceMul, Nat.reduceLT, Nat.reduceLeDiff, isMb_flb, pkP, List.length_map, w1]
    refine vcond_of (fun hgt => ?_) (fun hle => ?_)
    · have hgt : B'.length < A'.length := by simpa using hgt
      have w2 : IntKind.i64.wrap ((A'.length : Int) - B'.length) = (A'.length - B'.length : Nat) := wrap_of (by omega) (by omega)
      obtain ⟨X, A2, rfl, hX⟩ : ∃ X A2, A' = X ++ A2 ∧ X.length = B'.length := ⟨A'.take B'.length, A'.drop B'.length, (List.take_append_drop _ _).symm, by simp; omega⟩
      simp only [List.length_append] at *
      simp -implicitDefEqProofs only [pkA, ptA, ↓reduceIte, Nat.reduceEqDiff, Nat.reduceAdd, Nat.reduceBEq, Nat.reduceMul, Nat.reduceLT, Nat.reduceLeDiff, isMb_flb, pkP, List.length_map, w1]
      refine call_box rfl (swapRange_qu P' X A2 B' S' P'.length m B'.length rfl hX rfl (by omega) L cap (by simp only [List.length_append]; omega) hbig f) rfl rfl (by simp [bxs]) ?_
      simp -implicitDefEqProofs only [pkA, ptA, ↓reduceIte, Nat.reduceEqDiff, Nat.reduceAdd, Nat.reduceBEq, Nat.reduceMul, Nat.reduceLT, Nat.reduceLeDiff, isMb_flb, pkP, List.length_map, w2]
      refine hnorm (P' ++ B', A2, X, S') _ ⟨by simp; omega, ?_, ?_, by rw [← h4]; simp⟩ (by simp only; omega) (le_box rfl (by decide) (by simp) ?_ (by simp [bxs]))
      · rintro rfl; simp at hgt; omega
      · rintro rfl; simp at hX; omega
      · have : X.length + A2.length - B'.length = A2.length := by omega
        simp [FL, up_apply, hX, this]
    · have hle : A'.length < B'.length := by simp at hle; omega
      have w2 : IntKind.i64.wrap ((B'.length : Int) - A'.length) = (B'.length - A'.length : Nat) := wrap_of (by omega) (by omega)
      have w3 : IntKind.i64.wrap ((m : Int) + B'.length) = (m + B'.length : Nat) := wrap_of (by omega) (by omega)
      have w4 : IntKind.i64.wrap (((m + B'.length : Nat) : Int) - A'.length) = (m + B'.length - A'.length : Nat) := wrap_of (by omega) (by omega)
      obtain ⟨B2, Y, rfl, hY⟩ : ∃ B2 Y, B' = B2 ++ Y ∧ Y.length = A'.length := ⟨B'.take (B'.length - A'.length), B'.drop (B'.length - A'.length), (List.take_append_drop _ _).symm, by simp; omega⟩
      simp only [List.length_append] at *
      simp -implicitDefEqProofs only [pkA, ptA, ↓reduceIte, Nat.reduceEqDiff, Nat.reduceAdd, Nat.reduceBEq, Nat.reduceMul, Nat.reduceLT, Nat.reduceLeDiff, isMb_flb, pkP, List.length_map, w1, w3, w4]
      refine call_box rfl (swapRange_qu P' A' B2 Y S' P'.length (m + (B2.length + Y.length) - A'.length) A'.length rfl rfl hY (by omega) L cap (by simp only [List.length_append]; omega) hbig f) rfl rfl (by simp [bxs]) ?_
      simp -implicitDefEqProofs only [pkA, ptA, ↓reduceIte, Nat.reduceEqDiff, Nat.reduceAdd, Nat.reduceBEq, Nat.reduceMul, Nat.reduceLT, Nat.reduceLeDiff, isMb_flb, pkP, List.length_map, w2]
      refine hnorm (P', Y, B2, A' ++ S') _ ⟨by simp; omega, ?_, ?_, by rw [← h4]; simp⟩ (by simp only; omega) (le_box rfl (by decide) (by simp) ?_ (by simp [bxs]))
      · rintro rfl; simp at hY; omega
      · rintro rfl; simp at hle; omega
      · have : B2.length + Y.length - A'.length = B2.length := by omega
        simp [FL, up_apply, hY, this]
  · have heq : A'.length = B'.length := by simp at heq; omega
    simp -implicitDefEqProofs only [pkA, ptA, ↓reduceIte, Nat.reduceEqDiff, Nat.reduceAdd, Nat.reduceBEq, Nat.reduceMul, Nat.reduceLT, Nat.reduceLeDiff, isMb_flb, pkP, List.length_map, w1]
    refine hexit _ _ ?_
    simp -implicitDefEqProofs only [pkA, ptA, ↓reduceIte, Nat.reduceEqDiff, Nat.reduceAdd, Nat.reduceBEq, Nat.reduceMul, Nat.reduceLT, Nat.reduceLeDiff, isMb_flb, pkP, List.length_map, w1]
    refine call_box rfl (swapRange_qu P' A' [] B' S' P'.length m A'.length rfl rfl heq.symm (by simp; omega) L cap (by simp only [List.length_append, List.length_nil]; omega) hbig f) rfl rfl (by simp [bxs]) ?_
    simp -implicitDefEqProofs only [pkA, ptA, ↓reduceIte, Nat.reduceEqDiff, Nat.reduceAdd, Nat.reduceBEq, Nat.reduceMul, Nat.reduceLT, Nat.reduceLeDiff, isMb_flb, pkP, List.length_map]
    exact end_box rfl (by decide) (by simp) (by simp [bxs, h4])

set_option maxRecDepth 100000 in
set_option maxHeartbeats 2000000 in
theorem insertion_qu (cm : Qu → Qu → Int) (hc : Cmp cm) (g : FuncId) (caps : List C) (hcm : ∀ x y, FnOK Tryd.prog G g (.agg (quC x) :: .agg (quC y) :: caps.map .c) (i64 (cm x y)))
    (P A S : List Qu) (a b : Nat) (ha : P.length = a) (hb : a + A.length = b) (L cap : Nat) (hL : L = (P ++ (A ++ S)).length) (hbig : L ≤ 4611686018427387904) :
    FnB Tryd.prog G 65 [.ms 0 0 L cap 5, i64 a, i64 b, .c (.fn (.func g) [] caps)] [flb quC (P ++ (A ++ S))] (.tup []) [flb quC (P ++ (ssort cm A ++ S))] := by
  refine FnB_by (rs := []) (k := 1) [3000001] mixed Tryd.func65 rfl rfl rfl rfl (by kernel_rfl) (by simp) rfl rfl rfl (argsB_ok rfl) (by simp) ?_
  simp only [List.length_append] at hL
  have wa : IntKind.i64.wrap ((a : Int) + 1) = (a + 1 : Nat) := wrap_of (by omega) (by omega)
  simp -implicitDefEqProofs only [pkA, ptA, ↓reduceIte, Nat.reduceEqDiff, Nat.reduceAdd, Nat.reduceBEq, Nat.reduceMul, Nat.reduceLT, Nat.reduceLeDiff, isMb_flb, pkP, List.length_map, wa]
  rcases A with _ | ⟨x0, U0⟩
  · refine run_loop (fun t : Unit => hdS [(2, i64 b), (8, i64 (a + 1 : Nat))] [flb quC (P ++ ([] ++ S))]) (fun _ => 0) (fun _ => True) () trivial ?_ ?_
    · exact le_box rfl (by decide) (by simp) (by simp [FL, up_apply]) (by simp [bxs])
    rintro _ _ R hnorm hexit hret
    have d1 : decide (((a + 1 : Nat) : Int) < b) = false := by simp at hb ⊢; omega
    simp -implicitDefEqProofs only [pkA, ptA, ↓reduceIte, Nat.reduceEqDiff, Nat.reduceAdd, Nat.reduceBEq, Nat.reduceMul, Nat.reduceLT, Nat.reduceLeDiff, isMb_flb, pkP, List.length_map, d1]
    refine hexit _ _ ?_
    simp -implicitDefEqProofs only [pkA, ptA, ↓reduceIte, Nat.reduceEqDiff, Nat.reduceAdd, Nat.reduceBEq, Nat.reduceMul, Nat.reduceLT, Nat.reduceLeDiff, isMb_flb, pkP, List.length_map]
    exact end_box rfl (by decide) (by simp) (by simp [bxs, ssort])
  refine run_loop (fun t : List Qu × List Qu => hdS [(0, .ms 0 0 L cap 5), (1, i64 a), (2, i64 b), (3, .c (.fn (.func g) [] caps)), (8, i64 (a + t.1.length : Nat))] [flb quC (P ++ (ssort cm t.1 ++ (t.2 ++ S)))])
    (fun t => t.2.length) (fun t => t.1 ++ t.2 = x0 :: U0) ([x0], U0) rfl ?_ ?_
  · exact le_box rfl (by decide) (by simp) (by simp [FL, up_apply]) (by simp [bxs, ssort, ins])
  rintro ⟨D, U⟩ hDU R hnorm hexit hret
  simp only at hDU
  have hlen := congrArg List.length hDU
  rw [← hDU] at hb hL hexit hret
  simp only [List.length_append] at hlen hb hL
  simp -implicitDefEqProofs only [pkA, ptA, ↓reduceIte, Nat.reduceEqDiff, Nat.reduceAdd, Nat.reduceBEq, Nat.reduceMul, Nat.reduceLT, Nat.reduceLeDiff, isMb_flb, pkP, List.length_map]
  refine vcond_of (fun hlt => ?_) (fun hge => ?_)
  · have hlt : a + D.length < b := by simp at hlt; omega
    obtain ⟨y, U, rfl⟩ : ∃ x t, U = x :: t := List.exists_cons_of_ne_nil (by rintro rfl; simp at hb; omega)
    have hsl : (ssort cm D).length = D.length := ssort_len D
    have wi : IntKind.i64.wrap (((a + D.length : Nat) : Int) + 1) = (a + D.length + 1 : Nat) := wrap_of (by omega) (by simp only [List.length_cons] at *; omega)
    simp only [List.length_cons] at hb hL hlen
    simp -implicitDefEqProofs only [pkA, ptA, ↓reduceIte, Nat.reduceEqDiff, Nat.reduceAdd, Nat.reduceBEq, Nat.reduceMul, Nat.reduceLT, Nat.reduceLeDiff, isMb_flb, pkP, List.length_map]
    refine run_loop (fun t : List Qu × List Qu => hdS [(0, .ms 0 0 L cap 5), (1, i64 a), (2, i64 b), (3, .c (.fn (.func g) [] caps)), (8, i64 (a + D.length : Nat)), (9, i64 (a + t.1.length : Nat))] [flb quC (P ++ (t.1 ++ (y :: (t.2 ++ (U ++ S)))))])
      (fun t => t.1.length) (fun t => t.1 ++ t.2 = ssort cm D ∧ ∀ z ∈ t.2, cm y z < 0) (ssort cm D, []) ⟨by simp, by simp⟩ ?_ ?_
    · exact le_box rfl (by decide) (by simp) (by simp [FL, up_apply, hsl]) (by simp [bxs])
    rintro ⟨X, Y⟩ ⟨hXY, hY⟩ R2 hnorm2 hexit2 hret2
    simp only at hXY hY
    have hl2 := congrArg List.length hXY
    simp only [List.length_append, hsl] at hl2
    have hs := ssort_srt hc D
    rw [← hXY] at hs
    rcases List.eq_nil_or_concat X with rfl | ⟨X, x, rfl⟩
    · have d1 : decide ((a : Int) < ((a + 0 : Nat) : Int)) = false := by simp
      simp -implicitDefEqProofs only [pkA, ptA, ↓reduceIte, Nat.reduceEqDiff, Nat.reduceAdd, Nat.reduceBEq, Nat.reduceMul, Nat.reduceLT, Nat.reduceLeDiff, isMb_flb, pkP, List.length_map, d1]
      refine hexit2 _ _ ?_
      simp -implicitDefEqProofs only [pkA, ptA, ↓reduceIte, Nat.reduceEqDiff, Nat.reduceAdd, Nat.reduceBEq, Nat.reduceMul, Nat.reduceLT, Nat.reduceLeDiff, isMb_flb, pkP, List.length_map, wi]
      have e1 : [] ++ y :: Y = ssort cm (D ++ [y]) := ssort_snoc hc hXY hY (by simp)
      refine hnorm (D ++ [y], U) _ (by simp [← hDU]) (by simp) (le_box rfl (by decide) (by simp) (by simp [FL, up_apply, Nat.add_assoc]) (by rw [← e1]; simp [bxs]))
    · rw [List.concat_eq_append] at *
      simp only [List.length_append, List.length_cons, List.length_nil, Nat.zero_add] at hl2 ⊢
      have d1 : decide ((a : Int) < ((a + (X.length + 1) : Nat) : Int)) = true := by simp; omega
      have w1 : IntKind.i64.wrap (((a + (X.length + 1) : Nat) : Int) - 1) = (a + X.length : Nat) := wrap_of (by omega) (by omega)
      have e0 : P ++ ((X ++ [x]) ++ (y :: (Y ++ (U ++ S)))) = (P ++ X) ++ x :: y :: (Y ++ (U ++ S)) := by simp
      have hi : (P ++ X).length = a + X.length := by simp; omega
      have g1 : ((P ++ X) ++ x :: y :: (Y ++ (U ++ S)))[a + X.length]? = some x := get_mid hi
      have g2 : ((P ++ X) ++ x :: y :: (Y ++ (U ++ S)))[a + (X.length + 1)]? = some y := get_next (by omega)
      have hl0 : ((P ++ X) ++ x :: y :: (Y ++ (U ++ S))).length = L := by simp only [List.length_append, List.length_cons]; omega
      rw [e0]
      simp -implicitDefEqProofs only [pkA, ptA, ↓reduceIte, Nat.reduceEqDiff, Nat.reduceAdd, Nat.reduceBEq, Nat.reduceMul, Nat.reduceLT, Nat.reduceLeDiff, isMb_flb, pkP, List.length_map, d1, w1]
      refine ix_flb ti_24 rfl ti_42 rfl (by decide) rfl (by omega) ?_
      simp -implicitDefEqProofs only [pkA, ptA, ↓reduceIte, Nat.reduceEqDiff, Nat.reduceAdd, Nat.reduceBEq, Nat.reduceMul, Nat.reduceLT, Nat.reduceLeDiff, isMb_flb, pkP, List.length_map, w1]
      refine ld_flb quC_len rfl (by decide) g2 ?_
      simp -implicitDefEqProofs only [pkA, ptA, ↓reduceIte, Nat.reduceEqDiff, Nat.reduceAdd, Nat.reduceBEq, Nat.reduceMul, Nat.reduceLT, Nat.reduceLeDiff, isMb_flb, pkP, List.length_map, w1]
      refine ix_flb ti_24 rfl ti_42 rfl (by decide) rfl (by omega) ?_
      simp -implicitDefEqProofs only [pkA, ptA, ↓reduceIte, Nat.reduceEqDiff, Nat.reduceAdd, Nat.reduceBEq, Nat.reduceMul, Nat.reduceLT, Nat.reduceLeDiff, isMb_flb, pkP, List.length_map, w1]
      refine ld_flb quC_len rfl (by decide) g1 ?_
      simp -implicitDefEqProofs only [pkA, ptA, ↓reduceIte, Nat.reduceEqDiff, Nat.reduceAdd, Nat.reduceBEq, Nat.reduceMul, Nat.reduceLT, Nat.reduceLeDiff, isMb_flb, pkP, List.length_map, w1]
      refine call_fn rfl (hcm y x) (by simp [V.boxy]) ?_
      simp -implicitDefEqProofs only [pkA, ptA, ↓reduceIte, Nat.reduceEqDiff, Nat.reduceAdd, Nat.reduceBEq, Nat.reduceMul, Nat.reduceLT, Nat.reduceLeDiff, isMb_flb, pkP, List.length_map, w1]
      refine vcond_of (fun hless => ?_) (fun hno => ?_)
      · have hless : cm y x < 0 := by simpa using hless
        obtain ⟨c1, s1⟩ := stq (i := a + (X.length + 1)) (y := x) quC_len (by rw [hl0]; omega) (Eq.refl (((P ++ X) ++ x :: y :: (Y ++ (U ++ S))).set (a + (X.length + 1)) x))
        obtain ⟨c2, s2⟩ := stq (i := a + X.length) (y := y) quC_len (by rw [List.length_set, hl0]; omega) (swap_adj' (i := a + X.length) (j := a + (X.length + 1)) hi (by omega))
        simp -implicitDefEqProofs only [pkA, ptA, ↓reduceIte, Nat.reduceEqDiff, Nat.reduceAdd, Nat.reduceBEq, Nat.reduceMul, Nat.reduceLT, Nat.reduceLeDiff, isMb_flb, pkP, List.length_map, w1]
        refine ix_flb ti_24 rfl ti_42 rfl (by decide) rfl (by omega) ?_
        simp -implicitDefEqProofs only [pkA, ptA, ↓reduceIte, Nat.reduceEqDiff, Nat.reduceAdd, Nat.reduceBEq, Nat.reduceMul, Nat.reduceLT, Nat.reduceLeDiff, isMb_flb, pkP, List.length_map, w1]
        refine ld_flb quC_len rfl (by decide) g1 ?_
        simp -implicitDefEqProofs only [pkA, ptA, ↓reduceIte, Nat.reduceEqDiff, Nat.reduceAdd, Nat.reduceBEq, Nat.reduceMul, Nat.reduceLT, Nat.reduceLeDiff, isMb_flb, pkP, List.length_map, w1]
        refine ix_flb ti_24 rfl ti_42 rfl (by decide) rfl (by omega) ?_
        simp -implicitDefEqProofs only [pkA, ptA, ↓reduceIte, Nat.reduceEqDiff, Nat.reduceAdd, Nat.reduceBEq, Nat.reduceMul, Nat.reduceLT, Nat.reduceLeDiff, isMb_flb, pkP, List.length_map, w1]
        refine ld_flb quC_len rfl (by decide) g2 ?_
        simp -implicitDefEqProofs only [pkA, ptA, ↓reduceIte, Nat.reduceEqDiff, Nat.reduceAdd, Nat.reduceBEq, Nat.reduceMul, Nat.reduceLT, Nat.reduceLeDiff, isMb_flb, pkP, List.length_map, w1]
        refine ix_flb ti_24 rfl ti_42 rfl (by decide) rfl (by omega) ?_
        simp -implicitDefEqProofs only [pkA, ptA, ↓reduceIte, Nat.reduceEqDiff, Nat.reduceAdd, Nat.reduceBEq, Nat.reduceMul, Nat.reduceLT, Nat.reduceLeDiff, isMb_flb, pkP, List.length_map, w1, c1, s1]
        refine ix_flb ti_24 rfl ti_42 rfl (by decide) rfl (by omega) ?_
        simp -implicitDefEqProofs only [pkA, ptA, ↓reduceIte, Nat.reduceEqDiff, Nat.reduceAdd, Nat.reduceBEq, Nat.reduceMul, Nat.reduceLT, Nat.reduceLeDiff, isMb_flb, pkP, List.length_map, w1, c2, s2]
        refine hnorm2 (X, x :: Y) _ ⟨by rw [← hXY]; simp, fun z hz => ?_⟩ (by simp) (le_box rfl (by decide) (by simp) (by simp [FL, up_apply]) (by simp [bxs]))
        rcases List.mem_cons.1 hz with e | e
        · rw [e]; exact hless
        · exact hY z e
      · have hno : ¬ cm y x < 0 := by simpa using hno
        simp -implicitDefEqProofs only [pkA, ptA, ↓reduceIte, Nat.reduceEqDiff, Nat.reduceAdd, Nat.reduceBEq, Nat.reduceMul, Nat.reduceLT, Nat.reduceLeDiff, isMb_flb, pkP, List.length_map, w1]
        refine hexit2 _ _ ?_
        simp -implicitDefEqProofs only [pkA, ptA, ↓reduceIte, Nat.reduceEqDiff, Nat.reduceAdd, Nat.reduceBEq, Nat.reduceMul, Nat.reduceLT, Nat.reduceLeDiff, isMb_flb, pkP, List.length_map, wi]
        have e1 : (X ++ [x]) ++ y :: Y = ssort cm (D ++ [y]) := ssort_snoc hc hXY hY (fun z hz => by
          rcases List.mem_append.1 hz with e | e
          · exact hc.trans _ _ _ (hs.left.cross z e x (by simp)) (hc.nlt hno)
          · rw [List.mem_singleton.1 e]; exact hc.nlt hno)
        refine hnorm (D ++ [y], U) _ (by simp [← hDU]) (by simp) (le_box rfl (by decide) (by simp) (by simp [FL, up_apply, Nat.add_assoc]) (by rw [← e1]; simp [bxs]))
  · have : U = [] := List.eq_nil_of_length_eq_zero (by simp at hge; omega)
    subst this
    simp -implicitDefEqProofs only [pkA, ptA, ↓reduceIte, Nat.reduceEqDiff, Nat.reduceAdd, Nat.reduceBEq, Nat.reduceMul, Nat.reduceLT, Nat.reduceLeDiff, isMb_flb, pkP, List.length_map]
    refine hexit _ _ ?_
    simp -implicitDefEqProofs only [pkA, ptA, ↓reduceIte, Nat.reduceEqDiff, Nat.reduceAdd, Nat.reduceBEq, Nat.reduceMul, Nat.reduceLT, Nat.reduceLeDiff, isMb_flb, pkP, List.length_map]
    exact end_box rfl (by decide) (by simp) (by simp [bxs])
end Go.Proofs.YtbhfbbfifmnniaaDoor
