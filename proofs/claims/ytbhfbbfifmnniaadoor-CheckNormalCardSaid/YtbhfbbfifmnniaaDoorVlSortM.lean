/- slices.symMergeCmpFunc, stableCmpFunc, SortStableFunc: what they do to a box that holds a list. -/
import Derived.Test.YtbhfbbfifmnniaaDoorVlSortF
set_option linter.unusedSimpArgs false
set_option linter.unusedVariables false
namespace Go.Proofs.YtbhfbbfifmnniaaDoor
open Go Go.Vl

variable {G : Gl}

set_option maxRecDepth 100000 in
set_option maxHeartbeats 8000000 in
theorem symMerge_ru (cm : Ru → Ru → Int) (hc : Cmp cm) (g : FuncId) (caps : List C) (hcm : ∀ x y, FnOK Tryd.prog G g (.agg (ruC x) :: .agg (ruC y) :: caps.map .c) (i64 (cm x y))) (L cap : Nat) (hbig : L ≤ 2305843009213693952) (N : Nat) :
    ∀ (P A B S : List Ru) (a m b : Nat), A.length + B.length ≤ N → P.length = a → a + A.length = m → m + B.length = b → A ≠ [] → B ≠ [] → Srt cm A → Srt cm B → L = (P ++ (A ++ (B ++ S))).length →
    FnB Tryd.prog G 64 [.ms 0 0 L cap 3, i64 a, i64 m, i64 b, .c (.fn (.func g) [] caps)] [flb ruC (P ++ (A ++ (B ++ S)))] (.tup []) [flb ruC (P ++ (ssort cm (A ++ B) ++ S))] := by
  induction N with
  | zero => intro P A B S a m b hN _ _ _ hA; exact absurd (List.eq_nil_of_length_eq_zero (by omega)) hA
  | succ N ih =>
  intro P A B S a m b hN ha hm hb hA hB sA sB hL
  refine FnB_by (rs := []) (k := 1) [1000191, 1000205, 1000219, 3000001] mixed Tryd.func64 rfl rfl rfl rfl (by kernel_rfl) (by simp) rfl rfl rfl (argsB_ok rfl) (by simp) ?_
  simp only [List.length_append] at hL
  have pA := List.length_pos_iff.2 hA
  have pB := List.length_pos_iff.2 hB
  have cv1 : ∀ (n : Nat) (K : V → Prop), n ≤ 9223372036854775807 → vconv Tryd.prog 3 95 (i64 n) K = K (.c (.lit (.int .u64 n))) := fun n K h => conv_u64 ti_3 ti_95 rfl h
  have cv2 : ∀ (n : Nat) (K : V → Prop), n ≤ 9223372036854775807 → vconv Tryd.prog 95 3 (.c (.lit (.int .u64 n))) K = K (i64 n) := fun n K h => conv_i64 ti_95 ti_3 rfl h
  have sh : ∀ (n : Nat) (K : V → Prop), vbin Tryd.prog .shr 95 (.c (.lit (.int .u64 n))) (.c (.lit (.int .u64 1))) K = K (.c (.lit (.int .u64 (n / 2 : Nat)))) := fun n K => shr_one (by decide)
  have wma : IntKind.i64.wrap ((m : Int) - a) = (A.length : Nat) := wrap_of (by omega) (by omega)
  have wbm : IntKind.i64.wrap ((b : Int) - m) = (B.length : Nat) := wrap_of (by omega) (by omega)
  by_cases h1 : A.length = 1
  · -- one element in front
    obtain ⟨x, rfl⟩ := List.length_eq_one_iff.1 h1
    simp only [List.length_cons, List.length_nil] at hm pA wma
    have wma1 : IntKind.i64.wrap ((m : Int) - a) = 1 := by rw [wrap_i64 _ (by omega)]; omega
    simp -implicitDefEqProofs only [pkA, ptA, ↓reduceIte, Nat.reduceEqDiff, Nat.reduceAdd, Nat.reduceBEq, Nat.reduceMul, Nat.reduceLT, Nat.reduceLeDiff, isMb_flb, pkP, List.length_map, wma1, decide_true]
    refine run_loop (fun t : List Ru × List Ru × List Ru => hdS [(0, .ms 0 0 L cap 3), (1, i64 a), (4, .c (.fn (.func g) [] caps)), (10, i64 (m + t.1.length : Nat)), (11, i64 (m + t.1.length + t.2.1.length : Nat))] [flb ruC (P ++ ([x] ++ (B ++ S)))])
      (fun t => t.2.1.length) (fun t => t.1 ++ (t.2.1 ++ t.2.2) = B ∧ (∀ z ∈ t.1, cm z x < 0) ∧ ∀ z ∈ t.2.2, cm x z ≤ 0) ([], B, []) ⟨by simp, by simp, by simp⟩ ?_ ?_
    · exact le_box rfl (by decide) (by simp) (by simp [FL, up_apply] <;> omega) (by simp [bxs])
    rintro ⟨B1, Bm, B2⟩ ⟨hBB, hB1, hB2⟩ R hnorm hexit hret
    simp only at hBB hB1 hB2
    have hlen := congrArg List.length hBB
    simp only [List.length_append] at hlen
    simp -implicitDefEqProofs only [pkA, ptA, ↓reduceIte, Nat.reduceEqDiff, Nat.reduceAdd, Nat.reduceBEq, Nat.reduceMul, Nat.reduceLT, Nat.reduceLeDiff, isMb_flb, pkP, List.length_map]
    refine vcond_of (fun hlt => ?_) (fun hge => ?_)
    · have hlt : 0 < Bm.length := by simp at hlt; omega
      have hu : Bm.length / 2 < Bm.length := by omega
      obtain ⟨U, y, W, rfl, hU⟩ : ∃ U y W, Bm = U ++ y :: W ∧ U.length = Bm.length / 2 := by
        obtain ⟨a', b', e, e2⟩ := list_at (List.getElem?_eq_getElem hu)
        exact ⟨a', _, b', e, e2⟩
      have w1 : IntKind.i64.wrap (((m + B1.length : Nat) : Int) + ((m + B1.length + (U ++ y :: W).length : Nat) : Int)) = (2 * (m + B1.length) + (U ++ y :: W).length : Nat) := wrap_of (by omega) (by omega)
      have hh : (2 * (m + B1.length) + (U ++ y :: W).length) / 2 = m + B1.length + U.length := by omega
      have q1 := fun K => cv1 (2 * (m + B1.length) + (U ++ y :: W).length) K (by omega)
      have q2 := fun K => cv2 (m + B1.length + U.length) K (by omega)
      have w2 : IntKind.i64.wrap (((m + B1.length + U.length : Nat) : Int) + 1) = (m + B1.length + U.length + 1 : Nat) := wrap_of (by omega) (by omega)
      have g1 : (P ++ ([x] ++ (B ++ S)))[a]? = some x := get_mid (P := P) (S := B ++ S) ha
      have g2 : (P ++ ([x] ++ (B ++ S)))[m + B1.length + U.length]? = some y := by
        rw [← hBB]
        have : P ++ ([x] ++ ((B1 ++ (U ++ y :: W ++ B2)) ++ S)) = (P ++ [x] ++ B1 ++ U) ++ y :: (W ++ B2 ++ S) := by simp
        rw [this]; exact get_mid (by simp; simp at hm; omega)
      simp only [List.length_append, List.length_cons] at hlen hm
      rw [← hBB] at sB
      simp -implicitDefEqProofs only [pkA, ptA, ↓reduceIte, Nat.reduceEqDiff, Nat.reduceAdd, Nat.reduceBEq, Nat.reduceMul, Nat.reduceLT, Nat.reduceLeDiff, isMb_flb, pkP, List.length_map, w1, q1, sh, hh, q2]
      refine ix_flb ti_23 rfl ti_40 rfl (by decide) rfl (by omega) ?_
      simp -implicitDefEqProofs only [pkA, ptA, ↓reduceIte, Nat.reduceEqDiff, Nat.reduceAdd, Nat.reduceBEq, Nat.reduceMul, Nat.reduceLT, Nat.reduceLeDiff, isMb_flb, pkP, List.length_map]
      refine ld_flb ruC_len rfl (by decide) g2 ?_
      simp -implicitDefEqProofs only [pkA, ptA, ↓reduceIte, Nat.reduceEqDiff, Nat.reduceAdd, Nat.reduceBEq, Nat.reduceMul, Nat.reduceLT, Nat.reduceLeDiff, isMb_flb, pkP, List.length_map]
      refine ix_flb ti_23 rfl ti_40 rfl (by decide) rfl (by omega) ?_
      simp -implicitDefEqProofs only [pkA, ptA, ↓reduceIte, Nat.reduceEqDiff, Nat.reduceAdd, Nat.reduceBEq, Nat.reduceMul, Nat.reduceLT, Nat.reduceLeDiff, isMb_flb, pkP, List.length_map]
      refine ld_flb ruC_len rfl (by decide) g1 ?_
      simp -implicitDefEqProofs only [pkA, ptA, ↓reduceIte, Nat.reduceEqDiff, Nat.reduceAdd, Nat.reduceBEq, Nat.reduceMul, Nat.reduceLT, Nat.reduceLeDiff, isMb_flb, pkP, List.length_map]
      refine call_fn rfl (hcm y x) (by simp [V.boxy]) ?_
      simp -implicitDefEqProofs only [pkA, ptA, ↓reduceIte, Nat.reduceEqDiff, Nat.reduceAdd, Nat.reduceBEq, Nat.reduceMul, Nat.reduceLT, Nat.reduceLeDiff, isMb_flb, pkP, List.length_map]
      refine vcond_of (fun hless => ?_) (fun hno => ?_)
      · have hless : cm y x < 0 := by simpa using hless
        simp -implicitDefEqProofs only [pkA, ptA, ↓reduceIte, Nat.reduceEqDiff, Nat.reduceAdd, Nat.reduceBEq, Nat.reduceMul, Nat.reduceLT, Nat.reduceLeDiff, isMb_flb, pkP, List.length_map, w2]
        refine hnorm (B1 ++ U ++ [y], W, B2) _ ⟨by rw [← hBB]; simp, fun z hz => ?_, hB2⟩ (by simp <;> omega) (le_box rfl (by decide) (by simp) (by simp [FL, up_apply] <;> omega) (by simp [bxs]))
        rcases List.mem_append.1 hz with hz | hz
        · rcases List.mem_append.1 hz with hz | hz
          · exact hB1 z hz
          · exact hc.lt_of_le_lt (sB.right.left.cross z hz y (by simp)) hless
        · rw [List.mem_singleton.1 hz]; exact hless
      · have hno : ¬ cm y x < 0 := by simpa using hno
        simp -implicitDefEqProofs only [pkA, ptA, ↓reduceIte, Nat.reduceEqDiff, Nat.reduceAdd, Nat.reduceBEq, Nat.reduceMul, Nat.reduceLT, Nat.reduceLeDiff, isMb_flb, pkP, List.length_map, w2]
        refine hnorm (B1, U, y :: W ++ B2) _ ⟨by rw [← hBB]; simp, hB1, fun z hz => ?_⟩ (by simp <;> omega) (le_box rfl (by decide) (by simp) (by simp [FL, up_apply]) (by simp [bxs]))
        have hxy := hc.nlt hno
        rcases List.mem_append.1 hz with hz | hz
        · rcases List.mem_cons.1 hz with hz | hz
          · rw [hz]; exact hxy
          · exact hc.trans _ _ _ hxy ((List.pairwise_cons.1 (sB.right.left.right)).1 z hz)
        · exact hB2 z hz
    · have : Bm = [] := List.eq_nil_of_length_eq_zero (by simp at hge; omega)
      subst this
      simp only [List.length_nil, List.nil_append, List.length_cons] at hlen hBB hm
      subst hBB
      simp -implicitDefEqProofs only [pkA, ptA, ↓reduceIte, Nat.reduceEqDiff, Nat.reduceAdd, Nat.reduceBEq, Nat.reduceMul, Nat.reduceLT, Nat.reduceLeDiff, isMb_flb, pkP, List.length_map]
      refine hexit _ _ ?_
      have w1 : IntKind.i64.wrap (((m + B1.length : Nat) : Int) - 1) = (a + B1.length : Nat) := wrap_of (by omega) (by omega)
      simp -implicitDefEqProofs only [pkA, ptA, ↓reduceIte, Nat.reduceEqDiff, Nat.reduceAdd, Nat.reduceBEq, Nat.reduceMul, Nat.reduceLT, Nat.reduceLeDiff, isMb_flb, pkP, List.length_map]
      refine run_loop (fun t : List Ru × List Ru => hdS [(0, .ms 0 0 L cap 3), (10, i64 (m + B1.length : Nat)), (13, i64 (a + t.1.length : Nat))] [flb ruC (P ++ (t.1 ++ (x :: (t.2 ++ (B2 ++ S)))))])
        (fun t => t.2.length) (fun t => t.1 ++ t.2 = B1) ([], B1) rfl ?_ ?_
      · exact le_box rfl (by decide) (by simp) (by simp [FL, up_apply]) (by simp [bxs])
      rintro ⟨C1, C2⟩ h R2 hnorm2 hexit2 hret2
      simp only at h
      subst h
      simp only [List.length_append] at hlen hL w1
      simp -implicitDefEqProofs only [pkA, ptA, ↓reduceIte, Nat.reduceEqDiff, Nat.reduceAdd, Nat.reduceBEq, Nat.reduceMul, Nat.reduceLT, Nat.reduceLeDiff, isMb_flb, pkP, List.length_map, w1, List.length_append]
      refine vcond_of (fun hlt => ?_) (fun hge => ?_)
      · have hlt : 0 < C2.length := by simp at hlt; omega
        obtain ⟨y, C2, rfl⟩ : ∃ x t, C2 = x :: t := List.exists_cons_of_ne_nil (List.length_pos_iff.1 hlt)
        simp only [List.length_cons, List.length_nil] at hlen hL
        have w2 : IntKind.i64.wrap (((a + C1.length : Nat) : Int) + 1) = (a + C1.length + 1 : Nat) := wrap_of (by omega) (by omega)
        have e0 : P ++ (C1 ++ (x :: ((y :: C2) ++ (B2 ++ S)))) = (P ++ C1) ++ x :: y :: (C2 ++ (B2 ++ S)) := by simp
        have hi : (P ++ C1).length = a + C1.length := by simp; omega
        have g1 : ((P ++ C1) ++ x :: y :: (C2 ++ (B2 ++ S)))[a + C1.length]? = some x := get_mid hi
        have g2 : ((P ++ C1) ++ x :: y :: (C2 ++ (B2 ++ S)))[a + C1.length + 1]? = some y := get_next (by omega)
        have hl0 : ((P ++ C1) ++ x :: y :: (C2 ++ (B2 ++ S))).length = L := by simp only [List.length_append, List.length_cons]; omega
        obtain ⟨c1, s1⟩ := stq (i := a + C1.length) (y := y) ruC_len (by rw [hl0]; omega) (Eq.refl (((P ++ C1) ++ x :: y :: (C2 ++ (B2 ++ S))).set (a + C1.length) y))
        obtain ⟨c2, s2⟩ := stq (i := a + C1.length + 1) (y := x) ruC_len (by rw [List.length_set, hl0]; omega) (swap_adj (i := a + C1.length) (j := a + C1.length + 1) hi rfl)
        rw [e0]
        simp -implicitDefEqProofs only [pkA, ptA, ↓reduceIte, Nat.reduceEqDiff, Nat.reduceAdd, Nat.reduceBEq, Nat.reduceMul, Nat.reduceLT, Nat.reduceLeDiff, isMb_flb, pkP, List.length_map, w2]
        refine ix_flb ti_23 rfl ti_40 rfl (by decide) rfl (by omega) ?_
        simp -implicitDefEqProofs only [pkA, ptA, ↓reduceIte, Nat.reduceEqDiff, Nat.reduceAdd, Nat.reduceBEq, Nat.reduceMul, Nat.reduceLT, Nat.reduceLeDiff, isMb_flb, pkP, List.length_map, w2]
        refine ld_flb ruC_len rfl (by decide) g2 ?_
        simp -implicitDefEqProofs only [pkA, ptA, ↓reduceIte, Nat.reduceEqDiff, Nat.reduceAdd, Nat.reduceBEq, Nat.reduceMul, Nat.reduceLT, Nat.reduceLeDiff, isMb_flb, pkP, List.length_map, w2]
        refine ix_flb ti_23 rfl ti_40 rfl (by decide) rfl (by omega) ?_
        simp -implicitDefEqProofs only [pkA, ptA, ↓reduceIte, Nat.reduceEqDiff, Nat.reduceAdd, Nat.reduceBEq, Nat.reduceMul, Nat.reduceLT, Nat.reduceLeDiff, isMb_flb, pkP, List.length_map, w2]
        refine ld_flb ruC_len rfl (by decide) g1 ?_
        simp -implicitDefEqProofs only [pkA, ptA, ↓reduceIte, Nat.reduceEqDiff, Nat.reduceAdd, Nat.reduceBEq, Nat.reduceMul, Nat.reduceLT, Nat.reduceLeDiff, isMb_flb, pkP, List.length_map, w2]
        refine ix_flb ti_23 rfl ti_40 rfl (by decide) rfl (by omega) ?_
        simp -implicitDefEqProofs only [pkA, ptA, ↓reduceIte, Nat.reduceEqDiff, Nat.reduceAdd, Nat.reduceBEq, Nat.reduceMul, Nat.reduceLT, Nat.reduceLeDiff, isMb_flb, pkP, List.length_map, w2, c1, s1]
        refine ix_flb ti_23 rfl ti_40 rfl (by decide) rfl (by omega) ?_
        simp -implicitDefEqProofs only [pkA, ptA, ↓reduceIte, Nat.reduceEqDiff, Nat.reduceAdd, Nat.reduceBEq, Nat.reduceMul, Nat.reduceLT, Nat.reduceLeDiff, isMb_flb, pkP, List.length_map, w2, c2, s2]
        refine hnorm2 (C1 ++ [y], C2) _ (by simp) (by simp) (le_box rfl (by decide) (by simp) (by simp [FL, up_apply] <;> omega) (by simp [bxs]))
      · have : C2 = [] := List.eq_nil_of_length_eq_zero (by simp at hge; omega)
        subst this
        simp -implicitDefEqProofs only [pkA, ptA, ↓reduceIte, Nat.reduceEqDiff, Nat.reduceAdd, Nat.reduceBEq, Nat.reduceMul, Nat.reduceLT, Nat.reduceLeDiff, isMb_flb, pkP, List.length_map]
        refine hexit2 _ _ ?_
        simp -implicitDefEqProofs only [pkA, ptA, ↓reduceIte, Nat.reduceEqDiff, Nat.reduceAdd, Nat.reduceBEq, Nat.reduceMul, Nat.reduceLT, Nat.reduceLeDiff, isMb_flb, pkP, List.length_map]
        have e1 := ssort_front hc sB hB1 hB2
        refine end_box rfl (by decide) (by simp) ?_
        rw [← e1]; simp [bxs]
  by_cases h2 : B.length = 1
  · -- one element behind
    obtain ⟨y, rfl⟩ := List.length_eq_one_iff.1 h2
    have d0 : decide (((A.length : Nat) : Int) = 1) = false := by simp; omega
    simp only [List.length_cons, List.length_nil] at hb pB wbm
    have wbm1 : IntKind.i64.wrap ((b : Int) - m) = 1 := by rw [wrap_i64 _ (by omega)]; omega
    simp -implicitDefEqProofs only [pkA, ptA, ↓reduceIte, Nat.reduceEqDiff, Nat.reduceAdd, Nat.reduceBEq, Nat.reduceMul, Nat.reduceLT, Nat.reduceLeDiff, isMb_flb, pkP, List.length_map, wma, wbm1, d0, decide_true]
    refine run_loop (fun t : List Ru × List Ru × List Ru => hdS [(0, .ms 0 0 L cap 3), (2, i64 m), (4, .c (.fn (.func g) [] caps)), (14, i64 (a + t.1.length : Nat)), (15, i64 (a + t.1.length + t.2.1.length : Nat))] [flb ruC (P ++ (A ++ ([y] ++ S)))])
      (fun t => t.2.1.length) (fun t => t.1 ++ (t.2.1 ++ t.2.2) = A ∧ (∀ z ∈ t.1, cm z y ≤ 0) ∧ ∀ z ∈ t.2.2, cm y z < 0) ([], A, []) ⟨by simp, by simp, by simp⟩ ?_ ?_
    · exact le_box rfl (by decide) (by simp) (by simp [FL, up_apply] <;> omega) (by simp [bxs])
    rintro ⟨A1, Am, A2⟩ ⟨hAA, hA1, hA2⟩ R hnorm hexit hret
    simp only at hAA hA1 hA2
    have hlen := congrArg List.length hAA
    simp only [List.length_append] at hlen
    simp -implicitDefEqProofs only [pkA, ptA, ↓reduceIte, Nat.reduceEqDiff, Nat.reduceAdd, Nat.reduceBEq, Nat.reduceMul, Nat.reduceLT, Nat.reduceLeDiff, isMb_flb, pkP, List.length_map]
    refine vcond_of (fun hlt => ?_) (fun hge => ?_)
    · have hlt : 0 < Am.length := by simp at hlt; omega
      have hu : Am.length / 2 < Am.length := by omega
      obtain ⟨U, z, W, rfl, hU⟩ : ∃ U y W, Am = U ++ y :: W ∧ U.length = Am.length / 2 := by
        obtain ⟨a', b', e, e2⟩ := list_at (List.getElem?_eq_getElem hu)
        exact ⟨a', _, b', e, e2⟩
      have w1 : IntKind.i64.wrap (((a + A1.length : Nat) : Int) + ((a + A1.length + (U ++ z :: W).length : Nat) : Int)) = (2 * (a + A1.length) + (U ++ z :: W).length : Nat) := wrap_of (by omega) (by omega)
      have hh : (2 * (a + A1.length) + (U ++ z :: W).length) / 2 = a + A1.length + U.length := by omega
      have q1 := fun K => cv1 (2 * (a + A1.length) + (U ++ z :: W).length) K (by omega)
      have q2 := fun K => cv2 (a + A1.length + U.length) K (by omega)
      have w2 : IntKind.i64.wrap (((a + A1.length + U.length : Nat) : Int) + 1) = (a + A1.length + U.length + 1 : Nat) := wrap_of (by omega) (by omega)
      have g1 : (P ++ (A ++ ([y] ++ S)))[m]? = some y := by
        have : P ++ (A ++ ([y] ++ S)) = (P ++ A) ++ y :: S := by simp
        rw [this]; exact get_mid (by simp <;> omega)
      have g2 : (P ++ (A ++ ([y] ++ S)))[a + A1.length + U.length]? = some z := by
        rw [← hAA]
        have : P ++ ((A1 ++ (U ++ z :: W ++ A2)) ++ ([y] ++ S)) = (P ++ A1 ++ U) ++ z :: (W ++ A2 ++ [y] ++ S) := by simp
        rw [this]; exact get_mid (by simp <;> omega)
      simp only [List.length_append, List.length_cons] at hlen hL
      rw [← hAA] at sA
      simp -implicitDefEqProofs only [pkA, ptA, ↓reduceIte, Nat.reduceEqDiff, Nat.reduceAdd, Nat.reduceBEq, Nat.reduceMul, Nat.reduceLT, Nat.reduceLeDiff, isMb_flb, pkP, List.length_map, w1, q1, sh, hh, q2]
      refine ix_flb ti_23 rfl ti_40 rfl (by decide) rfl (by omega) ?_
      simp -implicitDefEqProofs only [pkA, ptA, ↓reduceIte, Nat.reduceEqDiff, Nat.reduceAdd, Nat.reduceBEq, Nat.reduceMul, Nat.reduceLT, Nat.reduceLeDiff, isMb_flb, pkP, List.length_map]
      refine ld_flb ruC_len rfl (by decide) g1 ?_
      simp -implicitDefEqProofs only [pkA, ptA, ↓reduceIte, Nat.reduceEqDiff, Nat.reduceAdd, Nat.reduceBEq, Nat.reduceMul, Nat.reduceLT, Nat.reduceLeDiff, isMb_flb, pkP, List.length_map]
      refine ix_flb ti_23 rfl ti_40 rfl (by decide) rfl (by omega) ?_
      simp -implicitDefEqProofs only [pkA, ptA, ↓reduceIte, Nat.reduceEqDiff, Nat.reduceAdd, Nat.reduceBEq, Nat.reduceMul, Nat.reduceLT, Nat.reduceLeDiff, isMb_flb, pkP, List.length_map]
      refine ld_flb ruC_len rfl (by decide) g2 ?_
      simp -implicitDefEqProofs only [pkA, ptA, ↓reduceIte, Nat.reduceEqDiff, Nat.reduceAdd, Nat.reduceBEq, Nat.reduceMul, Nat.reduceLT, Nat.reduceLeDiff, isMb_flb, pkP, List.length_map]
      refine call_fn rfl (hcm y z) (by simp [V.boxy]) ?_
      simp -implicitDefEqProofs only [pkA, ptA, ↓reduceIte, Nat.reduceEqDiff, Nat.reduceAdd, Nat.reduceBEq, Nat.reduceMul, Nat.reduceLT, Nat.reduceLeDiff, isMb_flb, pkP, List.length_map]
      refine vcond_of (fun hno => ?_) (fun hless => ?_)
      · have hno : ¬ cm y z < 0 := by simpa using hno
        simp -implicitDefEqProofs only [pkA, ptA, ↓reduceIte, Nat.reduceEqDiff, Nat.reduceAdd, Nat.reduceBEq, Nat.reduceMul, Nat.reduceLT, Nat.reduceLeDiff, isMb_flb, pkP, List.length_map, w2]
        refine hnorm (A1 ++ U ++ [z], W, A2) _ ⟨by rw [← hAA]; simp, fun v hv => ?_, hA2⟩ (by simp <;> omega) (le_box rfl (by decide) (by simp) (by simp [FL, up_apply] <;> omega) (by simp [bxs]))
        rcases List.mem_append.1 hv with hv | hv
        · rcases List.mem_append.1 hv with hv | hv
          · exact hA1 v hv
          · exact hc.trans _ _ _ (sA.right.left.cross v hv z (by simp)) (hc.nlt hno)
        · rw [List.mem_singleton.1 hv]; exact hc.nlt hno
      · have hless : cm y z < 0 := by simpa using hless
        simp -implicitDefEqProofs only [pkA, ptA, ↓reduceIte, Nat.reduceEqDiff, Nat.reduceAdd, Nat.reduceBEq, Nat.reduceMul, Nat.reduceLT, Nat.reduceLeDiff, isMb_flb, pkP, List.length_map, w2]
        refine hnorm (A1, U, z :: W ++ A2) _ ⟨by rw [← hAA]; simp, hA1, fun v hv => ?_⟩ (by simp <;> omega) (le_box rfl (by decide) (by simp) (by simp [FL, up_apply]) (by simp [bxs]))
        rcases List.mem_append.1 hv with hv | hv
        · rcases List.mem_cons.1 hv with hv | hv
          · rw [hv]; exact hless
          · exact hc.lt_of_lt_le hless ((List.pairwise_cons.1 (sA.right.left.right)).1 v hv)
        · exact hA2 v hv
    · have : Am = [] := List.eq_nil_of_length_eq_zero (by simp at hge; omega)
      subst this
      simp only [List.length_nil, List.nil_append, List.length_cons] at hlen hAA hb
      subst hAA
      simp -implicitDefEqProofs only [pkA, ptA, ↓reduceIte, Nat.reduceEqDiff, Nat.reduceAdd, Nat.reduceBEq, Nat.reduceMul, Nat.reduceLT, Nat.reduceLeDiff, isMb_flb, pkP, List.length_map]
      refine hexit _ _ ?_
      simp -implicitDefEqProofs only [pkA, ptA, ↓reduceIte, Nat.reduceEqDiff, Nat.reduceAdd, Nat.reduceBEq, Nat.reduceMul, Nat.reduceLT, Nat.reduceLeDiff, isMb_flb, pkP, List.length_map]
      refine run_loop (fun t : List Ru × List Ru => hdS [(0, .ms 0 0 L cap 3), (14, i64 (a + A1.length : Nat)), (17, i64 (a + A1.length + t.1.length : Nat))] [flb ruC (P ++ (A1 ++ (t.1 ++ (y :: (t.2 ++ S)))))])
        (fun t => t.1.length) (fun t => t.1 ++ t.2 = A2) (A2, []) (by simp) ?_ ?_
      · exact le_box rfl (by decide) (by simp) (by simp [FL, up_apply]; simp at hm; omega) (by simp [bxs])
      rintro ⟨C1, C2⟩ h R2 hnorm2 hexit2 hret2
      simp only at h
      subst h
      simp only [List.length_append, List.length_cons, List.length_nil] at hlen hL
      rcases List.eq_nil_or_concat C1 with rfl | ⟨C1, z, rfl⟩
      · have d2 : decide (((a + A1.length : Nat) : Int) < ((a + A1.length + 0 : Nat) : Int)) = false := by simp
        simp -implicitDefEqProofs only [pkA, ptA, ↓reduceIte, Nat.reduceEqDiff, Nat.reduceAdd, Nat.reduceBEq, Nat.reduceMul, Nat.reduceLT, Nat.reduceLeDiff, isMb_flb, pkP, List.length_map, d2]
        refine hexit2 _ _ ?_
        simp -implicitDefEqProofs only [pkA, ptA, ↓reduceIte, Nat.reduceEqDiff, Nat.reduceAdd, Nat.reduceBEq, Nat.reduceMul, Nat.reduceLT, Nat.reduceLeDiff, isMb_flb, pkP, List.length_map]
        have e1 := ssort_back hc sA hA2 hA1
        simp only [List.nil_append] at e1
        refine end_box rfl (by decide) (by simp) ?_
        rw [← e1]; simp [bxs]
      · rw [List.concat_eq_append] at *
        simp only [List.length_append, List.length_cons, List.length_nil] at hlen hL
        have d2 : decide (((a + A1.length : Nat) : Int) < ((a + A1.length + (C1 ++ [z]).length : Nat) : Int)) = true := by simp; omega
        have w2 : IntKind.i64.wrap (((a + A1.length + (C1 ++ [z]).length : Nat) : Int) - 1) = (a + A1.length + C1.length : Nat) := wrap_of (by simp <;> omega) (by omega)
        have e0 : P ++ (A1 ++ ((C1 ++ [z]) ++ (y :: (C2 ++ S)))) = (P ++ A1 ++ C1) ++ z :: y :: (C2 ++ S) := by simp
        have hi : (P ++ A1 ++ C1).length = a + A1.length + C1.length := by simp; omega
        have hj : a + A1.length + (C1 ++ [z]).length = a + A1.length + C1.length + 1 := by simp; omega
        have g1 : ((P ++ A1 ++ C1) ++ z :: y :: (C2 ++ S))[a + A1.length + C1.length]? = some z := get_mid hi
        have g2 : ((P ++ A1 ++ C1) ++ z :: y :: (C2 ++ S))[a + A1.length + (C1 ++ [z]).length]? = some y := get_next (by omega)
        have hl0 : ((P ++ A1 ++ C1) ++ z :: y :: (C2 ++ S)).length = L := by simp only [List.length_append, List.length_cons]; omega
        obtain ⟨c1, s1⟩ := stq (i := a + A1.length + (C1 ++ [z]).length) (y := z) ruC_len (by rw [hl0]; omega) (Eq.refl (((P ++ A1 ++ C1) ++ z :: y :: (C2 ++ S)).set (a + A1.length + (C1 ++ [z]).length) z))
        obtain ⟨c2, s2⟩ := stq (i := a + A1.length + C1.length) (y := y) ruC_len (by rw [List.length_set, hl0]; omega) (swap_adj' (i := a + A1.length + C1.length) (j := a + A1.length + (C1 ++ [z]).length) hi hj)
        rw [e0]
        simp -implicitDefEqProofs only [pkA, ptA, ↓reduceIte, Nat.reduceEqDiff, Nat.reduceAdd, Nat.reduceBEq, Nat.reduceMul, Nat.reduceLT, Nat.reduceLeDiff, isMb_flb, pkP, List.length_map, d2, w2]
        refine ix_flb ti_23 rfl ti_40 rfl (by decide) rfl (by omega) ?_
        simp -implicitDefEqProofs only [pkA, ptA, ↓reduceIte, Nat.reduceEqDiff, Nat.reduceAdd, Nat.reduceBEq, Nat.reduceMul, Nat.reduceLT, Nat.reduceLeDiff, isMb_flb, pkP, List.length_map, w2]
        refine ld_flb ruC_len rfl (by decide) g1 ?_
        simp -implicitDefEqProofs only [pkA, ptA, ↓reduceIte, Nat.reduceEqDiff, Nat.reduceAdd, Nat.reduceBEq, Nat.reduceMul, Nat.reduceLT, Nat.reduceLeDiff, isMb_flb, pkP, List.length_map, w2]
        refine ix_flb ti_23 rfl ti_40 rfl (by decide) rfl (by omega) ?_
        simp -implicitDefEqProofs only [pkA, ptA, ↓reduceIte, Nat.reduceEqDiff, Nat.reduceAdd, Nat.reduceBEq, Nat.reduceMul, Nat.reduceLT, Nat.reduceLeDiff, isMb_flb, pkP, List.length_map, w2]
        refine ld_flb ruC_len rfl (by decide) g2 ?_
        simp -implicitDefEqProofs only [pkA, ptA, ↓reduceIte, Nat.reduceEqDiff, Nat.reduceAdd, Nat.reduceBEq, Nat.reduceMul, Nat.reduceLT, Nat.reduceLeDiff, isMb_flb, pkP, List.length_map, w2]
        refine ix_flb ti_23 rfl ti_40 rfl (by decide) rfl (by omega) ?_
        simp -implicitDefEqProofs only [pkA, ptA, ↓reduceIte, Nat.reduceEqDiff, Nat.reduceAdd, Nat.reduceBEq, Nat.reduceMul, Nat.reduceLT, Nat.reduceLeDiff, isMb_flb, pkP, List.length_map, w2, c1, s1]
        refine ix_flb ti_23 rfl ti_40 rfl (by decide) rfl (by omega) ?_
        simp -implicitDefEqProofs only [pkA, ptA, ↓reduceIte, Nat.reduceEqDiff, Nat.reduceAdd, Nat.reduceBEq, Nat.reduceMul, Nat.reduceLT, Nat.reduceLeDiff, isMb_flb, pkP, List.length_map, w2, c2, s2]
        refine hnorm2 (C1, z :: C2) _ (by simp) (by simp) (le_box rfl (by decide) (by simp) (by simp [FL, up_apply]) (by simp [bxs]))
  -- the general case
  obtain ⟨T, hT⟩ : ∃ T, T = ssort cm (A ++ B) := ⟨_, rfl⟩
  rw [← hT]
  obtain ⟨u, hu⟩ : ∃ u, u = (A.length + B.length) / 2 := ⟨_, rfl⟩
  have d0 : decide (((A.length : Nat) : Int) = 1) = false := by simp; omega
  have d1 : decide (((B.length : Nat) : Int) = 1) = false := by simp; omega
  have w1 : IntKind.i64.wrap ((a : Int) + b) = (a + b : Nat) := wrap_of (by omega) (by omega)
  have hh : (a + b) / 2 = a + u := by omega
  have q1 := fun K => cv1 (a + b) K (by omega)
  have q2 := fun K => cv2 (a + u) K (by omega)
  have w2 : IntKind.i64.wrap (((a + u : Nat) : Int) + m) = (a + u + m : Nat) := wrap_of (by omega) (by omega)
  have w3 : IntKind.i64.wrap (((a + u + m : Nat) : Int) - 1) = (a + u + m - 1 : Nat) := wrap_of (by omega) (by omega)
  have w4 : a + u < m → IntKind.i64.wrap (((a + u + m : Nat) : Int) - b) = (a + (u - B.length) : Nat) := fun h => wrap_of (by omega) (by omega)
  by_cases hmm : a + u < m
  all_goals
    first
      | have dm : decide (((a + u : Nat) : Int) < (m : Int)) = true := decide_eq_true (by omega)
      | have dm : decide (((a + u : Nat) : Int) < (m : Int)) = false := decide_eq_false (by omega)
    first
      | simp -implicitDefEqProofs only [pkA, ptA, ↓reduceIte, Nat.reduceEqDiff, Nat.reduceAdd, Nat.reduceBEq, Nat.reduceMul, Nat.reduceLT, Nat.reduceLeDiff, isMb_flb, pkP, List.length_map, wma, wbm, d0, d1, w1, q1, sh, hh, q2, w2, w3, dm, w4 hmm]
      | simp -implicitDefEqProofs only [pkA, ptA, ↓reduceIte, Nat.reduceEqDiff, Nat.reduceAdd, Nat.reduceBEq, Nat.reduceMul, Nat.reduceLT, Nat.reduceLeDiff, isMb_flb, pkP, List.length_map, wma, wbm, d0, d1, w1, q1, sh, hh, q2, w2, w3, dm]
    refine run_loop (fun t : Nat × Nat => hdS [(0, .ms 0 0 L cap 3), (1, i64 a), (2, i64 m), (3, i64 b), (4, .c (.fn (.func g) [] caps)), (18, i64 (a + u : Nat)), (19, i64 (a + u + m : Nat)), (20, i64 (a + t.1 : Nat)), (21, i64 (a + t.2 : Nat)), (22, i64 (a + u + m - 1 : Nat))] [flb ruC (P ++ (A ++ (B ++ S)))])
      (fun t => t.2 - t.1) (fun t => Cut cm A B u t.1 t.2) (u - B.length, min u A.length) (Cut.start hu) ?_ ?_
    · refine le_box rfl (by decide) (by simp) ?_ (by simp [bxs])
      have r1 : a + (u - B.length) = if a + u < m then a + (u - B.length) else a := by split <;> omega
      have r2 : a + min u A.length = if a + u < m then a + u else m := by split <;> omega
      rw [r1, r2]
      simp [FL, up_apply, hmm]
    rintro ⟨s, r⟩ hcut R hnorm hexit hret
    simp only at hcut
    have hsr := hcut.sr
    have hru := hcut.ru
    have hra := hcut.ra
    have hlo := hcut.lo
    simp -implicitDefEqProofs only [pkA, ptA, ↓reduceIte, Nat.reduceEqDiff, Nat.reduceAdd, Nat.reduceBEq, Nat.reduceMul, Nat.reduceLT, Nat.reduceLeDiff, isMb_flb, pkP, List.length_map]
    refine vcond_of (fun hlt => ?_) (fun hge => ?_)
    · have hlt : s < r := by simp at hlt; omega
      obtain ⟨c, hcd⟩ : ∃ c, c = (s + r) / 2 := ⟨_, rfl⟩
      have v1 : IntKind.i64.wrap (((a + s : Nat) : Int) + ((a + r : Nat) : Int)) = (2 * a + s + r : Nat) := wrap_of (by omega) (by omega)
      have vh : (2 * a + s + r) / 2 = a + c := by omega
      have p1 := fun K => cv1 (2 * a + s + r) K (by omega)
      have p2 := fun K => cv2 (a + c) K (by omega)
      have v2 : IntKind.i64.wrap (((a + u + m - 1 : Nat) : Int) - ((a + c : Nat) : Int)) = (m + (u - 1 - c) : Nat) := wrap_of (by omega) (by omega)
      have v3 : IntKind.i64.wrap (((a + c : Nat) : Int) + 1) = (a + (c + 1) : Nat) := wrap_of (by omega) (by omega)
      obtain ⟨x, hx⟩ : ∃ x, A[c]? = some x := ⟨_, List.getElem?_eq_getElem (by omega)⟩
      obtain ⟨y, hy⟩ : ∃ y, B[u - 1 - c]? = some y := ⟨_, List.getElem?_eq_getElem (by omega)⟩
      have g1 : (P ++ (A ++ (B ++ S)))[m + (u - 1 - c)]? = some y := by
        rw [List.getElem?_append_right (by omega), List.getElem?_append_right (by omega), List.getElem?_append_left (by omega), ← hy]
        congr 1; omega
      have g2 : (P ++ (A ++ (B ++ S)))[a + c]? = some x := by
        rw [List.getElem?_append_right (by omega), List.getElem?_append_left (by omega), ← hx]
        congr 1; omega
      simp -implicitDefEqProofs only [pkA, ptA, ↓reduceIte, Nat.reduceEqDiff, Nat.reduceAdd, Nat.reduceBEq, Nat.reduceMul, Nat.reduceLT, Nat.reduceLeDiff, isMb_flb, pkP, List.length_map, v1, p1, sh, vh, p2, v2]
      refine ix_flb ti_23 rfl ti_40 rfl (by decide) rfl (by omega) ?_
      simp -implicitDefEqProofs only [pkA, ptA, ↓reduceIte, Nat.reduceEqDiff, Nat.reduceAdd, Nat.reduceBEq, Nat.reduceMul, Nat.reduceLT, Nat.reduceLeDiff, isMb_flb, pkP, List.length_map]
      refine ld_flb ruC_len rfl (by decide) g1 ?_
      simp -implicitDefEqProofs only [pkA, ptA, ↓reduceIte, Nat.reduceEqDiff, Nat.reduceAdd, Nat.reduceBEq, Nat.reduceMul, Nat.reduceLT, Nat.reduceLeDiff, isMb_flb, pkP, List.length_map]
      refine ix_flb ti_23 rfl ti_40 rfl (by decide) rfl (by omega) ?_
      simp -implicitDefEqProofs only [pkA, ptA, ↓reduceIte, Nat.reduceEqDiff, Nat.reduceAdd, Nat.reduceBEq, Nat.reduceMul, Nat.reduceLT, Nat.reduceLeDiff, isMb_flb, pkP, List.length_map]
      refine ld_flb ruC_len rfl (by decide) g2 ?_
      simp -implicitDefEqProofs only [pkA, ptA, ↓reduceIte, Nat.reduceEqDiff, Nat.reduceAdd, Nat.reduceBEq, Nat.reduceMul, Nat.reduceLT, Nat.reduceLeDiff, isMb_flb, pkP, List.length_map]
      refine call_fn rfl (hcm y x) (by simp [V.boxy]) ?_
      simp -implicitDefEqProofs only [pkA, ptA, ↓reduceIte, Nat.reduceEqDiff, Nat.reduceAdd, Nat.reduceBEq, Nat.reduceMul, Nat.reduceLT, Nat.reduceLeDiff, isMb_flb, pkP, List.length_map]
      refine vcond_of (fun hno => ?_) (fun hless => ?_)
      · have hno : ¬ cm y x < 0 := by simpa using hno
        simp -implicitDefEqProofs only [pkA, ptA, ↓reduceIte, Nat.reduceEqDiff, Nat.reduceAdd, Nat.reduceBEq, Nat.reduceMul, Nat.reduceLT, Nat.reduceLeDiff, isMb_flb, pkP, List.length_map, v3]
        exact hnorm (c + 1, r) _ (hcut.up hc sA sB (by omega) (by omega) hx hy hno) (by simp only; omega) (le_box rfl (by decide) (by simp) (by simp [FL, up_apply]) (by simp [bxs]))
      · have hless : cm y x < 0 := by simpa using hless
        simp -implicitDefEqProofs only [pkA, ptA, ↓reduceIte, Nat.reduceEqDiff, Nat.reduceAdd, Nat.reduceBEq, Nat.reduceMul, Nat.reduceLT, Nat.reduceLeDiff, isMb_flb, pkP, List.length_map]
        exact hnorm (s, c) _ (hcut.down hc sA sB (by omega) (by omega) hx hy hless) (by simp only; omega) (le_box rfl (by decide) (by simp) (by simp [FL, up_apply]) (by simp [bxs]))
    · have hsr : r = s := by simp at hge; omega
      subst hsr
      obtain ⟨A1, A2, rfl, hA1⟩ : ∃ A1 A2, A = A1 ++ A2 ∧ A1.length = r := ⟨A.take r, A.drop r, (List.take_append_drop _ _).symm, by simp; omega⟩
      obtain ⟨B1, B2, rfl, hB1⟩ : ∃ B1 B2, B = B1 ++ B2 ∧ B1.length = u - r := ⟨B.take (u - r), B.drop (u - r), (List.take_append_drop _ _).symm, by simp; omega⟩
      have fin := hcut.done hc sA sB hA1 hB1
      rw [← hT] at fin
      simp only [List.length_append] at *
      have f1 := ssort_of_srt hc sA.left
      have f2 := ssort_of_srt hc sB.left
      have f3 := ssort_of_srt hc sA.right
      have f4 := ssort_of_srt hc sB.right
      have we : IntKind.i64.wrap (((a + u + m : Nat) : Int) - ((a + r : Nat) : Int)) = (m + (u - r) : Nat) := wrap_of (by omega) (by omega)
      have pr : A2 ≠ [] → B1 ≠ [] → FnB Tryd.prog G 67 [.ms 0 0 L cap 3, i64 (a + r : Nat), i64 m, i64 (m + (u - r) : Nat), .c (.fn (.func g) [] caps)] [flb ruC ((P ++ A1) ++ (A2 ++ (B1 ++ (B2 ++ S))))] (.tup []) [flb ruC ((P ++ A1) ++ (B1 ++ (A2 ++ (B2 ++ S))))] := fun e1 e2 =>
        rotate_ru (P ++ A1) A2 B1 (B2 ++ S) _ _ _ (by simp; omega) (by omega) (by omega) e1 e2 L cap (by simp; omega) (by omega) _
      have p1 : A1 ≠ [] → B1 ≠ [] → FnB Tryd.prog G 64 [.ms 0 0 L cap 3, i64 a, i64 (a + r : Nat), i64 (a + u : Nat), .c (.fn (.func g) [] caps)] [flb ruC (P ++ (A1 ++ (B1 ++ (A2 ++ (B2 ++ S)))))] (.tup []) [flb ruC (P ++ (ssort cm (A1 ++ B1) ++ (A2 ++ (B2 ++ S))))] := fun e1 e2 =>
        ih P A1 B1 (A2 ++ (B2 ++ S)) _ _ _ (by omega) ha (by omega) (by omega) e1 e2 sA.left sB.left (by simp; omega)
      have p2 : A2 ≠ [] → B2 ≠ [] → FnB Tryd.prog G 64 [.ms 0 0 L cap 3, i64 (a + u : Nat), i64 (m + (u - r) : Nat), i64 b, .c (.fn (.func g) [] caps)] [flb ruC ((P ++ ssort cm (A1 ++ B1)) ++ (A2 ++ (B2 ++ S)))] (.tup []) [flb ruC ((P ++ ssort cm (A1 ++ B1)) ++ (ssort cm (A2 ++ B2) ++ S))] := fun e1 e2 =>
        ih (P ++ ssort cm (A1 ++ B1)) A2 B2 S _ _ _ (by omega) (by simp [ssort_len]; omega) (by omega) (by omega) e1 e2 sA.right sB.right (by simp [ssort_len]; omega)
      simp -implicitDefEqProofs only [pkA, ptA, ↓reduceIte, Nat.reduceEqDiff, Nat.reduceAdd, Nat.reduceBEq, Nat.reduceMul, Nat.reduceLT, Nat.reduceLeDiff, isMb_flb, pkP, List.length_map]
      refine hexit _ _ ?_
      clear hexit hnorm hret ih
      rcases Nat.eq_zero_or_pos A1.length with k1 | k1 <;> rcases Nat.eq_zero_or_pos A2.length with k2 | k2 <;> rcases Nat.eq_zero_or_pos B1.length with k3 | k3 <;> rcases Nat.eq_zero_or_pos B2.length with k4 | k4
      all_goals try (exfalso; omega)
      all_goals
        first
          | have D1 : decide (((a : Nat) : Int) < ((a + r : Nat) : Int)) = true := decide_eq_true (by omega)
          | have D1 : decide (((a : Nat) : Int) < ((a + r : Nat) : Int)) = false := decide_eq_false (by omega)
        first
          | have D2 : decide (((a + r : Nat) : Int) < (m : Int)) = true := decide_eq_true (by omega)
          | have D2 : decide (((a + r : Nat) : Int) < (m : Int)) = false := decide_eq_false (by omega)
        first
          | have D3 : decide ((m : Int) < ((m + (u - r) : Nat) : Int)) = true := decide_eq_true (by omega)
          | have D3 : decide ((m : Int) < ((m + (u - r) : Nat) : Int)) = false := decide_eq_false (by omega)
        first
          | have D4 : decide (((a + r : Nat) : Int) < ((a + u : Nat) : Int)) = true := decide_eq_true (by omega)
          | have D4 : decide (((a + r : Nat) : Int) < ((a + u : Nat) : Int)) = false := decide_eq_false (by omega)
        first
          | have D5 : decide (((a + u : Nat) : Int) < ((m + (u - r) : Nat) : Int)) = true := decide_eq_true (by omega)
          | have D5 : decide (((a + u : Nat) : Int) < ((m + (u - r) : Nat) : Int)) = false := decide_eq_false (by omega)
        first
          | have D6 : decide (((m + (u - r) : Nat) : Int) < (b : Int)) = true := decide_eq_true (by omega)
          | have D6 : decide (((m + (u - r) : Nat) : Int) < (b : Int)) = false := decide_eq_false (by omega)
        first | (obtain rfl := List.eq_nil_of_length_eq_zero k1) | replace k1 := List.length_pos_iff.1 k1
        first | (obtain rfl := List.eq_nil_of_length_eq_zero k2) | replace k2 := List.length_pos_iff.1 k2
        first | (obtain rfl := List.eq_nil_of_length_eq_zero k3) | replace k3 := List.length_pos_iff.1 k3
        first | (obtain rfl := List.eq_nil_of_length_eq_zero k4) | replace k4 := List.length_pos_iff.1 k4
        repeat' first
          | (simp -implicitDefEqProofs only [pkA, ptA, ↓reduceIte, Nat.reduceEqDiff, Nat.reduceAdd, Nat.reduceBEq, Nat.reduceMul, Nat.reduceLT, Nat.reduceLeDiff, isMb_flb, pkP, List.length_map, we, D1, D2, D3, D4, D5, D6])
          | refine call_box rfl (pr k2 k3) rfl rfl (by simp [bxs]) ?_
          | refine call_box rfl (p1 k1 k3) rfl rfl (by simp [bxs, up_apply]) ?_
          | refine call_box rfl (p2 k2 k4) rfl rfl (by simp [bxs, up_apply, f1, f2]) ?_
        refine end_box rfl (by decide) (by simp) ?_
        rw [← fin]; simp [bxs, up_apply, f1, f2, f3, f4, ssort]
set_option maxRecDepth 100000 in
set_option maxHeartbeats 8000000 in
theorem symMerge_qu (cm : Qu → Qu → Int) (hc : Cmp cm) (g : FuncId) (caps : List C) (hcm : ∀ x y, FnOK Tryd.prog G g (.agg (quC x) :: .agg (quC y) :: caps.map .c) (i64 (cm x y))) (L cap : Nat) (hbig : L ≤ 2305843009213693952) (N : Nat) :
    ∀ (P A B S : List Qu) (a m b : Nat), A.length + B.length ≤ N → P.length = a → a + A.length = m → m + B.length = b → A ≠ [] → B ≠ [] → Srt cm A → Srt cm B → L = (P ++ (A ++ (B ++ S))).length →
    FnB Tryd.prog G 66 [.ms 0 0 L cap 5, i64 a, i64 m, i64 b, .c (.fn (.func g) [] caps)] [flb quC (P ++ (A ++ (B ++ S)))] (.tup []) [flb quC (P ++ (ssort cm (A ++ B) ++ S))] := by
  induction N with
  | zero => intro P A B S a m b hN _ _ _ hA; exact absurd (List.eq_nil_of_length_eq_zero (by omega)) hA
  | succ N ih =>
  intro P A B S a m b hN ha hm hb hA hB sA sB hL
  refine FnB_by (rs := []) (k := 1) [1000191, 1000205, 1000219, 3000001] mixed Tryd.func66 rfl rfl rfl rfl (by kernel_rfl) (by simp) rfl rfl rfl (argsB_ok rfl) (by simp) ?_
  simp only [List.length_append] at hL
  have pA := List.length_pos_iff.2 hA
  have pB := List.length_pos_iff.2 hB
  have cv1 : ∀ (n : Nat) (K : V → Prop), n ≤ 9223372036854775807 → vconv Tryd.prog 3 95 (i64 n) K = K (.c (.lit (.int .u64 n))) := fun n K h => conv_u64 ti_3 ti_95 rfl h
  have cv2 : ∀ (n : Nat) (K : V → Prop), n ≤ 9223372036854775807 → vconv Tryd.prog 95 3 (.c (.lit (.int .u64 n))) K = K (i64 n) := fun n K h => conv_i64 ti_95 ti_3 rfl h
  have sh : ∀ (n : Nat) (K : V → Prop), vbin Tryd.prog .shr 95 (.c (.lit (.int .u64 n))) (.c (.lit (.int .u64 1))) K = K (.c (.lit (.int .u64 (n / 2 : Nat)))) := fun n K => shr_one (by decide)
  have wma : IntKind.i64.wrap ((m : Int) - a) = (A.length : Nat) := wrap_of (by omega) (by omega)
  have wbm : IntKind.i64.wrap ((b : Int) - m) = (B.length : Nat) := wrap_of (by omega) (by omega)
  by_cases h1 : A.length = 1
  · -- one element in front
    obtain ⟨x, rfl⟩ := List.length_eq_one_iff.1 h1
    simp only [List.length_cons, List.length_nil] at hm pA wma
    have wma1 : IntKind.i64.wrap ((m : Int) - a) = 1 := by rw [wrap_i64 _ (by omega)]; omega
    simp -implicitDefEqProofs only [pkA, ptA, ↓reduceIte, Nat.reduceEqDiff, Nat.reduceAdd, Nat.reduceBEq, Nat.reduceMul, Nat.reduceLT, Nat.reduceLeDiff, isMb_flb, pkP, List.length_map, wma1, decide_true]
    refine run_loop (fun t : List Qu × List Qu × List Qu => hdS [(0, .ms 0 0 L cap 5), (1, i64 a), (4, .c (.fn (.func g) [] caps)), (10, i64 (m + t.1.length : Nat)), (11, i64 (m + t.1.length + t.2.1.length : Nat))] [flb quC (P ++ ([x] ++ (B ++ S)))])
      (fun t => t.2.1.length) (fun t => t.1 ++ (t.2.1 ++ t.2.2) = B ∧ (∀ z ∈ t.1, cm z x < 0) ∧ ∀ z ∈ t.2.2, cm x z ≤ 0) ([], B, []) ⟨by simp, by simp, by simp⟩ ?_ ?_
    · exact le_box rfl (by decide) (by simp) (by simp [FL, up_apply] <;> omega) (by simp [bxs])
    rintro ⟨B1, Bm, B2⟩ ⟨hBB, hB1, hB2⟩ R hnorm hexit hret
    simp only at hBB hB1 hB2
    have hlen := congrArg List.length hBB
    simp only [List.length_append] at hlen
    simp -implicitDefEqProofs only [pkA, ptA, ↓reduceIte, Nat.reduceEqDiff, Nat.reduceAdd, Nat.reduceBEq, Nat.reduceMul, Nat.reduceLT, Nat.reduceLeDiff, isMb_flb, pkP, List.length_map]
    refine vcond_of (fun hlt => ?_) (fun hge => ?_)
    · have hlt : 0 < Bm.length := by simp at hlt; omega
      have hu : Bm.length / 2 < Bm.length := by omega
      obtain ⟨U, y, W, rfl, hU⟩ : ∃ U y W, Bm = U ++ y :: W ∧ U.length = Bm.length / 2 := by
        obtain ⟨a', b', e, e2⟩ := list_at (List.getElem?_eq_getElem hu)
        exact ⟨a', _, b', e, e2⟩
      have w1 : IntKind.i64.wrap (((m + B1.length : Nat) : Int) + ((m + B1.length + (U ++ y :: W).length : Nat) : Int)) = (2 * (m + B1.length) + (U ++ y :: W).length : Nat) := wrap_of (by omega) (by omega)
      have hh : (2 * (m + B1.length) + (U ++ y :: W).length) / 2 = m + B1.length + U.length := by omega
      have q1 := fun K => cv1 (2 * (m + B1.length) + (U ++ y :: W).length) K (by omega)
      have q2 := fun K => cv2 (m + B1.length + U.length) K (by omega)
      have w2 : IntKind.i64.wrap (((m + B1.length + U.length : Nat) : Int) + 1) = (m + B1.length + U.length + 1 : Nat) := wrap_of (by omega) (by omega)
      have g1 : (P ++ ([x] ++ (B ++ S)))[a]? = some x := get_mid (P := P) (S := B ++ S) ha
      have g2 : (P ++ ([x] ++ (B ++ S)))[m + B1.length + U.length]? = some y := by
        rw [← hBB]
        have : P ++ ([x] ++ ((B1 ++ (U ++ y :: W ++ B2)) ++ S)) = (P ++ [x] ++ B1 ++ U) ++ y :: (W ++ B2 ++ S) := by simp
        rw [this]; exact get_mid (by simp; simp at hm; omega)
      simp only [List.length_append, List.length_cons] at hlen hm
      rw [← hBB] at sB
      simp -implicitDefEqProofs only [pkA, ptA, ↓reduceIte, Nat.reduceEqDiff, Nat.reduceAdd, Nat.reduceBEq, Nat.reduceMul, Nat.reduceLT, Nat.reduceLeDiff, isMb_flb, pkP, List.length_map, w1, q1, sh, hh, q2]
      refine ix_flb ti_24 rfl ti_42 rfl (by decide) rfl (by omega) ?_
      simp -implicitDefEqProofs only [pkA, ptA, ↓reduceIte, Nat.reduceEqDiff, Nat.reduceAdd, Nat.reduceBEq, Nat.reduceMul, Nat.reduceLT, Nat.reduceLeDiff, isMb_flb, pkP, List.length_map]
      refine ld_flb quC_len rfl (by decide) g2 ?_
      simp -implicitDefEqProofs only [pkA, ptA, ↓reduceIte, Nat.reduceEqDiff, Nat.reduceAdd, Nat.reduceBEq, Nat.reduceMul, Nat.reduceLT, Nat.reduceLeDiff, isMb_flb, pkP, List.length_map]
      refine ix_flb ti_24 rfl ti_42 rfl (by decide) rfl (by omega) ?_
      simp -implicitDefEqProofs only [pkA, ptA, ↓reduceIte, Nat.reduceEqDiff, Nat.reduceAdd, Nat.reduceBEq, Nat.reduceMul, Nat.reduceLT, Nat.reduceLeDiff, isMb_flb, pkP, List.length_map]
      refine ld_flb quC_len rfl (by decide) g1 ?_
      simp -implicitDefEqProofs only [pkA, ptA, ↓reduceIte, Nat.reduceEqDiff, Nat.reduceAdd, Nat.reduceBEq, Nat.reduceMul, Nat.reduceLT, Nat.reduceLeDiff, isMb_flb, pkP, List.length_map]
      refine call_fn rfl (hcm y x) (by simp [V.boxy]) ?_
      simp -implicitDefEqProofs only [pkA, ptA, ↓reduceIte, Nat.reduceEqDiff, Nat.reduceAdd, Nat.reduceBEq, Nat.reduceMul, Nat.reduceLT, Nat.reduceLeDiff, isMb_flb, pkP, List.length_map]
      refine vcond_of (fun hless => ?_) (fun hno => ?_)
      · have hless : cm y x < 0 := by simpa using hless
        simp -implicitDefEqProofs only [pkA, ptA, ↓reduceIte, Nat.reduceEqDiff, Nat.reduceAdd, Nat.reduceBEq, Nat.reduceMul, Nat.reduceLT, Nat.reduceLeDiff, isMb_flb, pkP, List.length_map, w2]
        refine hnorm (B1 ++ U ++ [y], W, B2) _ ⟨by rw [← hBB]; simp, fun z hz => ?_, hB2⟩ (by simp <;> omega) (le_box rfl (by decide) (by simp) (by simp [FL, up_apply] <;> omega) (by simp [bxs]))
        rcases List.mem_append.1 hz with hz | hz
        · rcases List.mem_append.1 hz with hz | hz
          · exact hB1 z hz
          · exact hc.lt_of_le_lt (sB.right.left.cross z hz y (by simp)) hless
        · rw [List.mem_singleton.1 hz]; exact hless
      · have hno : ¬ cm y x < 0 := by simpa using hno
        simp -implicitDefEqProofs only [pkA, ptA, ↓reduceIte, Nat.reduceEqDiff, Nat.reduceAdd, Nat.reduceBEq, Nat.reduceMul, Nat.reduceLT, Nat.reduceLeDiff, isMb_flb, pkP, List.length_map, w2]
        refine hnorm (B1, U, y :: W ++ B2) _ ⟨by rw [← hBB]; simp, hB1, fun z hz => ?_⟩ (by simp <;> omega) (le_box rfl (by decide) (by simp) (by simp [FL, up_apply]) (by simp [bxs]))
        have hxy := hc.nlt hno
        rcases List.mem_append.1 hz with hz | hz
        · rcases List.mem_cons.1 hz with hz | hz
          · rw [hz]; exact hxy
          · exact hc.trans _ _ _ hxy ((List.pairwise_cons.1 (sB.right.left.right)).1 z hz)
        · exact hB2 z hz
    · have : Bm = [] := List.eq_nil_of_length_eq_zero (by simp at hge; omega)
      subst this
      simp only [List.length_nil, List.nil_append, List.length_cons] at hlen hBB hm
      subst hBB
      simp -implicitDefEqProofs only [pkA, ptA, ↓reduceIte, Nat.reduceEqDiff, Nat.reduceAdd, Nat.reduceBEq, Nat.reduceMul, Nat.reduceLT, Nat.reduceLeDiff, isMb_flb, pkP, List.length_map]
      refine hexit _ _ ?_
      have w1 : IntKind.i64.wrap (((m + B1.length : Nat) : Int) - 1) = (a + B1.length : Nat) := wrap_of (by omega) (by omega)
      simp -implicitDefEqProofs only [pkA, ptA, ↓reduceIte, Nat.reduceEqDiff, Nat.reduceAdd, Nat.reduceBEq, Nat.reduceMul, Nat.reduceLT, Nat.reduceLeDiff, isMb_flb, pkP, List.length_map]
      refine run_loop (fun t : List Qu × List Qu => hdS [(0, .ms 0 0 L cap 5), (10, i64 (m + B1.length : Nat)), (13, i64 (a + t.1.length : Nat))] [flb quC (P ++ (t.1 ++ (x :: (t.2 ++ (B2 ++ S)))))])
        (fun t => t.2.length) (fun t => t.1 ++ t.2 = B1) ([], B1) rfl ?_ ?_
      · exact le_box rfl (by decide) (by simp) (by simp [FL, up_apply]) (by simp [bxs])
      rintro ⟨C1, C2⟩ h R2 hnorm2 hexit2 hret2
      simp only at h
      subst h
      simp only [List.length_append] at hlen hL w1
      simp -implicitDefEqProofs only [pkA, ptA, ↓reduceIte, Nat.reduceEqDiff, Nat.reduceAdd, Nat.reduceBEq, Nat.reduceMul, Nat.reduceLT, Nat.reduceLeDiff, isMb_flb, pkP, List.length_map, w1, List.length_append]
      refine vcond_of (fun hlt => ?_) (fun hge => ?_)
      · have hlt : 0 < C2.length := by simp at hlt; omega
        obtain ⟨y, C2, rfl⟩ : ∃ x t, C2 = x :: t := List.exists_cons_of_ne_nil (List.length_pos_iff.1 hlt)
        simp only [List.length_cons, List.length_nil] at hlen hL
        have w2 : IntKind.i64.wrap (((a + C1.length : Nat) : Int) + 1) = (a + C1.length + 1 : Nat) := wrap_of (by omega) (by omega)
        have e0 : P ++ (C1 ++ (x :: ((y :: C2) ++ (B2 ++ S)))) = (P ++ C1) ++ x :: y :: (C2 ++ (B2 ++ S)) := by simp
        have hi : (P ++ C1).length = a + C1.length := by simp; omega
        have g1 : ((P ++ C1) ++ x :: y :: (C2 ++ (B2 ++ S)))[a + C1.length]? = some x := get_mid hi
        have g2 : ((P ++ C1) ++ x :: y :: (C2 ++ (B2 ++ S)))[a + C1.length + 1]? = some y := get_next (by omega)
        have hl0 : ((P ++ C1) ++ x :: y :: (C2 ++ (B2 ++ S))).length = L := by simp only [List.length_append, List.length_cons]; omega
        obtain ⟨c1, s1⟩ := stq (i := a + C1.length) (y := y) quC_len (by rw [hl0]; omega) (Eq.refl (((P ++ C1) ++ x :: y :: (C2 ++ (B2 ++ S))).set (a + C1.length) y))
        obtain ⟨c2, s2⟩ := stq (i := a + C1.length + 1) (y := x) quC_len (by rw [List.length_set, hl0]; omega) (swap_adj (i := a + C1.length) (j := a + C1.length + 1) hi rfl)
        rw [e0]
        simp -implicitDefEqProofs only [pkA, ptA, ↓reduceIte, Nat.reduceEqDiff, Nat.reduceAdd, Nat.reduceBEq, Nat.reduceMul, Nat.reduceLT, Nat.reduceLeDiff, isMb_flb, pkP, List.length_map, w2]
        refine ix_flb ti_24 rfl ti_42 rfl (by decide) rfl (by omega) ?_
        simp -implicitDefEqProofs only [pkA, ptA, ↓reduceIte, Nat.reduceEqDiff, Nat.reduceAdd, Nat.reduceBEq, Nat.reduceMul, Nat.reduceLT, Nat.reduceLeDiff, isMb_flb, pkP, List.length_map, w2]
        refine ld_flb quC_len rfl (by decide) g2 ?_
        simp -implicitDefEqProofs only [pkA, ptA, ↓reduceIte, Nat.reduceEqDiff, Nat.reduceAdd, Nat.reduceBEq, Nat.reduceMul, Nat.reduceLT, Nat.reduceLeDiff, isMb_flb, pkP, List.length_map, w2]
        refine ix_flb ti_24 rfl ti_42 rfl (by decide) rfl (by omega) ?_
        simp -implicitDefEqProofs only [pkA, ptA, ↓reduceIte, Nat.reduceEqDiff, Nat.reduceAdd, Nat.reduceBEq, Nat.reduceMul, Nat.reduceLT, Nat.reduceLeDiff, isMb_flb, pkP, List.length_map, w2]
        refine ld_flb quC_len rfl (by decide) g1 ?_
        simp -implicitDefEqProofs only [pkA, ptA, ↓reduceIte, Nat.reduceEqDiff, Nat.reduceAdd, Nat.reduceBEq, Nat.reduceMul, Nat.reduceLT, Nat.reduceLeDiff, isMb_flb, pkP, List.length_map, w2]
        refine ix_flb ti_24 rfl ti_42 rfl (by decide) rfl (by omega) ?_
        simp -implicitDefEqProofs only [pkA, ptA, ↓reduceIte, Nat.reduceEqDiff, Nat.reduceAdd, Nat.reduceBEq, Nat.reduceMul, Nat.reduceLT, Nat.reduceLeDiff, isMb_flb, pkP, List.length_map, w2, c1, s1]
        refine ix_flb ti_24 rfl ti_42 rfl (by decide) rfl (by omega) ?_
        simp -implicitDefEqProofs only [pkA, ptA, ↓reduceIte, Nat.reduceEqDiff, Nat.reduceAdd, Nat.reduceBEq, Nat.reduceMul, Nat.reduceLT, Nat.reduceLeDiff, isMb_flb, pkP, List.length_map, w2, c2, s2]
        refine hnorm2 (C1 ++ [y], C2) _ (by simp) (by simp) (le_box rfl (by decide) (by simp) (by simp [FL, up_apply] <;> omega) (by simp [bxs]))
      · have : C2 = [] := List.eq_nil_of_length_eq_zero (by simp at hge; omega)
        subst this
        simp -implicitDefEqProofs only [pkA, ptA, ↓reduceIte, Nat.reduceEqDiff, Nat.reduceAdd, Nat.reduceBEq, Nat.reduceMul, Nat.reduceLT, Nat.reduceLeDiff, isMb_flb, pkP, List.length_map]
        refine hexit2 _ _ ?_
        simp -implicitDefEqProofs only [pkA, ptA, ↓reduceIte, Nat.reduceEqDiff, Nat.reduceAdd, Nat.reduceBEq, Nat.reduceMul, Nat.reduceLT, Nat.reduceLeDiff, isMb_flb, pkP, List.length_map]
        have e1 := ssort_front hc sB hB1 hB2
        refine end_box rfl (by decide) (by simp) ?_
        rw [← e1]; simp [bxs]
  by_cases h2 : B.length = 1
  · -- one element behind
    obtain ⟨y, rfl⟩ := List.length_eq_one_iff.1 h2
    have d0 : decide (((A.length : Nat) : Int) = 1) = false := by simp; omega
    simp only [List.length_cons, List.length_nil] at hb pB wbm
    have wbm1 : IntKind.i64.wrap ((b : Int) - m) = 1 := by rw [wrap_i64 _ (by omega)]; omega
    simp -implicitDefEqProofs only [pkA, ptA, ↓reduceIte, Nat.reduceEqDiff, Nat.reduceAdd, Nat.reduceBEq, Nat.reduceMul, Nat.reduceLT, Nat.reduceLeDiff, isMb_flb, pkP, List.length_map, wma, wbm1, d0, decide_true]
    refine run_loop (fun t : List Qu × List Qu × List Qu => hdS [(0, .ms 0 0 L cap 5), (2, i64 m), (4, .c (.fn (.func g) [] caps)), (14, i64 (a + t.1.length : Nat)), (15, i64 (a + t.1.length + t.2.1.length : Nat))] [flb quC (P ++ (A ++ ([y] ++ S)))])
      (fun t => t.2.1.length) (fun t => t.1 ++ (t.2.1 ++ t.2.2) = A ∧ (∀ z ∈ t.1, cm z y ≤ 0) ∧ ∀ z ∈ t.2.2, cm y z < 0) ([], A, []) ⟨by simp, by simp, by simp⟩ ?_ ?_
    · exact le_box rfl (by decide) (by simp) (by simp [FL, up_apply] <;> omega) (by simp [bxs])
    rintro ⟨A1, Am, A2⟩ ⟨hAA, hA1, hA2⟩ R hnorm hexit hret
    simp only at hAA hA1 hA2
    have hlen := congrArg List.length hAA
    simp only [List.length_append] at hlen
    simp -implicitDefEqProofs only [pkA, ptA, ↓reduceIte, Nat.reduceEqDiff, Nat.reduceAdd, Nat.reduceBEq, Nat.reduceMul, Nat.reduceLT, Nat.reduceLeDiff, isMb_flb, pkP, List.length_map]
    refine vcond_of (fun hlt => ?_) (fun hge => ?_)
    · have hlt : 0 < Am.length := by simp at hlt; omega
      have hu : Am.length / 2 < Am.length := by omega
      obtain ⟨U, z, W, rfl, hU⟩ : ∃ U y W, Am = U ++ y :: W ∧ U.length = Am.length / 2 := by
        obtain ⟨a', b', e, e2⟩ := list_at (List.getElem?_eq_getElem hu)
        exact ⟨a', _, b', e, e2⟩
      have w1 : IntKind.i64.wrap (((a + A1.length : Nat) : Int) + ((a + A1.length + (U ++ z :: W).length : Nat) : Int)) = (2 * (a + A1.length) + (U ++ z :: W).length : Nat) := wrap_of (by omega) (by omega)
      have hh : (2 * (a + A1.length) + (U ++ z :: W).length) / 2 = a + A1.length + U.length := by omega
      have q1 := fun K => cv1 (2 * (a + A1.length) + (U ++ z :: W).length) K (by omega)
      have q2 := fun K => cv2 (a + A1.length + U.length) K (by omega)
      have w2 : IntKind.i64.wrap (((a + A1.length + U.length : Nat) : Int) + 1) = (a + A1.length + U.length + 1 : Nat) := wrap_of (by omega) (by omega)
      have g1 : (P ++ (A ++ ([y] ++ S)))[m]? = some y := by
        have : P ++ (A ++ ([y] ++ S)) = (P ++ A) ++ y :: S := by simp
        rw [this]; exact get_mid (by simp <;> omega)
      have g2 : (P ++ (A ++ ([y] ++ S)))[a + A1.length + U.length]? = some z := by
        rw [← hAA]
        have : P ++ ((A1 ++ (U ++ z :: W ++ A2)) ++ ([y] ++ S)) = (P ++ A1 ++ U) ++ z :: (W ++ A2 ++ [y] ++ S) := by simp
        rw [this]; exact get_mid (by simp <;> omega)
      simp only [List.length_append, List.length_cons] at hlen hL
      rw [← hAA] at sA
      simp -implicitDefEqProofs only [pkA, ptA, ↓reduceIte, Nat.reduceEqDiff, Nat.reduceAdd, Nat.reduceBEq, Nat.reduceMul, Nat.reduceLT, Nat.reduceLeDiff, isMb_flb, pkP, List.length_map, w1, q1, sh, hh, q2]
      refine ix_flb ti_24 rfl ti_42 rfl (by decide) rfl (by omega) ?_
      simp -implicitDefEqProofs only [pkA, ptA, ↓reduceIte, Nat.reduceEqDiff, Nat.reduceAdd, Nat.reduceBEq, Nat.reduceMul, Nat.reduceLT, Nat.reduceLeDiff, isMb_flb, pkP, List.length_map]
      refine ld_flb quC_len rfl (by decide) g1 ?_
      simp -implicitDefEqProofs only [pkA, ptA, ↓reduceIte, Nat.reduceEqDiff, Nat.reduceAdd, Nat.reduceBEq, Nat.reduceMul, Nat.reduceLT, Nat.reduceLeDiff, isMb_flb, pkP, List.length_map]
      refine ix_flb ti_24 rfl ti_42 rfl (by decide) rfl (by omega) ?_
      simp -implicitDefEqProofs only [pkA, ptA, ↓reduceIte, Nat.reduceEqDiff, Nat.reduceAdd, Nat.reduceBEq, Nat.reduceMul, Nat.reduceLT, Nat.reduceLeDiff, isMb_flb, pkP, List.length_map]
      refine ld_flb quC_len rfl (by decide) g2 ?_
      simp -implicitDefEqProofs only [pkA, ptA, ↓reduceIte, Nat.reduceEqDiff, Nat.reduceAdd, Nat.reduceBEq, Nat.reduceMul, Nat.reduceLT, Nat.reduceLeDiff, isMb_flb, pkP, List.length_map]
      refine call_fn rfl (hcm y z) (by simp [V.boxy]) ?_
      simp -implicitDefEqProofs only [pkA, ptA, ↓reduceIte, Nat.reduceEqDiff, Nat.reduceAdd, Nat.reduceBEq, Nat.reduceMul, Nat.reduceLT, Nat.reduceLeDiff, isMb_flb, pkP, List.length_map]
      refine vcond_of (fun hno => ?_) (fun hless => ?_)
      · have hno : ¬ cm y z < 0 := by simpa using hno
        simp -implicitDefEqProofs only [pkA, ptA, ↓reduceIte, Nat.reduceEqDiff, Nat.reduceAdd, Nat.reduceBEq, Nat.reduceMul, Nat.reduceLT, Nat.reduceLeDiff, isMb_flb, pkP, List.length_map, w2]
        refine hnorm (A1 ++ U ++ [z], W, A2) _ ⟨by rw [← hAA]; simp, fun v hv => ?_, hA2⟩ (by simp <;> omega) (le_box rfl (by decide) (by simp) (by simp [FL, up_apply] <;> omega) (by simp [bxs]))
        rcases List.mem_append.1 hv with hv | hv
        · rcases List.mem_append.1 hv with hv | hv
          · exact hA1 v hv
          · exact hc.trans _ _ _ (sA.right.left.cross v hv z (by simp)) (hc.nlt hno)
        · rw [List.mem_singleton.1 hv]; exact hc.nlt hno
      · have hless : cm y z < 0 := by simpa using hless
        simp -implicitDefEqProofs only [pkA, ptA, ↓reduceIte, Nat.reduceEqDiff, Nat.reduceAdd, Nat.reduceBEq, Nat.reduceMul, Nat.reduceLT, Nat.reduceLeDiff, isMb_flb, pkP, List.length_map, w2]
        refine hnorm (A1, U, z :: W ++ A2) _ ⟨by rw [← hAA]; simp, hA1, fun v hv => ?_⟩ (by simp <;> omega) (le_box rfl (by decide) (by simp) (by simp [FL, up_apply]) (by simp [bxs]))
        rcases List.mem_append.1 hv with hv | hv
        · rcases List.mem_cons.1 hv with hv | hv
          · rw [hv]; exact hless
          · exact hc.lt_of_lt_le hless ((List.pairwise_cons.1 (sA.right.left.right)).1 v hv)
        · exact hA2 v hv
    · have : Am = [] := List.eq_nil_of_length_eq_zero (by simp at hge; omega)
      subst this
      simp only [List.length_nil, List.nil_append, List.length_cons] at hlen hAA hb
      subst hAA
      simp -implicitDefEqProofs only [pkA, ptA, ↓reduceIte, Nat.reduceEqDiff, Nat.reduceAdd, Nat.reduceBEq, Nat.reduceMul, Nat.reduceLT, Nat.reduceLeDiff, isMb_flb, pkP, List.length_map]
      refine hexit _ _ ?_
      simp -implicitDefEqProofs only [pkA, ptA, ↓reduceIte, Nat.reduceEqDiff, Nat.reduceAdd, Nat.reduceBEq, Nat.reduceMul, Nat.reduceLT, Nat.reduceLeDiff, isMb_flb, pkP, List.length_map]
      refine run_loop (fun t : List Qu × List Qu => hdS [(0, .ms 0 0 L cap 5), (14, i64 (a + A1.length : Nat)), (17, i64 (a + A1.length + t.1.length : Nat))] [flb quC (P ++ (A1 ++ (t.1 ++ (y :: (t.2 ++ S)))))])
        (fun t => t.1.length) (fun t => t.1 ++ t.2 = A2) (A2, []) (by simp) ?_ ?_
      · exact le_box rfl (by decide) (by simp) (by simp [FL, up_apply]; simp at hm; omega) (by simp [bxs])
      rintro ⟨C1, C2⟩ h R2 hnorm2 hexit2 hret2
      simp only at h
      subst h
      simp only [List.length_append, List.length_cons, List.length_nil] at hlen hL
      rcases List.eq_nil_or_concat C1 with rfl | ⟨C1, z, rfl⟩
      · have d2 : decide (((a + A1.length : Nat) : Int) < ((a + A1.length + 0 : Nat) : Int)) = false := by simp
        simp -implicitDefEqProofs only [pkA, ptA, ↓reduceIte, Nat.reduceEqDiff, Nat.reduceAdd, Nat.reduceBEq, Nat.reduceMul, Nat.reduceLT, Nat.reduceLeDiff, isMb_flb, pkP, List.length_map, d2]
        refine hexit2 _ _ ?_
        simp -implicitDefEqProofs only [pkA, ptA, ↓reduceIte, Nat.reduceEqDiff, Nat.reduceAdd, Nat.reduceBEq, Nat.reduceMul, Nat.reduceLT, Nat.reduceLeDiff, isMb_flb, pkP, List.length_map]
        have e1 := ssort_back hc sA hA2 hA1
        simp only [List.nil_append] at e1
        refine end_box rfl (by decide) (by simp) ?_
        rw [← e1]; simp [bxs]
      · rw [List.concat_eq_append] at *
        simp only [List.length_append, List.length_cons, List.length_nil] at hlen hL
        have d2 : decide (((a + A1.length : Nat) : Int) < ((a + A1.length + (C1 ++ [z]).length : Nat) : Int)) = true := by simp; omega
        have w2 : IntKind.i64.wrap (((a + A1.length + (C1 ++ [z]).length : Nat) : Int) - 1) = (a + A1.length + C1.length : Nat) := wrap_of (by simp <;> omega) (by omega)
        have e0 : P ++ (A1 ++ ((C1 ++ [z]) ++ (y :: (C2 ++ S)))) = (P ++ A1 ++ C1) ++ z :: y :: (C2 ++ S) := by simp
        have hi : (P ++ A1 ++ C1).length = a + A1.length + C1.length := by simp; omega
        have hj : a + A1.length + (C1 ++ [z]).length = a + A1.length + C1.length + 1 := by simp; omega
        have g1 : ((P ++ A1 ++ C1) ++ z :: y :: (C2 ++ S))[a + A1.length + C1.length]? = some z := get_mid hi
        have g2 : ((P ++ A1 ++ C1) ++ z :: y :: (C2 ++ S))[a + A1.length + (C1 ++ [z]).length]? = some y := get_next (by omega)
        have hl0 : ((P ++ A1 ++ C1) ++ z :: y :: (C2 ++ S)).length = L := by simp only [List.length_append, List.length_cons]; omega
        obtain ⟨c1, s1⟩ := stq (i := a + A1.length + (C1 ++ [z]).length) (y := z) quC_len (by rw [hl0]; omega) (Eq.refl (((P ++ A1 ++ C1) ++ z :: y :: (C2 ++ S)).set (a + A1.length + (C1 ++ [z]).length) z))
        obtain ⟨c2, s2⟩ := stq (i := a + A1.length + C1.length) (y := y) quC_len (by rw [List.length_set, hl0]; omega) (swap_adj' (i := a + A1.length + C1.length) (j := a + A1.length + (C1 ++ [z]).length) hi hj)
        rw [e0]
        simp -implicitDefEqProofs only [pkA, ptA, ↓reduceIte, Nat.reduceEqDiff, Nat.reduceAdd, Nat.reduceBEq, Nat.reduceMul, Nat.reduceLT, Nat.reduceLeDiff, isMb_flb, pkP, List.length_map, d2, w2]
        refine ix_flb ti_24 rfl ti_42 rfl (by decide) rfl (by omega) ?_
        simp -implicitDefEqProofs only [pkA, ptA, ↓reduceIte, Nat.reduceEqDiff, Nat.reduceAdd, Nat.reduceBEq, Nat.reduceMul, Nat.reduceLT, Nat.reduceLeDiff, isMb_flb, pkP, List.length_map, w2]
        refine ld_flb quC_len rfl (by decide) g1 ?_
        simp -implicitDefEqProofs only [pkA, ptA, ↓reduceIte, Nat.reduceEqDiff, Nat.reduceAdd, Nat.reduceBEq, Nat.reduceMul, Nat.reduceLT, Nat.reduceLeDiff, isMb_flb, pkP, List.length_map, w2]
        refine ix_flb ti_24 rfl ti_42 rfl (by decide) rfl (by omega) ?_
        simp -implicitDefEqProofs only [pkA, ptA, ↓reduceIte, Nat.reduceEqDiff, Nat.reduceAdd, Nat.reduceBEq, Nat.reduceMul, Nat.reduceLT, Nat.reduceLeDiff, isMb_flb, pkP, List.length_map, w2]
        refine ld_flb quC_len rfl (by decide) g2 ?_
        simp -implicitDefEqProofs only [pkA, ptA, ↓reduceIte, Nat.reduceEqDiff, Nat.reduceAdd, Nat.reduceBEq, Nat.reduceMul, Nat.reduceLT, Nat.reduceLeDiff, isMb_flb, pkP, List.length_map, w2]
        refine ix_flb ti_24 rfl ti_42 rfl (by decide) rfl (by omega) ?_
        simp -implicitDefEqProofs only [pkA, ptA, ↓reduceIte, Nat.reduceEqDiff, Nat.reduceAdd, Nat.reduceBEq, Nat.reduceMul, Nat.reduceLT, Nat.reduceLeDiff, isMb_flb, pkP, List.length_map, w2, c1, s1]
        refine ix_flb ti_24 rfl ti_42 rfl (by decide) rfl (by omega) ?_
        simp -implicitDefEqProofs only [pkA, ptA, ↓reduceIte, Nat.reduceEqDiff, Nat.reduceAdd, Nat.reduceBEq, Nat.reduceMul, Nat.reduceLT, Nat.reduceLeDiff, isMb_flb, pkP, List.length_map, w2, c2, s2]
        refine hnorm2 (C1, z :: C2) _ (by simp) (by simp) (le_box rfl (by decide) (by simp) (by simp [FL, up_apply]) (by simp [bxs]))
  -- the general case
  obtain ⟨T, hT⟩ : ∃ T, T = ssort cm (A ++ B) := ⟨_, rfl⟩
  rw [← hT]
  obtain ⟨u, hu⟩ : ∃ u, u = (A.length + B.length) / 2 := ⟨_, rfl⟩
  have d0 : decide (((A.length : Nat) : Int) = 1) = false := by simp; omega
  have d1 : decide (((B.length : Nat) : Int) = 1) = false := by simp; omega
  have w1 : IntKind.i64.wrap ((a : Int) + b) = (a + b : Nat) := wrap_of (by omega) (by omega)
  have hh : (a + b) / 2 = a + u := by omega
  have q1 := fun K => cv1 (a + b) K (by omega)
  have q2 := fun K => cv2 (a + u) K (by omega)
  have w2 : IntKind.i64.wrap (((a + u : Nat) : Int) + m) = (a + u + m : Nat) := wrap_of (by omega) (by omega)
  have w3 : IntKind.i64.wrap (((a + u + m : Nat) : Int) - 1) = (a + u + m - 1 : Nat) := wrap_of (by omega) (by omega)
  have w4 : a + u < m → IntKind.i64.wrap (((a + u + m : Nat) : Int) - b) = (a + (u - B.length) : Nat) := fun h => wrap_of (by omega) (by omega)
  by_cases hmm : a + u < m
  all_goals
    first
      | have dm : decide (((a + u : Nat) : Int) < (m : Int)) = true := decide_eq_true (by omega)
      | have dm : decide (((a + u : Nat) : Int) < (m : Int)) = false := decide_eq_false (by omega)
    first
      | simp -implicitDefEqProofs only [pkA, ptA, ↓reduceIte, Nat.reduceEqDiff, Nat.reduceAdd, Nat.reduceBEq, Nat.reduceMul, Nat.reduceLT, Nat.reduceLeDiff, isMb_flb, pkP, List.length_map, wma, wbm, d0, d1, w1, q1, sh, hh, q2, w2, w3, dm, w4 hmm]
      | simp -implicitDefEqProofs only [pkA, ptA, ↓reduceIte, Nat.reduceEqDiff, Nat.reduceAdd, Nat.reduceBEq, Nat.reduceMul, Nat.reduceLT, Nat.reduceLeDiff, isMb_flb, pkP, List.length_map, wma, wbm, d0, d1, w1, q1, sh, hh, q2, w2, w3, dm]
    refine run_loop (fun t : Nat × Nat => hdS [(0, .ms 0 0 L cap 5), (1, i64 a), (2, i64 m), (3, i64 b), (4, .c (.fn (.func g) [] caps)), (18, i64 (a + u : Nat)), (19, i64 (a + u + m : Nat)), (20, i64 (a + t.1 : Nat)), (21, i64 (a + t.2 : Nat)), (22, i64 (a + u + m - 1 : Nat))] [flb quC (P ++ (A ++ (B ++ S)))])
      (fun t => t.2 - t.1) (fun t => Cut cm A B u t.1 t.2) (u - B.length, min u A.length) (Cut.start hu) ?_ ?_
    · refine le_box rfl (by decide) (by simp) ?_ (by simp [bxs])
      have r1 : a + (u - B.length) = if a + u < m then a + (u - B.length) else a := by split <;> omega
      have r2 : a + min u A.length = if a + u < m then a + u else m := by split <;> omega
      rw [r1, r2]
      simp [FL, up_apply, hmm]
    rintro ⟨s, r⟩ hcut R hnorm hexit hret
    simp only at hcut
    have hsr := hcut.sr
    have hru := hcut.ru
    have hra := hcut.ra
    have hlo := hcut.lo
    simp -implicitDefEqProofs only [pkA, ptA, ↓reduceIte, Nat.reduceEqDiff, Nat.reduceAdd, Nat.reduceBEq, Nat.reduceMul, Nat.reduceLT, Nat.reduceLeDiff, isMb_flb, pkP, List.length_map]
    refine vcond_of (fun hlt => ?_) (fun hge => ?_)
    · have hlt : s < r := by simp at hlt; omega
      obtain ⟨c, hcd⟩ : ∃ c, c = (s + r) / 2 := ⟨_, rfl⟩
      have v1 : IntKind.i64.wrap (((a + s : Nat) : Int) + ((a + r : Nat) : Int)) = (2 * a + s + r : Nat) := wrap_of (by omega) (by omega)
      have vh : (2 * a + s + r) / 2 = a + c := by omega
      have p1 := fun K => cv1 (2 * a + s + r) K (by omega)
      have p2 := fun K => cv2 (a + c) K (by omega)
      have v2 : IntKind.i64.wrap (((a + u + m - 1 : Nat) : Int) - ((a + c : Nat) : Int)) = (m + (u - 1 - c) : Nat) := wrap_of (by omega) (by omega)
      have v3 : IntKind.i64.wrap (((a + c : Nat) : Int) + 1) = (a + (c + 1) : Nat) := wrap_of (by omega) (by omega)
      obtain ⟨x, hx⟩ : ∃ x, A[c]? = some x := ⟨_, List.getElem?_eq_getElem (by omega)⟩
      obtain ⟨y, hy⟩ : ∃ y, B[u - 1 - c]? = some y := ⟨_, List.getElem?_eq_getElem (by omega)⟩
      have g1 : (P ++ (A ++ (B ++ S)))[m + (u - 1 - c)]? = some y := by
        rw [List.getElem?_append_right (by omega), List.getElem?_append_right (by omega), List.getElem?_append_left (by omega), ← hy]
        congr 1; omega
      have g2 : (P ++ (A ++ (B ++ S)))[a + c]? = some x := by
        rw [List.getElem?_append_right (by omega), List.getElem?_append_left (by omega), ← hx]
        congr 1; omega
      simp -implicitDefEqProofs only [pkA, ptA, ↓reduceIte, Nat.reduceEqDiff, Nat.reduceAdd, Nat.reduceBEq, Nat.reduceMul, Nat.reduceLT, Nat.reduceLeDiff, isMb_flb, pkP, List.length_map, v1, p1, sh, vh, p2, v2]
      refine ix_flb ti_24 rfl ti_42 rfl (by decide) rfl (by omega) ?_
      simp -implicitDefEqProofs only [pkA, ptA, ↓reduceIte, Nat.reduceEqDiff, Nat.reduceAdd, Nat.reduceBEq, Nat.reduceMul, Nat.reduceLT, Nat.reduceLeDiff, isMb_flb, pkP, List.length_map]
      refine ld_flb quC_len rfl (by decide) g1 ?_
      simp -implicitDefEqProofs only [pkA, ptA, ↓reduceIte, Nat.reduceEqDiff, Nat.reduceAdd, Nat.reduceBEq, Nat.reduceMul, Nat.reduceLT, Nat.reduceLeDiff, isMb_flb, pkP, List.length_map]
      refine ix_flb ti_24 rfl ti_42 rfl (by decide) rfl (by omega) ?_
      simp -implicitDefEqProofs only [pkA, ptA, ↓reduceIte, Nat.reduceEqDiff, Nat.reduceAdd, Nat.reduceBEq, Nat.reduceMul, Nat.reduceLT, Nat.reduceLeDiff, isMb_flb, pkP, List.length_map]
      refine ld_flb quC_len rfl (by decide) g2 ?_
      simp -implicitDefEqProofs only [pkA, ptA, ↓reduceIte, Nat.reduceEqDiff, Nat.reduceAdd, Nat.reduceBEq, Nat.reduceMul, Nat.reduceLT, Nat.reduceLeDiff, isMb_flb, pkP, List.length_map]
      refine call_fn rfl (hcm y x) (by simp [V.boxy]) ?_
      simp -implicitDefEqProofs only [pkA, ptA, ↓reduceIte, Nat.reduceEqDiff, Nat.reduceAdd, Nat.reduceBEq, Nat.reduceMul, Nat.reduceLT, Nat.reduceLeDiff, isMb_flb, pkP, List.length_map]
      refine vcond_of (fun hno => ?_) (fun hless => ?_)
      · have hno : ¬ cm y x < 0 := by simpa using hno
        simp -implicitDefEqProofs only [pkA, ptA, ↓reduceIte, Nat.reduceEqDiff, Nat.reduceAdd, Nat.reduceBEq, Nat.reduceMul, Nat.reduceLT, Nat.reduceLeDiff, isMb_flb, pkP, List.length_map, v3]
        exact hnorm (c + 1, r) _ (hcut.up hc sA sB (by omega) (by omega) hx hy hno) (by simp only; omega) (le_box rfl (by decide) (by simp) (by simp [FL, up_apply]) (by simp [bxs]))
      · have hless : cm y x < 0 := by simpa using hless
        simp -implicitDefEqProofs only [pkA, ptA, ↓reduceIte, Nat.reduceEqDiff, Nat.reduceAdd, Nat.reduceBEq, Nat.reduceMul, Nat.reduceLT, Nat.reduceLeDiff, isMb_flb, pkP, List.length_map]
        exact hnorm (s, c) _ (hcut.down hc sA sB (by omega) (by omega) hx hy hless) (by simp only; omega) (le_box rfl (by decide) (by simp) (by simp [FL, up_apply]) (by simp [bxs]))
    · have hsr : r = s := by simp at hge; omega
      subst hsr
      obtain ⟨A1, A2, rfl, hA1⟩ : ∃ A1 A2, A = A1 ++ A2 ∧ A1.length = r := ⟨A.take r, A.drop r, (List.take_append_drop _ _).symm, by simp; omega⟩
      obtain ⟨B1, B2, rfl, hB1⟩ : ∃ B1 B2, B = B1 ++ B2 ∧ B1.length = u - r := ⟨B.take (u - r), B.drop (u - r), (List.take_append_drop _ _).symm, by simp; omega⟩
      have fin := hcut.done hc sA sB hA1 hB1
      rw [← hT] at fin
      simp only [List.length_append] at *
      have f1 := ssort_of_srt hc sA.left
      have f2 := ssort_of_srt hc sB.left
      have f3 := ssort_of_srt hc sA.right
      have f4 := ssort_of_srt hc sB.right
      have we : IntKind.i64.wrap (((a + u + m : Nat) : Int) - ((a + r : Nat) : Int)) = (m + (u - r) : Nat) := wrap_of (by omega) (by omega)
      have pr : A2 ≠ [] → B1 ≠ [] → FnB Tryd.prog G 68 [.ms 0 0 L cap 5, i64 (a + r : Nat), i64 m, i64 (m + (u - r) : Nat), .c (.fn (.func g) [] caps)] [flb quC ((P ++ A1) ++ (A2 ++ (B1 ++ (B2 ++ S))))] (.tup []) [flb quC ((P ++ A1) ++ (B1 ++ (A2 ++ (B2 ++ S))))] := fun e1 e2 =>
        rotate_qu (P ++ A1) A2 B1 (B2 ++ S) _ _ _ (by simp; omega) (by omega) (by omega) e1 e2 L cap (by simp; omega) (by omega) _
      have p1 : A1 ≠ [] → B1 ≠ [] → FnB Tryd.prog G 66 [.ms 0 0 L cap 5, i64 a, i64 (a + r : Nat), i64 (a + u : Nat), .c (.fn (.func g) [] caps)] [flb quC (P ++ (A1 ++ (B1 ++ (A2 ++ (B2 ++ S)))))] (.tup []) [flb quC (P ++ (ssort cm (A1 ++ B1) ++ (A2 ++ (B2 ++ S))))] := fun e1 e2 =>
        ih P A1 B1 (A2 ++ (B2 ++ S)) _ _ _ (by omega) ha (by omega) (by omega) e1 e2 sA.left sB.left (by simp; omega)
      have p2 : A2 ≠ [] → B2 ≠ [] → FnB Tryd.prog G 66 [.ms 0 0 L cap 5, i64 (a + u : Nat), i64 (m + (u - r) : Nat), i64 b, .c (.fn (.func g) [] caps)] [flb quC ((P ++ ssort cm (A1 ++ B1)) ++ (A2 ++ (B2 ++ S)))] (.tup []) [flb quC ((P ++ ssort cm (A1 ++ B1)) ++ (ssort cm (A2 ++ B2) ++ S))] := fun e1 e2 =>
        ih (P ++ ssort cm (A1 ++ B1)) A2 B2 S _ _ _ (by omega) (by simp [ssort_len]; omega) (by omega) (by omega) e1 e2 sA.right sB.right (by simp [ssort_len]; omega)
      simp -implicitDefEqProofs only [pkA, ptA, ↓reduceIte, Nat.reduceEqDiff, Nat.reduceAdd, Nat.reduceBEq, Nat.reduceMul, Nat.reduceLT, Nat.reduceLeDiff, isMb_flb, pkP, List.length_map]
      refine hexit _ _ ?_
      clear hexit hnorm hret ih
      rcases Nat.eq_zero_or_pos A1.length with k1 | k1 <;> rcases Nat.eq_zero_or_pos A2.length with k2 | k2 <;> rcases Nat.eq_zero_or_pos B1.length with k3 | k3 <;> rcases Nat.eq_zero_or_pos B2.length with k4 | k4
      all_goals try (exfalso; omega)
      all_goals
        first
          | have D1 : decide (((a : Nat) : Int) < ((a + r : Nat) : Int)) = true := decide_eq_true (by omega)
          | have D1 : decide (((a : Nat) : Int) < ((a + r : Nat) : Int)) = false := decide_eq_false (by omega)
        first
          | have D2 : decide (((a + r : Nat) : Int) < (m : Int)) = true := decide_eq_true (by omega)
          | have D2 : decide (((a + r : Nat) : Int) < (m : Int)) = false := decide_eq_false (by omega)
        first
          | have D3 : decide ((m : Int) < ((m + (u - r) : Nat) : Int)) = true := decide_eq_true (by omega)
          | have D3 : decide ((m : Int) < ((m + (u - r) : Nat) : Int)) = false := decide_eq_false (by omega)
        first
          | have D4 : decide (((a + r : Nat) : Int) < ((a + u : Nat) : Int)) = true := decide_eq_true (by omega)
          | have D4 : decide (((a + r : Nat) : Int) < ((a + u : Nat) : Int)) = false := decide_eq_false (by omega)
        first
          | have D5 : decide (((a + u : Nat) : Int) < ((m + (u - r) : Nat) : Int)) = true := decide_eq_true (by omega)
          | have D5 : decide (((a + u : Nat) : Int) < ((m + (u - r) : Nat) : Int)) = false := decide_eq_false (by omega)
        first
          | have D6 : decide (((m + (u - r) : Nat) : Int) < (b : Int)) = true := decide_eq_true (by omega)
          | have D6 : decide (((m + (u - r) : Nat) : Int) < (b : Int)) = false := decide_eq_false (by omega)
        first | (obtain rfl := List.eq_nil_of_length_eq_zero k1) | replace k1 := List.length_pos_iff.1 k1
        first | (obtain rfl := List.eq_nil_of_length_eq_zero k2) | replace k2 := List.length_pos_iff.1 k2
        first | (obtain rfl := List.eq_nil_of_length_eq_zero k3) | replace k3 := List.length_pos_iff.1 k3
        first | (obtain rfl := List.eq_nil_of_length_eq_zero k4) | replace k4 := List.length_pos_iff.1 k4
        repeat' first
          | (simp -implicitDefEqProofs only [pkA, ptA, ↓reduceIte, Nat.reduceEqDiff, Nat.reduceAdd, Nat.reduceBEq, Nat.reduceMul, Nat.reduceLT, Nat.reduceLeDiff, isMb_flb, pkP, List.length_map, we, D1, D2, D3, D4, D5, D6])
          | refine call_box rfl (pr k2 k3) rfl rfl (by simp [bxs]) ?_
          | refine call_box rfl (p1 k1 k3) rfl rfl (by simp [bxs, up_apply]) ?_
          | refine call_box rfl (p2 k2 k4) rfl rfl (by simp [bxs, up_apply, f1, f2]) ?_
        refine end_box rfl (by decide) (by simp) ?_
        rw [← fin]; simp [bxs, up_apply, f1, f2, f3, f4, ssort]
end Go.Proofs.YtbhfbbfifmnniaaDoor
