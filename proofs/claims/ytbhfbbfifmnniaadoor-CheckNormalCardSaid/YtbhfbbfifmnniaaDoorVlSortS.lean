/- slices.stableCmpFunc, SortStableFunc: a box that holds a list holds it sorted then. -/
import Derived.Test.YtbhfbbfifmnniaaDoorVlSortM
set_option linter.unusedSimpArgs false
set_option linter.unusedVariables false
namespace Go.Proofs.YtbhfbbfifmnniaaDoor
open Go Go.Vl

variable {G : Gl}

set_option maxRecDepth 100000 in
set_option maxHeartbeats 4000000 in
theorem stable_ru (cm : Ru → Ru → Int) (hc : Cmp cm) (g : FuncId) (caps : List C) (hcm : ∀ x y, FnOK Tryd.prog G g (.agg (ruC x) :: .agg (ruC y) :: caps.map .c) (i64 (cm x y)))
    (l0 : List Ru) (L cap : Nat) (hL : l0.length = L) (hbig : L ≤ 1000000000000000000) :
    FnB Tryd.prog G 60 [.ms 0 0 L cap 3, i64 L, .c (.fn (.func g) [] caps)] [flb ruC l0] (.tup []) [flb ruC (ssort cm l0)] := by
  refine FnB_by (rs := []) (k := 1) [1000018, 1000027, 1000043, 1000060, 3000001] mixed Tryd.func60 rfl rfl rfl rfl (by kernel_rfl) (by simp) rfl rfl rfl (argsB_ok rfl) (by simp) ?_
  simp -implicitDefEqProofs only [pkA, ptA, ↓reduceIte, Nat.reduceEqDiff, Nat.reduceAdd, Nat.reduceBEq, Nat.reduceMul, Nat.reduceLT, Nat.reduceLeDiff, isMb_flb, pkP, List.length_map]
  refine run_loop (fun t : List Ru × List Ru => hdS [(0, .ms 0 0 L cap 3), (1, i64 L), (2, .c (.fn (.func g) [] caps)), (6, i64 20), (7, i64 t.1.length), (8, i64 (t.1.length + 20 : Nat))] [flb ruC (t.1 ++ t.2)])
    (fun t => t.2.length) (fun t => t.1.length + t.2.length = L ∧ (∃ q, t.1.length = q * 20) ∧ Blk cm 20 t.1 ∧ Stab cm (t.1 ++ t.2) l0) ([], l0) ⟨by simpa using hL, ⟨0, rfl⟩, Blk.nil, Stab.rfl⟩ ?_ ?_
  · exact le_box rfl (by decide) (by simp) (by simp [FL, up_apply]) (by simp [bxs])
  rintro ⟨D, U⟩ ⟨hl, ⟨q, hq⟩, hblk, hst⟩ R hnorm hexit hret
  simp only at hl hq hblk hst
  simp -implicitDefEqProofs only [pkA, ptA, ↓reduceIte, Nat.reduceEqDiff, Nat.reduceAdd, Nat.reduceBEq, Nat.reduceMul, Nat.reduceLT, Nat.reduceLeDiff, isMb_flb, pkP, List.length_map]
  refine vcond_of (fun hlt => ?_) (fun hge => ?_)
  · have hlt : 20 ≤ U.length := by simp at hlt; omega
    obtain ⟨X, U, rfl, hX⟩ : ∃ X U', U = X ++ U' ∧ X.length = 20 := ⟨U.take 20, U.drop 20, (List.take_append_drop _ _).symm, by simp; omega⟩
    simp only [List.length_append] at hl
    have w1 : IntKind.i64.wrap (((D.length + 20 : Nat) : Int) + 20) = (D.length + 20 + 20 : Nat) := wrap_of (by omega) (by omega)
    simp -implicitDefEqProofs only [pkA, ptA, ↓reduceIte, Nat.reduceEqDiff, Nat.reduceAdd, Nat.reduceBEq, Nat.reduceMul, Nat.reduceLT, Nat.reduceLeDiff, isMb_flb, pkP, List.length_map]
    refine call_box rfl (insertion_ru cm hc g caps hcm D X U D.length (D.length + 20) rfl (by omega) L cap (by simp; omega) (by omega)) rfl rfl (by simp [bxs]) ?_
    simp -implicitDefEqProofs only [pkA, ptA, ↓reduceIte, Nat.reduceEqDiff, Nat.reduceAdd, Nat.reduceBEq, Nat.reduceMul, Nat.reduceLT, Nat.reduceLeDiff, isMb_flb, pkP, List.length_map, w1]
    refine hnorm (D ++ ssort cm X, U) _ ⟨by simp [ssort_len]; omega, ⟨q + 1, by simp [ssort_len]; omega⟩, hblk.snoc hq (ssort_srt hc X) (by rw [ssort_len]; omega), ?_⟩ (by simp; omega) (le_box rfl (by decide) (by simp) (by simp [FL, up_apply, ssort_len, hX]) (by simp [bxs]))
    refine Stab.trans ?_ hst
    have : Stab cm (D ++ (ssort cm X ++ U)) (D ++ (X ++ U)) := Stab.append Stab.rfl (Stab.append (ssort_stab hc X) Stab.rfl)
    simpa using this
  · have hge : U.length < 20 := by simp at hge; omega
    simp -implicitDefEqProofs only [pkA, ptA, ↓reduceIte, Nat.reduceEqDiff, Nat.reduceAdd, Nat.reduceBEq, Nat.reduceMul, Nat.reduceLT, Nat.reduceLeDiff, isMb_flb, pkP, List.length_map]
    refine hexit _ _ ?_
    simp -implicitDefEqProofs only [pkA, ptA, ↓reduceIte, Nat.reduceEqDiff, Nat.reduceAdd, Nat.reduceBEq, Nat.reduceMul, Nat.reduceLT, Nat.reduceLeDiff, isMb_flb, pkP, List.length_map]
    refine call_box rfl (insertion_ru cm hc g caps hcm D U [] D.length L rfl (by omega) L cap (by simp; omega) (by omega)) rfl rfl (by simp [bxs]) ?_
    simp -implicitDefEqProofs only [pkA, ptA, ↓reduceIte, Nat.reduceEqDiff, Nat.reduceAdd, Nat.reduceBEq, Nat.reduceMul, Nat.reduceLT, Nat.reduceLeDiff, isMb_flb, pkP, List.length_map]
    clear hnorm hexit hret R
    refine run_loop (fun t : Nat × List Ru => hdS [(0, .ms 0 0 L cap 3), (1, i64 L), (2, .c (.fn (.func g) [] caps)), (6, i64 t.1)] [flb ruC t.2])
      (fun t => L - t.1) (fun t => 0 < t.1 ∧ t.2.length = L ∧ Blk cm t.1 t.2 ∧ Stab cm t.2 l0) (20, D ++ ssort cm U) ⟨by simp, by simp [ssort_len]; omega, hblk.snoc hq (ssort_srt hc U) (by rw [ssort_len]; omega), (Stab.append Stab.rfl (ssort_stab hc U)).trans hst⟩ ?_ ?_
    · exact le_box rfl (by decide) (by simp) (by simp [FL, up_apply]) (by simp [bxs])
    clear hblk hst hq hl hge
    rintro ⟨w, l⟩ ⟨hw, hl, hblk, hst⟩ R hnorm hexit hret
    simp only at hw hl hblk hst
    simp -implicitDefEqProofs only [pkA, ptA, ↓reduceIte, Nat.reduceEqDiff, Nat.reduceAdd, Nat.reduceBEq, Nat.reduceMul, Nat.reduceLT, Nat.reduceLeDiff, isMb_flb, pkP, List.length_map]
    refine vcond_of (fun hlt => ?_) (fun hge => ?_)
    · have hlt : w < L := by simp at hlt; omega
      have w1 : IntKind.i64.wrap (2 * (w : Int)) = (2 * w : Nat) := wrap_of (by omega) (by omega)
      have w2 : IntKind.i64.wrap ((w : Int) * 2) = (2 * w : Nat) := wrap_of (by omega) (by omega)
      simp -implicitDefEqProofs only [pkA, ptA, ↓reduceIte, Nat.reduceEqDiff, Nat.reduceAdd, Nat.reduceBEq, Nat.reduceMul, Nat.reduceLT, Nat.reduceLeDiff, isMb_flb, pkP, List.length_map, vint_mul, w1]
      refine run_loop (fun t : List Ru × List Ru => hdS [(0, .ms 0 0 L cap 3), (1, i64 L), (2, .c (.fn (.func g) [] caps)), (6, i64 w), (7, i64 t.1.length), (8, i64 (t.1.length + 2 * w : Nat))] [flb ruC (t.1 ++ t.2)])
        (fun t => t.2.length) (fun t => t.1.length + t.2.length = L ∧ (∃ q, t.1.length = q * (2 * w)) ∧ Blk cm (2 * w) t.1 ∧ Blk cm w t.2 ∧ Stab cm (t.1 ++ t.2) l0) ([], l) ⟨by simpa using hl, ⟨0, by simp⟩, Blk.nil, hblk, hst⟩ ?_ ?_
      · exact le_box rfl (by decide) (by simp) (by simp [FL, up_apply]) (by simp [bxs])
      clear hst hblk hl
      rintro ⟨D, U⟩ ⟨hl, ⟨q, hq⟩, hD, hU, hst⟩ R2 hnorm2 hexit2 hret2
      simp only at hl hq hD hU hst
      simp -implicitDefEqProofs only [pkA, ptA, ↓reduceIte, Nat.reduceEqDiff, Nat.reduceAdd, Nat.reduceBEq, Nat.reduceMul, Nat.reduceLT, Nat.reduceLeDiff, isMb_flb, pkP, List.length_map]
      refine vcond_of (fun hlt2 => ?_) (fun hge2 => ?_)
      · have hlt2 : 2 * w ≤ U.length := by simp at hlt2; omega
        have hU2 := hU.drop 2
        have sA := hU.take
        have sB := hU.second
        obtain ⟨A, B, U, rfl, hA, hB⟩ : ∃ A B U', U = A ++ (B ++ U') ∧ A.length = w ∧ B.length = w := ⟨U.take w, (U.drop w).take w, U.drop (2 * w), by
          have : U.drop (2 * w) = (U.drop w).drop w := by rw [List.drop_drop]; congr 1; omega
          rw [this, List.take_append_drop, List.take_append_drop], by simp; omega, by simp; omega⟩
        have e2 : (A ++ (B ++ U)).drop (2 * w) = U := by
          have : 2 * w = A.length + B.length := by omega
          rw [this, ← List.drop_drop, List.drop_left, List.drop_left]
        rw [e2] at hU2
        rw [← hA, List.take_left] at sA
        rw [← hA, List.drop_left, hA, ← hB, List.take_left] at sB
        simp only [List.length_append] at hl
        have v1 : IntKind.i64.wrap ((D.length : Int) + w) = (D.length + w : Nat) := wrap_of (by omega) (by omega)
        have v2 : IntKind.i64.wrap (((D.length + 2 * w : Nat) : Int) + ((2 * w : Nat) : Int)) = (D.length + 2 * w + 2 * w : Nat) := wrap_of (by omega) (by omega)
        simp -implicitDefEqProofs only [pkA, ptA, ↓reduceIte, Nat.reduceEqDiff, Nat.reduceAdd, Nat.reduceBEq, Nat.reduceMul, Nat.reduceLT, Nat.reduceLeDiff, isMb_flb, pkP, List.length_map, v1]
        refine call_box rfl (symMerge_ru cm hc g caps hcm L cap (by omega) _ D A B U D.length (D.length + w) (D.length + 2 * w) (Nat.le_refl _) rfl (by omega) (by omega) (by rintro rfl; simp at hA; omega) (by rintro rfl; simp at hB; omega) sA sB (by simp; omega)) rfl rfl (by simp [bxs]) ?_
        simp -implicitDefEqProofs only [pkA, ptA, ↓reduceIte, Nat.reduceEqDiff, Nat.reduceAdd, Nat.reduceBEq, Nat.reduceMul, Nat.reduceLT, Nat.reduceLeDiff, isMb_flb, pkP, List.length_map, vint_mul, w1, v2]
        refine hnorm2 (D ++ ssort cm (A ++ B), U) _ ⟨by simp [ssort_len]; omega, ⟨q + 1, by simp only [List.length_append, ssort_len, Nat.add_mul, Nat.one_mul]; omega⟩, hD.snoc hq (ssort_srt hc _) (by rw [ssort_len]; simp; omega), hU2, ?_⟩ (by simp; omega) (le_box rfl (by decide) (by simp) ?_ (by simp [bxs]))
        · refine Stab.trans ?_ hst
          have : Stab cm (D ++ (ssort cm (A ++ B) ++ U)) (D ++ ((A ++ B) ++ U)) := Stab.append Stab.rfl (Stab.append (ssort_stab hc _) Stab.rfl)
          simpa using this
        · simp only [FL_cons, FL_nil, up_apply, ↓reduceIte, Nat.reduceEqDiff, List.length_append, ssort_len, hA, hB, true_and, and_true]
          have e3 : D.length + (w + w) = D.length + 2 * w := by omega
          rw [e3]; exact ⟨rfl, rfl⟩
      · have hge2 : U.length < 2 * w := by simp at hge2; omega
        have v1 : IntKind.i64.wrap ((D.length : Int) + w) = (D.length + w : Nat) := wrap_of (by omega) (by omega)
        simp -implicitDefEqProofs only [pkA, ptA, ↓reduceIte, Nat.reduceEqDiff, Nat.reduceAdd, Nat.reduceBEq, Nat.reduceMul, Nat.reduceLT, Nat.reduceLeDiff, isMb_flb, pkP, List.length_map]
        refine hexit2 _ _ ?_
        simp -implicitDefEqProofs only [pkA, ptA, ↓reduceIte, Nat.reduceEqDiff, Nat.reduceAdd, Nat.reduceBEq, Nat.reduceMul, Nat.reduceLT, Nat.reduceLeDiff, isMb_flb, pkP, List.length_map, v1]
        refine vcond_of (fun hlt3 => ?_) (fun hge3 => ?_)
        · have hlt3 : w < U.length := by simp at hlt3; omega
          have sA := hU.take
          have sB := hU.second
          obtain ⟨A, B, rfl, hA⟩ : ∃ A B, U = A ++ B ∧ A.length = w := ⟨U.take w, U.drop w, (List.take_append_drop _ _).symm, by simp; omega⟩
          simp only [List.length_append] at hl hlt3 hge2
          rw [← hA, List.take_left] at sA
          rw [← hA, List.drop_left, List.take_of_length_le (by omega)] at sB
          simp -implicitDefEqProofs only [pkA, ptA, ↓reduceIte, Nat.reduceEqDiff, Nat.reduceAdd, Nat.reduceBEq, Nat.reduceMul, Nat.reduceLT, Nat.reduceLeDiff, isMb_flb, pkP, List.length_map, v1]
          refine call_box rfl (symMerge_ru cm hc g caps hcm L cap (by omega) _ D A B [] D.length (D.length + w) L (Nat.le_refl _) rfl (by omega) (by omega) (by rintro rfl; simp at hA; omega) (by rintro rfl; simp at hlt3; omega) sA sB (by simp; omega)) rfl rfl (by simp [bxs]) ?_
          simp -implicitDefEqProofs only [pkA, ptA, ↓reduceIte, Nat.reduceEqDiff, Nat.reduceAdd, Nat.reduceBEq, Nat.reduceMul, Nat.reduceLT, Nat.reduceLeDiff, isMb_flb, pkP, List.length_map, vint_mul, w2]
          refine hnorm (2 * w, D ++ ssort cm (A ++ B)) _ ⟨by simp only; omega, by simp [ssort_len]; omega, hD.snoc hq (ssort_srt hc _) (by rw [ssort_len]; simp; omega), ?_⟩ (by simp only; omega) (le_box rfl (by decide) (by simp) (by simp [FL, up_apply]) (by simp [bxs]))
          exact (Stab.append Stab.rfl (ssort_stab hc _)).trans hst
        · have hge3 : U.length ≤ w := by simp at hge3; omega
          simp -implicitDefEqProofs only [pkA, ptA, ↓reduceIte, Nat.reduceEqDiff, Nat.reduceAdd, Nat.reduceBEq, Nat.reduceMul, Nat.reduceLT, Nat.reduceLeDiff, isMb_flb, pkP, List.length_map, vint_mul, w2]
          refine hnorm (2 * w, D ++ U) _ ⟨by simp only; omega, by simp; omega, hD.snoc hq (hU.all hge3) (by omega), hst⟩ (by simp only; omega) (le_box rfl (by decide) (by simp) (by simp [FL, up_apply]) (by simp [bxs]))
    · have hge : L ≤ w := by simp at hge; omega
      simp -implicitDefEqProofs only [pkA, ptA, ↓reduceIte, Nat.reduceEqDiff, Nat.reduceAdd, Nat.reduceBEq, Nat.reduceMul, Nat.reduceLT, Nat.reduceLeDiff, isMb_flb, pkP, List.length_map]
      refine hexit _ _ ?_
      simp -implicitDefEqProofs only [pkA, ptA, ↓reduceIte, Nat.reduceEqDiff, Nat.reduceAdd, Nat.reduceBEq, Nat.reduceMul, Nat.reduceLT, Nat.reduceLeDiff, isMb_flb, pkP, List.length_map]
      refine end_box rfl (by decide) (by simp) ?_
      rw [← ssort_eq hc (hblk.all (by omega)) hst]; simp [bxs]

set_option maxRecDepth 100000 in
set_option maxHeartbeats 2000000 in
theorem SortStable_ru (cm : Ru → Ru → Int) (hc : Cmp cm) (g : FuncId) (caps : List C) (hcm : ∀ x y, FnOK Tryd.prog G g (.agg (ruC x) :: .agg (ruC y) :: caps.map .c) (i64 (cm x y)))
    (l0 : List Ru) (L cap : Nat) (hL : l0.length = L) (hbig : L ≤ 1000000000000000000) :
    FnB Tryd.prog G 50 [.ms 0 0 L cap 3, .c (.fn (.func g) [] caps)] [flb ruC l0] (.tup []) [flb ruC (ssort cm l0)] := by
  refine FnB_by (rs := []) (k := 1) [1000008, 3000001] mixed Tryd.func50 rfl rfl rfl rfl (by kernel_rfl) (by simp) rfl rfl rfl (argsB_ok rfl) (by simp) ?_
  simp -implicitDefEqProofs only [pkA, ptA, ↓reduceIte, Nat.reduceEqDiff, Nat.reduceAdd, Nat.reduceBEq, Nat.reduceMul, Nat.reduceLT, Nat.reduceLeDiff, isMb_flb, pkP, List.length_map]
  refine call_box rfl (stable_ru cm hc g caps hcm l0 L cap hL hbig) rfl rfl (by simp [bxs]) ?_
  simp -implicitDefEqProofs only [pkA, ptA, ↓reduceIte, Nat.reduceEqDiff, Nat.reduceAdd, Nat.reduceBEq, Nat.reduceMul, Nat.reduceLT, Nat.reduceLeDiff, isMb_flb, pkP, List.length_map]
  exact end_box rfl (by decide) (by simp) (by simp [bxs])
set_option maxRecDepth 100000 in
set_option maxHeartbeats 4000000 in
theorem stable_qu (cm : Qu → Qu → Int) (hc : Cmp cm) (g : FuncId) (caps : List C) (hcm : ∀ x y, FnOK Tryd.prog G g (.agg (quC x) :: .agg (quC y) :: caps.map .c) (i64 (cm x y)))
    (l0 : List Qu) (L cap : Nat) (hL : l0.length = L) (hbig : L ≤ 1000000000000000000) :
    FnB Tryd.prog G 61 [.ms 0 0 L cap 5, i64 L, .c (.fn (.func g) [] caps)] [flb quC l0] (.tup []) [flb quC (ssort cm l0)] := by
  refine FnB_by (rs := []) (k := 1) [1000018, 1000027, 1000043, 1000060, 3000001] mixed Tryd.func61 rfl rfl rfl rfl (by kernel_rfl) (by simp) rfl rfl rfl (argsB_ok rfl) (by simp) ?_
  simp -implicitDefEqProofs only [pkA, ptA, ↓reduceIte, Nat.reduceEqDiff, Nat.reduceAdd, Nat.reduceBEq, Nat.reduceMul, Nat.reduceLT, Nat.reduceLeDiff, isMb_flb, pkP, List.length_map]
  refine run_loop (fun t : List Qu × List Qu => hdS [(0, .ms 0 0 L cap 5), (1, i64 L), (2, .c (.fn (.func g) [] caps)), (6, i64 20), (7, i64 t.1.length), (8, i64 (t.1.length + 20 : Nat))] [flb quC (t.1 ++ t.2)])
    (fun t => t.2.length) (fun t => t.1.length + t.2.length = L ∧ (∃ q, t.1.length = q * 20) ∧ Blk cm 20 t.1 ∧ Stab cm (t.1 ++ t.2) l0) ([], l0) ⟨by simpa using hL, ⟨0, rfl⟩, Blk.nil, Stab.rfl⟩ ?_ ?_
  · exact le_box rfl (by decide) (by simp) (by simp [FL, up_apply]) (by simp [bxs])
  rintro ⟨D, U⟩ ⟨hl, ⟨q, hq⟩, hblk, hst⟩ R hnorm hexit hret
  simp only at hl hq hblk hst
  simp -implicitDefEqProofs only [pkA, ptA, ↓reduceIte, Nat.reduceEqDiff, Nat.reduceAdd, Nat.reduceBEq, Nat.reduceMul, Nat.reduceLT, Nat.reduceLeDiff, isMb_flb, pkP, List.length_map]
  refine vcond_of (fun hlt => ?_) (fun hge => ?_)
  · have hlt : 20 ≤ U.length := by simp at hlt; omega
    obtain ⟨X, U, rfl, hX⟩ : ∃ X U', U = X ++ U' ∧ X.length = 20 := ⟨U.take 20, U.drop 20, (List.take_append_drop _ _).symm, by simp; omega⟩
    simp only [List.length_append] at hl
    have w1 : IntKind.i64.wrap (((D.length + 20 : Nat) : Int) + 20) = (D.length + 20 + 20 : Nat) := wrap_of (by omega) (by omega)
    simp -implicitDefEqProofs only [pkA, ptA, ↓reduceIte, Nat.reduceEqDiff, Nat.reduceAdd, Nat.reduceBEq, Nat.reduceMul, Nat.reduceLT, Nat.reduceLeDiff, isMb_flb, pkP, List.length_map]
    refine call_box rfl (insertion_qu cm hc g caps hcm D X U D.length (D.length + 20) rfl (by omega) L cap (by simp; omega) (by omega)) rfl rfl (by simp [bxs]) ?_
    simp -implicitDefEqProofs only [pkA, ptA, ↓reduceIte, Nat.reduceEqDiff, Nat.reduceAdd, Nat.reduceBEq, Nat.reduceMul, Nat.reduceLT, Nat.reduceLeDiff, isMb_flb, pkP, List.length_map, w1]
    refine hnorm (D ++ ssort cm X, U) _ ⟨by simp [ssort_len]; omega, ⟨q + 1, by simp [ssort_len]; omega⟩, hblk.snoc hq (ssort_srt hc X) (by rw [ssort_len]; omega), ?_⟩ (by simp; omega) (le_box rfl (by decide) (by simp) (by simp [FL, up_apply, ssort_len, hX]) (by simp [bxs]))
    refine Stab.trans ?_ hst
    have : Stab cm (D ++ (ssort cm X ++ U)) (D ++ (X ++ U)) := Stab.append Stab.rfl (Stab.append (ssort_stab hc X) Stab.rfl)
    simpa using this
  · have hge : U.length < 20 := by simp at hge; omega
    simp -implicitDefEqProofs only [pkA, ptA, ↓reduceIte, Nat.reduceEqDiff, Nat.reduceAdd, Nat.reduceBEq, Nat.reduceMul, Nat.reduceLT, Nat.reduceLeDiff, isMb_flb, pkP, List.length_map]
    refine hexit _ _ ?_
    simp -implicitDefEqProofs only [pkA, ptA, ↓reduceIte, Nat.reduceEqDiff, Nat.reduceAdd, Nat.reduceBEq, Nat.reduceMul, Nat.reduceLT, Nat.reduceLeDiff, isMb_flb, pkP, List.length_map]
    refine call_box rfl (insertion_qu cm hc g caps hcm D U [] D.length L rfl (by omega) L cap (by simp; omega) (by omega)) rfl rfl (by simp [bxs]) ?_
    simp -implicitDefEqProofs only [pkA, ptA, ↓reduceIte, Nat.reduceEqDiff, Nat.reduceAdd, Nat.reduceBEq, Nat.reduceMul, Nat.reduceLT, Nat.reduceLeDiff, isMb_flb, pkP, List.length_map]
    clear hnorm hexit hret R
    refine run_loop (fun t : Nat × List Qu => hdS [(0, .ms 0 0 L cap 5), (1, i64 L), (2, .c (.fn (.func g) [] caps)), (6, i64 t.1)] [flb quC t.2])
      (fun t => L - t.1) (fun t => 0 < t.1 ∧ t.2.length = L ∧ Blk cm t.1 t.2 ∧ Stab cm t.2 l0) (20, D ++ ssort cm U) ⟨by simp, by simp [ssort_len]; omega, hblk.snoc hq (ssort_srt hc U) (by rw [ssort_len]; omega), (Stab.append Stab.rfl (ssort_stab hc U)).trans hst⟩ ?_ ?_
    · exact le_box rfl (by decide) (by simp) (by simp [FL, up_apply]) (by simp [bxs])
    clear hblk hst hq hl hge
    rintro ⟨w, l⟩ ⟨hw, hl, hblk, hst⟩ R hnorm hexit hret
    simp only at hw hl hblk hst
    simp -implicitDefEqProofs only [pkA, ptA, ↓reduceIte, Nat.reduceEqDiff, Nat.reduceAdd, Nat.reduceBEq, Nat.reduceMul, Nat.reduceLT, Nat.reduceLeDiff, isMb_flb, pkP, List.length_map]
    refine vcond_of (fun hlt => ?_) (fun hge => ?_)
    · have hlt : w < L := by simp at hlt; omega
      have w1 : IntKind.i64.wrap (2 * (w : Int)) = (2 * w : Nat) := wrap_of (by omega) (by omega)
      have w2 : IntKind.i64.wrap ((w : Int) * 2) = (2 * w : Nat) := wrap_of (by omega) (by omega)
      simp -implicitDefEqProofs only [pkA, ptA, ↓reduceIte, Nat.reduceEqDiff, Nat.reduceAdd, Nat.reduceBEq, Nat.reduceMul, Nat.reduceLT, Nat.reduceLeDiff, isMb_flb, pkP, List.length_map, vint_mul, w1]
      refine run_loop (fun t : List Qu × List Qu => hdS [(0, .ms 0 0 L cap 5), (1, i64 L), (2, .c (.fn (.func g) [] caps)), (6, i64 w), (7, i64 t.1.length), (8, i64 (t.1.length + 2 * w : Nat))] [flb quC (t.1 ++ t.2)])
        (fun t => t.2.length) (fun t => t.1.length + t.2.length = L ∧ (∃ q, t.1.length = q * (2 * w)) ∧ Blk cm (2 * w) t.1 ∧ Blk cm w t.2 ∧ Stab cm (t.1 ++ t.2) l0) ([], l) ⟨by simpa using hl, ⟨0, by simp⟩, Blk.nil, hblk, hst⟩ ?_ ?_
      · exact le_box rfl (by decide) (by simp) (by simp [FL, up_apply]) (by simp [bxs])
      clear hst hblk hl
      rintro ⟨D, U⟩ ⟨hl, ⟨q, hq⟩, hD, hU, hst⟩ R2 hnorm2 hexit2 hret2
      simp only at hl hq hD hU hst
      simp -implicitDefEqProofs only [pkA, ptA, ↓reduceIte, Nat.reduceEqDiff, Nat.reduceAdd, Nat.reduceBEq, Nat.reduceMul, Nat.reduceLT, Nat.reduceLeDiff, isMb_flb, pkP, List.length_map]
      refine vcond_of (fun hlt2 => ?_) (fun hge2 => ?_)
      · have hlt2 : 2 * w ≤ U.length := by simp at hlt2; omega
        have hU2 := hU.drop 2
        have sA := hU.take
        have sB := hU.second
        obtain ⟨A, B, U, rfl, hA, hB⟩ : ∃ A B U', U = A ++ (B ++ U') ∧ A.length = w ∧ B.length = w := ⟨U.take w, (U.drop w).take w, U.drop (2 * w), by
          have : U.drop (2 * w) = (U.drop w).drop w := by rw [List.drop_drop]; congr 1; omega
          rw [this, List.take_append_drop, List.take_append_drop], by simp; omega, by simp; omega⟩
        have e2 : (A ++ (B ++ U)).drop (2 * w) = U := by
          have : 2 * w = A.length + B.length := by omega
          rw [this, ← List.drop_drop, List.drop_left, List.drop_left]
        rw [e2] at hU2
        rw [← hA, List.take_left] at sA
        rw [← hA, List.drop_left, hA, ← hB, List.take_left] at sB
        simp only [List.length_append] at hl
        have v1 : IntKind.i64.wrap ((D.length : Int) + w) = (D.length + w : Nat) := wrap_of (by omega) (by omega)
        have v2 : IntKind.i64.wrap (((D.length + 2 * w : Nat) : Int) + ((2 * w : Nat) : Int)) = (D.length + 2 * w + 2 * w : Nat) := wrap_of (by omega) (by omega)
        simp -implicitDefEqProofs only [pkA, ptA, ↓reduceIte, Nat.reduceEqDiff, Nat.reduceAdd, Nat.reduceBEq, Nat.reduceMul, Nat.reduceLT, Nat.reduceLeDiff, isMb_flb, pkP, List.length_map, v1]
        refine call_box rfl (symMerge_qu cm hc g caps hcm L cap (by omega) _ D A B U D.length (D.length + w) (D.length + 2 * w) (Nat.le_refl _) rfl (by omega) (by omega) (by rintro rfl; simp at hA; omega) (by rintro rfl; simp at hB; omega) sA sB (by simp; omega)) rfl rfl (by simp [bxs]) ?_
        simp -implicitDefEqProofs only [pkA, ptA, ↓reduceIte, Nat.reduceEqDiff, Nat.reduceAdd, Nat.reduceBEq, Nat.reduceMul, Nat.reduceLT, Nat.reduceLeDiff, isMb_flb, pkP, List.length_map, vint_mul, w1, v2]
        refine hnorm2 (D ++ ssort cm (A ++ B), U) _ ⟨by simp [ssort_len]; omega, ⟨q + 1, by simp only [List.length_append, ssort_len, Nat.add_mul, Nat.one_mul]; omega⟩, hD.snoc hq (ssort_srt hc _) (by rw [ssort_len]; simp; omega), hU2, ?_⟩ (by simp; omega) (le_box rfl (by decide) (by simp) ?_ (by simp [bxs]))
        · refine Stab.trans ?_ hst
          have : Stab cm (D ++ (ssort cm (A ++ B) ++ U)) (D ++ ((A ++ B) ++ U)) := Stab.append Stab.rfl (Stab.append (ssort_stab hc _) Stab.rfl)
          simpa using this
        · simp only [FL_cons, FL_nil, up_apply, ↓reduceIte, Nat.reduceEqDiff, List.length_append, ssort_len, hA, hB, true_and, and_true]
          have e3 : D.length + (w + w) = D.length + 2 * w := by omega
          rw [e3]; exact ⟨rfl, rfl⟩
      · have hge2 : U.length < 2 * w := by simp at hge2; omega
        have v1 : IntKind.i64.wrap ((D.length : Int) + w) = (D.length + w : Nat) := wrap_of (by omega) (by omega)
        simp -implicitDefEqProofs only [pkA, ptA, ↓reduceIte, Nat.reduceEqDiff, Nat.reduceAdd, Nat.reduceBEq, Nat.reduceMul, Nat.reduceLT, Nat.reduceLeDiff, isMb_flb, pkP, List.length_map]
        refine hexit2 _ _ ?_
        simp -implicitDefEqProofs only [pkA, ptA, ↓reduceIte, Nat.reduceEqDiff, Nat.reduceAdd, Nat.reduceBEq, Nat.reduceMul, Nat.reduceLT, Nat.reduceLeDiff, isMb_flb, pkP, List.length_map, v1]
        refine vcond_of (fun hlt3 => ?_) (fun hge3 => ?_)
        · have hlt3 : w < U.length := by simp at hlt3; omega
          have sA := hU.take
          have sB := hU.second
          obtain ⟨A, B, rfl, hA⟩ : ∃ A B, U = A ++ B ∧ A.length = w := ⟨U.take w, U.drop w, (List.take_append_drop _ _).symm, by simp; omega⟩
          simp only [List.length_append] at hl hlt3 hge2
          rw [← hA, List.take_left] at sA
          rw [← hA, List.drop_left, List.take_of_length_le (by omega)] at sB
          simp -implicitDefEqProofs only [pkA, ptA, ↓reduceIte, Nat.reduceEqDiff, Nat.reduceAdd, Nat.reduceBEq, Nat.reduceMul, Nat.reduceLT, Nat.reduceLeDiff, isMb_flb, pkP, List.length_map, v1]
          refine call_box rfl (symMerge_qu cm hc g caps hcm L cap (by omega) _ D A B [] D.length (D.length + w) L (Nat.le_refl _) rfl (by omega) (by omega) (by rintro rfl; simp at hA; omega) (by rintro rfl; simp at hlt3; omega) sA sB (by simp; omega)) rfl rfl (by simp [bxs]) ?_
          simp -implicitDefEqProofs only [pkA, ptA, ↓reduceIte, Nat.reduceEqDiff, Nat.reduceAdd, Nat.reduceBEq, Nat.reduceMul, Nat.reduceLT, Nat.reduceLeDiff, isMb_flb, pkP, List.length_map, vint_mul, w2]
          refine hnorm (2 * w, D ++ ssort cm (A ++ B)) _ ⟨by simp only; omega, by simp [ssort_len]; omega, hD.snoc hq (ssort_srt hc _) (by rw [ssort_len]; simp; omega), ?_⟩ (by simp only; omega) (le_box rfl (by decide) (by simp) (by simp [FL, up_apply]) (by simp [bxs]))
          exact (Stab.append Stab.rfl (ssort_stab hc _)).trans hst
        · have hge3 : U.length ≤ w := by simp at hge3; omega
          simp -implicitDefEqProofs only [pkA, ptA, ↓reduceIte, Nat.reduceEqDiff, Nat.reduceAdd, Nat.reduceBEq, Nat.reduceMul, Nat.reduceLT, Nat.reduceLeDiff, isMb_flb, pkP, List.length_map, vint_mul, w2]
          refine hnorm (2 * w, D ++ U) _ ⟨by simp only; omega, by simp; omega, hD.snoc hq (hU.all hge3) (by omega), hst⟩ (by simp only; omega) (le_box rfl (by decide) (by simp) (by simp [FL, up_apply]) (by simp [bxs]))
    · have hge : L ≤ w := by simp at hge; omega
      simp -implicitDefEqProofs only [pkA, ptA, ↓reduceIte, Nat.reduceEqDiff, Nat.reduceAdd, Nat.reduceBEq, Nat.reduceMul, Nat.reduceLT, Nat.reduceLeDiff, isMb_flb, pkP, List.length_map]
      refine hexit _ _ ?_
      simp -implicitDefEqProofs only [pkA, ptA, ↓reduceIte, Nat.reduceEqDiff, Nat.reduceAdd, Nat.reduceBEq, Nat.reduceMul, Nat.reduceLT, Nat.reduceLeDiff, isMb_flb, pkP, List.length_map]
      refine end_box rfl (by decide) (by simp) ?_
      rw [← ssort_eq hc (hblk.all (by omega)) hst]; simp [bxs]

set_option maxRecDepth 100000 in
set_option maxHeartbeats 2000000 in
theorem SortStable_qu (cm : Qu → Qu → Int) (hc : Cmp cm) (g : FuncId) (caps : List C) (hcm : ∀ x y, FnOK Tryd.prog G g (.agg (quC x) :: .agg (quC y) :: caps.map .c) (i64 (cm x y)))
    (l0 : List Qu) (L cap : Nat) (hL : l0.length = L) (hbig : L ≤ 1000000000000000000) :
    FnB Tryd.prog G 53 [.ms 0 0 L cap 5, .c (.fn (.func g) [] caps)] [flb quC l0] (.tup []) [flb quC (ssort cm l0)] := by
  refine FnB_by (rs := []) (k := 1) [1000008, 3000001] mixed Tryd.func53 rfl rfl rfl rfl (by kernel_rfl) (by simp) rfl rfl rfl (argsB_ok rfl) (by simp) ?_
  simp -implicitDefEqProofs only [pkA, ptA, ↓reduceIte, Nat.reduceEqDiff, Nat.reduceAdd, Nat.reduceBEq, Nat.reduceMul, Nat.reduceLT, Nat.reduceLeDiff, isMb_flb, pkP, List.length_map]
  refine call_box rfl (stable_qu cm hc g caps hcm l0 L cap hL hbig) rfl rfl (by simp [bxs]) ?_
  simp -implicitDefEqProofs only [pkA, ptA, ↓reduceIte, Nat.reduceEqDiff, Nat.reduceAdd, Nat.reduceBEq, Nat.reduceMul, Nat.reduceLT, Nat.reduceLeDiff, isMb_flb, pkP, List.length_map]
  exact end_box rfl (by decide) (by simp) (by simp [bxs])
end Go.Proofs.YtbhfbbfifmnniaaDoor
