/- few, and the two functions Same, of layer 13. -/
import Derived.Test.YtbhfbbfifmnniaaDoorVlFun2
set_option linter.unusedSimpArgs false
set_option linter.unusedVariables false
namespace Go.Proofs.YtbhfbbfifmnniaaDoor
open Go Go.Vl

variable {G : Gl}

def fewB (p : Pol) : Bool := decide (p.types.length ≤ 40) && decide (p.rules.length ≤ 300) && decide (p.quorums.length ≤ 40)

set_option maxHeartbeats 1000000 in
theorem few_ok (p : Pol) : FnOK Tryd.prog G 9 [.agg (poC p)] (bo (fewB p)) := by
  refine FnOK_by (rs := [.tmp 2]) false [] mixed Tryd.func9 rfl rfl rfl rfl (by kernel_rfl) (by simp) rfl rfl ?_
  repeat' first
    | (simp -implicitDefEqProofs only [pkA, ptA, ↓reduceIte, Nat.reduceEqDiff, Nat.reduceAdd, Nat.reduceBEq, Nat.reduceMul, Nat.reduceLT, Nat.reduceLeDiff, pkP, List.length_map])
    | refine vgd_of (fun h => ?_) (fun h => ?_)
    | refine vcond_of (fun h => ?_) (fun h => ?_)
  all_goals first | (simp_all [fewB]; done) | (simp_all [fewB]; omega) | (simp_all [fewB]; rw [Bool.eq_iff_iff]; simp only [Bool.and_eq_true, decide_eq_true_eq]; omega)

/-- The lists of a policy are not too long. -/
def PolOk (p : Pol) : Prop := p.types.length ≤ 9223372036854775807 ∧ p.rules.length ≤ 9223372036854775807 ∧ p.quorums.length ≤ 9223372036854775807

theorem pol_eq (a b : Pol) : decide (a = b) = (decide (a.name = b.name) && decide (a.types = b.types) && decide (a.rules = b.rules) && decide (a.quorums = b.quorums)) := by
  cases a; cases b; simp [Pol.mk.injEq, Bool.decide_and, Bool.and_assoc]

set_option maxHeartbeats 1000000 in
theorem Same_ok (a b : Pol) (ha : PolOk a) (hb : PolOk b) : FnOK Tryd.prog G 20 [.agg (poC a), .agg (poC b)] (bo (decide (a = b))) := by
  refine FnOK_by (rs := [.tmp 4]) false [] mixed Tryd.func20 rfl rfl rfl rfl (by kernel_rfl) (by simp) rfl rfl ?_
  repeat' first
    | (simp -implicitDefEqProofs only [pkA, ptA, ↓reduceIte, Nat.reduceEqDiff, Nat.reduceAdd, Nat.reduceBEq, Nat.reduceMul, Nat.reduceLT, Nat.reduceLeDiff, pkP, List.length_map])
    | refine vgd_of (fun h => ?_) (fun h => ?_)
    | refine vcond_of (fun h => ?_) (fun h => ?_)
    | refine call_fn rfl (Equal_ty _ _ ha.1 hb.1) (by simp [V.boxy]) ?_
    | refine call_fn rfl (Equal_ru _ _ ha.2.1 hb.2.1) (by simp [V.boxy]) ?_
    | refine call_fn rfl (Equal_qu _ _ ha.2.2 hb.2.2) (by simp [V.boxy]) ?_
  all_goals (rw [pol_eq]; simp_all)

set_option maxHeartbeats 4000000 in
theorem refSame_ok (a b : Pol) (ha : PolOk a) (hb : PolOk b) : FnOK Tryd.prog G 17 [.agg (poC a), .agg (poC b)] (bo (decide (a = b))) := by
  refine FnOK_by (rs := [.tmp 4]) false [] mixed Tryd.func17 rfl rfl rfl rfl (by kernel_rfl) (by simp) rfl rfl ?_
  by_cases hl : a.name = b.name ∧ a.types.length = b.types.length ∧ a.rules.length = b.rules.length ∧ a.quorums.length = b.quorums.length
  · obtain ⟨hn, ht, hr, hq⟩ := hl
    obtain ⟨o1, o2, o3⟩ := ha
    have hnb : (!decide (a.name = b.name)) = false := by simp [hn]
    have htb : (!decide ((a.types.length : Int) = (b.types.length : Int))) = false := by simp [ht]
    have hrb : (!decide ((a.rules.length : Int) = (b.rules.length : Int))) = false := by simp [hr]
    have hqb : (!decide ((a.quorums.length : Int) = (b.quorums.length : Int))) = false := by simp [hq]
    simp -implicitDefEqProofs only [pkA, ptA, ↓reduceIte, Nat.reduceEqDiff, Nat.reduceAdd, Nat.reduceBEq, Nat.reduceMul, Nat.reduceLT, Nat.reduceLeDiff, pkP, List.length_map, hnb, htb, hrb, hqb]
    refine run_loop (fun i : Nat => hdS [(2, .bp 0 0), (3, .bp 1 0), (5, i64 i)] [(poC a).map .c, (poC b).map .c]) (fun i => a.types.length - i) (fun i => i ≤ a.types.length ∧ ∀ j (h : j < a.types.length) (h' : j < b.types.length), j < i → a.types[j] = b.types[j]) 0 ⟨Nat.zero_le _, by simp⟩ ?_ ?_
    · refine le_hd (by simp only [leOk, List.all_cons, List.all_nil, all_ltB_c, List.length_cons, List.length_nil]; rfl) (Nat.zero_le _) (by simp) ?_ ?_
      · simp [FL, up_apply]
      · simp [BL, up_apply, bxs]
    rintro i5 ⟨hi5, H5⟩ R5 hnorm5 hexit5 hret5
    simp -implicitDefEqProofs only [pkA, ptA, ↓reduceIte, Nat.reduceEqDiff, Nat.reduceAdd, Nat.reduceBEq, Nat.reduceMul, Nat.reduceLT, Nat.reduceLeDiff, pkP, List.length_map]
    refine vcond_of (fun hlt => ?_) (fun hge => ?_)
    · have hlt : i5 < a.types.length := by simpa using hlt
      have hlt' : i5 < b.types.length := by omega
      simp -implicitDefEqProofs only [pkA, ptA, ↓reduceIte, Nat.reduceEqDiff, Nat.reduceAdd, Nat.reduceBEq, Nat.reduceMul, Nat.reduceLT, Nat.reduceLeDiff, pkP, List.length_map]
      refine ia_of ti_22 rfl ti_46 (by decide) (Int.natCast_nonneg i5) (c := tyC a.types[i5]) (by simp [hlt]) rfl ?_
      simp -implicitDefEqProofs only [pkA, ptA, ↓reduceIte, Nat.reduceEqDiff, Nat.reduceAdd, Nat.reduceBEq, Nat.reduceMul, Nat.reduceLT, Nat.reduceLeDiff, pkP, List.length_map]
      refine ia_of ti_22 rfl ti_46 (by decide) (Int.natCast_nonneg i5) (c := tyC b.types[i5]) (by simp [hlt']) rfl ?_
      simp -implicitDefEqProofs only [pkA, ptA, ↓reduceIte, Nat.reduceEqDiff, Nat.reduceAdd, Nat.reduceBEq, Nat.reduceMul, Nat.reduceLT, Nat.reduceLeDiff, pkP, List.length_map]
      refine vcond_of (fun hy => ?_) (fun hno => ?_)
      · simp -implicitDefEqProofs only [pkA, ptA, ↓reduceIte, Nat.reduceEqDiff, Nat.reduceAdd, Nat.reduceBEq, Nat.reduceMul, Nat.reduceLT, Nat.reduceLeDiff, pkP, List.length_map]
        refine hret5 _ ?_
        simp -implicitDefEqProofs only [pkA, ptA, ↓reduceIte, Nat.reduceEqDiff, Nat.reduceAdd, Nat.reduceBEq, Nat.reduceMul, Nat.reduceLT, Nat.reduceLeDiff, pkP, List.length_map]
        have : a ≠ b := by rintro rfl; simp at hy
        simp [this]
      · have hw := wrap_i64 (i5 + 1) (by omega)
        simp -implicitDefEqProofs only [pkA, ptA, ↓reduceIte, Nat.reduceEqDiff, Nat.reduceAdd, Nat.reduceBEq, Nat.reduceMul, Nat.reduceLT, Nat.reduceLeDiff, pkP, List.length_map]
        refine hnorm5 (i5 + 1) _ ⟨hlt, fun j h h' hj => ?_⟩ (by omega) (le_hd (by simp only [leOk, List.all_cons, List.all_nil, all_ltB_c, List.length_cons, List.length_nil]; rfl) (Nat.zero_le _) (by simp) ?_ ?_)
        · rcases Nat.lt_or_ge j i5 with h1 | h1
          · exact H5 j h h' h1
          · have : j = i5 := by omega
            subst this; simpa using hno
        · simp [FL, up_apply, hw]
        · simp [BL, up_apply, bxs]
    have : i5 = a.types.length := by simp at hge; omega
    subst this
    simp -implicitDefEqProofs only [pkA, ptA, ↓reduceIte, Nat.reduceEqDiff, Nat.reduceAdd, Nat.reduceBEq, Nat.reduceMul, Nat.reduceLT, Nat.reduceLeDiff, pkP, List.length_map]
    refine hexit5 _ _ ?_
    simp -implicitDefEqProofs only [pkA, ptA, ↓reduceIte, Nat.reduceEqDiff, Nat.reduceAdd, Nat.reduceBEq, Nat.reduceMul, Nat.reduceLT, Nat.reduceLeDiff, pkP, List.length_map]
    refine run_loop (fun i : Nat => hdS [(2, .bp 0 0), (3, .bp 1 0), (6, i64 i)] [(poC a).map .c, (poC b).map .c]) (fun i => a.rules.length - i) (fun i => i ≤ a.rules.length ∧ ∀ j (h : j < a.rules.length) (h' : j < b.rules.length), j < i → a.rules[j] = b.rules[j]) 0 ⟨Nat.zero_le _, by simp⟩ ?_ ?_
    · refine le_hd (by simp only [leOk, List.all_cons, List.all_nil, all_ltB_c, List.length_cons, List.length_nil]; rfl) (Nat.zero_le _) (by simp) ?_ ?_
      · simp [FL, up_apply]
      · simp [BL, up_apply, bxs]
    rintro i6 ⟨hi6, H6⟩ R6 hnorm6 hexit6 hret6
    simp -implicitDefEqProofs only [pkA, ptA, ↓reduceIte, Nat.reduceEqDiff, Nat.reduceAdd, Nat.reduceBEq, Nat.reduceMul, Nat.reduceLT, Nat.reduceLeDiff, pkP, List.length_map]
    refine vcond_of (fun hlt => ?_) (fun hge => ?_)
    · have hlt : i6 < a.rules.length := by simpa using hlt
      have hlt' : i6 < b.rules.length := by omega
      simp -implicitDefEqProofs only [pkA, ptA, ↓reduceIte, Nat.reduceEqDiff, Nat.reduceAdd, Nat.reduceBEq, Nat.reduceMul, Nat.reduceLT, Nat.reduceLeDiff, pkP, List.length_map]
      refine ia_of ti_23 rfl ti_40 (by decide) (Int.natCast_nonneg i6) (c := ruC a.rules[i6]) (by simp [hlt]) rfl ?_
      simp -implicitDefEqProofs only [pkA, ptA, ↓reduceIte, Nat.reduceEqDiff, Nat.reduceAdd, Nat.reduceBEq, Nat.reduceMul, Nat.reduceLT, Nat.reduceLeDiff, pkP, List.length_map]
      refine ia_of ti_23 rfl ti_40 (by decide) (Int.natCast_nonneg i6) (c := ruC b.rules[i6]) (by simp [hlt']) rfl ?_
      simp -implicitDefEqProofs only [pkA, ptA, ↓reduceIte, Nat.reduceEqDiff, Nat.reduceAdd, Nat.reduceBEq, Nat.reduceMul, Nat.reduceLT, Nat.reduceLeDiff, pkP, List.length_map]
      refine vcond_of (fun hy => ?_) (fun hno => ?_)
      · simp -implicitDefEqProofs only [pkA, ptA, ↓reduceIte, Nat.reduceEqDiff, Nat.reduceAdd, Nat.reduceBEq, Nat.reduceMul, Nat.reduceLT, Nat.reduceLeDiff, pkP, List.length_map]
        refine hret6 _ ?_
        simp -implicitDefEqProofs only [pkA, ptA, ↓reduceIte, Nat.reduceEqDiff, Nat.reduceAdd, Nat.reduceBEq, Nat.reduceMul, Nat.reduceLT, Nat.reduceLeDiff, pkP, List.length_map]
        have : a ≠ b := by rintro rfl; simp at hy
        simp [this]
      · have hw := wrap_i64 (i6 + 1) (by omega)
        simp -implicitDefEqProofs only [pkA, ptA, ↓reduceIte, Nat.reduceEqDiff, Nat.reduceAdd, Nat.reduceBEq, Nat.reduceMul, Nat.reduceLT, Nat.reduceLeDiff, pkP, List.length_map]
        refine hnorm6 (i6 + 1) _ ⟨hlt, fun j h h' hj => ?_⟩ (by omega) (le_hd (by simp only [leOk, List.all_cons, List.all_nil, all_ltB_c, List.length_cons, List.length_nil]; rfl) (Nat.zero_le _) (by simp) ?_ ?_)
        · rcases Nat.lt_or_ge j i6 with h1 | h1
          · exact H6 j h h' h1
          · have : j = i6 := by omega
            subst this; simpa using hno
        · simp [FL, up_apply, hw]
        · simp [BL, up_apply, bxs]
    have : i6 = a.rules.length := by simp at hge; omega
    subst this
    simp -implicitDefEqProofs only [pkA, ptA, ↓reduceIte, Nat.reduceEqDiff, Nat.reduceAdd, Nat.reduceBEq, Nat.reduceMul, Nat.reduceLT, Nat.reduceLeDiff, pkP, List.length_map]
    refine hexit6 _ _ ?_
    simp -implicitDefEqProofs only [pkA, ptA, ↓reduceIte, Nat.reduceEqDiff, Nat.reduceAdd, Nat.reduceBEq, Nat.reduceMul, Nat.reduceLT, Nat.reduceLeDiff, pkP, List.length_map]
    refine run_loop (fun i : Nat => hdS [(2, .bp 0 0), (3, .bp 1 0), (7, i64 i)] [(poC a).map .c, (poC b).map .c]) (fun i => a.quorums.length - i) (fun i => i ≤ a.quorums.length ∧ ∀ j (h : j < a.quorums.length) (h' : j < b.quorums.length), j < i → a.quorums[j] = b.quorums[j]) 0 ⟨Nat.zero_le _, by simp⟩ ?_ ?_
    · refine le_hd (by simp only [leOk, List.all_cons, List.all_nil, all_ltB_c, List.length_cons, List.length_nil]; rfl) (Nat.zero_le _) (by simp) ?_ ?_
      · simp [FL, up_apply]
      · simp [BL, up_apply, bxs]
    rintro i7 ⟨hi7, H7⟩ R7 hnorm7 hexit7 hret7
    simp -implicitDefEqProofs only [pkA, ptA, ↓reduceIte, Nat.reduceEqDiff, Nat.reduceAdd, Nat.reduceBEq, Nat.reduceMul, Nat.reduceLT, Nat.reduceLeDiff, pkP, List.length_map]
    refine vcond_of (fun hlt => ?_) (fun hge => ?_)
    · have hlt : i7 < a.quorums.length := by simpa using hlt
      have hlt' : i7 < b.quorums.length := by omega
      simp -implicitDefEqProofs only [pkA, ptA, ↓reduceIte, Nat.reduceEqDiff, Nat.reduceAdd, Nat.reduceBEq, Nat.reduceMul, Nat.reduceLT, Nat.reduceLeDiff, pkP, List.length_map]
      refine ia_of ti_24 rfl ti_42 (by decide) (Int.natCast_nonneg i7) (c := quC a.quorums[i7]) (by simp [hlt]) rfl ?_
      simp -implicitDefEqProofs only [pkA, ptA, ↓reduceIte, Nat.reduceEqDiff, Nat.reduceAdd, Nat.reduceBEq, Nat.reduceMul, Nat.reduceLT, Nat.reduceLeDiff, pkP, List.length_map]
      refine ia_of ti_24 rfl ti_42 (by decide) (Int.natCast_nonneg i7) (c := quC b.quorums[i7]) (by simp [hlt']) rfl ?_
      simp -implicitDefEqProofs only [pkA, ptA, ↓reduceIte, Nat.reduceEqDiff, Nat.reduceAdd, Nat.reduceBEq, Nat.reduceMul, Nat.reduceLT, Nat.reduceLeDiff, pkP, List.length_map]
      refine vcond_of (fun hy => ?_) (fun hno => ?_)
      · simp -implicitDefEqProofs only [pkA, ptA, ↓reduceIte, Nat.reduceEqDiff, Nat.reduceAdd, Nat.reduceBEq, Nat.reduceMul, Nat.reduceLT, Nat.reduceLeDiff, pkP, List.length_map]
        refine hret7 _ ?_
        simp -implicitDefEqProofs only [pkA, ptA, ↓reduceIte, Nat.reduceEqDiff, Nat.reduceAdd, Nat.reduceBEq, Nat.reduceMul, Nat.reduceLT, Nat.reduceLeDiff, pkP, List.length_map]
        have : a ≠ b := by rintro rfl; simp at hy
        simp [this]
      · have hw := wrap_i64 (i7 + 1) (by omega)
        simp -implicitDefEqProofs only [pkA, ptA, ↓reduceIte, Nat.reduceEqDiff, Nat.reduceAdd, Nat.reduceBEq, Nat.reduceMul, Nat.reduceLT, Nat.reduceLeDiff, pkP, List.length_map]
        refine hnorm7 (i7 + 1) _ ⟨hlt, fun j h h' hj => ?_⟩ (by omega) (le_hd (by simp only [leOk, List.all_cons, List.all_nil, all_ltB_c, List.length_cons, List.length_nil]; rfl) (Nat.zero_le _) (by simp) ?_ ?_)
        · rcases Nat.lt_or_ge j i7 with h1 | h1
          · exact H7 j h h' h1
          · have : j = i7 := by omega
            subst this; simpa using hno
        · simp [FL, up_apply, hw]
        · simp [BL, up_apply, bxs]
    have : i7 = a.quorums.length := by simp at hge; omega
    subst this
    simp -implicitDefEqProofs only [pkA, ptA, ↓reduceIte, Nat.reduceEqDiff, Nat.reduceAdd, Nat.reduceBEq, Nat.reduceMul, Nat.reduceLT, Nat.reduceLeDiff, pkP, List.length_map]
    refine hexit7 _ _ ?_
    simp -implicitDefEqProofs only [pkA, ptA, ↓reduceIte, Nat.reduceEqDiff, Nat.reduceAdd, Nat.reduceBEq, Nat.reduceMul, Nat.reduceLT, Nat.reduceLeDiff, pkP, List.length_map]
    have e1 : a.types = b.types := List.ext_getElem ht fun j h h' => H5 j h h' h
    have e2 : a.rules = b.rules := List.ext_getElem hr fun j h h' => H6 j h h' h
    have e3 : a.quorums = b.quorums := List.ext_getElem hq fun j h h' => H7 j h h' h
    rw [pol_eq, hn, e1, e2, e3]; simp
  · have hne : a ≠ b := by rintro rfl; simp at hl
    repeat' first
    | (simp -implicitDefEqProofs only [pkA, ptA, ↓reduceIte, Nat.reduceEqDiff, Nat.reduceAdd, Nat.reduceBEq, Nat.reduceMul, Nat.reduceLT, Nat.reduceLeDiff, pkP, List.length_map])
    | refine vgd_of (fun h => ?_) (fun h => ?_)
    | refine vcond_of (fun h => ?_) (fun h => ?_)
    all_goals first | (simp [hne]; done) | (exfalso; apply hl; simp_all; omega)
end Go.Proofs.YtbhfbbfifmnniaaDoor
