/- Check, Valid, before and Normal of the reference of layer 13. -/
import Derived.Test.YtbhfbbfifmnniaaDoorVlChk
import Derived.Test.YtbhfbbfifmnniaaDoorVlNorm
set_option linter.unusedSimpArgs false
set_option linter.unusedVariables false
namespace Go.Proofs.YtbhfbbfifmnniaaDoor
open Go Go.Vl

set_option maxHeartbeats 4000000 in
theorem refCheck_ok {G : Gl} (p : Pol) (hp : PolIn p) (hsm : items p ≤ 4611686018427387904) :
    FnOK Tryd.prog G 12 [.agg (poC p)] (.tup [i64 (chk p).1, i64 (chk p).2]) := by
  refine FnOK_by (rs := [.tmp 2, .tmp 3]) false [] mixed Tryd.func12 rfl rfl rfl rfl (by kernel_rfl) (by simp) rfl rfl ?_
  obtain ⟨o1, o2, o3⟩ := hp.ok
  have hit : items p = p.types.length + p.rules.length + p.quorums.length := rfl
  simp -implicitDefEqProofs only [pkA, ptA, ↓reduceIte, Nat.reduceEqDiff, Nat.reduceAdd, Nat.reduceBEq, Nat.reduceMul, Nat.reduceLT, Nat.reduceLeDiff, pkP, List.length_map]
  refine call_fn rfl (refName_ok _ hp.nm) (fun _ => rfl) ?_
  simp -implicitDefEqProofs only [pkA, ptA, ↓reduceIte, Nat.reduceEqDiff, Nat.reduceAdd, Nat.reduceBEq, Nat.reduceMul, Nat.reduceLT, Nat.reduceLeDiff, pkP, List.length_map]
  refine vcond_of (fun hn => ?_) (fun hn => ?_)
  · have hn : nameB p.name = false := by simpa using hn
    simp -implicitDefEqProofs only [pkA, ptA, ↓reduceIte, Nat.reduceEqDiff, Nat.reduceAdd, Nat.reduceBEq, Nat.reduceMul, Nat.reduceLT, Nat.reduceLeDiff, pkP, List.length_map]
    rw [chk_name hn]
    refine retV_two ?_ ?_ <;> simp -implicitDefEqProofs only [pkA, ptA, ↓reduceIte, Nat.reduceEqDiff, Nat.reduceAdd, Nat.reduceBEq, Nat.reduceMul, Nat.reduceLT, Nat.reduceLeDiff, pkP, List.length_map]
  have hn : nameB p.name = true := by simpa using hn
  simp -implicitDefEqProofs only [pkA, ptA, ↓reduceIte, Nat.reduceEqDiff, Nat.reduceAdd, Nat.reduceBEq, Nat.reduceMul, Nat.reduceLT, Nat.reduceLeDiff, pkP, List.length_map]
  refine run_loop (fun i : Nat => hdS [(1, .bp 0 0), (5, i64 i)] [(poC p).map .c]) (fun i => p.types.length - i) (fun i => i ≤ p.types.length ∧ ∀ j, j < i → itE p j = 0) 0 ⟨Nat.zero_le _, by simp⟩ ?_ ?_
  · refine le_hd (by simp only [leOk, List.all_cons, List.all_nil, all_ltB_c, List.length_cons, List.length_nil]; rfl) (Nat.zero_le _) (by simp) (by simp [FL, up_apply]) (by simp [BL, up_apply, bxs])
  rintro i ⟨hi, hno⟩ R hnorm hexit hret
  simp -implicitDefEqProofs only [pkA, ptA, ↓reduceIte, Nat.reduceEqDiff, Nat.reduceAdd, Nat.reduceBEq, Nat.reduceMul, Nat.reduceLT, Nat.reduceLeDiff, pkP, List.length_map]
  refine vcond_of (fun hlt => ?_) (fun hge => ?_)
  · have ht : i < p.types.length := by simpa using hlt
    have hw := wrap_of (n := (i : Int) + 1) (k := i + 1) (by omega) (by omega)
    have bad : itE p i ≠ 0 → chk p = ((i : Int), itE p i) := fun h => chk_at hn (by omega) h hno
    have good : itE p i = 0 → ∀ j, j < i + 1 → itE p j = 0 := fun h j hj => by
      rcases Nat.lt_or_ge j i with q | q
      · exact hno j q
      · have : j = i := by omega
        subst this; exact h
    have e : itE p i = tyErr p.types i p.types[i] := by unfold itE; rw [if_pos ht, tyE_at ht]
    rw [e] at bad good
    simp -implicitDefEqProofs only [pkA, ptA, ↓reduceIte, Nat.reduceEqDiff, Nat.reduceAdd, Nat.reduceBEq, Nat.reduceMul, Nat.reduceLT, Nat.reduceLeDiff, pkP, List.length_map]
    refine call_fn rfl (isType_ok p.types i ht o1 hp.tn) (fun _ => rfl) ?_
    simp -implicitDefEqProofs only [pkA, ptA, ↓reduceIte, Nat.reduceEqDiff, Nat.reduceAdd, Nat.reduceBEq, Nat.reduceMul, Nat.reduceLT, Nat.reduceLeDiff, pkP, List.length_map]
    refine vcond_of (fun hb => ?_) (fun hg => ?_)
    · simp -implicitDefEqProofs only [pkA, ptA, ↓reduceIte, Nat.reduceEqDiff, Nat.reduceAdd, Nat.reduceBEq, Nat.reduceMul, Nat.reduceLT, Nat.reduceLeDiff, pkP, List.length_map]
      refine hret _ ?_
      simp -implicitDefEqProofs only [pkA, ptA, ↓reduceIte, Nat.reduceEqDiff, Nat.reduceAdd, Nat.reduceBEq, Nat.reduceMul, Nat.reduceLT, Nat.reduceLeDiff, pkP, List.length_map]
      rw [bad (by simpa using hb)]
      refine retV_two ?_ ?_ <;> simp -implicitDefEqProofs only [pkA, ptA, ↓reduceIte, Nat.reduceEqDiff, Nat.reduceAdd, Nat.reduceBEq, Nat.reduceMul, Nat.reduceLT, Nat.reduceLeDiff, pkP, List.length_map]
    · simp -implicitDefEqProofs only [pkA, ptA, ↓reduceIte, Nat.reduceEqDiff, Nat.reduceAdd, Nat.reduceBEq, Nat.reduceMul, Nat.reduceLT, Nat.reduceLeDiff, pkP, List.length_map, hw]
      exact hnorm (i + 1) _ ⟨ht, good (by simpa using hg)⟩ (by omega) (le_hd (by simp only [leOk, List.all_cons, List.all_nil, all_ltB_c, List.length_cons, List.length_nil]; rfl) (Nat.zero_le _) (by simp) (by simp [FL, up_apply]) (by simp [BL, up_apply, bxs]))
  have : i = p.types.length := by simp at hge; omega
  subst this
  simp -implicitDefEqProofs only [pkA, ptA, ↓reduceIte, Nat.reduceEqDiff, Nat.reduceAdd, Nat.reduceBEq, Nat.reduceMul, Nat.reduceLT, Nat.reduceLeDiff, pkP, List.length_map]
  refine hexit _ _ ?_
  clear hexit hret hnorm hge hi
  simp -implicitDefEqProofs only [pkA, ptA, ↓reduceIte, Nat.reduceEqDiff, Nat.reduceAdd, Nat.reduceBEq, Nat.reduceMul, Nat.reduceLT, Nat.reduceLeDiff, pkP, List.length_map]
  refine run_loop (fun i : Nat => hdS [(1, .bp 0 0), (7, i64 i)] [(poC p).map .c]) (fun i => p.rules.length - i) (fun i => i ≤ p.rules.length ∧ ∀ j, j < p.types.length + i → itE p j = 0) 0 ⟨Nat.zero_le _, hno⟩ ?_ ?_
  · refine le_hd (by simp only [leOk, List.all_cons, List.all_nil, all_ltB_c, List.length_cons, List.length_nil]; rfl) (Nat.zero_le _) (by simp) (by simp [FL, up_apply]) (by simp [BL, up_apply, bxs])
  clear hno
  rintro i ⟨hi, hno⟩ R hnorm hexit hret
  simp -implicitDefEqProofs only [pkA, ptA, ↓reduceIte, Nat.reduceEqDiff, Nat.reduceAdd, Nat.reduceBEq, Nat.reduceMul, Nat.reduceLT, Nat.reduceLeDiff, pkP, List.length_map]
  refine vcond_of (fun hlt => ?_) (fun hge => ?_)
  · have ht : i < p.rules.length := by simpa using hlt
    have hw := wrap_of (n := (i : Int) + 1) (k := i + 1) (by omega) (by omega)
    have hw2 := wrap_of (n := (p.types.length : Int) + i) (k := p.types.length + i) (by omega) (by omega)
    have bad : itE p (p.types.length + i) ≠ 0 → chk p = (((p.types.length + i : Nat) : Int), itE p (p.types.length + i)) := fun h => chk_at hn (by omega) h hno
    have good : itE p (p.types.length + i) = 0 → ∀ j, j < p.types.length + (i + 1) → itE p j = 0 := fun h j hj => by
      rcases Nat.lt_or_ge j (p.types.length + i) with q | q
      · exact hno j q
      · have : j = p.types.length + i := by omega
        subst this; exact h
    have e : itE p (p.types.length + i) = ruErr p.rules i p.types.length p.rules[i] := by
      unfold itE; rw [if_neg (by omega), if_pos (by omega), Nat.add_sub_cancel_left, ruE_at ht]
    rw [e] at bad good
    simp -implicitDefEqProofs only [pkA, ptA, ↓reduceIte, Nat.reduceEqDiff, Nat.reduceAdd, Nat.reduceBEq, Nat.reduceMul, Nat.reduceLT, Nat.reduceLeDiff, pkP, List.length_map]
    refine call_fn rfl (isRule_ok p.rules i p.types.length ht o2 (by omega)) (fun _ => rfl) ?_
    simp -implicitDefEqProofs only [pkA, ptA, ↓reduceIte, Nat.reduceEqDiff, Nat.reduceAdd, Nat.reduceBEq, Nat.reduceMul, Nat.reduceLT, Nat.reduceLeDiff, pkP, List.length_map]
    refine vcond_of (fun hb => ?_) (fun hg => ?_)
    · simp -implicitDefEqProofs only [pkA, ptA, ↓reduceIte, Nat.reduceEqDiff, Nat.reduceAdd, Nat.reduceBEq, Nat.reduceMul, Nat.reduceLT, Nat.reduceLeDiff, pkP, List.length_map, hw2]
      refine hret _ ?_
      simp -implicitDefEqProofs only [pkA, ptA, ↓reduceIte, Nat.reduceEqDiff, Nat.reduceAdd, Nat.reduceBEq, Nat.reduceMul, Nat.reduceLT, Nat.reduceLeDiff, pkP, List.length_map]
      rw [bad (by simpa using hb)]
      refine retV_two ?_ ?_ <;> simp -implicitDefEqProofs only [pkA, ptA, ↓reduceIte, Nat.reduceEqDiff, Nat.reduceAdd, Nat.reduceBEq, Nat.reduceMul, Nat.reduceLT, Nat.reduceLeDiff, pkP, List.length_map]
    · simp -implicitDefEqProofs only [pkA, ptA, ↓reduceIte, Nat.reduceEqDiff, Nat.reduceAdd, Nat.reduceBEq, Nat.reduceMul, Nat.reduceLT, Nat.reduceLeDiff, pkP, List.length_map, hw]
      exact hnorm (i + 1) _ ⟨ht, good (by simpa using hg)⟩ (by omega) (le_hd (by simp only [leOk, List.all_cons, List.all_nil, all_ltB_c, List.length_cons, List.length_nil]; rfl) (Nat.zero_le _) (by simp) (by simp [FL, up_apply]) (by simp [BL, up_apply, bxs]))
  have : i = p.rules.length := by simp at hge; omega
  subst this
  simp -implicitDefEqProofs only [pkA, ptA, ↓reduceIte, Nat.reduceEqDiff, Nat.reduceAdd, Nat.reduceBEq, Nat.reduceMul, Nat.reduceLT, Nat.reduceLeDiff, pkP, List.length_map]
  refine hexit _ _ ?_
  clear hexit hret hnorm hge hi
  simp -implicitDefEqProofs only [pkA, ptA, ↓reduceIte, Nat.reduceEqDiff, Nat.reduceAdd, Nat.reduceBEq, Nat.reduceMul, Nat.reduceLT, Nat.reduceLeDiff, pkP, List.length_map]
  refine run_loop (fun i : Nat => hdS [(1, .bp 0 0), (9, i64 i)] [(poC p).map .c]) (fun i => p.quorums.length - i) (fun i => i ≤ p.quorums.length ∧ ∀ j, j < p.types.length + p.rules.length + i → itE p j = 0) 0 ⟨Nat.zero_le _, hno⟩ ?_ ?_
  · refine le_hd (by simp only [leOk, List.all_cons, List.all_nil, all_ltB_c, List.length_cons, List.length_nil]; rfl) (Nat.zero_le _) (by simp) (by simp [FL, up_apply]) (by simp [BL, up_apply, bxs])
  clear hno
  rintro i ⟨hi, hno⟩ R hnorm hexit hret
  simp -implicitDefEqProofs only [pkA, ptA, ↓reduceIte, Nat.reduceEqDiff, Nat.reduceAdd, Nat.reduceBEq, Nat.reduceMul, Nat.reduceLT, Nat.reduceLeDiff, pkP, List.length_map]
  refine vcond_of (fun hlt => ?_) (fun hge => ?_)
  · have ht : i < p.quorums.length := by simpa using hlt
    have hw := wrap_of (n := (i : Int) + 1) (k := i + 1) (by omega) (by omega)
    have hw2 := wrap_of (n := (p.types.length : Int) + p.rules.length) (k := p.types.length + p.rules.length) (by omega) (by omega)
    have hw3 := wrap_of (n := ((p.types.length + p.rules.length : Nat) : Int) + i) (k := p.types.length + p.rules.length + i) (by omega) (by omega)
    have bad : itE p (p.types.length + p.rules.length + i) ≠ 0 → chk p = (((p.types.length + p.rules.length + i : Nat) : Int), itE p (p.types.length + p.rules.length + i)) := fun h => chk_at hn (by omega) h hno
    have good : itE p (p.types.length + p.rules.length + i) = 0 → ∀ j, j < p.types.length + p.rules.length + (i + 1) → itE p j = 0 := fun h j hj => by
      rcases Nat.lt_or_ge j (p.types.length + p.rules.length + i) with q | q
      · exact hno j q
      · have : j = p.types.length + p.rules.length + i := by omega
        subst this; exact h
    have e : itE p (p.types.length + p.rules.length + i) = quErr p.quorums i p.quorums[i] := by
      have : p.types.length + p.rules.length + i - p.types.length - p.rules.length = i := by omega
      unfold itE; rw [if_neg (by omega), if_neg (by omega), this, quE_at ht]
    rw [e] at bad good
    simp -implicitDefEqProofs only [pkA, ptA, ↓reduceIte, Nat.reduceEqDiff, Nat.reduceAdd, Nat.reduceBEq, Nat.reduceMul, Nat.reduceLT, Nat.reduceLeDiff, pkP, List.length_map]
    refine call_fn rfl (isQuorum_ok p.quorums i ht o3) (fun _ => rfl) ?_
    simp -implicitDefEqProofs only [pkA, ptA, ↓reduceIte, Nat.reduceEqDiff, Nat.reduceAdd, Nat.reduceBEq, Nat.reduceMul, Nat.reduceLT, Nat.reduceLeDiff, pkP, List.length_map]
    refine vcond_of (fun hb => ?_) (fun hg => ?_)
    · simp -implicitDefEqProofs only [pkA, ptA, ↓reduceIte, Nat.reduceEqDiff, Nat.reduceAdd, Nat.reduceBEq, Nat.reduceMul, Nat.reduceLT, Nat.reduceLeDiff, pkP, List.length_map, hw2, hw3]
      refine hret _ ?_
      simp -implicitDefEqProofs only [pkA, ptA, ↓reduceIte, Nat.reduceEqDiff, Nat.reduceAdd, Nat.reduceBEq, Nat.reduceMul, Nat.reduceLT, Nat.reduceLeDiff, pkP, List.length_map]
      rw [bad (by simpa using hb)]
      refine retV_two ?_ ?_ <;> simp -implicitDefEqProofs only [pkA, ptA, ↓reduceIte, Nat.reduceEqDiff, Nat.reduceAdd, Nat.reduceBEq, Nat.reduceMul, Nat.reduceLT, Nat.reduceLeDiff, pkP, List.length_map]
    · simp -implicitDefEqProofs only [pkA, ptA, ↓reduceIte, Nat.reduceEqDiff, Nat.reduceAdd, Nat.reduceBEq, Nat.reduceMul, Nat.reduceLT, Nat.reduceLeDiff, pkP, List.length_map, hw]
      exact hnorm (i + 1) _ ⟨ht, good (by simpa using hg)⟩ (by omega) (le_hd (by simp only [leOk, List.all_cons, List.all_nil, all_ltB_c, List.length_cons, List.length_nil]; rfl) (Nat.zero_le _) (by simp) (by simp [FL, up_apply]) (by simp [BL, up_apply, bxs]))
  have : i = p.quorums.length := by simp at hge; omega
  subst this
  simp -implicitDefEqProofs only [pkA, ptA, ↓reduceIte, Nat.reduceEqDiff, Nat.reduceAdd, Nat.reduceBEq, Nat.reduceMul, Nat.reduceLT, Nat.reduceLeDiff, pkP, List.length_map]
  refine hexit _ _ ?_
  simp -implicitDefEqProofs only [pkA, ptA, ↓reduceIte, Nat.reduceEqDiff, Nat.reduceAdd, Nat.reduceBEq, Nat.reduceMul, Nat.reduceLT, Nat.reduceLeDiff, pkP, List.length_map]
  rw [chk_none hn hno]
  refine retV_two ?_ ?_ <;> simp -implicitDefEqProofs only [pkA, ptA, ↓reduceIte, Nat.reduceEqDiff, Nat.reduceAdd, Nat.reduceBEq, Nat.reduceMul, Nat.reduceLT, Nat.reduceLeDiff, pkP, List.length_map]

set_option maxHeartbeats 1000000 in
theorem refValid_ok {G : Gl} (p : Pol) (hp : PolIn p) (hsm : items p ≤ 4611686018427387904) : FnOK Tryd.prog G 14 [.agg (poC p)] (bo (validB p)) := by
  refine FnOK_by (rs := [.tmp 2]) false [] mixed Tryd.func14 rfl rfl rfl rfl (by kernel_rfl) (by simp) rfl rfl ?_
  simp -implicitDefEqProofs only [pkA, ptA, ↓reduceIte, Nat.reduceEqDiff, Nat.reduceAdd, Nat.reduceBEq, Nat.reduceMul, Nat.reduceLT, Nat.reduceLeDiff, pkP, List.length_map]
  refine call_fn rfl (refCheck_ok p hp hsm) (fun h => by cases h) ?_
  simp -implicitDefEqProofs only [pkA, ptA, ↓reduceIte, Nat.reduceEqDiff, Nat.reduceAdd, Nat.reduceBEq, Nat.reduceMul, Nat.reduceLT, Nat.reduceLeDiff, pkP, List.length_map]
  rfl

set_option maxHeartbeats 1000000 in
theorem before_ok {G : Gl} (x y : Ru) : FnOK Tryd.prog G 37 [.agg (ruC x), .agg (ruC y)] (bo (decide (cmRu x y < 0))) := by
  refine FnOK_by (rs := [.tmp 4]) false [] mixed Tryd.func37 rfl rfl rfl rfl (by kernel_rfl) (by simp) rfl rfl ?_
  have e : decide (cmRu x y < 0) = decide (x.kind < y.kind ∨ (x.kind = y.kind ∧ (x.a < y.a ∨ (x.a = y.a ∧ x.b < y.b)))) := decide_eq_decide.2 (cmRu_lt x y)
  rw [e]
  repeat' first
    | (simp -implicitDefEqProofs only [pkA, ptA, ↓reduceIte, Nat.reduceEqDiff, Nat.reduceAdd, Nat.reduceBEq, Nat.reduceMul, Nat.reduceLT, Nat.reduceLeDiff, pkP, List.length_map])
    | refine vcond_of (fun h => ?_) (fun h => ?_)
  all_goals (simp_all <;> omega)
end Go.Proofs.YtbhfbbfifmnniaaDoor
