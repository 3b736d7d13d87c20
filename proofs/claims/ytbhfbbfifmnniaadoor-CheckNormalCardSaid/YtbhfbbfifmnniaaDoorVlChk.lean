/- Check and Valid of layer 13, and of its reference: what they answer. -/
import Derived.Test.YtbhfbbfifmnniaaDoorVlErr
import Derived.Test.YtbhfbbfifmnniaaDoorVlSortB
set_option linter.unusedSimpArgs false
set_option linter.unusedVariables false
namespace Go.Proofs.YtbhfbbfifmnniaaDoor
open Go Go.Vl

theorem any_take_at {α : Type} {p : α → Bool} {l : List α} {i k : Nat} (hi : i < l.length) (hk : i < k) (h : p l[i] = true) : (l.take k).any p = true :=
  List.any_eq_true.2 ⟨l[i], List.mem_take_iff_getElem.2 ⟨i, by omega, rfl⟩, h⟩
theorem any_take_none {α : Type} {p : α → Bool} {l : List α} {k : Nat} (h : ∀ j (hj : j < l.length), j < k → p l[j] = false) : (l.take k).any p = false :=
  List.any_eq_false.2 fun x hx => by
    obtain ⟨j, hj, rfl⟩ := List.mem_take_iff_getElem.1 hx
    simp [h j (by omega) (by omega)]
theorem own_any (n : Int) : ([23, 24, 25].any fun e : Int => decide (n = e)) = (decide (23 ≤ n) && decide (n ≤ 25)) := by
  rw [Bool.eq_iff_iff]; simp; omega

set_option maxHeartbeats 4000000 in
theorem isType_ok {G : Gl} (l : List Ty) (k : Nat) (hk : k < l.length) (hl : l.length ≤ 9223372036854775807) (hn : ∀ t ∈ l, t.name.size ≤ 9223372036854775807) :
    FnOK Tryd.prog G 27 [.c (.sl (l.map tyC)), i64 k] (i64 (tyErr l k l[k])) := by
  refine FnOK_by (rs := [.tmp 4]) false [] mixed Tryd.func27 rfl rfl rfl rfl (by kernel_rfl) (by simp) rfl rfl ?_
  have hnk := hn l[k] (List.getElem_mem hk)
  obtain ⟨t, ht⟩ : ∃ t, l[k] = t := ⟨_, rfl⟩
  rw [ht] at hnk ⊢
  simp -implicitDefEqProofs only [pkA, ptA, ↓reduceIte, Nat.reduceEqDiff, Nat.reduceAdd, Nat.reduceBEq, Nat.reduceMul, Nat.reduceLT, Nat.reduceLeDiff, pkP, List.length_map]
  refine vcond_of (fun h0 => ?_) (fun h0 => ?_)
  · simp -implicitDefEqProofs only [pkA, ptA, ↓reduceIte, Nat.reduceEqDiff, Nat.reduceAdd, Nat.reduceBEq, Nat.reduceMul, Nat.reduceLT, Nat.reduceLeDiff, pkP, List.length_map]
    unfold tyErr; simp only [h0, ↓reduceIte]
  simp -implicitDefEqProofs only [pkA, ptA, ↓reduceIte, Nat.reduceEqDiff, Nat.reduceAdd, Nat.reduceBEq, Nat.reduceMul, Nat.reduceLT, Nat.reduceLeDiff, pkP, List.length_map]
  refine ia_of ti_22 rfl ti_46 (by decide) (Int.natCast_nonneg k) (c := tyC t) (by simp [hk, ht]) rfl ?_
  simp -implicitDefEqProofs only [pkA, ptA, ↓reduceIte, Nat.reduceEqDiff, Nat.reduceAdd, Nat.reduceBEq, Nat.reduceMul, Nat.reduceLT, Nat.reduceLeDiff, pkP, List.length_map]
  refine call_fn rfl (refName_ok _ hnk) (fun _ => rfl) ?_
  simp -implicitDefEqProofs only [pkA, ptA, ↓reduceIte, Nat.reduceEqDiff, Nat.reduceAdd, Nat.reduceBEq, Nat.reduceMul, Nat.reduceLT, Nat.reduceLeDiff, pkP, List.length_map]
  refine vcond_of (fun h1 => ?_) (fun h1 => ?_)
  · simp -implicitDefEqProofs only [pkA, ptA, ↓reduceIte, Nat.reduceEqDiff, Nat.reduceAdd, Nat.reduceBEq, Nat.reduceMul, Nat.reduceLT, Nat.reduceLeDiff, pkP, List.length_map]
    unfold tyErr; simp only [h0, h1, ↓reduceIte, Bool.false_eq_true]
  simp -implicitDefEqProofs only [pkA, ptA, ↓reduceIte, Nat.reduceEqDiff, Nat.reduceAdd, Nat.reduceBEq, Nat.reduceMul, Nat.reduceLT, Nat.reduceLeDiff, pkP, List.length_map]
  refine run_loop (fun i : Nat => hdS [(0, .c (.sl (l.map tyC))), (1, i64 k), (6, i64 i)] []) (fun i => k - i) (fun i => i ≤ k ∧ ∀ j (h : j < l.length), j < i → decide (l[j].name = t.name) = false) 0 ⟨Nat.zero_le _, by simp⟩ ?_ ?_
  · refine le_hd rfl (Nat.zero_le _) (by simp) ?_ trivial
    simp [FL, up_apply]
  rintro i ⟨hi, hno⟩ R hnorm hexit hret
  simp -implicitDefEqProofs only [pkA, ptA, ↓reduceIte, Nat.reduceEqDiff, Nat.reduceAdd, Nat.reduceBEq, Nat.reduceMul, Nat.reduceLT, Nat.reduceLeDiff, pkP, List.length_map]
  refine vcond_of (fun hlt => ?_) (fun hge => ?_)
  · have hlt : i < k := by simpa using hlt
    have hil : i < l.length := by omega
    have hw := wrap_of (n := (i : Int) + 1) (k := i + 1) (by omega) (by omega)
    simp -implicitDefEqProofs only [pkA, ptA, ↓reduceIte, Nat.reduceEqDiff, Nat.reduceAdd, Nat.reduceBEq, Nat.reduceMul, Nat.reduceLT, Nat.reduceLeDiff, pkP, List.length_map]
    refine ia_of ti_22 rfl ti_46 (by decide) (Int.natCast_nonneg i) (c := tyC l[i]) (by simp [hil]) rfl ?_
    simp -implicitDefEqProofs only [pkA, ptA, ↓reduceIte, Nat.reduceEqDiff, Nat.reduceAdd, Nat.reduceBEq, Nat.reduceMul, Nat.reduceLT, Nat.reduceLeDiff, pkP, List.length_map]
    refine ia_of ti_22 rfl ti_46 (by decide) (Int.natCast_nonneg k) (c := tyC t) (by simp [hk, ht]) rfl ?_
    simp -implicitDefEqProofs only [pkA, ptA, ↓reduceIte, Nat.reduceEqDiff, Nat.reduceAdd, Nat.reduceBEq, Nat.reduceMul, Nat.reduceLT, Nat.reduceLeDiff, pkP, List.length_map]
    refine vcond_of (fun hy => ?_) (fun hn => ?_)
    · simp -implicitDefEqProofs only [pkA, ptA, ↓reduceIte, Nat.reduceEqDiff, Nat.reduceAdd, Nat.reduceBEq, Nat.reduceMul, Nat.reduceLT, Nat.reduceLeDiff, pkP, List.length_map]
      refine hret _ ?_
      simp -implicitDefEqProofs only [pkA, ptA, ↓reduceIte, Nat.reduceEqDiff, Nat.reduceAdd, Nat.reduceBEq, Nat.reduceMul, Nat.reduceLT, Nat.reduceLeDiff, pkP, List.length_map]
      have := any_take_at (p := fun o : Ty => decide (o.name = t.name)) hil hlt hy
      unfold tyErr; simp only [h0, h1, this, ↓reduceIte, Bool.false_eq_true]
    · simp -implicitDefEqProofs only [pkA, ptA, ↓reduceIte, Nat.reduceEqDiff, Nat.reduceAdd, Nat.reduceBEq, Nat.reduceMul, Nat.reduceLT, Nat.reduceLeDiff, pkP, List.length_map, hw]
      refine hnorm (i + 1) _ ⟨hlt, fun j h hj => ?_⟩ (by omega) (le_hd rfl (Nat.zero_le _) (by simp) (by simp [FL, up_apply]) trivial)
      rcases Nat.lt_or_ge j i with q | q
      · exact hno j h q
      · have : j = i := by omega
        subst this; exact hn
  · have : i = k := by simp at hge; omega
    subst this
    have h2 := any_take_none (p := fun o : Ty => decide (o.name = t.name)) (k := i) hno
    simp -implicitDefEqProofs only [pkA, ptA, ↓reduceIte, Nat.reduceEqDiff, Nat.reduceAdd, Nat.reduceBEq, Nat.reduceMul, Nat.reduceLT, Nat.reduceLeDiff, pkP, List.length_map]
    refine hexit _ _ ?_
    clear hexit hret hnorm hno
    repeat' first
      | (simp -implicitDefEqProofs only [pkA, ptA, ↓reduceIte, Nat.reduceEqDiff, Nat.reduceAdd, Nat.reduceBEq, Nat.reduceMul, Nat.reduceLT, Nat.reduceLeDiff, pkP, List.length_map])
      | refine vgd_of (fun h => ?_) (fun h => ?_)
      | refine vcond_of (fun h => ?_) (fun h => ?_)
      | refine ia_of ti_22 rfl ti_46 (by decide) (Int.natCast_nonneg i) (c := tyC t) (by simp [hk, ht]) rfl ?_
      | refine call_fn rfl (within_ok _ _ _) (fun _ => rfl) ?_
    all_goals (unfold tyErr; simp only [*, List.any_cons, List.any_nil, outB_rng, rngB, Bool.or_false, Bool.true_or, Bool.false_or, Bool.or_true, ↓reduceIte, Bool.false_eq_true, Bool.not_true, Bool.not_false])

set_option maxHeartbeats 4000000 in
theorem isRule_ok {G : Gl} (l : List Ru) (k : Nat) (nt : Int) (hk : k < l.length) (hl : l.length ≤ 9223372036854775807) (hnt : 0 ≤ nt ∧ nt ≤ 9223372036854775807) :
    FnOK Tryd.prog G 28 [.c (.sl (l.map ruC)), i64 k, i64 nt] (i64 (ruErr l k nt l[k])) := by
  refine FnOK_by (rs := [.tmp 6]) false [] mixed Tryd.func28 rfl rfl rfl rfl (by kernel_rfl) (by simp) rfl rfl ?_
  have hw1 := wrap_i64 (nt - 1) (by omega)
  obtain ⟨t, ht⟩ : ∃ t, l[k] = t := ⟨_, rfl⟩
  rw [ht]
  simp -implicitDefEqProofs only [pkA, ptA, ↓reduceIte, Nat.reduceEqDiff, Nat.reduceAdd, Nat.reduceBEq, Nat.reduceMul, Nat.reduceLT, Nat.reduceLeDiff, pkP, List.length_map]
  refine vcond_of (fun h0 => ?_) (fun h0 => ?_)
  · simp -implicitDefEqProofs only [pkA, ptA, ↓reduceIte, Nat.reduceEqDiff, Nat.reduceAdd, Nat.reduceBEq, Nat.reduceMul, Nat.reduceLT, Nat.reduceLeDiff, pkP, List.length_map]
    unfold ruErr; simp only [h0, ↓reduceIte]
  have loopk : ([⟨t.kind, 1, 5⟩, ⟨t.a, 0, nt - 1⟩, ⟨t.b, 0, nt - 1⟩].any outB) = false → ∀ (Q : VE → S → Prop) (body : Code), True := fun _ _ _ => trivial
  clear loopk
  repeat' first
    | (simp -implicitDefEqProofs only [pkA, ptA, ↓reduceIte, Nat.reduceEqDiff, Nat.reduceAdd, Nat.reduceBEq, Nat.reduceMul, Nat.reduceLT, Nat.reduceLeDiff, pkP, List.length_map, hw1])
    | refine vgd_of (fun h => ?_) (fun h => ?_)
    | refine vcond_of (fun h => ?_) (fun h => ?_)
    | refine ia_of ti_23 rfl ti_40 (by decide) (Int.natCast_nonneg k) (c := ruC t) (by simp [hk, ht]) rfl ?_
    | refine call_fn rfl (within_ok _ _ _) (fun _ => rfl) ?_
  all_goals first
    | (unfold ruErr; simp only [*, List.any_cons, List.any_nil, outB_rng, rngB, Bool.or_false, Bool.true_or, Bool.false_or, Bool.or_true, ↓reduceIte, Bool.false_eq_true, Bool.not_true, Bool.not_false]; done)
    | have h2 : ([⟨t.kind, 1, 5⟩, ⟨t.a, 0, nt - 1⟩, ⟨t.b, 0, nt - 1⟩].any outB) = false := by
        simp only [*, List.any_cons, List.any_nil, outB_rng, rngB, Bool.or_false, Bool.true_or, Bool.false_or, Bool.or_true, ↓reduceIte, Bool.false_eq_true, Bool.not_true, Bool.not_false]
      refine run_loop (fun i : Nat => hdS [(0, .c (.sl (l.map ruC))), (1, i64 k), (7, i64 i)] []) (fun i => k - i) (fun i => i ≤ k ∧ ∀ j (h : j < l.length), j < i → decide (t = l[j]) = false) 0 ⟨Nat.zero_le _, by simp⟩ ?_ ?_
      · refine le_hd rfl (Nat.zero_le _) (by simp) ?_ trivial
        simp [FL, up_apply]
      rintro i ⟨hi, hno⟩ R hnorm hexit hret
      simp -implicitDefEqProofs only [pkA, ptA, ↓reduceIte, Nat.reduceEqDiff, Nat.reduceAdd, Nat.reduceBEq, Nat.reduceMul, Nat.reduceLT, Nat.reduceLeDiff, pkP, List.length_map]
      refine vcond_of (fun hlt => ?_) (fun hge => ?_)
      · have hlt : i < k := by simpa using hlt
        have hil : i < l.length := by omega
        have hw := wrap_of (n := (i : Int) + 1) (k := i + 1) (by omega) (by omega)
        simp -implicitDefEqProofs only [pkA, ptA, ↓reduceIte, Nat.reduceEqDiff, Nat.reduceAdd, Nat.reduceBEq, Nat.reduceMul, Nat.reduceLT, Nat.reduceLeDiff, pkP, List.length_map]
        refine ia_of ti_23 rfl ti_40 (by decide) (Int.natCast_nonneg i) (c := ruC l[i]) (by simp [hil]) rfl ?_
        simp -implicitDefEqProofs only [pkA, ptA, ↓reduceIte, Nat.reduceEqDiff, Nat.reduceAdd, Nat.reduceBEq, Nat.reduceMul, Nat.reduceLT, Nat.reduceLeDiff, pkP, List.length_map]
        refine ia_of ti_23 rfl ti_40 (by decide) (Int.natCast_nonneg k) (c := ruC t) (by simp [hk, ht]) rfl ?_
        simp -implicitDefEqProofs only [pkA, ptA, ↓reduceIte, Nat.reduceEqDiff, Nat.reduceAdd, Nat.reduceBEq, Nat.reduceMul, Nat.reduceLT, Nat.reduceLeDiff, pkP, List.length_map]
        refine vcond_of (fun hy => ?_) (fun hn => ?_)
        · simp -implicitDefEqProofs only [pkA, ptA, ↓reduceIte, Nat.reduceEqDiff, Nat.reduceAdd, Nat.reduceBEq, Nat.reduceMul, Nat.reduceLT, Nat.reduceLeDiff, pkP, List.length_map]
          refine hret _ ?_
          simp -implicitDefEqProofs only [pkA, ptA, ↓reduceIte, Nat.reduceEqDiff, Nat.reduceAdd, Nat.reduceBEq, Nat.reduceMul, Nat.reduceLT, Nat.reduceLeDiff, pkP, List.length_map]
          have hy : decide (t = l[i]) = true := by simp at hy ⊢; exact hy.symm
          have := any_take_at (p := fun o : Ru => decide (t = o)) hil hlt hy
          unfold ruErr; simp only [h0, h2, this, ↓reduceIte, Bool.false_eq_true]
        · simp -implicitDefEqProofs only [pkA, ptA, ↓reduceIte, Nat.reduceEqDiff, Nat.reduceAdd, Nat.reduceBEq, Nat.reduceMul, Nat.reduceLT, Nat.reduceLeDiff, pkP, List.length_map, hw]
          refine hnorm (i + 1) _ ⟨hlt, fun j h hj => ?_⟩ (by omega) (le_hd rfl (Nat.zero_le _) (by simp) (by simp [FL, up_apply]) trivial)
          rcases Nat.lt_or_ge j i with q | q
          · exact hno j h q
          · have : j = i := by omega
            subst this; simp at hn ⊢; exact fun e => hn e.symm
      · have : i = k := by simp at hge; omega
        subst this
        have h3 := any_take_none (p := fun o : Ru => decide (t = o)) (k := i) hno
        simp -implicitDefEqProofs only [pkA, ptA, ↓reduceIte, Nat.reduceEqDiff, Nat.reduceAdd, Nat.reduceBEq, Nat.reduceMul, Nat.reduceLT, Nat.reduceLeDiff, pkP, List.length_map]
        refine hexit _ _ ?_
        simp -implicitDefEqProofs only [pkA, ptA, ↓reduceIte, Nat.reduceEqDiff, Nat.reduceAdd, Nat.reduceBEq, Nat.reduceMul, Nat.reduceLT, Nat.reduceLeDiff, pkP, List.length_map]
        unfold ruErr; simp only [h0, h2, h3, ↓reduceIte, Bool.false_eq_true]

set_option maxHeartbeats 4000000 in
theorem isQuorum_ok {G : Gl} (l : List Qu) (k : Nat) (hk : k < l.length) (hl : l.length ≤ 9223372036854775807) :
    FnOK Tryd.prog G 29 [.c (.sl (l.map quC)), i64 k] (i64 (quErr l k l[k])) := by
  refine FnOK_by (rs := [.tmp 4]) false [] mixed Tryd.func29 rfl rfl rfl rfl (by kernel_rfl) (by simp) rfl rfl ?_
  obtain ⟨t, ht⟩ : ∃ t, l[k] = t := ⟨_, rfl⟩
  rw [ht]
  simp -implicitDefEqProofs only [pkA, ptA, ↓reduceIte, Nat.reduceEqDiff, Nat.reduceAdd, Nat.reduceBEq, Nat.reduceMul, Nat.reduceLT, Nat.reduceLeDiff, pkP, List.length_map, setV_all]
  refine ia_of ti_24 rfl ti_42 (by decide) (Int.natCast_nonneg k) (c := quC t) (by simp [hk, ht]) rfl ?_
  have hset : ∀ x : List V, x.length = 5 → setV x 0 ((quC t).map .c) = (quC t).map .c := fun x hx => setV_all (by simp [quC_len, hx])
  repeat' first
    | (simp -implicitDefEqProofs only [pkA, ptA, ↓reduceIte, Nat.reduceEqDiff, Nat.reduceAdd, Nat.reduceBEq, Nat.reduceMul, Nat.reduceLT, Nat.reduceLeDiff, pkP, List.length_map, hset])
    | refine vgd_of (fun h => ?_) (fun h => ?_)
    | refine vcond_of (fun h => ?_) (fun h => ?_)
    | refine call_fn rfl (within_ok _ _ _) (fun _ => rfl) ?_
  all_goals first
    | (unfold quErr; rw [own_any]; simp only [*, List.any_cons, List.any_nil, outB_rng, rngB, Bool.or_false, Bool.true_or, Bool.false_or, Bool.or_true, ↓reduceIte, Bool.false_eq_true, Bool.not_true, Bool.not_false]; done)
    | have h2 : ([⟨t.cmd, 1, 27⟩, ⟨t.count, 1, 16⟩, ⟨t.delay, 0, 1099511627776⟩, ⟨t.valid, t.delay, 1099511627776⟩, ⟨t.uses, 1, 1048576⟩].any outB) = false := by
        simp only [*, List.any_cons, List.any_nil, outB_rng, rngB, Bool.or_false, Bool.true_or, Bool.false_or, Bool.or_true, ↓reduceIte, Bool.false_eq_true, Bool.not_true, Bool.not_false]
      have h4 : ([23, 24, 25].any fun e : Int => decide (t.cmd = e)) = false := by rw [own_any]; assumption
      refine run_loop (fun i : Nat => hdS [(0, .c (.sl (l.map quC))), (1, i64 k), (5, .bp 0 0), (6, i64 i)] [(quC t).map .c]) (fun i => k - i) (fun i => i ≤ k ∧ ∀ j (h : j < l.length), j < i → decide (l[j].cmd = t.cmd) = false) 0 ⟨Nat.zero_le _, by simp⟩ ?_ ?_
      · refine le_hd (by simp only [leOk, List.all_cons, List.all_nil, all_ltB_c, List.length_cons, List.length_nil]; rfl) (Nat.zero_le _) (by simp) ?_ ?_
        · simp [FL, up_apply]
        · simp [BL, up_apply, bxs]
      rintro i ⟨hi, hno⟩ R hnorm hexit hret
      simp -implicitDefEqProofs only [pkA, ptA, ↓reduceIte, Nat.reduceEqDiff, Nat.reduceAdd, Nat.reduceBEq, Nat.reduceMul, Nat.reduceLT, Nat.reduceLeDiff, pkP, List.length_map]
      refine vcond_of (fun hlt => ?_) (fun hge => ?_)
      · have hlt : i < k := by simpa using hlt
        have hil : i < l.length := by omega
        have hw := wrap_of (n := (i : Int) + 1) (k := i + 1) (by omega) (by omega)
        simp -implicitDefEqProofs only [pkA, ptA, ↓reduceIte, Nat.reduceEqDiff, Nat.reduceAdd, Nat.reduceBEq, Nat.reduceMul, Nat.reduceLT, Nat.reduceLeDiff, pkP, List.length_map]
        refine ia_of ti_24 rfl ti_42 (by decide) (Int.natCast_nonneg i) (c := quC l[i]) (by simp [hil]) rfl ?_
        simp -implicitDefEqProofs only [pkA, ptA, ↓reduceIte, Nat.reduceEqDiff, Nat.reduceAdd, Nat.reduceBEq, Nat.reduceMul, Nat.reduceLT, Nat.reduceLeDiff, pkP, List.length_map]
        refine vcond_of (fun hy => ?_) (fun hn => ?_)
        · simp -implicitDefEqProofs only [pkA, ptA, ↓reduceIte, Nat.reduceEqDiff, Nat.reduceAdd, Nat.reduceBEq, Nat.reduceMul, Nat.reduceLT, Nat.reduceLeDiff, pkP, List.length_map]
          refine hret _ ?_
          simp -implicitDefEqProofs only [pkA, ptA, ↓reduceIte, Nat.reduceEqDiff, Nat.reduceAdd, Nat.reduceBEq, Nat.reduceMul, Nat.reduceLT, Nat.reduceLeDiff, pkP, List.length_map]
          have := any_take_at (p := fun o : Qu => decide (o.cmd = t.cmd)) hil hlt hy
          unfold quErr; simp only [h2, h4, this, ↓reduceIte, Bool.false_eq_true]
        · simp -implicitDefEqProofs only [pkA, ptA, ↓reduceIte, Nat.reduceEqDiff, Nat.reduceAdd, Nat.reduceBEq, Nat.reduceMul, Nat.reduceLT, Nat.reduceLeDiff, pkP, List.length_map, hw]
          refine hnorm (i + 1) _ ⟨hlt, fun j h hj => ?_⟩ (by omega) (le_hd (by simp only [leOk, List.all_cons, List.all_nil, all_ltB_c, List.length_cons, List.length_nil]; rfl) (Nat.zero_le _) (by simp) (by simp [FL, up_apply]) (by simp [BL, up_apply, bxs]))
          rcases Nat.lt_or_ge j i with q | q
          · exact hno j h q
          · have : j = i := by omega
            subst this; exact hn
      · have : i = k := by simp at hge; omega
        subst this
        have h3 := any_take_none (p := fun o : Qu => decide (o.cmd = t.cmd)) (k := i) hno
        simp -implicitDefEqProofs only [pkA, ptA, ↓reduceIte, Nat.reduceEqDiff, Nat.reduceAdd, Nat.reduceBEq, Nat.reduceMul, Nat.reduceLT, Nat.reduceLeDiff, pkP, List.length_map]
        refine hexit _ _ ?_
        simp -implicitDefEqProofs only [pkA, ptA, ↓reduceIte, Nat.reduceEqDiff, Nat.reduceAdd, Nat.reduceBEq, Nat.reduceMul, Nat.reduceLT, Nat.reduceLeDiff, pkP, List.length_map]
        unfold quErr; simp only [h2, h3, h4, ↓reduceIte, Bool.false_eq_true]

/-! The error of the k-th item, and the first faulty one. -/
def tyE (l : List Ty) (k : Nat) : Int := match l[k]? with
  | some t => tyErr l k t
  | none => 0
def ruE (l : List Ru) (k : Nat) (nt : Int) : Int := match l[k]? with
  | some t => ruErr l k nt t
  | none => 0
def quE (l : List Qu) (k : Nat) : Int := match l[k]? with
  | some t => quErr l k t
  | none => 0
theorem tyE_at {l : List Ty} {k : Nat} (h : k < l.length) : tyE l k = tyErr l k l[k] := by simp [tyE, h]
theorem ruE_at {l : List Ru} {k : Nat} {nt : Int} (h : k < l.length) : ruE l k nt = ruErr l k nt l[k] := by simp [ruE, h]
theorem quE_at {l : List Qu} {k : Nat} (h : k < l.length) : quE l k = quErr l k l[k] := by simp [quE, h]
def items (p : Pol) : Nat := p.types.length + p.rules.length + p.quorums.length
def itE (p : Pol) (k : Nat) : Int := if k < p.types.length then tyE p.types k else if k < p.types.length + p.rules.length then ruE p.rules (k - p.types.length) p.types.length else quE p.quorums (k - p.types.length - p.rules.length)
def chk (p : Pol) : Int × Int := if nameB p.name = true then (match (List.range (items p)).find? (fun k => !decide (itE p k = 0)) with
  | some k => ((k : Int), itE p k)
  | none => (0, 0)) else (-1, 4)
theorem chk_at {p : Pol} {k : Nat} (hn : nameB p.name = true) (hk : k < items p) (h : itE p k ≠ 0) (hno : ∀ j, j < k → itE p j = 0) : chk p = ((k : Int), itE p k) := by
  have : (List.range (items p)).find? (fun k => !decide (itE p k = 0)) = some k := by
    rw [List.find?_range_eq_some]
    exact ⟨by simpa using h, by simpa using hk, fun j hj => by simp [hno j hj]⟩
  simp [chk, hn, this]
theorem chk_none {p : Pol} (hn : nameB p.name = true) (hno : ∀ j, j < items p → itE p j = 0) : chk p = (0, 0) := by
  have : (List.range (items p)).find? (fun k => !decide (itE p k = 0)) = none := by
    rw [List.find?_eq_none]
    intro j hj
    simp [hno j (by simpa using hj)]
  simp [chk, hn, this]
theorem chk_name {p : Pol} (hn : nameB p.name = false) : chk p = (-1, 4) := by simp [chk, hn]

theorem PolIn.nm {p : Pol} (h : PolIn p) : p.name.size ≤ 9223372036854775807 := by have := h.name; unfold maxLen at this; omega
theorem PolIn.tn {p : Pol} (h : PolIn p) : ∀ t ∈ p.types, t.name.size ≤ 9223372036854775807 := fun t ht => by have := (h.types t ht).1; unfold maxLen at this; omega

set_option maxHeartbeats 4000000 in
theorem Check_ok {G : Gl} (hG : G 0 = some [.lit (.int .i64 23), .lit (.int .i64 24), .lit (.int .i64 25)]) (p : Pol) (hp : PolIn p) (hsm : items p ≤ 4611686018427387904) :
    FnOK Tryd.prog G 11 [.agg (poC p)] (.tup [i64 (chk p).1, i64 (chk p).2]) := by
  refine FnOK_by (rs := [.tmp 2, .tmp 3]) false [] mixed Tryd.func11 rfl rfl rfl rfl (by kernel_rfl) (by simp) rfl rfl ?_
  obtain ⟨o1, o2, o3⟩ := hp.ok
  have hit : items p = p.types.length + p.rules.length + p.quorums.length := rfl
  simp -implicitDefEqProofs only [pkA, ptA, ↓reduceIte, Nat.reduceEqDiff, Nat.reduceAdd, Nat.reduceBEq, Nat.reduceMul, Nat.reduceLT, Nat.reduceLeDiff, pkP, List.length_map]
  refine call_fn rfl (Name_ok _ hp.nm) (fun _ => rfl) ?_
  simp -implicitDefEqProofs only [pkA, ptA, ↓reduceIte, Nat.reduceEqDiff, Nat.reduceAdd, Nat.reduceBEq, Nat.reduceMul, Nat.reduceLT, Nat.reduceLeDiff, pkP, List.length_map]
  refine vcond_of (fun hn => ?_) (fun hn => ?_)
  · have hn : nameB p.name = false := by simpa using hn
    simp -implicitDefEqProofs only [pkA, ptA, ↓reduceIte, Nat.reduceEqDiff, Nat.reduceAdd, Nat.reduceBEq, Nat.reduceMul, Nat.reduceLT, Nat.reduceLeDiff, pkP, List.length_map]
    rw [chk_name hn]
    refine retV_two ?_ ?_ <;> simp -implicitDefEqProofs only [pkA, ptA, ↓reduceIte, Nat.reduceEqDiff, Nat.reduceAdd, Nat.reduceBEq, Nat.reduceMul, Nat.reduceLT, Nat.reduceLeDiff, pkP, List.length_map]
  have hn : nameB p.name = true := by simpa using hn
  have w1 := wrap_of (n := (p.types.length : Int) + p.rules.length) (k := p.types.length + p.rules.length) (by omega) (by omega)
  have w2 := wrap_of (n := ((p.types.length + p.rules.length : Nat) : Int) + p.quorums.length) (k := items p) (by unfold items; omega) (by unfold items; omega)
  simp -implicitDefEqProofs only [pkA, ptA, ↓reduceIte, Nat.reduceEqDiff, Nat.reduceAdd, Nat.reduceBEq, Nat.reduceMul, Nat.reduceLT, Nat.reduceLeDiff, pkP, List.length_map, w1, w2]
  refine run_loop (fun i : Nat => hdS [(1, .bp 0 0), (4, i64 p.types.length), (5, i64 p.rules.length), (24, i64 (items p)), (25, i64 i)] [(poC p).map .c]) (fun i => items p - i) (fun i => i ≤ items p ∧ ∀ j, j < i → itE p j = 0) 0 ⟨Nat.zero_le _, by simp⟩ ?_ ?_
  · refine le_hd (by simp only [leOk, List.all_cons, List.all_nil, all_ltB_c, List.length_cons, List.length_nil]; rfl) (Nat.zero_le _) (by simp) ?_ ?_
    · simp [FL, up_apply]
    · simp [BL, up_apply, bxs]
  rintro i ⟨hi, hno⟩ R hnorm hexit hret
  simp -implicitDefEqProofs only [pkA, ptA, ↓reduceIte, Nat.reduceEqDiff, Nat.reduceAdd, Nat.reduceBEq, Nat.reduceMul, Nat.reduceLT, Nat.reduceLeDiff, pkP, List.length_map]
  refine vcond_of (fun hlt => ?_) (fun hge => ?_)
  · have hlt : i < items p := by simpa using hlt
    have hw := wrap_of (n := (i : Int) + 1) (k := i + 1) (by omega) (by omega)
    have bad : itE p i ≠ 0 → chk p = ((i : Int), itE p i) := fun h => chk_at hn hlt h hno
    have good : itE p i = 0 → ∀ j, j < i + 1 → itE p j = 0 := fun h j hj => by
      rcases Nat.lt_or_ge j i with q | q
      · exact hno j q
      · have : j = i := by omega
        subst this; exact h
    simp -implicitDefEqProofs only [pkA, ptA, ↓reduceIte, Nat.reduceEqDiff, Nat.reduceAdd, Nat.reduceBEq, Nat.reduceMul, Nat.reduceLT, Nat.reduceLeDiff, pkP, List.length_map]
    refine vcond_of (fun ht => ?_) (fun ht => ?_)
    · have ht : i < p.types.length := by simpa using ht
      have e : itE p i = tyErr p.types i p.types[i] := by unfold itE; rw [if_pos ht, tyE_at ht]
      rw [e] at bad good
      simp -implicitDefEqProofs only [pkA, ptA, ↓reduceIte, Nat.reduceEqDiff, Nat.reduceAdd, Nat.reduceBEq, Nat.reduceMul, Nat.reduceLT, Nat.reduceLeDiff, pkP, List.length_map]
      refine call_fn rfl (typeError_ok p.types i ht o1 hp.tn) (fun _ => rfl) ?_
      simp -implicitDefEqProofs only [pkA, ptA, ↓reduceIte, Nat.reduceEqDiff, Nat.reduceAdd, Nat.reduceBEq, Nat.reduceMul, Nat.reduceLT, Nat.reduceLeDiff, pkP, List.length_map]
      refine vcond_of (fun hb => ?_) (fun hg => ?_)
      · simp -implicitDefEqProofs only [pkA, ptA, ↓reduceIte, Nat.reduceEqDiff, Nat.reduceAdd, Nat.reduceBEq, Nat.reduceMul, Nat.reduceLT, Nat.reduceLeDiff, pkP, List.length_map]
        refine hret _ ?_
        simp -implicitDefEqProofs only [pkA, ptA, ↓reduceIte, Nat.reduceEqDiff, Nat.reduceAdd, Nat.reduceBEq, Nat.reduceMul, Nat.reduceLT, Nat.reduceLeDiff, pkP, List.length_map]
        rw [bad (by simpa using hb)]
        refine retV_two ?_ ?_ <;> simp -implicitDefEqProofs only [pkA, ptA, ↓reduceIte, Nat.reduceEqDiff, Nat.reduceAdd, Nat.reduceBEq, Nat.reduceMul, Nat.reduceLT, Nat.reduceLeDiff, pkP, List.length_map]
      · simp -implicitDefEqProofs only [pkA, ptA, ↓reduceIte, Nat.reduceEqDiff, Nat.reduceAdd, Nat.reduceBEq, Nat.reduceMul, Nat.reduceLT, Nat.reduceLeDiff, pkP, List.length_map, hw]
        exact hnorm (i + 1) _ ⟨hlt, good (by simpa using hg)⟩ (by omega) (le_hd (by simp only [leOk, List.all_cons, List.all_nil, all_ltB_c, List.length_cons, List.length_nil]; rfl) (Nat.zero_le _) (by simp) (by simp [FL, up_apply]) (by simp [BL, up_apply, bxs]))
    have ht : p.types.length ≤ i := by simpa using ht
    have v1 := wrap_of (n := (i : Int) - p.types.length) (k := i - p.types.length) (by omega) (by omega)
    simp -implicitDefEqProofs only [pkA, ptA, ↓reduceIte, Nat.reduceEqDiff, Nat.reduceAdd, Nat.reduceBEq, Nat.reduceMul, Nat.reduceLT, Nat.reduceLeDiff, pkP, List.length_map, w1]
    refine vcond_of (fun hr => ?_) (fun hr => ?_)
    · have hr : i < p.types.length + p.rules.length := by simp at hr; omega
      have hr2 : i - p.types.length < p.rules.length := by omega
      have e : itE p i = ruErr p.rules (i - p.types.length) p.types.length p.rules[i - p.types.length] := by unfold itE; rw [if_neg (by omega), if_pos hr, ruE_at hr2]
      rw [e] at bad good
      simp -implicitDefEqProofs only [pkA, ptA, ↓reduceIte, Nat.reduceEqDiff, Nat.reduceAdd, Nat.reduceBEq, Nat.reduceMul, Nat.reduceLT, Nat.reduceLeDiff, pkP, List.length_map, v1]
      refine call_fn rfl (ruleError_ok p.rules (i - p.types.length) p.types.length hr2 o2 (by omega)) (fun _ => rfl) ?_
      simp -implicitDefEqProofs only [pkA, ptA, ↓reduceIte, Nat.reduceEqDiff, Nat.reduceAdd, Nat.reduceBEq, Nat.reduceMul, Nat.reduceLT, Nat.reduceLeDiff, pkP, List.length_map]
      refine vcond_of (fun hb => ?_) (fun hg => ?_)
      · simp -implicitDefEqProofs only [pkA, ptA, ↓reduceIte, Nat.reduceEqDiff, Nat.reduceAdd, Nat.reduceBEq, Nat.reduceMul, Nat.reduceLT, Nat.reduceLeDiff, pkP, List.length_map]
        refine hret _ ?_
        simp -implicitDefEqProofs only [pkA, ptA, ↓reduceIte, Nat.reduceEqDiff, Nat.reduceAdd, Nat.reduceBEq, Nat.reduceMul, Nat.reduceLT, Nat.reduceLeDiff, pkP, List.length_map]
        rw [bad (by simpa using hb)]
        refine retV_two ?_ ?_ <;> simp -implicitDefEqProofs only [pkA, ptA, ↓reduceIte, Nat.reduceEqDiff, Nat.reduceAdd, Nat.reduceBEq, Nat.reduceMul, Nat.reduceLT, Nat.reduceLeDiff, pkP, List.length_map]
      · simp -implicitDefEqProofs only [pkA, ptA, ↓reduceIte, Nat.reduceEqDiff, Nat.reduceAdd, Nat.reduceBEq, Nat.reduceMul, Nat.reduceLT, Nat.reduceLeDiff, pkP, List.length_map, hw]
        exact hnorm (i + 1) _ ⟨hlt, good (by simpa using hg)⟩ (by omega) (le_hd (by simp only [leOk, List.all_cons, List.all_nil, all_ltB_c, List.length_cons, List.length_nil]; rfl) (Nat.zero_le _) (by simp) (by simp [FL, up_apply]) (by simp [BL, up_apply, bxs]))
    have hr : p.types.length + p.rules.length ≤ i := by simp at hr; omega
    have hr2 : i - p.types.length - p.rules.length < p.quorums.length := by unfold items at hlt; omega
    have v2 := wrap_of (n := ((i - p.types.length : Nat) : Int) - p.rules.length) (k := i - p.types.length - p.rules.length) (by omega) (by omega)
    have e : itE p i = quErr p.quorums (i - p.types.length - p.rules.length) p.quorums[i - p.types.length - p.rules.length] := by unfold itE; rw [if_neg (by omega), if_neg (by omega), quE_at hr2]
    rw [e] at bad good
    simp -implicitDefEqProofs only [pkA, ptA, ↓reduceIte, Nat.reduceEqDiff, Nat.reduceAdd, Nat.reduceBEq, Nat.reduceMul, Nat.reduceLT, Nat.reduceLeDiff, pkP, List.length_map, v1, v2]
    refine call_fn rfl (quorumError_ok hG p.quorums (i - p.types.length - p.rules.length) hr2 o3) (fun _ => rfl) ?_
    simp -implicitDefEqProofs only [pkA, ptA, ↓reduceIte, Nat.reduceEqDiff, Nat.reduceAdd, Nat.reduceBEq, Nat.reduceMul, Nat.reduceLT, Nat.reduceLeDiff, pkP, List.length_map]
    refine vcond_of (fun hb => ?_) (fun hg => ?_)
    · simp -implicitDefEqProofs only [pkA, ptA, ↓reduceIte, Nat.reduceEqDiff, Nat.reduceAdd, Nat.reduceBEq, Nat.reduceMul, Nat.reduceLT, Nat.reduceLeDiff, pkP, List.length_map]
      refine hret _ ?_
      simp -implicitDefEqProofs only [pkA, ptA, ↓reduceIte, Nat.reduceEqDiff, Nat.reduceAdd, Nat.reduceBEq, Nat.reduceMul, Nat.reduceLT, Nat.reduceLeDiff, pkP, List.length_map]
      rw [bad (by simpa using hb)]
      refine retV_two ?_ ?_ <;> simp -implicitDefEqProofs only [pkA, ptA, ↓reduceIte, Nat.reduceEqDiff, Nat.reduceAdd, Nat.reduceBEq, Nat.reduceMul, Nat.reduceLT, Nat.reduceLeDiff, pkP, List.length_map]
    · simp -implicitDefEqProofs only [pkA, ptA, ↓reduceIte, Nat.reduceEqDiff, Nat.reduceAdd, Nat.reduceBEq, Nat.reduceMul, Nat.reduceLT, Nat.reduceLeDiff, pkP, List.length_map, hw]
      exact hnorm (i + 1) _ ⟨hlt, good (by simpa using hg)⟩ (by omega) (le_hd (by simp only [leOk, List.all_cons, List.all_nil, all_ltB_c, List.length_cons, List.length_nil]; rfl) (Nat.zero_le _) (by simp) (by simp [FL, up_apply]) (by simp [BL, up_apply, bxs]))
  · have : i = items p := by simp at hge; omega
    subst this
    simp -implicitDefEqProofs only [pkA, ptA, ↓reduceIte, Nat.reduceEqDiff, Nat.reduceAdd, Nat.reduceBEq, Nat.reduceMul, Nat.reduceLT, Nat.reduceLeDiff, pkP, List.length_map]
    refine hexit _ _ ?_
    simp -implicitDefEqProofs only [pkA, ptA, ↓reduceIte, Nat.reduceEqDiff, Nat.reduceAdd, Nat.reduceBEq, Nat.reduceMul, Nat.reduceLT, Nat.reduceLeDiff, pkP, List.length_map]
    rw [chk_none hn hno]
    refine retV_two ?_ ?_ <;> simp -implicitDefEqProofs only [pkA, ptA, ↓reduceIte, Nat.reduceEqDiff, Nat.reduceAdd, Nat.reduceBEq, Nat.reduceMul, Nat.reduceLT, Nat.reduceLeDiff, pkP, List.length_map]

def validB (p : Pol) : Bool := decide ((chk p).2 = 0)
set_option maxHeartbeats 1000000 in
theorem Valid_ok {G : Gl} (hG : G 0 = some [.lit (.int .i64 23), .lit (.int .i64 24), .lit (.int .i64 25)]) (p : Pol) (hp : PolIn p) (hsm : items p ≤ 4611686018427387904) :
    FnOK Tryd.prog G 13 [.agg (poC p)] (bo (validB p)) := by
  refine FnOK_by (rs := [.tmp 2]) false [] mixed Tryd.func13 rfl rfl rfl rfl (by kernel_rfl) (by simp) rfl rfl ?_
  simp -implicitDefEqProofs only [pkA, ptA, ↓reduceIte, Nat.reduceEqDiff, Nat.reduceAdd, Nat.reduceBEq, Nat.reduceMul, Nat.reduceLT, Nat.reduceLeDiff, pkP, List.length_map]
  refine call_fn rfl (Check_ok hG p hp hsm) (fun h => by cases h) ?_
  simp -implicitDefEqProofs only [pkA, ptA, ↓reduceIte, Nat.reduceEqDiff, Nat.reduceAdd, Nat.reduceBEq, Nat.reduceMul, Nat.reduceLT, Nat.reduceLeDiff, pkP, List.length_map]
  rfl
end Go.Proofs.YtbhfbbfifmnniaaDoor
