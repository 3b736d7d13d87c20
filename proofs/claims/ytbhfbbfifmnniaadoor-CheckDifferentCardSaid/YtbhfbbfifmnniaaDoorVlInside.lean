/- Layer 13: the function 'inside' of the law CheckDifferent: sets of rules and of quorums. -/
import Derived.Test.YtbhfbbfifmnniaaDoorVlErr
import Derived.Test.YtbhfbbfifmnniaaDoorVlMset
import Derived.Test.YtbhfbbfifmnniaaDoorVlSortB
set_option linter.unusedSimpArgs false
set_option linter.unusedVariables false
namespace Go.Proofs.YtbhfbbfifmnniaaDoor
open Go Go.Vl

variable {G : Gl}

def insideB (a b : Pol) : Bool := a.rules.all (fun r => decide (r ∈ b.rules)) && a.quorums.all (fun q => decide (q ∈ b.quorums))

theorem isMb_po {p : Pol} : isMb ((poC p).map V.c) = false := rfl
theorem take_mem {α : Type} {l m : List α} {i : Nat} (h : i < l.length) (hm : ∀ r, r ∈ m ↔ r ∈ l.take i) [DecidableEq α] (r : α) : r ∈ insM m l[i] ↔ r ∈ l.take (i + 1) := by
  rw [mem_insM, hm, List.take_succ_eq_append_getElem h, List.mem_append, List.mem_singleton]

set_option maxHeartbeats 4000000 in
theorem inside_ok (a b : Pol) (ha : a.types.length ≤ 9223372036854775807 ∧ a.rules.length ≤ 9223372036854775807 ∧ a.quorums.length ≤ 9223372036854775807) (hb : b.types.length ≤ 9223372036854775807 ∧ b.rules.length ≤ 9223372036854775807 ∧ b.quorums.length ≤ 9223372036854775807) :
    FnOK Tryd.prog G 22 [.agg (poC a), .agg (poC b)] (bo (insideB a b)) := by
  refine FnOK_by (rs := [.tmp 4]) false [] mixed Tryd.func22 rfl rfl rfl rfl (by kernel_rfl) (by simp) rfl rfl ?_
  obtain ⟨a1, a2, a3⟩ := ha
  obtain ⟨b1, b2, b3⟩ := hb
  simp -implicitDefEqProofs only [pkA, ptA, ↓reduceIte, Nat.reduceEqDiff, Nat.reduceAdd, Nat.reduceBEq, Nat.reduceMul, Nat.reduceLT, Nat.reduceLeDiff, pkP, List.length_map, mkm_62, mkm_63]
  refine run_loop (fun x : Nat × List Nat × Nat × List Ru => match x with | (i, bs1, cl1, l1) => hdS [(2, .bp 0 0), (3, .bp 1 0), (5, .mr 2), (6, .mr 3), (18, .c (.sl (b.rules.map ruC))), (19, i64 b.rules.length), (20, i64 i)] [(poC a).map .c, (poC b).map .c, mset ruC bs1 cl1 l1, mset quC [] 0 ([] : List Qu)])
    (fun x => b.rules.length - x.1) (fun x => x.1 ≤ b.rules.length ∧ ∀ r, r ∈ x.2.2.2 ↔ r ∈ b.rules.take x.1) (0, [], 0, []) ⟨Nat.zero_le _, by simp⟩ ?_ ?_
  · refine le_hd (by simp only [leOk, List.all_cons, List.all_nil, all_ltB_c, mset_ltB, List.length_cons, List.length_nil]; rfl) (Nat.zero_le _) (by simp) (by simp [FL, up_apply]) (by simp [BL, up_apply, bxs, mset_nil])
  rintro ⟨i, bs1, cl1, l1⟩ ⟨hi, hl⟩ R hnorm hexit hret
  simp only at hi hl
  simp -implicitDefEqProofs only [pkA, ptA, ↓reduceIte, Nat.reduceEqDiff, Nat.reduceAdd, Nat.reduceBEq, Nat.reduceMul, Nat.reduceLT, Nat.reduceLeDiff, pkP, List.length_map, setV_all]
  refine vcond_of (fun hlt => ?_) (fun hge => ?_)
  · have hlt : i < b.rules.length := by simpa using hlt
    have hw := wrap_of (n := (i : Int) + 1) (k := i + 1) (by omega) (by omega)
    simp -implicitDefEqProofs only [pkA, ptA, ↓reduceIte, Nat.reduceEqDiff, Nat.reduceAdd, Nat.reduceBEq, Nat.reduceMul, Nat.reduceLT, Nat.reduceLeDiff, pkP, List.length_map, setV_all]
    refine ia_of ti_23 rfl ti_40 (by decide) (Int.natCast_nonneg i) (c := ruC b.rules[i]) (by simp [hlt]) rfl ?_
    simp -implicitDefEqProofs only [pkA, ptA, ↓reduceIte, Nat.reduceEqDiff, Nat.reduceAdd, Nat.reduceBEq, Nat.reduceMul, Nat.reduceLT, Nat.reduceLeDiff, pkP, List.length_map, setV_all]
    refine mset_set (l := l1) (bs := bs1) (cl := cl1) ti_62 rfl ti_40 rfl rfl ti_4 rfl za_4 (fun _ => rfl) eq_ru (by rfl) (by simp) (fun bs' cl' => ?_)
    simp -implicitDefEqProofs only [pkA, ptA, ↓reduceIte, Nat.reduceEqDiff, Nat.reduceAdd, Nat.reduceBEq, Nat.reduceMul, Nat.reduceLT, Nat.reduceLeDiff, pkP, List.length_map, setV_all, hw]
    exact hnorm (i + 1, bs', cl', insM l1 b.rules[i]) _ ⟨hlt, take_mem hlt hl⟩ (by simp only; omega) (le_hd (by simp only [leOk, List.all_cons, List.all_nil, all_ltB_c, mset_ltB, List.length_cons, List.length_nil]; rfl) (Nat.zero_le _) (by simp) (by simp [FL, up_apply]) (by simp [BL, up_apply, bxs]))
  have : i = b.rules.length := by simp at hge; omega
  subst this
  have hl1 : ∀ r, r ∈ l1 ↔ r ∈ b.rules := fun r => by rw [hl, List.take_length]
  simp -implicitDefEqProofs only [pkA, ptA, ↓reduceIte, Nat.reduceEqDiff, Nat.reduceAdd, Nat.reduceBEq, Nat.reduceMul, Nat.reduceLT, Nat.reduceLeDiff, pkP, List.length_map, setV_all]
  refine hexit _ _ ?_
  clear hexit hret hnorm hge hi hl
  simp -implicitDefEqProofs only [pkA, ptA, ↓reduceIte, Nat.reduceEqDiff, Nat.reduceAdd, Nat.reduceBEq, Nat.reduceMul, Nat.reduceLT, Nat.reduceLeDiff, pkP, List.length_map, setV_all]
  clear R
  refine run_loop (fun x : Nat × List Nat × Nat × List Qu => match x with | (i, bs2, cl2, l2) => hdS [(2, .bp 0 0), (3, .bp 1 0), (5, .mr 2), (6, .mr 3), (28, .c (.sl (b.quorums.map quC))), (29, i64 b.quorums.length), (30, i64 i)] [(poC a).map .c, (poC b).map .c, mset ruC bs1 cl1 l1, mset quC bs2 cl2 l2])
    (fun x => b.quorums.length - x.1) (fun x => x.1 ≤ b.quorums.length ∧ ∀ r, r ∈ x.2.2.2 ↔ r ∈ b.quorums.take x.1) (0, [], 0, []) ⟨Nat.zero_le _, by simp⟩ ?_ ?_
  · refine le_hd (by simp only [leOk, List.all_cons, List.all_nil, all_ltB_c, mset_ltB, List.length_cons, List.length_nil]; rfl) (Nat.zero_le _) (by simp) (by simp [FL, up_apply]) (by simp [BL, up_apply, bxs, mset_nil])
  rintro ⟨i, bs2, cl2, l2⟩ ⟨hi, hl⟩ R hnorm hexit hret
  simp only at hi hl
  simp -implicitDefEqProofs only [pkA, ptA, ↓reduceIte, Nat.reduceEqDiff, Nat.reduceAdd, Nat.reduceBEq, Nat.reduceMul, Nat.reduceLT, Nat.reduceLeDiff, pkP, List.length_map, setV_all]
  refine vcond_of (fun hlt => ?_) (fun hge => ?_)
  · have hlt : i < b.quorums.length := by simpa using hlt
    have hw := wrap_of (n := (i : Int) + 1) (k := i + 1) (by omega) (by omega)
    simp -implicitDefEqProofs only [pkA, ptA, ↓reduceIte, Nat.reduceEqDiff, Nat.reduceAdd, Nat.reduceBEq, Nat.reduceMul, Nat.reduceLT, Nat.reduceLeDiff, pkP, List.length_map, setV_all]
    refine ia_of ti_24 rfl ti_42 (by decide) (Int.natCast_nonneg i) (c := quC b.quorums[i]) (by simp [hlt]) rfl ?_
    simp -implicitDefEqProofs only [pkA, ptA, ↓reduceIte, Nat.reduceEqDiff, Nat.reduceAdd, Nat.reduceBEq, Nat.reduceMul, Nat.reduceLT, Nat.reduceLeDiff, pkP, List.length_map, setV_all]
    refine mset_set (l := l2) (bs := bs2) (cl := cl2) ti_63 rfl ti_42 rfl rfl ti_4 rfl za_4 (fun _ => rfl) eq_qu (by rfl) (by simp) (fun bs' cl' => ?_)
    simp -implicitDefEqProofs only [pkA, ptA, ↓reduceIte, Nat.reduceEqDiff, Nat.reduceAdd, Nat.reduceBEq, Nat.reduceMul, Nat.reduceLT, Nat.reduceLeDiff, pkP, List.length_map, setV_all, hw]
    exact hnorm (i + 1, bs', cl', insM l2 b.quorums[i]) _ ⟨hlt, take_mem hlt hl⟩ (by simp only; omega) (le_hd (by simp only [leOk, List.all_cons, List.all_nil, all_ltB_c, mset_ltB, List.length_cons, List.length_nil]; rfl) (Nat.zero_le _) (by simp) (by simp [FL, up_apply]) (by simp [BL, up_apply, bxs]))
  have : i = b.quorums.length := by simp at hge; omega
  subst this
  have hl2 : ∀ r, r ∈ l2 ↔ r ∈ b.quorums := fun r => by rw [hl, List.take_length]
  simp -implicitDefEqProofs only [pkA, ptA, ↓reduceIte, Nat.reduceEqDiff, Nat.reduceAdd, Nat.reduceBEq, Nat.reduceMul, Nat.reduceLT, Nat.reduceLeDiff, pkP, List.length_map, setV_all]
  refine hexit _ _ ?_
  clear hexit hret hnorm hge hi hl
  simp -implicitDefEqProofs only [pkA, ptA, ↓reduceIte, Nat.reduceEqDiff, Nat.reduceAdd, Nat.reduceBEq, Nat.reduceMul, Nat.reduceLT, Nat.reduceLeDiff, pkP, List.length_map, setV_all]
  clear R
  refine run_loop (fun i : Nat => hdS [(2, .bp 0 0), (5, .mr 2), (6, .mr 3), (38, .c (.sl (a.rules.map ruC))), (39, i64 a.rules.length), (40, i64 i)] [(poC a).map .c, (poC b).map .c, mset ruC bs1 cl1 l1, mset quC bs2 cl2 l2])
    (fun i => a.rules.length - i) (fun i => i ≤ a.rules.length ∧ ∀ j (h : j < a.rules.length), j < i → a.rules[j] ∈ b.rules) 0 ⟨Nat.zero_le _, by simp⟩ ?_ ?_
  · refine le_hd (by simp only [leOk, List.all_cons, List.all_nil, all_ltB_c, mset_ltB, List.length_cons, List.length_nil]; rfl) (Nat.zero_le _) (by simp) (by simp [FL, up_apply]) (by simp [BL, up_apply, bxs])
  rintro i ⟨hi, hno⟩ R hnorm hexit hret
  simp -implicitDefEqProofs only [pkA, ptA, ↓reduceIte, Nat.reduceEqDiff, Nat.reduceAdd, Nat.reduceBEq, Nat.reduceMul, Nat.reduceLT, Nat.reduceLeDiff, pkP, List.length_map, setV_all]
  refine vcond_of (fun hlt => ?_) (fun hge => ?_)
  · have hlt : i < a.rules.length := by simpa using hlt
    have hw := wrap_of (n := (i : Int) + 1) (k := i + 1) (by omega) (by omega)
    simp -implicitDefEqProofs only [pkA, ptA, ↓reduceIte, Nat.reduceEqDiff, Nat.reduceAdd, Nat.reduceBEq, Nat.reduceMul, Nat.reduceLT, Nat.reduceLeDiff, pkP, List.length_map, setV_all]
    refine ia_of ti_23 rfl ti_40 (by decide) (Int.natCast_nonneg i) (c := ruC a.rules[i]) (by simp [hlt]) rfl ?_
    simp -implicitDefEqProofs only [pkA, ptA, ↓reduceIte, Nat.reduceEqDiff, Nat.reduceAdd, Nat.reduceBEq, Nat.reduceMul, Nat.reduceLT, Nat.reduceLeDiff, pkP, List.length_map, setV_all]
    refine mset_look (l := l1) (bs := bs1) (cl := cl1) ti_62 rfl ti_40 rfl rfl ti_4 rfl za_4 (fun _ => rfl) eq_ru (by rfl) (by simp) ?_
    simp -implicitDefEqProofs only [pkA, ptA, ↓reduceIte, Nat.reduceEqDiff, Nat.reduceAdd, Nat.reduceBEq, Nat.reduceMul, Nat.reduceLT, Nat.reduceLeDiff, pkP, List.length_map, setV_all]
    refine vcond_of (fun hy => ?_) (fun hn => ?_)
    · have hy : a.rules[i] ∉ b.rules := fun h => by simp [(hl1 _).2 h] at hy
      simp -implicitDefEqProofs only [pkA, ptA, ↓reduceIte, Nat.reduceEqDiff, Nat.reduceAdd, Nat.reduceBEq, Nat.reduceMul, Nat.reduceLT, Nat.reduceLeDiff, pkP, List.length_map, setV_all]
      refine hret _ ?_
      simp -implicitDefEqProofs only [pkA, ptA, ↓reduceIte, Nat.reduceEqDiff, Nat.reduceAdd, Nat.reduceBEq, Nat.reduceMul, Nat.reduceLT, Nat.reduceLeDiff, pkP, List.length_map, setV_all]
      have : insideB a b = false := by
        have : a.rules.all (fun r => decide (r ∈ b.rules)) = false := List.all_eq_false.2 ⟨_, List.getElem_mem hlt, by simpa using hy⟩
        simp [insideB, this]
      rw [this]
    · have hn : a.rules[i] ∈ b.rules := (hl1 _).1 (by simpa using hn)
      simp -implicitDefEqProofs only [pkA, ptA, ↓reduceIte, Nat.reduceEqDiff, Nat.reduceAdd, Nat.reduceBEq, Nat.reduceMul, Nat.reduceLT, Nat.reduceLeDiff, pkP, List.length_map, setV_all, hw]
      exact hnorm (i + 1) _ ⟨hlt, fun j h hj => by
        rcases Nat.lt_or_ge j i with q | q
        · exact hno j h q
        · have : j = i := by omega
          subst this; exact hn⟩ (by omega) (le_hd (by simp only [leOk, List.all_cons, List.all_nil, all_ltB_c, mset_ltB, List.length_cons, List.length_nil]; rfl) (Nat.zero_le _) (by simp) (by simp [FL, up_apply]) (by simp [BL, up_apply, bxs]))
  have : i = a.rules.length := by simp at hge; omega
  subst this
  have hq1 : a.rules.all (fun r => decide (r ∈ b.rules)) = true := List.all_eq_true.2 fun r hr => by
    obtain ⟨j, hj, rfl⟩ := List.mem_iff_getElem.1 hr
    simpa using hno j hj hj
  simp -implicitDefEqProofs only [pkA, ptA, ↓reduceIte, Nat.reduceEqDiff, Nat.reduceAdd, Nat.reduceBEq, Nat.reduceMul, Nat.reduceLT, Nat.reduceLeDiff, pkP, List.length_map, setV_all]
  refine hexit _ _ ?_
  clear hexit hret hnorm hge hi hno R
  simp -implicitDefEqProofs only [pkA, ptA, ↓reduceIte, Nat.reduceEqDiff, Nat.reduceAdd, Nat.reduceBEq, Nat.reduceMul, Nat.reduceLT, Nat.reduceLeDiff, pkP, List.length_map, setV_all]
  refine run_loop (fun i : Nat => hdS [(2, .bp 0 0), (5, .mr 2), (6, .mr 3), (50, .c (.sl (a.quorums.map quC))), (51, i64 a.quorums.length), (52, i64 i)] [(poC a).map .c, (poC b).map .c, mset ruC bs1 cl1 l1, mset quC bs2 cl2 l2])
    (fun i => a.quorums.length - i) (fun i => i ≤ a.quorums.length ∧ ∀ j (h : j < a.quorums.length), j < i → a.quorums[j] ∈ b.quorums) 0 ⟨Nat.zero_le _, by simp⟩ ?_ ?_
  · refine le_hd (by simp only [leOk, List.all_cons, List.all_nil, all_ltB_c, mset_ltB, List.length_cons, List.length_nil]; rfl) (Nat.zero_le _) (by simp) (by simp [FL, up_apply]) (by simp [BL, up_apply, bxs])
  rintro i ⟨hi, hno⟩ R hnorm hexit hret
  simp -implicitDefEqProofs only [pkA, ptA, ↓reduceIte, Nat.reduceEqDiff, Nat.reduceAdd, Nat.reduceBEq, Nat.reduceMul, Nat.reduceLT, Nat.reduceLeDiff, pkP, List.length_map, setV_all]
  refine vcond_of (fun hlt => ?_) (fun hge => ?_)
  · have hlt : i < a.quorums.length := by simpa using hlt
    have hw := wrap_of (n := (i : Int) + 1) (k := i + 1) (by omega) (by omega)
    simp -implicitDefEqProofs only [pkA, ptA, ↓reduceIte, Nat.reduceEqDiff, Nat.reduceAdd, Nat.reduceBEq, Nat.reduceMul, Nat.reduceLT, Nat.reduceLeDiff, pkP, List.length_map, setV_all]
    refine ia_of ti_24 rfl ti_42 (by decide) (Int.natCast_nonneg i) (c := quC a.quorums[i]) (by simp [hlt]) rfl ?_
    simp -implicitDefEqProofs only [pkA, ptA, ↓reduceIte, Nat.reduceEqDiff, Nat.reduceAdd, Nat.reduceBEq, Nat.reduceMul, Nat.reduceLT, Nat.reduceLeDiff, pkP, List.length_map, setV_all]
    refine mset_look (l := l2) (bs := bs2) (cl := cl2) ti_63 rfl ti_42 rfl rfl ti_4 rfl za_4 (fun _ => rfl) eq_qu (by rfl) (by simp) ?_
    simp -implicitDefEqProofs only [pkA, ptA, ↓reduceIte, Nat.reduceEqDiff, Nat.reduceAdd, Nat.reduceBEq, Nat.reduceMul, Nat.reduceLT, Nat.reduceLeDiff, pkP, List.length_map, setV_all]
    refine vcond_of (fun hy => ?_) (fun hn => ?_)
    · have hy : a.quorums[i] ∉ b.quorums := fun h => by simp [(hl2 _).2 h] at hy
      simp -implicitDefEqProofs only [pkA, ptA, ↓reduceIte, Nat.reduceEqDiff, Nat.reduceAdd, Nat.reduceBEq, Nat.reduceMul, Nat.reduceLT, Nat.reduceLeDiff, pkP, List.length_map, setV_all]
      refine hret _ ?_
      simp -implicitDefEqProofs only [pkA, ptA, ↓reduceIte, Nat.reduceEqDiff, Nat.reduceAdd, Nat.reduceBEq, Nat.reduceMul, Nat.reduceLT, Nat.reduceLeDiff, pkP, List.length_map, setV_all]
      have : insideB a b = false := by
        have : a.quorums.all (fun r => decide (r ∈ b.quorums)) = false := List.all_eq_false.2 ⟨_, List.getElem_mem hlt, by simpa using hy⟩
        simp [insideB, this]
      rw [this]
    · have hn : a.quorums[i] ∈ b.quorums := (hl2 _).1 (by simpa using hn)
      simp -implicitDefEqProofs only [pkA, ptA, ↓reduceIte, Nat.reduceEqDiff, Nat.reduceAdd, Nat.reduceBEq, Nat.reduceMul, Nat.reduceLT, Nat.reduceLeDiff, pkP, List.length_map, setV_all, hw]
      exact hnorm (i + 1) _ ⟨hlt, fun j h hj => by
        rcases Nat.lt_or_ge j i with q | q
        · exact hno j h q
        · have : j = i := by omega
          subst this; exact hn⟩ (by omega) (le_hd (by simp only [leOk, List.all_cons, List.all_nil, all_ltB_c, mset_ltB, List.length_cons, List.length_nil]; rfl) (Nat.zero_le _) (by simp) (by simp [FL, up_apply]) (by simp [BL, up_apply, bxs]))
  have : i = a.quorums.length := by simp at hge; omega
  subst this
  have hq2 : a.quorums.all (fun r => decide (r ∈ b.quorums)) = true := List.all_eq_true.2 fun r hr => by
    obtain ⟨j, hj, rfl⟩ := List.mem_iff_getElem.1 hr
    simpa using hno j hj hj
  simp -implicitDefEqProofs only [pkA, ptA, ↓reduceIte, Nat.reduceEqDiff, Nat.reduceAdd, Nat.reduceBEq, Nat.reduceMul, Nat.reduceLT, Nat.reduceLeDiff, pkP, List.length_map, setV_all]
  refine hexit _ _ ?_
  clear hexit hret hnorm hge hi hno R
  simp -implicitDefEqProofs only [pkA, ptA, ↓reduceIte, Nat.reduceEqDiff, Nat.reduceAdd, Nat.reduceBEq, Nat.reduceMul, Nat.reduceLT, Nat.reduceLeDiff, pkP, List.length_map, setV_all]
  simp [insideB, hq1, hq2]
end Go.Proofs.YtbhfbbfifmnniaaDoor
