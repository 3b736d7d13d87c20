/- Contracts of the functions of layer 13 that compare and look up. -/
import Derived.Test.YtbhfbbfifmnniaaDoorVlPol
set_option linter.unusedSimpArgs false
set_option linter.unusedVariables false
namespace Go.Proofs.YtbhfbbfifmnniaaDoor
open Go Go.Vl

variable {G : Gl}

set_option maxHeartbeats 1000000 in
theorem Equal_ty (l m : List Ty) (hl : l.length ≤ 9223372036854775807) (hm : m.length ≤ 9223372036854775807) :
    FnOK Tryd.prog G 38 [.c (.sl (l.map tyC)), .c (.sl (m.map tyC))] (bo (decide (l = m))) := by
  refine FnOK_by (rs := [.tmp 4]) false [] mixed Tryd.func38 rfl rfl rfl rfl (by kernel_rfl) (by simp) rfl rfl ?_
  simp -implicitDefEqProofs only [pkA, ptA, ↓reduceIte, Nat.reduceEqDiff, Nat.reduceAdd, Nat.reduceBEq, Nat.reduceMul, Nat.reduceLT, Nat.reduceLeDiff, pkP, List.length_map]
  refine vcond_of (fun hne => ?_) (fun heq => ?_)
  · simp -implicitDefEqProofs only [pkA, ptA, ↓reduceIte, Nat.reduceEqDiff, Nat.reduceAdd, Nat.reduceBEq, Nat.reduceMul, Nat.reduceLT, Nat.reduceLeDiff, pkP, List.length_map]
    have : l ≠ m := by rintro rfl; simp at hne
    simp [this]
  have hlm : l.length = m.length := by simp at heq; omega
  simp -implicitDefEqProofs only [pkA, ptA, ↓reduceIte, Nat.reduceEqDiff, Nat.reduceAdd, Nat.reduceBEq, Nat.reduceMul, Nat.reduceLT, Nat.reduceLeDiff, pkP, List.length_map]
  refine run_loop (fun i : Nat => hdS [(0, .c (.sl (l.map tyC))), (1, .c (.sl (m.map tyC))), (12, i64 l.length), (13, i64 i)] []) (fun i => l.length - i) (fun i => i ≤ l.length ∧ ∀ j (h : j < l.length) (h' : j < m.length), j < i → l[j] = m[j]) 0 ⟨Nat.zero_le _, by simp⟩ ?_ ?_
  · refine le_hd rfl (Nat.zero_le _) (Nat.le_refl _) ?_ trivial
    simp [FL, up_apply]
  rintro i ⟨hi, hno⟩ R hnorm hexit hret
  simp -implicitDefEqProofs only [pkA, ptA, ↓reduceIte, Nat.reduceEqDiff, Nat.reduceAdd, Nat.reduceBEq, Nat.reduceMul, Nat.reduceLT, Nat.reduceLeDiff, pkP, List.length_map]
  refine vcond_of (fun hlt => ?_) (fun hge => ?_)
  · have hlt : i < l.length := by simpa using hlt
    have hlt' : i < m.length := by omega
    simp -implicitDefEqProofs only [pkA, ptA, ↓reduceIte, Nat.reduceEqDiff, Nat.reduceAdd, Nat.reduceBEq, Nat.reduceMul, Nat.reduceLT, Nat.reduceLeDiff, pkP, List.length_map]
    refine ia_of ti_22 rfl ti_46 (by decide) (Int.natCast_nonneg i) (c := tyC l[i]) (by simp [hlt]) rfl ?_
    simp -implicitDefEqProofs only [pkA, ptA, ↓reduceIte, Nat.reduceEqDiff, Nat.reduceAdd, Nat.reduceBEq, Nat.reduceMul, Nat.reduceLT, Nat.reduceLeDiff, pkP, List.length_map]
    refine ia_of ti_22 rfl ti_46 (by decide) (Int.natCast_nonneg i) (c := tyC m[i]) (by simp [hlt']) rfl ?_
    simp -implicitDefEqProofs only [pkA, ptA, ↓reduceIte, Nat.reduceEqDiff, Nat.reduceAdd, Nat.reduceBEq, Nat.reduceMul, Nat.reduceLT, Nat.reduceLeDiff, pkP, List.length_map]
    refine vcond_of (fun hy => ?_) (fun hn => ?_)
    · simp -implicitDefEqProofs only [pkA, ptA, ↓reduceIte, Nat.reduceEqDiff, Nat.reduceAdd, Nat.reduceBEq, Nat.reduceMul, Nat.reduceLT, Nat.reduceLeDiff, pkP, List.length_map]
      refine hret _ ?_
      simp -implicitDefEqProofs only [pkA, ptA, ↓reduceIte, Nat.reduceEqDiff, Nat.reduceAdd, Nat.reduceBEq, Nat.reduceMul, Nat.reduceLT, Nat.reduceLeDiff, pkP, List.length_map]
      have : l ≠ m := by rintro rfl; simp at hy
      simp [this]
    · have hw := wrap_i64 (i + 1) (by omega)
      simp -implicitDefEqProofs only [pkA, ptA, ↓reduceIte, Nat.reduceEqDiff, Nat.reduceAdd, Nat.reduceBEq, Nat.reduceMul, Nat.reduceLT, Nat.reduceLeDiff, pkP, List.length_map]
      refine hnorm (i + 1) _ ⟨hlt, fun j h h' hj => ?_⟩ (by omega) (le_hd rfl (Nat.zero_le _) (Nat.le_refl _) ?_ trivial)
      · rcases Nat.lt_or_ge j i with h1 | h1
        · exact hno j h h' h1
        · have : j = i := by omega
          subst this; simpa using hn
      · simp [FL, up_apply, hw]
  · have : i = l.length := by simp at hge; omega
    subst this
    simp -implicitDefEqProofs only [pkA, ptA, ↓reduceIte, Nat.reduceEqDiff, Nat.reduceAdd, Nat.reduceBEq, Nat.reduceMul, Nat.reduceLT, Nat.reduceLeDiff, pkP, List.length_map]
    refine hexit _ _ ?_
    simp -implicitDefEqProofs only [pkA, ptA, ↓reduceIte, Nat.reduceEqDiff, Nat.reduceAdd, Nat.reduceBEq, Nat.reduceMul, Nat.reduceLT, Nat.reduceLeDiff, pkP, List.length_map]
    have : l = m := List.ext_getElem hlm fun j h h' => hno j h h' h
    simp [this]
set_option maxHeartbeats 1000000 in
theorem Equal_ru (l m : List Ru) (hl : l.length ≤ 9223372036854775807) (hm : m.length ≤ 9223372036854775807) :
    FnOK Tryd.prog G 39 [.c (.sl (l.map ruC)), .c (.sl (m.map ruC))] (bo (decide (l = m))) := by
  refine FnOK_by (rs := [.tmp 4]) false [] mixed Tryd.func39 rfl rfl rfl rfl (by kernel_rfl) (by simp) rfl rfl ?_
  simp -implicitDefEqProofs only [pkA, ptA, ↓reduceIte, Nat.reduceEqDiff, Nat.reduceAdd, Nat.reduceBEq, Nat.reduceMul, Nat.reduceLT, Nat.reduceLeDiff, pkP, List.length_map]
  refine vcond_of (fun hne => ?_) (fun heq => ?_)
  · simp -implicitDefEqProofs only [pkA, ptA, ↓reduceIte, Nat.reduceEqDiff, Nat.reduceAdd, Nat.reduceBEq, Nat.reduceMul, Nat.reduceLT, Nat.reduceLeDiff, pkP, List.length_map]
    have : l ≠ m := by rintro rfl; simp at hne
    simp [this]
  have hlm : l.length = m.length := by simp at heq; omega
  simp -implicitDefEqProofs only [pkA, ptA, ↓reduceIte, Nat.reduceEqDiff, Nat.reduceAdd, Nat.reduceBEq, Nat.reduceMul, Nat.reduceLT, Nat.reduceLeDiff, pkP, List.length_map]
  refine run_loop (fun i : Nat => hdS [(0, .c (.sl (l.map ruC))), (1, .c (.sl (m.map ruC))), (12, i64 l.length), (13, i64 i)] []) (fun i => l.length - i) (fun i => i ≤ l.length ∧ ∀ j (h : j < l.length) (h' : j < m.length), j < i → l[j] = m[j]) 0 ⟨Nat.zero_le _, by simp⟩ ?_ ?_
  · refine le_hd rfl (Nat.zero_le _) (Nat.le_refl _) ?_ trivial
    simp [FL, up_apply]
  rintro i ⟨hi, hno⟩ R hnorm hexit hret
  simp -implicitDefEqProofs only [pkA, ptA, ↓reduceIte, Nat.reduceEqDiff, Nat.reduceAdd, Nat.reduceBEq, Nat.reduceMul, Nat.reduceLT, Nat.reduceLeDiff, pkP, List.length_map]
  refine vcond_of (fun hlt => ?_) (fun hge => ?_)
  · have hlt : i < l.length := by simpa using hlt
    have hlt' : i < m.length := by omega
    simp -implicitDefEqProofs only [pkA, ptA, ↓reduceIte, Nat.reduceEqDiff, Nat.reduceAdd, Nat.reduceBEq, Nat.reduceMul, Nat.reduceLT, Nat.reduceLeDiff, pkP, List.length_map]
    refine ia_of ti_23 rfl ti_40 (by decide) (Int.natCast_nonneg i) (c := ruC l[i]) (by simp [hlt]) rfl ?_
    simp -implicitDefEqProofs only [pkA, ptA, ↓reduceIte, Nat.reduceEqDiff, Nat.reduceAdd, Nat.reduceBEq, Nat.reduceMul, Nat.reduceLT, Nat.reduceLeDiff, pkP, List.length_map]
    refine ia_of ti_23 rfl ti_40 (by decide) (Int.natCast_nonneg i) (c := ruC m[i]) (by simp [hlt']) rfl ?_
    simp -implicitDefEqProofs only [pkA, ptA, ↓reduceIte, Nat.reduceEqDiff, Nat.reduceAdd, Nat.reduceBEq, Nat.reduceMul, Nat.reduceLT, Nat.reduceLeDiff, pkP, List.length_map]
    refine vcond_of (fun hy => ?_) (fun hn => ?_)
    · simp -implicitDefEqProofs only [pkA, ptA, ↓reduceIte, Nat.reduceEqDiff, Nat.reduceAdd, Nat.reduceBEq, Nat.reduceMul, Nat.reduceLT, Nat.reduceLeDiff, pkP, List.length_map]
      refine hret _ ?_
      simp -implicitDefEqProofs only [pkA, ptA, ↓reduceIte, Nat.reduceEqDiff, Nat.reduceAdd, Nat.reduceBEq, Nat.reduceMul, Nat.reduceLT, Nat.reduceLeDiff, pkP, List.length_map]
      have : l ≠ m := by rintro rfl; simp at hy
      simp [this]
    · have hw := wrap_i64 (i + 1) (by omega)
      simp -implicitDefEqProofs only [pkA, ptA, ↓reduceIte, Nat.reduceEqDiff, Nat.reduceAdd, Nat.reduceBEq, Nat.reduceMul, Nat.reduceLT, Nat.reduceLeDiff, pkP, List.length_map]
      refine hnorm (i + 1) _ ⟨hlt, fun j h h' hj => ?_⟩ (by omega) (le_hd rfl (Nat.zero_le _) (Nat.le_refl _) ?_ trivial)
      · rcases Nat.lt_or_ge j i with h1 | h1
        · exact hno j h h' h1
        · have : j = i := by omega
          subst this; simpa using hn
      · simp [FL, up_apply, hw]
  · have : i = l.length := by simp at hge; omega
    subst this
    simp -implicitDefEqProofs only [pkA, ptA, ↓reduceIte, Nat.reduceEqDiff, Nat.reduceAdd, Nat.reduceBEq, Nat.reduceMul, Nat.reduceLT, Nat.reduceLeDiff, pkP, List.length_map]
    refine hexit _ _ ?_
    simp -implicitDefEqProofs only [pkA, ptA, ↓reduceIte, Nat.reduceEqDiff, Nat.reduceAdd, Nat.reduceBEq, Nat.reduceMul, Nat.reduceLT, Nat.reduceLeDiff, pkP, List.length_map]
    have : l = m := List.ext_getElem hlm fun j h h' => hno j h h' h
    simp [this]
set_option maxHeartbeats 1000000 in
theorem Equal_qu (l m : List Qu) (hl : l.length ≤ 9223372036854775807) (hm : m.length ≤ 9223372036854775807) :
    FnOK Tryd.prog G 40 [.c (.sl (l.map quC)), .c (.sl (m.map quC))] (bo (decide (l = m))) := by
  refine FnOK_by (rs := [.tmp 4]) false [] mixed Tryd.func40 rfl rfl rfl rfl (by kernel_rfl) (by simp) rfl rfl ?_
  simp -implicitDefEqProofs only [pkA, ptA, ↓reduceIte, Nat.reduceEqDiff, Nat.reduceAdd, Nat.reduceBEq, Nat.reduceMul, Nat.reduceLT, Nat.reduceLeDiff, pkP, List.length_map]
  refine vcond_of (fun hne => ?_) (fun heq => ?_)
  · simp -implicitDefEqProofs only [pkA, ptA, ↓reduceIte, Nat.reduceEqDiff, Nat.reduceAdd, Nat.reduceBEq, Nat.reduceMul, Nat.reduceLT, Nat.reduceLeDiff, pkP, List.length_map]
    have : l ≠ m := by rintro rfl; simp at hne
    simp [this]
  have hlm : l.length = m.length := by simp at heq; omega
  simp -implicitDefEqProofs only [pkA, ptA, ↓reduceIte, Nat.reduceEqDiff, Nat.reduceAdd, Nat.reduceBEq, Nat.reduceMul, Nat.reduceLT, Nat.reduceLeDiff, pkP, List.length_map]
  refine run_loop (fun i : Nat => hdS [(0, .c (.sl (l.map quC))), (1, .c (.sl (m.map quC))), (12, i64 l.length), (13, i64 i)] []) (fun i => l.length - i) (fun i => i ≤ l.length ∧ ∀ j (h : j < l.length) (h' : j < m.length), j < i → l[j] = m[j]) 0 ⟨Nat.zero_le _, by simp⟩ ?_ ?_
  · refine le_hd rfl (Nat.zero_le _) (Nat.le_refl _) ?_ trivial
    simp [FL, up_apply]
  rintro i ⟨hi, hno⟩ R hnorm hexit hret
  simp -implicitDefEqProofs only [pkA, ptA, ↓reduceIte, Nat.reduceEqDiff, Nat.reduceAdd, Nat.reduceBEq, Nat.reduceMul, Nat.reduceLT, Nat.reduceLeDiff, pkP, List.length_map]
  refine vcond_of (fun hlt => ?_) (fun hge => ?_)
  · have hlt : i < l.length := by simpa using hlt
    have hlt' : i < m.length := by omega
    simp -implicitDefEqProofs only [pkA, ptA, ↓reduceIte, Nat.reduceEqDiff, Nat.reduceAdd, Nat.reduceBEq, Nat.reduceMul, Nat.reduceLT, Nat.reduceLeDiff, pkP, List.length_map]
    refine ia_of ti_24 rfl ti_42 (by decide) (Int.natCast_nonneg i) (c := quC l[i]) (by simp [hlt]) rfl ?_
    simp -implicitDefEqProofs only [pkA, ptA, ↓reduceIte, Nat.reduceEqDiff, Nat.reduceAdd, Nat.reduceBEq, Nat.reduceMul, Nat.reduceLT, Nat.reduceLeDiff, pkP, List.length_map]
    refine ia_of ti_24 rfl ti_42 (by decide) (Int.natCast_nonneg i) (c := quC m[i]) (by simp [hlt']) rfl ?_
    simp -implicitDefEqProofs only [pkA, ptA, ↓reduceIte, Nat.reduceEqDiff, Nat.reduceAdd, Nat.reduceBEq, Nat.reduceMul, Nat.reduceLT, Nat.reduceLeDiff, pkP, List.length_map]
    refine vcond_of (fun hy => ?_) (fun hn => ?_)
    · simp -implicitDefEqProofs only [pkA, ptA, ↓reduceIte, Nat.reduceEqDiff, Nat.reduceAdd, Nat.reduceBEq, Nat.reduceMul, Nat.reduceLT, Nat.reduceLeDiff, pkP, List.length_map]
      refine hret _ ?_
      simp -implicitDefEqProofs only [pkA, ptA, ↓reduceIte, Nat.reduceEqDiff, Nat.reduceAdd, Nat.reduceBEq, Nat.reduceMul, Nat.reduceLT, Nat.reduceLeDiff, pkP, List.length_map]
      have : l ≠ m := by rintro rfl; simp at hy
      simp [this]
    · have hw := wrap_i64 (i + 1) (by omega)
      simp -implicitDefEqProofs only [pkA, ptA, ↓reduceIte, Nat.reduceEqDiff, Nat.reduceAdd, Nat.reduceBEq, Nat.reduceMul, Nat.reduceLT, Nat.reduceLeDiff, pkP, List.length_map]
      refine hnorm (i + 1) _ ⟨hlt, fun j h h' hj => ?_⟩ (by omega) (le_hd rfl (Nat.zero_le _) (Nat.le_refl _) ?_ trivial)
      · rcases Nat.lt_or_ge j i with h1 | h1
        · exact hno j h h' h1
        · have : j = i := by omega
          subst this; simpa using hn
      · simp [FL, up_apply, hw]
  · have : i = l.length := by simp at hge; omega
    subst this
    simp -implicitDefEqProofs only [pkA, ptA, ↓reduceIte, Nat.reduceEqDiff, Nat.reduceAdd, Nat.reduceBEq, Nat.reduceMul, Nat.reduceLT, Nat.reduceLeDiff, pkP, List.length_map]
    refine hexit _ _ ?_
    simp -implicitDefEqProofs only [pkA, ptA, ↓reduceIte, Nat.reduceEqDiff, Nat.reduceAdd, Nat.reduceBEq, Nat.reduceMul, Nat.reduceLT, Nat.reduceLeDiff, pkP, List.length_map]
    have : l = m := List.ext_getElem hlm fun j h h' => hno j h h' h
    simp [this]
end Go.Proofs.YtbhfbbfifmnniaaDoor
