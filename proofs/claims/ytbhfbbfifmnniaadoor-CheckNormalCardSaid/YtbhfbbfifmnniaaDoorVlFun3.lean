/- Contracts of the look-ups in slices, over the values of layer 13. -/
import Derived.Test.YtbhfbbfifmnniaaDoorVlFun2
set_option linter.unusedSimpArgs false
set_option linter.unusedVariables false
namespace Go.Proofs.YtbhfbbfifmnniaaDoor
open Go Go.Vl

variable {G : Gl}

structure Wi where
  n : Int
  lo : Int
  hi : Int
def wiC (t : Wi) : List C := [cI t.n, cI t.lo, cI t.hi]
theorem wiC_len (t : Wi) : (wiC t).length = 3 := rfl
theorem pwi0 {t : Wi} {K : V → Prop} {sz : Nat} : partV false sz 0 (wiC t) K = K (i64 t.n) := rfl
theorem pwi1 {t : Wi} {K : V → Prop} {sz : Nat} : partV false sz 1 (wiC t) K = K (i64 t.lo) := rfl
theorem pwi2 {t : Wi} {K : V → Prop} {sz : Nat} : partV false sz 2 (wiC t) K = K (i64 t.hi) := rfl
def inC (n : Int) : List C := [cI n]
theorem pin0 {t : Int} {K : V → Prop} {sz : Nat} : partV false sz 0 (inC t) K = K (i64 t) := rfl

set_option maxHeartbeats 1000000 in
theorem IndexFunc_ty (es : List Ty) (hm : es.length ≤ 9223372036854775807) (g : FuncId) (caps : List C) (p : Ty → Bool) (hp : ∀ e ∈ es, FnOK Tryd.prog G g (.agg (tyC e) :: caps.map .c) (bo (p e))) :
    FnOK Tryd.prog G 54 [.c (.sl (es.map tyC)), .c (.fn (.func g) [] caps)] (i64 (posOf p es)) := by
  refine FnOK_by (rs := [.tmp 4]) false [] mixed Tryd.func54 rfl rfl rfl rfl (by kernel_rfl) (by simp) rfl rfl ?_
  simp -implicitDefEqProofs only [pkA, ptA, ↓reduceIte, Nat.reduceEqDiff, Nat.reduceAdd, Nat.reduceBEq, Nat.reduceMul, Nat.reduceLT, Nat.reduceLeDiff, pkP, List.length_map]
  refine run_loop (fun i : Nat => hdS [(0, .c (.sl (es.map tyC))), (1, .c (.fn (.func g) [] caps)), (7, i64 es.length), (8, i64 i)] []) (fun i => es.length - i) (fun i => i ≤ es.length ∧ ∀ j (h : j < es.length), j < i → p es[j] = false) 0 ⟨Nat.zero_le _, by simp⟩ ?_ ?_
  · refine le_hd rfl (Nat.zero_le _) (Nat.le_refl _) ?_ trivial
    simp [FL, up_apply]
  rintro i ⟨hi, hno⟩ R hnorm hexit hret
  simp -implicitDefEqProofs only [pkA, ptA, ↓reduceIte, Nat.reduceEqDiff, Nat.reduceAdd, Nat.reduceBEq, Nat.reduceMul, Nat.reduceLT, Nat.reduceLeDiff, pkP, List.length_map]
  refine vcond_of (fun hlt => ?_) (fun hge => ?_)
  · have hlt : i < es.length := by simpa using hlt
    simp -implicitDefEqProofs only [pkA, ptA, ↓reduceIte, Nat.reduceEqDiff, Nat.reduceAdd, Nat.reduceBEq, Nat.reduceMul, Nat.reduceLT, Nat.reduceLeDiff, pkP, List.length_map]
    refine ia_of ti_22 rfl ti_46 (by decide) (Int.natCast_nonneg i) (c := tyC es[i]) (by simp [hlt]) rfl ?_
    simp -implicitDefEqProofs only [pkA, ptA, ↓reduceIte, Nat.reduceEqDiff, Nat.reduceAdd, Nat.reduceBEq, Nat.reduceMul, Nat.reduceLT, Nat.reduceLeDiff, pkP, List.length_map, tyC_len]
    refine call_fn rfl (hp _ (List.getElem_mem hlt)) (by simp [V.boxy]) ?_
    simp -implicitDefEqProofs only [pkA, ptA, ↓reduceIte, Nat.reduceEqDiff, Nat.reduceAdd, Nat.reduceBEq, Nat.reduceMul, Nat.reduceLT, Nat.reduceLeDiff, pkP, List.length_map]
    refine vcond_of (fun hy => ?_) (fun hn => ?_)
    · simp -implicitDefEqProofs only [pkA, ptA, ↓reduceIte, Nat.reduceEqDiff, Nat.reduceAdd, Nat.reduceBEq, Nat.reduceMul, Nat.reduceLT, Nat.reduceLeDiff, pkP, List.length_map]
      refine hret _ ?_
      simp -implicitDefEqProofs only [pkA, ptA, ↓reduceIte, Nat.reduceEqDiff, Nat.reduceAdd, Nat.reduceBEq, Nat.reduceMul, Nat.reduceLT, Nat.reduceLeDiff, pkP, List.length_map]
      rw [posOf_at hlt hy hno]
    · simp -implicitDefEqProofs only [pkA, ptA, ↓reduceIte, Nat.reduceEqDiff, Nat.reduceAdd, Nat.reduceBEq, Nat.reduceMul, Nat.reduceLT, Nat.reduceLeDiff, pkP, List.length_map]
      refine hnorm (i + 1) _ ⟨hlt, fun j h hj => ?_⟩ (by omega) (le_hd rfl (Nat.zero_le _) (Nat.le_refl _) ?_ trivial)
      · rcases Nat.lt_or_ge j i with h1 | h1
        · exact hno j h h1
        · have : j = i := by omega
          subst this; exact hn
      · have hw := wrap_i64 (i + 1) (by omega)
        simp [FL, up_apply, hw]
  · have : i = es.length := by simp at hge; omega
    subst this
    simp -implicitDefEqProofs only [pkA, ptA, ↓reduceIte, Nat.reduceEqDiff, Nat.reduceAdd, Nat.reduceBEq, Nat.reduceMul, Nat.reduceLT, Nat.reduceLeDiff, pkP, List.length_map]
    refine hexit _ _ ?_
    simp -implicitDefEqProofs only [pkA, ptA, ↓reduceIte, Nat.reduceEqDiff, Nat.reduceAdd, Nat.reduceBEq, Nat.reduceMul, Nat.reduceLT, Nat.reduceLeDiff, pkP, List.length_map]
    rw [posOf_none hno]

set_option maxHeartbeats 1000000 in
theorem ContainsFunc_ty (es : List Ty) (hm : es.length ≤ 9223372036854775807) (g : FuncId) (caps : List C) (p : Ty → Bool) (hp : ∀ e ∈ es, FnOK Tryd.prog G g (.agg (tyC e) :: caps.map .c) (bo (p e))) :
    FnOK Tryd.prog G 41 [.c (.sl (es.map tyC)), .c (.fn (.func g) [] caps)] (bo (es.any p)) := by
  refine FnOK_by (rs := [.tmp 4]) false [] mixed Tryd.func41 rfl rfl rfl rfl (by kernel_rfl) (by simp) rfl rfl ?_
  simp -implicitDefEqProofs only [pkA, ptA, ↓reduceIte, Nat.reduceEqDiff, Nat.reduceAdd, Nat.reduceBEq, Nat.reduceMul, Nat.reduceLT, Nat.reduceLeDiff, pkP, List.length_map]
  refine call_fn rfl (IndexFunc_ty es hm g caps p hp) (by simp [V.boxy]) ?_
  simp -implicitDefEqProofs only [pkA, ptA, ↓reduceIte, Nat.reduceEqDiff, Nat.reduceAdd, Nat.reduceBEq, Nat.reduceMul, Nat.reduceLT, Nat.reduceLeDiff, pkP, List.length_map]
  rw [← posOf_nonneg]
set_option maxHeartbeats 1000000 in
theorem IndexFunc_qu (es : List Qu) (hm : es.length ≤ 9223372036854775807) (g : FuncId) (caps : List C) (p : Qu → Bool) (hp : ∀ e ∈ es, FnOK Tryd.prog G g (.agg (quC e) :: caps.map .c) (bo (p e))) :
    FnOK Tryd.prog G 59 [.c (.sl (es.map quC)), .c (.fn (.func g) [] caps)] (i64 (posOf p es)) := by
  refine FnOK_by (rs := [.tmp 4]) false [] mixed Tryd.func59 rfl rfl rfl rfl (by kernel_rfl) (by simp) rfl rfl ?_
  simp -implicitDefEqProofs only [pkA, ptA, ↓reduceIte, Nat.reduceEqDiff, Nat.reduceAdd, Nat.reduceBEq, Nat.reduceMul, Nat.reduceLT, Nat.reduceLeDiff, pkP, List.length_map]
  refine run_loop (fun i : Nat => hdS [(0, .c (.sl (es.map quC))), (1, .c (.fn (.func g) [] caps)), (7, i64 es.length), (8, i64 i)] []) (fun i => es.length - i) (fun i => i ≤ es.length ∧ ∀ j (h : j < es.length), j < i → p es[j] = false) 0 ⟨Nat.zero_le _, by simp⟩ ?_ ?_
  · refine le_hd rfl (Nat.zero_le _) (Nat.le_refl _) ?_ trivial
    simp [FL, up_apply]
  rintro i ⟨hi, hno⟩ R hnorm hexit hret
  simp -implicitDefEqProofs only [pkA, ptA, ↓reduceIte, Nat.reduceEqDiff, Nat.reduceAdd, Nat.reduceBEq, Nat.reduceMul, Nat.reduceLT, Nat.reduceLeDiff, pkP, List.length_map]
  refine vcond_of (fun hlt => ?_) (fun hge => ?_)
  · have hlt : i < es.length := by simpa using hlt
    simp -implicitDefEqProofs only [pkA, ptA, ↓reduceIte, Nat.reduceEqDiff, Nat.reduceAdd, Nat.reduceBEq, Nat.reduceMul, Nat.reduceLT, Nat.reduceLeDiff, pkP, List.length_map]
    refine ia_of ti_24 rfl ti_42 (by decide) (Int.natCast_nonneg i) (c := quC es[i]) (by simp [hlt]) rfl ?_
    simp -implicitDefEqProofs only [pkA, ptA, ↓reduceIte, Nat.reduceEqDiff, Nat.reduceAdd, Nat.reduceBEq, Nat.reduceMul, Nat.reduceLT, Nat.reduceLeDiff, pkP, List.length_map, quC_len]
    refine call_fn rfl (hp _ (List.getElem_mem hlt)) (by simp [V.boxy]) ?_
    simp -implicitDefEqProofs only [pkA, ptA, ↓reduceIte, Nat.reduceEqDiff, Nat.reduceAdd, Nat.reduceBEq, Nat.reduceMul, Nat.reduceLT, Nat.reduceLeDiff, pkP, List.length_map]
    refine vcond_of (fun hy => ?_) (fun hn => ?_)
    · simp -implicitDefEqProofs only [pkA, ptA, ↓reduceIte, Nat.reduceEqDiff, Nat.reduceAdd, Nat.reduceBEq, Nat.reduceMul, Nat.reduceLT, Nat.reduceLeDiff, pkP, List.length_map]
      refine hret _ ?_
      simp -implicitDefEqProofs only [pkA, ptA, ↓reduceIte, Nat.reduceEqDiff, Nat.reduceAdd, Nat.reduceBEq, Nat.reduceMul, Nat.reduceLT, Nat.reduceLeDiff, pkP, List.length_map]
      rw [posOf_at hlt hy hno]
    · simp -implicitDefEqProofs only [pkA, ptA, ↓reduceIte, Nat.reduceEqDiff, Nat.reduceAdd, Nat.reduceBEq, Nat.reduceMul, Nat.reduceLT, Nat.reduceLeDiff, pkP, List.length_map]
      refine hnorm (i + 1) _ ⟨hlt, fun j h hj => ?_⟩ (by omega) (le_hd rfl (Nat.zero_le _) (Nat.le_refl _) ?_ trivial)
      · rcases Nat.lt_or_ge j i with h1 | h1
        · exact hno j h h1
        · have : j = i := by omega
          subst this; exact hn
      · have hw := wrap_i64 (i + 1) (by omega)
        simp [FL, up_apply, hw]
  · have : i = es.length := by simp at hge; omega
    subst this
    simp -implicitDefEqProofs only [pkA, ptA, ↓reduceIte, Nat.reduceEqDiff, Nat.reduceAdd, Nat.reduceBEq, Nat.reduceMul, Nat.reduceLT, Nat.reduceLeDiff, pkP, List.length_map]
    refine hexit _ _ ?_
    simp -implicitDefEqProofs only [pkA, ptA, ↓reduceIte, Nat.reduceEqDiff, Nat.reduceAdd, Nat.reduceBEq, Nat.reduceMul, Nat.reduceLT, Nat.reduceLeDiff, pkP, List.length_map]
    rw [posOf_none hno]

set_option maxHeartbeats 1000000 in
theorem ContainsFunc_qu (es : List Qu) (hm : es.length ≤ 9223372036854775807) (g : FuncId) (caps : List C) (p : Qu → Bool) (hp : ∀ e ∈ es, FnOK Tryd.prog G g (.agg (quC e) :: caps.map .c) (bo (p e))) :
    FnOK Tryd.prog G 46 [.c (.sl (es.map quC)), .c (.fn (.func g) [] caps)] (bo (es.any p)) := by
  refine FnOK_by (rs := [.tmp 4]) false [] mixed Tryd.func46 rfl rfl rfl rfl (by kernel_rfl) (by simp) rfl rfl ?_
  simp -implicitDefEqProofs only [pkA, ptA, ↓reduceIte, Nat.reduceEqDiff, Nat.reduceAdd, Nat.reduceBEq, Nat.reduceMul, Nat.reduceLT, Nat.reduceLeDiff, pkP, List.length_map]
  refine call_fn rfl (IndexFunc_qu es hm g caps p hp) (by simp [V.boxy]) ?_
  simp -implicitDefEqProofs only [pkA, ptA, ↓reduceIte, Nat.reduceEqDiff, Nat.reduceAdd, Nat.reduceBEq, Nat.reduceMul, Nat.reduceLT, Nat.reduceLeDiff, pkP, List.length_map]
  rw [← posOf_nonneg]
set_option maxHeartbeats 1000000 in
theorem IndexFunc_wi (es : List Wi) (hm : es.length ≤ 9223372036854775807) (g : FuncId) (caps : List C) (p : Wi → Bool) (hp : ∀ e ∈ es, FnOK Tryd.prog G g (.agg (wiC e) :: caps.map .c) (bo (p e))) :
    FnOK Tryd.prog G 62 [.c (.sl (es.map wiC)), .c (.fn (.func g) [] caps)] (i64 (posOf p es)) := by
  refine FnOK_by (rs := [.tmp 4]) false [] mixed Tryd.func62 rfl rfl rfl rfl (by kernel_rfl) (by simp) rfl rfl ?_
  simp -implicitDefEqProofs only [pkA, ptA, ↓reduceIte, Nat.reduceEqDiff, Nat.reduceAdd, Nat.reduceBEq, Nat.reduceMul, Nat.reduceLT, Nat.reduceLeDiff, pkP, List.length_map]
  refine run_loop (fun i : Nat => hdS [(0, .c (.sl (es.map wiC))), (1, .c (.fn (.func g) [] caps)), (7, i64 es.length), (8, i64 i)] []) (fun i => es.length - i) (fun i => i ≤ es.length ∧ ∀ j (h : j < es.length), j < i → p es[j] = false) 0 ⟨Nat.zero_le _, by simp⟩ ?_ ?_
  · refine le_hd rfl (Nat.zero_le _) (Nat.le_refl _) ?_ trivial
    simp [FL, up_apply]
  rintro i ⟨hi, hno⟩ R hnorm hexit hret
  simp -implicitDefEqProofs only [pkA, ptA, ↓reduceIte, Nat.reduceEqDiff, Nat.reduceAdd, Nat.reduceBEq, Nat.reduceMul, Nat.reduceLT, Nat.reduceLeDiff, pkP, List.length_map]
  refine vcond_of (fun hlt => ?_) (fun hge => ?_)
  · have hlt : i < es.length := by simpa using hlt
    simp -implicitDefEqProofs only [pkA, ptA, ↓reduceIte, Nat.reduceEqDiff, Nat.reduceAdd, Nat.reduceBEq, Nat.reduceMul, Nat.reduceLT, Nat.reduceLeDiff, pkP, List.length_map]
    refine ia_of ti_82 rfl ti_68 (by decide) (Int.natCast_nonneg i) (c := wiC es[i]) (by simp [hlt]) rfl ?_
    simp -implicitDefEqProofs only [pkA, ptA, ↓reduceIte, Nat.reduceEqDiff, Nat.reduceAdd, Nat.reduceBEq, Nat.reduceMul, Nat.reduceLT, Nat.reduceLeDiff, pkP, List.length_map, wiC_len]
    refine call_fn rfl (hp _ (List.getElem_mem hlt)) (by simp [V.boxy]) ?_
    simp -implicitDefEqProofs only [pkA, ptA, ↓reduceIte, Nat.reduceEqDiff, Nat.reduceAdd, Nat.reduceBEq, Nat.reduceMul, Nat.reduceLT, Nat.reduceLeDiff, pkP, List.length_map]
    refine vcond_of (fun hy => ?_) (fun hn => ?_)
    · simp -implicitDefEqProofs only [pkA, ptA, ↓reduceIte, Nat.reduceEqDiff, Nat.reduceAdd, Nat.reduceBEq, Nat.reduceMul, Nat.reduceLT, Nat.reduceLeDiff, pkP, List.length_map]
      refine hret _ ?_
      simp -implicitDefEqProofs only [pkA, ptA, ↓reduceIte, Nat.reduceEqDiff, Nat.reduceAdd, Nat.reduceBEq, Nat.reduceMul, Nat.reduceLT, Nat.reduceLeDiff, pkP, List.length_map]
      rw [posOf_at hlt hy hno]
    · simp -implicitDefEqProofs only [pkA, ptA, ↓reduceIte, Nat.reduceEqDiff, Nat.reduceAdd, Nat.reduceBEq, Nat.reduceMul, Nat.reduceLT, Nat.reduceLeDiff, pkP, List.length_map]
      refine hnorm (i + 1) _ ⟨hlt, fun j h hj => ?_⟩ (by omega) (le_hd rfl (Nat.zero_le _) (Nat.le_refl _) ?_ trivial)
      · rcases Nat.lt_or_ge j i with h1 | h1
        · exact hno j h h1
        · have : j = i := by omega
          subst this; exact hn
      · have hw := wrap_i64 (i + 1) (by omega)
        simp [FL, up_apply, hw]
  · have : i = es.length := by simp at hge; omega
    subst this
    simp -implicitDefEqProofs only [pkA, ptA, ↓reduceIte, Nat.reduceEqDiff, Nat.reduceAdd, Nat.reduceBEq, Nat.reduceMul, Nat.reduceLT, Nat.reduceLeDiff, pkP, List.length_map]
    refine hexit _ _ ?_
    simp -implicitDefEqProofs only [pkA, ptA, ↓reduceIte, Nat.reduceEqDiff, Nat.reduceAdd, Nat.reduceBEq, Nat.reduceMul, Nat.reduceLT, Nat.reduceLeDiff, pkP, List.length_map]
    rw [posOf_none hno]

set_option maxHeartbeats 1000000 in
theorem ContainsFunc_wi (es : List Wi) (hm : es.length ≤ 9223372036854775807) (g : FuncId) (caps : List C) (p : Wi → Bool) (hp : ∀ e ∈ es, FnOK Tryd.prog G g (.agg (wiC e) :: caps.map .c) (bo (p e))) :
    FnOK Tryd.prog G 55 [.c (.sl (es.map wiC)), .c (.fn (.func g) [] caps)] (bo (es.any p)) := by
  refine FnOK_by (rs := [.tmp 4]) false [] mixed Tryd.func55 rfl rfl rfl rfl (by kernel_rfl) (by simp) rfl rfl ?_
  simp -implicitDefEqProofs only [pkA, ptA, ↓reduceIte, Nat.reduceEqDiff, Nat.reduceAdd, Nat.reduceBEq, Nat.reduceMul, Nat.reduceLT, Nat.reduceLeDiff, pkP, List.length_map]
  refine call_fn rfl (IndexFunc_wi es hm g caps p hp) (by simp [V.boxy]) ?_
  simp -implicitDefEqProofs only [pkA, ptA, ↓reduceIte, Nat.reduceEqDiff, Nat.reduceAdd, Nat.reduceBEq, Nat.reduceMul, Nat.reduceLT, Nat.reduceLeDiff, pkP, List.length_map]
  rw [← posOf_nonneg]

set_option maxHeartbeats 1000000 in
theorem Index_ru (es : List Ru) (hm : es.length ≤ 9223372036854775807) (x : Ru) :
    FnOK Tryd.prog G 57 [.c (.sl (es.map ruC)), .agg (ruC x)] (i64 (posOf (fun e => decide (x = e)) es)) := by
  refine FnOK_by (rs := [.tmp 4]) false [] mixed Tryd.func57 rfl rfl rfl rfl (by kernel_rfl) (by simp) rfl rfl ?_
  simp -implicitDefEqProofs only [pkA, ptA, ↓reduceIte, Nat.reduceEqDiff, Nat.reduceAdd, Nat.reduceBEq, Nat.reduceMul, Nat.reduceLT, Nat.reduceLeDiff, pkP, List.length_map]
  refine run_loop (fun i : Nat => hdS [(0, .c (.sl (es.map ruC))), (3, .bp 0 0), (7, i64 es.length), (8, i64 i)] [(ruC x).map .c]) (fun i => es.length - i) (fun i => i ≤ es.length ∧ ∀ j (h : j < es.length), j < i → (fun e => decide (x = e)) es[j] = false) 0 ⟨Nat.zero_le _, by simp⟩ ?_ ?_
  · refine le_hd rfl (Nat.zero_le _) (by simp) ?_ ?_
    · simp [FL, up_apply]
    · simp [BL, up_apply]
  rintro i ⟨hi, hno⟩ R hnorm hexit hret
  simp -implicitDefEqProofs only [pkA, ptA, ↓reduceIte, Nat.reduceEqDiff, Nat.reduceAdd, Nat.reduceBEq, Nat.reduceMul, Nat.reduceLT, Nat.reduceLeDiff, pkP, List.length_map]
  refine vcond_of (fun hlt => ?_) (fun hge => ?_)
  · have hlt : i < es.length := by simpa using hlt
    simp -implicitDefEqProofs only [pkA, ptA, ↓reduceIte, Nat.reduceEqDiff, Nat.reduceAdd, Nat.reduceBEq, Nat.reduceMul, Nat.reduceLT, Nat.reduceLeDiff, pkP, List.length_map]
    refine ia_of ti_23 rfl ti_40 (by decide) (Int.natCast_nonneg i) (c := ruC es[i]) (by simp [hlt]) rfl ?_
    simp -implicitDefEqProofs only [pkA, ptA, ↓reduceIte, Nat.reduceEqDiff, Nat.reduceAdd, Nat.reduceBEq, Nat.reduceMul, Nat.reduceLT, Nat.reduceLeDiff, pkP, List.length_map, pin0]
    refine vcond_of (fun hy => ?_) (fun hn => ?_)
    · simp -implicitDefEqProofs only [pkA, ptA, ↓reduceIte, Nat.reduceEqDiff, Nat.reduceAdd, Nat.reduceBEq, Nat.reduceMul, Nat.reduceLT, Nat.reduceLeDiff, pkP, List.length_map]
      refine hret _ ?_
      simp -implicitDefEqProofs only [pkA, ptA, ↓reduceIte, Nat.reduceEqDiff, Nat.reduceAdd, Nat.reduceBEq, Nat.reduceMul, Nat.reduceLT, Nat.reduceLeDiff, pkP, List.length_map]
      rw [posOf_at hlt hy hno]
    · simp -implicitDefEqProofs only [pkA, ptA, ↓reduceIte, Nat.reduceEqDiff, Nat.reduceAdd, Nat.reduceBEq, Nat.reduceMul, Nat.reduceLT, Nat.reduceLeDiff, pkP, List.length_map]
      refine hnorm (i + 1) _ ⟨hlt, fun j h hj => ?_⟩ (by omega) (le_hd rfl (Nat.zero_le _) (by simp) ?_ ?_)
      · rcases Nat.lt_or_ge j i with h1 | h1
        · exact hno j h h1
        · have : j = i := by omega
          subst this; exact hn
      · have hw := wrap_i64 (i + 1) (by omega)
        simp [FL, up_apply, hw]
      · simp [BL, up_apply, bxs]
  · have : i = es.length := by simp at hge; omega
    subst this
    simp -implicitDefEqProofs only [pkA, ptA, ↓reduceIte, Nat.reduceEqDiff, Nat.reduceAdd, Nat.reduceBEq, Nat.reduceMul, Nat.reduceLT, Nat.reduceLeDiff, pkP, List.length_map]
    refine hexit _ _ ?_
    simp -implicitDefEqProofs only [pkA, ptA, ↓reduceIte, Nat.reduceEqDiff, Nat.reduceAdd, Nat.reduceBEq, Nat.reduceMul, Nat.reduceLT, Nat.reduceLeDiff, pkP, List.length_map]
    rw [posOf_none hno]

set_option maxHeartbeats 1000000 in
theorem Contains_ru (es : List Ru) (hm : es.length ≤ 9223372036854775807) (x : Ru) :
    FnOK Tryd.prog G 44 [.c (.sl (es.map ruC)), .agg (ruC x)] (bo (es.any fun e => decide (x = e))) := by
  refine FnOK_by (rs := [.tmp 4]) false [] mixed Tryd.func44 rfl rfl rfl rfl (by kernel_rfl) (by simp) rfl rfl ?_
  simp -implicitDefEqProofs only [pkA, ptA, ↓reduceIte, Nat.reduceEqDiff, Nat.reduceAdd, Nat.reduceBEq, Nat.reduceMul, Nat.reduceLT, Nat.reduceLeDiff, pkP, List.length_map]
  refine call_fn rfl (Index_ru es hm x) (by simp [V.boxy]) ?_
  simp -implicitDefEqProofs only [pkA, ptA, ↓reduceIte, Nat.reduceEqDiff, Nat.reduceAdd, Nat.reduceBEq, Nat.reduceMul, Nat.reduceLT, Nat.reduceLeDiff, pkP, List.length_map]
  rw [← posOf_nonneg]
set_option maxHeartbeats 1000000 in
theorem Index_in (es : List Int) (hm : es.length ≤ 9223372036854775807) (x : Int) :
    FnOK Tryd.prog G 58 [.c (.sl (es.map inC)), i64 x] (i64 (posOf (fun e => decide (x = e)) es)) := by
  refine FnOK_by (rs := [.tmp 4]) false [] mixed Tryd.func58 rfl rfl rfl rfl (by kernel_rfl) (by simp) rfl rfl ?_
  simp -implicitDefEqProofs only [pkA, ptA, ↓reduceIte, Nat.reduceEqDiff, Nat.reduceAdd, Nat.reduceBEq, Nat.reduceMul, Nat.reduceLT, Nat.reduceLeDiff, pkP, List.length_map]
  refine run_loop (fun i : Nat => hdS [(0, .c (.sl (es.map inC))), (1, i64 x), (7, i64 es.length), (8, i64 i)] []) (fun i => es.length - i) (fun i => i ≤ es.length ∧ ∀ j (h : j < es.length), j < i → (fun e => decide (x = e)) es[j] = false) 0 ⟨Nat.zero_le _, by simp⟩ ?_ ?_
  · refine le_hd rfl (Nat.zero_le _) (by simp) ?_ ?_
    · simp [FL, up_apply]
    · simp [BL, up_apply]
  rintro i ⟨hi, hno⟩ R hnorm hexit hret
  simp -implicitDefEqProofs only [pkA, ptA, ↓reduceIte, Nat.reduceEqDiff, Nat.reduceAdd, Nat.reduceBEq, Nat.reduceMul, Nat.reduceLT, Nat.reduceLeDiff, pkP, List.length_map]
  refine vcond_of (fun hlt => ?_) (fun hge => ?_)
  · have hlt : i < es.length := by simpa using hlt
    simp -implicitDefEqProofs only [pkA, ptA, ↓reduceIte, Nat.reduceEqDiff, Nat.reduceAdd, Nat.reduceBEq, Nat.reduceMul, Nat.reduceLT, Nat.reduceLeDiff, pkP, List.length_map]
    refine ia_of ti_71 rfl ti_3 (by decide) (Int.natCast_nonneg i) (c := inC es[i]) (by simp [hlt]) rfl ?_
    simp -implicitDefEqProofs only [pkA, ptA, ↓reduceIte, Nat.reduceEqDiff, Nat.reduceAdd, Nat.reduceBEq, Nat.reduceMul, Nat.reduceLT, Nat.reduceLeDiff, pkP, List.length_map, pin0]
    refine vcond_of (fun hy => ?_) (fun hn => ?_)
    · simp -implicitDefEqProofs only [pkA, ptA, ↓reduceIte, Nat.reduceEqDiff, Nat.reduceAdd, Nat.reduceBEq, Nat.reduceMul, Nat.reduceLT, Nat.reduceLeDiff, pkP, List.length_map]
      refine hret _ ?_
      simp -implicitDefEqProofs only [pkA, ptA, ↓reduceIte, Nat.reduceEqDiff, Nat.reduceAdd, Nat.reduceBEq, Nat.reduceMul, Nat.reduceLT, Nat.reduceLeDiff, pkP, List.length_map]
      rw [posOf_at hlt hy hno]
    · simp -implicitDefEqProofs only [pkA, ptA, ↓reduceIte, Nat.reduceEqDiff, Nat.reduceAdd, Nat.reduceBEq, Nat.reduceMul, Nat.reduceLT, Nat.reduceLeDiff, pkP, List.length_map]
      refine hnorm (i + 1) _ ⟨hlt, fun j h hj => ?_⟩ (by omega) (le_hd rfl (Nat.zero_le _) (by simp) ?_ ?_)
      · rcases Nat.lt_or_ge j i with h1 | h1
        · exact hno j h h1
        · have : j = i := by omega
          subst this; exact hn
      · have hw := wrap_i64 (i + 1) (by omega)
        simp [FL, up_apply, hw]
      · simp [BL, up_apply, bxs]
  · have : i = es.length := by simp at hge; omega
    subst this
    simp -implicitDefEqProofs only [pkA, ptA, ↓reduceIte, Nat.reduceEqDiff, Nat.reduceAdd, Nat.reduceBEq, Nat.reduceMul, Nat.reduceLT, Nat.reduceLeDiff, pkP, List.length_map]
    refine hexit _ _ ?_
    simp -implicitDefEqProofs only [pkA, ptA, ↓reduceIte, Nat.reduceEqDiff, Nat.reduceAdd, Nat.reduceBEq, Nat.reduceMul, Nat.reduceLT, Nat.reduceLeDiff, pkP, List.length_map]
    rw [posOf_none hno]

set_option maxHeartbeats 1000000 in
theorem Contains_in (es : List Int) (hm : es.length ≤ 9223372036854775807) (x : Int) :
    FnOK Tryd.prog G 45 [.c (.sl (es.map inC)), i64 x] (bo (es.any fun e => decide (x = e))) := by
  refine FnOK_by (rs := [.tmp 4]) false [] mixed Tryd.func45 rfl rfl rfl rfl (by kernel_rfl) (by simp) rfl rfl ?_
  simp -implicitDefEqProofs only [pkA, ptA, ↓reduceIte, Nat.reduceEqDiff, Nat.reduceAdd, Nat.reduceBEq, Nat.reduceMul, Nat.reduceLT, Nat.reduceLeDiff, pkP, List.length_map]
  refine call_fn rfl (Index_in es hm x) (by simp [V.boxy]) ?_
  simp -implicitDefEqProofs only [pkA, ptA, ↓reduceIte, Nat.reduceEqDiff, Nat.reduceAdd, Nat.reduceBEq, Nat.reduceMul, Nat.reduceLT, Nat.reduceLeDiff, pkP, List.length_map]
  rw [← posOf_nonneg]

set_option maxHeartbeats 1000000 in
theorem tyE1_ok (t o : Ty) : FnOK Tryd.prog G 42 [.agg (tyC o), .c (.rp (tyC t) 0)] (bo (decide (o.name = t.name))) := by
  refine FnOK_by (rs := [.tmp 3]) false [] mixed Tryd.func42 rfl rfl rfl rfl (by kernel_rfl) (by simp) rfl rfl ?_
  simp -implicitDefEqProofs only [pkA, ptA, ↓reduceIte, Nat.reduceEqDiff, Nat.reduceAdd, Nat.reduceBEq, Nat.reduceMul, Nat.reduceLT, Nat.reduceLeDiff, pkP, List.length_map]
set_option maxHeartbeats 1000000 in
theorem quE1_ok (t o : Qu) : FnOK Tryd.prog G 47 [.agg (quC o), .c (.rp (quC t) 0)] (bo (decide (o.cmd = t.cmd))) := by
  refine FnOK_by (rs := [.tmp 3]) false [] mixed Tryd.func47 rfl rfl rfl rfl (by kernel_rfl) (by simp) rfl rfl ?_
  simp -implicitDefEqProofs only [pkA, ptA, ↓reduceIte, Nat.reduceEqDiff, Nat.reduceAdd, Nat.reduceBEq, Nat.reduceMul, Nat.reduceLT, Nat.reduceLeDiff, pkP, List.length_map]
def outB (x : Wi) : Bool := decide (x.n < x.lo) || decide (x.hi < x.n)
set_option maxHeartbeats 1000000 in
theorem wrong1_ok (x : Wi) : FnOK Tryd.prog G 56 [.agg (wiC x)] (bo (outB x)) := by
  refine FnOK_by (rs := [.tmp 2]) false [] mixed Tryd.func56 rfl rfl rfl rfl (by kernel_rfl) (by simp) rfl rfl ?_
  repeat' first
    | (simp -implicitDefEqProofs only [pkA, ptA, ↓reduceIte, Nat.reduceEqDiff, Nat.reduceAdd, Nat.reduceBEq, Nat.reduceMul, Nat.reduceLT, Nat.reduceLeDiff, pkP, List.length_map, pwi0, pwi1, pwi2])
    | refine vgd_of (fun h => ?_) (fun h => ?_)
    | refine vcond_of (fun h => ?_) (fun h => ?_)
  all_goals (unfold outB; first | (simp_all; done) | (simp_all; omega))
set_option maxHeartbeats 1000000 in
theorem wrong_ok (es : List Wi) (hm : es.length ≤ 9223372036854775807) : FnOK Tryd.prog G 43 [.c (.sl (es.map wiC))] (bo (es.any outB)) := by
  refine FnOK_by (rs := [.tmp 2]) false [] mixed Tryd.func43 rfl rfl rfl rfl (by kernel_rfl) (by simp) rfl rfl ?_
  simp -implicitDefEqProofs only [pkA, ptA, ↓reduceIte, Nat.reduceEqDiff, Nat.reduceAdd, Nat.reduceBEq, Nat.reduceMul, Nat.reduceLT, Nat.reduceLeDiff, pkP, List.length_map]
  refine call_fn rfl (ContainsFunc_wi es hm _ [] outB (fun e _ => wrong1_ok e)) (by simp [V.boxy]) ?_
  simp -implicitDefEqProofs only [pkA, ptA, ↓reduceIte, Nat.reduceEqDiff, Nat.reduceAdd, Nat.reduceBEq, Nat.reduceMul, Nat.reduceLT, Nat.reduceLeDiff, pkP, List.length_map]
end Go.Proofs.YtbhfbbfifmnniaaDoor
