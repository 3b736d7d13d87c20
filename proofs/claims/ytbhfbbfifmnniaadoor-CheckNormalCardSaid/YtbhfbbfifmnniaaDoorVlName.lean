/- The two functions Name of layer 13. -/
import Derived.Test.YtbhfbbfifmnniaaDoorVlFun3
set_option linter.unusedSimpArgs false
set_option linter.unusedVariables false
namespace Go.Proofs.YtbhfbbfifmnniaaDoor
open Go Go.Vl

variable {G : Gl}

/-- May this be the k-th letter of a name? -/
def nmC (k : Nat) (c : Int) : Bool := (decide (97 ≤ c) && decide (c ≤ 122)) || (decide (0 < k) && (decide (48 ≤ c) && decide (c ≤ 57)))
def nameB (s : ByteArray) : Bool := decide (∀ k (h : k < s.data.size), nmC k s.data[k].toNat = true) && decide (1 ≤ s.size) && decide (s.size ≤ 12)
theorem nameB_bad {s : ByteArray} {k : Nat} (h : k < s.data.size) (hc : nmC k s.data[k].toNat = false) : nameB s = false := by
  have : decide (∀ k (h : k < s.data.size), nmC k s.data[k].toNat = true) = false := decide_eq_false fun hh => by rw [hh k h] at hc; cases hc
  unfold nameB; rw [this]; simp only [Bool.false_and]
theorem nameB_all {s : ByteArray} (hk : ∀ j (h : j < s.data.size), nmC j s.data[j].toNat = true) : nameB s = (decide (1 ≤ s.size) && decide (s.size ≤ 12)) := by
  have : decide (∀ k (h : k < s.data.size), nmC k s.data[k].toNat = true) = true := decide_eq_true hk
  unfold nameB; rw [this, Bool.true_and]

theorem strC_get (s : ByteArray) {k : Nat} (h : k < s.data.size) : (strC s)[k]? = some [.lit (.int .u8 s.data[k].toNat)] := by simp only [strC, List.getElem?_map, Array.getElem?_toList, Array.getElem?_eq_getElem h, Option.map_some]
theorem strC_len (s : ByteArray) : (strC s).length = s.data.size := by simp [strC]
theorem conv_sb {s : ByteArray} {K : V → Prop} : vconv Tryd.prog 9 50 (.c (.lit (.string s))) K = K (.c (.sl (strC s))) := by
  simp only [vconv, ti_9, ti_50, ti_5]
theorem ix_str {s : ByteArray} {k : Nat} {K : V → Prop} (h : k < s.data.size) : vindex Tryd.prog 9 (.c (.lit (.string s))) (i64 k) K = K (.c (.lit (.int .u8 s.data[k].toNat))) :=
  vindex_str ti_9 rfl (Int.natCast_nonneg k) (by simp [h])

set_option maxHeartbeats 1000000 in
theorem Name_ok (s : ByteArray) (hs : s.size ≤ 9223372036854775807) : FnOK Tryd.prog G 15 [.c (.lit (.string s))] (bo (nameB s)) := by
  have hsz : s.size = s.data.size := rfl
  refine FnOK_by (rs := [.tmp 2]) false [] mixed Tryd.func15 rfl rfl rfl rfl (by kernel_rfl) (by simp) rfl rfl ?_
  simp -implicitDefEqProofs only [pkA, ptA, ↓reduceIte, Nat.reduceEqDiff, Nat.reduceAdd, Nat.reduceBEq, Nat.reduceMul, Nat.reduceLT, Nat.reduceLeDiff, pkP, List.length_map, conv_sb, strC_len]
  refine run_loop (fun i : Nat => hdS [(0, .c (.lit (.string s))), (6, .c (.sl (strC s))), (7, i64 s.data.size), (8, i64 i)] []) (fun i => s.data.size - i) (fun i => i ≤ s.data.size ∧ ∀ j (h : j < s.data.size), j < i → nmC j s.data[j].toNat = true) 0 ⟨Nat.zero_le _, by simp⟩ ?_ ?_
  · refine le_hd rfl (Nat.zero_le _) (by simp) ?_ ?_
    · simp [FL, up_apply]
    · simp [BL, up_apply]
  rintro i ⟨hi, hno⟩ R hnorm hexit hret
  simp -implicitDefEqProofs only [pkA, ptA, ↓reduceIte, Nat.reduceEqDiff, Nat.reduceAdd, Nat.reduceBEq, Nat.reduceMul, Nat.reduceLT, Nat.reduceLeDiff, pkP, List.length_map]
  refine vcond_of (fun hlt => ?_) (fun hge => ?_)
  · have hlt : i < s.data.size := by simpa using hlt
    have hw := wrap_i64 (i + 1) (by omega)
    simp -implicitDefEqProofs only [pkA, ptA, ↓reduceIte, Nat.reduceEqDiff, Nat.reduceAdd, Nat.reduceBEq, Nat.reduceMul, Nat.reduceLT, Nat.reduceLeDiff, pkP, List.length_map]
    refine ia_of ti_50 rfl ti_5 (by decide) (Int.natCast_nonneg i) (c := [.lit (.int .u8 s.data[i].toNat)]) (strC_get s hlt) rfl ?_
    generalize hc : (s.data[i].toNat : Int) = c
    have good : nmC i c = true → ∀ s', S.Le (extK []) (hdS [(0, .c (.lit (.string s))), (6, .c (.sl (strC s))), (7, i64 s.data.size), (8, i64 (i + 1 : Nat))] []) s' → R .normal s' := fun hg s' hle =>
      hnorm (i + 1) s' ⟨hlt, fun j h hj => by
        rcases Nat.lt_or_ge j i with h1 | h1
        · exact hno j h h1
        · have : j = i := by omega
          subst this; rw [hc]; exact hg⟩ (by omega) hle
    have bad : nmC i c = false → nameB s = false := fun hb => nameB_bad hlt (by rw [hc]; exact hb)
    clear hno hnorm
    repeat' first
      | (simp -implicitDefEqProofs only [pkA, ptA, ↓reduceIte, Nat.reduceEqDiff, Nat.reduceAdd, Nat.reduceBEq, Nat.reduceMul, Nat.reduceLT, Nat.reduceLeDiff, pkP, List.length_map])
      | refine vgd_of (fun h => ?_) (fun h => ?_)
      | refine vcond_of (fun h => ?_) (fun h => ?_)
    all_goals first
      | (refine hret _ ?_
         simp -implicitDefEqProofs only [pkA, ptA, ↓reduceIte, Nat.reduceEqDiff, Nat.reduceAdd, Nat.reduceBEq, Nat.reduceMul, Nat.reduceLT, Nat.reduceLeDiff, pkP, List.length_map]
         rw [bad (by clear hsz hret hexit good bad; simp_all [nmC] <;> omega)])
      | (refine good (by clear hsz hret hexit bad good; simp_all [nmC] <;> omega) _ (le_hd rfl (Nat.zero_le _) (by simp) ?_ trivial)
         simp [FL, up_apply, hw])
  · have : i = s.data.size := by simp at hge; omega
    subst this
    simp -implicitDefEqProofs only [pkA, ptA, ↓reduceIte, Nat.reduceEqDiff, Nat.reduceAdd, Nat.reduceBEq, Nat.reduceMul, Nat.reduceLT, Nat.reduceLeDiff, pkP, List.length_map]
    refine hexit _ _ ?_
    clear hexit hret hnorm
    repeat' first
      | (simp -implicitDefEqProofs only [pkA, ptA, ↓reduceIte, Nat.reduceEqDiff, Nat.reduceAdd, Nat.reduceBEq, Nat.reduceMul, Nat.reduceLT, Nat.reduceLeDiff, pkP, List.length_map])
      | refine vgd_of (fun h => ?_) (fun h => ?_)
      | refine vcond_of (fun h => ?_) (fun h => ?_)
    all_goals
      rw [nameB_all (fun j h => hno j h h)]
      clear hno hsz
      first | (simp_all; done) | (simp_all; omega) | (simp_all; rw [Bool.eq_iff_iff]; simp; omega)

set_option maxRecDepth 100000 in
set_option maxHeartbeats 2000000 in
theorem refName_ok (s : ByteArray) (hs : s.size ≤ 9223372036854775807) : FnOK Tryd.prog G 16 [.c (.lit (.string s))] (bo (nameB s)) := by
  have hsz : s.size = s.data.size := rfl
  refine FnOK_by (rs := [.tmp 2]) false [] mixed Tryd.func16 rfl rfl rfl rfl (by kernel_rfl) (by simp) rfl rfl ?_
  by_cases hl : 1 ≤ s.size ∧ s.size ≤ 12
  · have h1 : decide ((s.size : Int) < 1) = false := by simp; omega
    have h2 : decide ((12 : Int) < (s.size : Int)) = false := by simp; omega
    simp -implicitDefEqProofs only [pkA, ptA, ↓reduceIte, Nat.reduceEqDiff, Nat.reduceAdd, Nat.reduceBEq, Nat.reduceMul, Nat.reduceLT, Nat.reduceLeDiff, pkP, List.length_map, h1, h2]
    refine run_loop (fun i : Nat => hdS [(0, .c (.lit (.string s))), (3, i64 i)] []) (fun i => s.data.size - i) (fun i => i ≤ s.data.size ∧ ∀ j (h : j < s.data.size), j < i → nmC j s.data[j].toNat = true) 0 ⟨Nat.zero_le _, by simp⟩ ?_ ?_
    · refine le_hd rfl (Nat.zero_le _) (by simp) ?_ ?_
      · simp [FL, up_apply]
      · simp [BL, up_apply]
    rintro i ⟨hi, hno⟩ R hnorm hexit hret
    simp -implicitDefEqProofs only [pkA, ptA, ↓reduceIte, Nat.reduceEqDiff, Nat.reduceAdd, Nat.reduceBEq, Nat.reduceMul, Nat.reduceLT, Nat.reduceLeDiff, pkP, List.length_map]
    refine vcond_of (fun hlt => ?_) (fun hge => ?_)
    · have hlt : i < s.data.size := by rw [hsz] at hlt; simpa using hlt
      have hw := wrap_i64 (i + 1) (by omega)
      have hix : ∀ K, vindex Tryd.prog 9 (.c (.lit (.string s))) (i64 i) K = K (.c (.lit (.int .u8 s.data[i].toNat))) := fun K => ix_str hlt
      generalize hc : (s.data[i].toNat : Int) = c at hix
      have good : nmC i c = true → ∀ s', S.Le (extK []) (hdS [(0, .c (.lit (.string s))), (3, i64 (i + 1 : Nat))] []) s' → R .normal s' := fun hg s' hle =>
        hnorm (i + 1) s' ⟨hlt, fun j h hj => by
          rcases Nat.lt_or_ge j i with h1 | h1
          · exact hno j h h1
          · have : j = i := by omega
            subst this; rw [hc]; exact hg⟩ (by omega) hle
      have bad : nmC i c = false → nameB s = false := fun hb => nameB_bad hlt (by rw [hc]; exact hb)
      clear hno hnorm h1 h2
      repeat' first
        | (simp -implicitDefEqProofs only [pkA, ptA, ↓reduceIte, Nat.reduceEqDiff, Nat.reduceAdd, Nat.reduceBEq, Nat.reduceMul, Nat.reduceLT, Nat.reduceLeDiff, pkP, List.length_map, hix])
        | refine vgd_of (fun h => ?_) (fun h => ?_)
        | refine vcond_of (fun h => ?_) (fun h => ?_)
      all_goals first
        | (refine hret _ ?_
           simp -implicitDefEqProofs only [pkA, ptA, ↓reduceIte, Nat.reduceEqDiff, Nat.reduceAdd, Nat.reduceBEq, Nat.reduceMul, Nat.reduceLT, Nat.reduceLeDiff, pkP, List.length_map]
           rw [bad (by clear hsz hret hexit good bad; simp_all [nmC] <;> omega)])
        | (refine good (by clear hsz hret hexit bad good; simp_all [nmC] <;> omega) _ (le_hd rfl (Nat.zero_le _) (by simp) ?_ trivial)
           simp [FL, up_apply, hw])
    · have : i = s.data.size := by rw [hsz] at hge; simp at hge; omega
      subst this
      simp -implicitDefEqProofs only [pkA, ptA, ↓reduceIte, Nat.reduceEqDiff, Nat.reduceAdd, Nat.reduceBEq, Nat.reduceMul, Nat.reduceLT, Nat.reduceLeDiff, pkP, List.length_map]
      refine hexit _ _ ?_
      simp -implicitDefEqProofs only [pkA, ptA, ↓reduceIte, Nat.reduceEqDiff, Nat.reduceAdd, Nat.reduceBEq, Nat.reduceMul, Nat.reduceLT, Nat.reduceLeDiff, pkP, List.length_map]
      rw [nameB_all (fun j h => hno j h h)]
      simp [hl]
  · have hb : nameB s = false := by
      unfold nameB
      by_cases h1 : 1 ≤ s.size
      · have : ¬ s.size ≤ 12 := fun h => hl ⟨h1, h⟩
        simp [this]
      · simp [h1]
    repeat' first
      | (simp -implicitDefEqProofs only [pkA, ptA, ↓reduceIte, Nat.reduceEqDiff, Nat.reduceAdd, Nat.reduceBEq, Nat.reduceMul, Nat.reduceLT, Nat.reduceLeDiff, pkP, List.length_map])
      | refine vgd_of (fun h => ?_) (fun h => ?_)
      | refine vcond_of (fun h => ?_) (fun h => ?_)
    all_goals first | (rw [hb]; done) | (exfalso; clear hsz hb; simp_all; omega) | (rw [hb])
end Go.Proofs.YtbhfbbfifmnniaaDoor
