/- The statement of KeysUnbox. -/
import Derived.Test.YtidlohfkfdeaiaaDoorVlQB
import Derived.Test.YtidlohfkfdeaiaaDoorVlBp
import Derived.Test.YtidlohfkfdeaiaaDoorVlR3
import Derived.Test.YtidlohfkfdeaiaaDoorVlSan
set_option linter.unusedSimpArgs false
set_option linter.unusedVariables false
namespace Go.Proofs.YtidlohfkfdeaiaaDoor
open Go Go.Vl

theorem unbox_bad {key box : B} (h : (unboxB key box).2 ≠ 0) : (unboxB key box).1 = k0 := by
  rw [unboxB_def] at h ⊢
  split
  · rfl
  split
  · rfl
  split
  · rfl
  split
  · rfl
  split
  · rename_i h1 h2 h3 h4 h5
    rw [if_neg h1, if_neg h2, if_neg h3, if_neg h4, if_pos h5] at h
    exact absurd rfl h
  · rfl
set_option maxRecDepth 100000 in
set_option maxHeartbeats 3000000 in
theorem lawUnbox_ok (key box : B) : FnOK Tryd.prog gl2 5 [sv key, sv box] (bo true) := by
  refine FnOK_by (rs := [.tmp 4]) false [] mixed Tryd.func5 rfl rfl rfl rfl (by kernel_rfl) (by simp) rfl rfl ?_
  have hset : ∀ (k : Ky) (l : List V), l.length = 9 → setV l 0 ((kC k).map V.c) = (kC k).map V.c := fun k l h => setV_all (by rw [h]; rfl)
  have hde : ∀ n : Int, decide (n = n) = true := fun n => by simp
  have hdb : ∀ b : B, decide (b = b) = true := fun n => by simp
  have d00 : (!decide ((0 : Int) = 0)) = false := rfl
  have hsan := up2 sanity_ok
  simp -implicitDefEqProofs only [pkA, ptA, ↓reduceIte, Nat.reduceEqDiff, Nat.reduceAdd, Nat.zero_add, bs8_size]
  cases d1 : decide ((100 : Int) < (key.length : Nat))
  case true =>
    simp -implicitDefEqProofs only [pkA, ↓reduceIte, Nat.reduceEqDiff, Nat.reduceAdd]
    refine call_fn rfl hsan (fun _ => rfl) ?_
    simp -implicitDefEqProofs only [pkA, ↓reduceIte]
  simp -implicitDefEqProofs only [pkA, ptA, ↓reduceIte, Nat.reduceEqDiff, bs8_size]
  cases d2 : decide ((400 : Int) < (box.length : Nat))
  case true =>
    simp -implicitDefEqProofs only [pkA, ↓reduceIte, Nat.reduceAdd]
    refine call_fn rfl hsan (fun _ => rfl) ?_
    simp -implicitDefEqProofs only [pkA, ↓reduceIte]
  have h1 : key.length ≤ 100 := by have := of_decide_eq_false d1; omega
  have h2 : box.length ≤ 400 := by have := of_decide_eq_false d2; omega
  have hU := up2 (Unbox_ok key box (by omega) (by omega))
  have hR := rUnbox_ok key box (by omega) (by omega)
  have hB := unbox_bad (key := key) (box := box)
  have hX := fun k => box_unbox (key := key) (box := box) (k := k)
  generalize unboxB key box = r at *
  obtain ⟨k, e⟩ := r
  simp -implicitDefEqProofs only [pkA, ↓reduceIte, Nat.reduceEqDiff, Nat.reduceAdd]
  refine call_fn rfl hU (fun h => by cases h) ?_
  simp -implicitDefEqProofs only [pkA, ptA, ↓reduceIte, Nat.reduceEqDiff, Nat.reduceAdd, Nat.reduceMul, Nat.reduceLT, Nat.reduceLeDiff, Nat.zero_add, decide_true]
  refine ⟨kC_len k, ?_⟩
  rw [hset _ _ rfl]
  refine call_fn rfl hR (fun h => by cases h) ?_
  simp -implicitDefEqProofs only [pkA, ptA, ↓reduceIte, Nat.reduceEqDiff, Nat.reduceAdd, Nat.reduceMul, Nat.reduceLT, Nat.reduceLeDiff, Nat.zero_add, decide_true]
  refine ⟨kC_len k, ?_⟩
  rw [hset _ _ rfl]
  refine lda_kv (show 0 < 2 by decide) ?_
  simp -implicitDefEqProofs only [pkA, ptA, ↓reduceIte, Nat.reduceEqDiff, Nat.reduceAdd, Nat.reduceMul, Nat.reduceLT, decide_true]
  refine lda_kv (show 1 < 2 by decide) ?_
  simp -implicitDefEqProofs only [pkA, ↓reduceIte, Nat.reduceEqDiff]
  rw [b_ne]
  simp -implicitDefEqProofs only [pkA, ↓reduceIte, Nat.reduceEqDiff, Nat.reduceAdd, decide_true]
  by_cases he : e = 0
  case neg =>
    have d : (!decide (e = 0)) = true := by simp [he]
    simp -implicitDefEqProofs only [pkA, ↓reduceIte, Nat.reduceAdd, d]
    refine call_fn rfl hsan (fun _ => rfl) ?_
    simp -implicitDefEqProofs only [pkA, ptA, ↓reduceIte, Nat.reduceEqDiff, Nat.reduceAdd, Nat.reduceMul, Nat.reduceLT, decide_true]
    have hk := hB he
    simp only at hk
    subst hk
    refine lda_kv (show 0 < 2 by decide) ?_
    simp -implicitDefEqProofs only [pkA, ptA, ↓reduceIte, Nat.reduceEqDiff, Nat.reduceAdd]
    refine (b_eq k0 _).mpr ?_
    simp -implicitDefEqProofs only [pkA, ↓reduceIte, Nat.reduceEqDiff]
  subst he
  obtain ⟨hbx, hko⟩ := hX k rfl
  simp -implicitDefEqProofs only [pkA, ptA, ↓reduceIte, Nat.reduceEqDiff, Nat.reduceAdd, Nat.reduceMul, Nat.reduceLT, decide_true]
  refine lda_kv (show 0 < 2 by decide) ?_
  have hBx := up2 (Box_ok key k (by omega) hko)
  rw [hbx] at hBx
  simp -implicitDefEqProofs only [pkA, ↓reduceIte, Nat.reduceEqDiff, Nat.reduceAdd]
  refine call_fn rfl hBx (fun _ => rfl) ?_
  simp -implicitDefEqProofs only [pkA, ↓reduceIte, Nat.reduceEqDiff, Nat.reduceAdd]
  refine call_fn rfl hsan (fun _ => rfl) ?_
  simp -implicitDefEqProofs only [pkA, ↓reduceIte, Nat.reduceEqDiff, decide_true]
end Go.Proofs.YtidlohfkfdeaiaaDoor
