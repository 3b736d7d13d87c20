/- The statement of KeysNarrow. -/
import Derived.Test.YtidlohfkfdeaiaaDoorVlNp
set_option linter.unusedSimpArgs false
set_option linter.unusedVariables false
namespace Go.Proofs.YtidlohfkfdeaiaaDoor
open Go Go.Vl

set_option maxRecDepth 100000 in
set_option maxHeartbeats 3000000 in
theorem lawNarrow_ok (t : Tb) (x uses part now later less en : Int) (ht : t.ok) (hl : t.ks.length ≤ 9223372036854775807) : FnOK Tryd.prog gl 7 [tv t, i64 x, i64 uses, i64 part, i64 now, i64 later, i64 less, i64 en] (bo true) := by
  refine FnOK_by (rs := [.tmp 16]) false [] mixed Tryd.func7 rfl rfl rfl rfl (by kernel_rfl) (by simp) rfl rfl ?_
  simp -implicitDefEqProofs only [pkA, ptA, ↓reduceIte, Nat.reduceEqDiff, Nat.reduceAdd, Nat.reduceBEq, Nat.reduceMul, Nat.reduceLT, Nat.reduceLeDiff, Nat.zero_add, decide_true, Nat.reduceSub, isMb_cl, isMb_zbox, cl_len, zbox_len, c_w8, c_lo8, wr_add, w_xor, w_and, w_or, w_not, vbin_shl, vbin_shr, vint_mul]
  have hset : ∀ (k : Ky) (l : List V), l.length = 9 → setV l 0 ((kC k).map V.c) = (kC k).map V.c := fun k l h => setV_all (by rw [h]; rfl)
  refine call_fn («as» := [tv t]) rfl (few_ok t ht hl) (fun _ => rfl) ?_
  cases hf : fewB t
  · simp -implicitDefEqProofs only [pkA, ptA, ↓reduceIte, Nat.reduceEqDiff, Nat.reduceAdd, Nat.reduceBEq, Nat.reduceMul, Nat.reduceLT, Nat.reduceLeDiff, Nat.zero_add, decide_true, Nat.reduceSub, isMb_cl, isMb_zbox, cl_len, zbox_len, c_w8, c_lo8, wr_add, w_xor, w_and, w_or, w_not, vbin_shl, vbin_shr, vint_mul]
    refine call_fn rfl sanity_ok (fun _ => rfl) ?_
    simp -implicitDefEqProofs only [pkA, ptA, ↓reduceIte, Nat.reduceEqDiff, Nat.reduceAdd, Nat.reduceBEq, Nat.reduceMul, Nat.reduceLT, Nat.reduceLeDiff, Nat.zero_add, decide_true, Nat.reduceSub, isMb_cl, isMb_zbox, cl_len, zbox_len, c_w8, c_lo8, wr_add, w_xor, w_and, w_or, w_not, vbin_shl, vbin_shr, vint_mul]
  have h60 : t.ks.length ≤ 60 ∧ validTR t = true := by
    unfold fewB at hf
    split at hf
    · cases hf
    · exact ⟨by omega, hf⟩
  have hs := sorted_of h60.2
  have hv := validTR_valid h60.2
  have hl6 : t.ks.length ≤ 1000000 := by omega
  simp -implicitDefEqProofs only [pkA, ptA, ↓reduceIte, Nat.reduceEqDiff, Nat.reduceAdd, Nat.reduceBEq, Nat.reduceMul, Nat.reduceLT, Nat.reduceLeDiff, Nat.zero_add, decide_true, Nat.reduceSub, isMb_cl, isMb_zbox, cl_len, zbox_len, c_w8, c_lo8, wr_add, w_xor, w_and, w_or, w_not, vbin_shl, vbin_shr, vint_mul]
  cases h1 : decide (now < 0)
  case true =>
    simp -implicitDefEqProofs only [pkA, ptA, ↓reduceIte, Nat.reduceEqDiff, Nat.reduceAdd, Nat.reduceBEq, Nat.reduceMul, Nat.reduceLT, Nat.reduceLeDiff, Nat.zero_add, decide_true, Nat.reduceSub, isMb_cl, isMb_zbox, cl_len, zbox_len, c_w8, c_lo8, wr_add, w_xor, w_and, w_or, w_not, vbin_shl, vbin_shr, vint_mul]
    refine call_fn rfl sanity_ok (fun _ => rfl) ?_
    simp -implicitDefEqProofs only [pkA, ptA, ↓reduceIte, Nat.reduceEqDiff, Nat.reduceAdd, Nat.reduceBEq, Nat.reduceMul, Nat.reduceLT, Nat.reduceLeDiff, Nat.zero_add, decide_true, Nat.reduceSub, isMb_cl, isMb_zbox, cl_len, zbox_len, c_w8, c_lo8, wr_add, w_xor, w_and, w_or, w_not, vbin_shl, vbin_shr, vint_mul]
  simp -implicitDefEqProofs only [pkA, ptA, ↓reduceIte, Nat.reduceEqDiff, Nat.reduceAdd, Nat.reduceBEq, Nat.reduceMul, Nat.reduceLT, Nat.reduceLeDiff, Nat.zero_add, decide_true, Nat.reduceSub, isMb_cl, isMb_zbox, cl_len, zbox_len, c_w8, c_lo8, wr_add, w_xor, w_and, w_or, w_not, vbin_shl, vbin_shr, vint_mul]
  cases h2 : decide (later < now)
  case true =>
    simp -implicitDefEqProofs only [pkA, ptA, ↓reduceIte, Nat.reduceEqDiff, Nat.reduceAdd, Nat.reduceBEq, Nat.reduceMul, Nat.reduceLT, Nat.reduceLeDiff, Nat.zero_add, decide_true, Nat.reduceSub, isMb_cl, isMb_zbox, cl_len, zbox_len, c_w8, c_lo8, wr_add, w_xor, w_and, w_or, w_not, vbin_shl, vbin_shr, vint_mul]
    refine call_fn rfl sanity_ok (fun _ => rfl) ?_
    simp -implicitDefEqProofs only [pkA, ptA, ↓reduceIte, Nat.reduceEqDiff, Nat.reduceAdd, Nat.reduceBEq, Nat.reduceMul, Nat.reduceLT, Nat.reduceLeDiff, Nat.zero_add, decide_true, Nat.reduceSub, isMb_cl, isMb_zbox, cl_len, zbox_len, c_w8, c_lo8, wr_add, w_xor, w_and, w_or, w_not, vbin_shl, vbin_shr, vint_mul]
  have hln : ¬ later < now := of_decide_eq_false h2
  have ea : ∀ K, vint .and .i64 uses part K = K (i64 (bits .and .i64 uses part)) := fun _ => rfl
  simp -implicitDefEqProofs only [pkA, ptA, ↓reduceIte, Nat.reduceEqDiff, Nat.reduceAdd, Nat.reduceBEq, Nat.reduceMul, Nat.reduceLT, Nat.reduceLeDiff, Nat.zero_add, decide_true, Nat.reduceSub, isMb_cl, isMb_zbox, cl_len, zbox_len, c_w8, c_lo8, wr_add, w_xor, w_and, w_or, w_not, vbin_shl, vbin_shr, vint_mul, ea]
  have hA := Allowed_ok (G := gl) t x uses now hs hl6
  have hB := Allowed_ok (G := gl) t x (bits .and .i64 uses part) now hs hl6
  have hG := Get_ok (G := gl) t x hs hl6
  have hC := Allowed_ok (G := gl) t x uses later hs hl6
  have n1 := nar1 (t := t) (x := x) (uses := uses) (now := now) (part := part)
  have n2 := nar2 (t := t) (x := x) (uses := uses) (now := now)
  have n3 := nar3 (t := t) (x := x) (uses := uses) hln
  have n4 := nar4 (t := t) (x := x) (uses := uses) (now := now) (later := later) (less := less) (en := en) hs hv
  generalize alwT t x uses now = al at *
  generalize alwT t x (bits .and .i64 uses part) now = af at *
  generalize getT t x = gt at *
  generalize alwT t x uses later = ah at *
  refine call_fn («as» := [tv t, i64 x, i64 uses, i64 now]) rfl hA (fun h => by cases h) ?_
  simp -implicitDefEqProofs only [pkA, ptA, ↓reduceIte, Nat.reduceEqDiff, Nat.reduceAdd, Nat.reduceBEq, Nat.reduceMul, Nat.reduceLT, Nat.reduceLeDiff, Nat.zero_add, decide_true, Nat.reduceSub, isMb_cl, isMb_zbox, cl_len, zbox_len, c_w8, c_lo8, wr_add, w_xor, w_and, w_or, w_not, vbin_shl, vbin_shr, vint_mul, ea]
  refine ⟨kC_len al.1, ?_⟩
  rw [hset _ _ rfl]
  refine call_fn («as» := [tv t, i64 x, i64 (bits .and .i64 uses part), i64 now]) rfl hB (fun h => by cases h) ?_
  simp -implicitDefEqProofs only [pkA, ptA, ↓reduceIte, Nat.reduceEqDiff, Nat.reduceAdd, Nat.reduceBEq, Nat.reduceMul, Nat.reduceLT, Nat.reduceLeDiff, Nat.zero_add, decide_true, Nat.reduceSub, isMb_cl, isMb_zbox, cl_len, zbox_len, c_w8, c_lo8, wr_add, w_xor, w_and, w_or, w_not, vbin_shl, vbin_shr, vint_mul, ea]
  refine ⟨kC_len af.1, ?_⟩
  rw [hset _ _ rfl]
  refine call_fn («as» := [tv t, i64 x]) rfl hG (fun h => by cases h) ?_
  simp -implicitDefEqProofs only [pkA, ptA, ↓reduceIte, Nat.reduceEqDiff, Nat.reduceAdd, Nat.reduceBEq, Nat.reduceMul, Nat.reduceLT, Nat.reduceLeDiff, Nat.zero_add, decide_true, Nat.reduceSub, isMb_cl, isMb_zbox, cl_len, zbox_len, c_w8, c_lo8, wr_add, w_xor, w_and, w_or, w_not, vbin_shl, vbin_shr, vint_mul, ea]
  refine ⟨kC_len gt.1, ?_⟩
  rw [hset _ _ rfl]
  refine call_fn («as» := [tv t, i64 x, i64 uses, i64 later]) rfl hC (fun h => by cases h) ?_
  simp -implicitDefEqProofs only [pkA, ptA, ↓reduceIte, Nat.reduceEqDiff, Nat.reduceAdd, Nat.reduceBEq, Nat.reduceMul, Nat.reduceLT, Nat.reduceLeDiff, Nat.zero_add, decide_true, Nat.reduceSub, isMb_cl, isMb_zbox, cl_len, zbox_len, c_w8, c_lo8, wr_add, w_xor, w_and, w_or, w_not, vbin_shl, vbin_shr, vint_mul, ea]
  refine ⟨kC_len ah.1, ?_⟩
  rw [hset _ _ rfl]
  have d0 : (!decide ((0 : Int) = 0)) = false := rfl
  have d13 : decide ((0 : Int) = 13) = false := rfl
  have hde : ∀ n : Int, decide (n = n) = true := fun n => by simp
  cases d1 : decide (al.2 = 0)
  case false =>
    have n2 := n2 (of_decide_eq_false d1)
    have hbb : ∀ K, vbin Tryd.prog .eql 4 (bo (!decide (gt.2 = 0))) (bo (!decide (gt.2 = 0))) K = K (bo true) := vbb _
    cases d2 : decide (al.2 = 13)
    · simp -implicitDefEqProofs only [pkA, ptA, ↓reduceIte, Nat.reduceEqDiff, Nat.reduceAdd, Nat.reduceBEq, Nat.reduceMul, Nat.reduceLT, Nat.reduceLeDiff, Nat.zero_add, decide_true, Nat.reduceSub, isMb_cl, isMb_zbox, cl_len, zbox_len, c_w8, c_lo8, wr_add, w_xor, w_and, w_or, w_not, vbin_shl, vbin_shr, vint_mul, ea, d1, d2, n2]
      refine call_fn rfl sanity_ok (fun _ => rfl) ?_
      simp -implicitDefEqProofs only [pkA, ptA, ↓reduceIte, Nat.reduceEqDiff, Nat.reduceAdd, Nat.reduceBEq, Nat.reduceMul, Nat.reduceLT, Nat.reduceLeDiff, Nat.zero_add, decide_true, Nat.reduceSub, isMb_cl, isMb_zbox, cl_len, zbox_len, c_w8, c_lo8, wr_add, w_xor, w_and, w_or, w_not, vbin_shl, vbin_shr, vint_mul, ea, d1, d2, n2, hbb]
    · cases d3 : decide (ah.2 = 0)
      · simp -implicitDefEqProofs only [pkA, ptA, ↓reduceIte, Nat.reduceEqDiff, Nat.reduceAdd, Nat.reduceBEq, Nat.reduceMul, Nat.reduceLT, Nat.reduceLeDiff, Nat.zero_add, decide_true, Nat.reduceSub, isMb_cl, isMb_zbox, cl_len, zbox_len, c_w8, c_lo8, wr_add, w_xor, w_and, w_or, w_not, vbin_shl, vbin_shr, vint_mul, ea, d1, d2, d3, n2]
        refine call_fn rfl sanity_ok (fun _ => rfl) ?_
        simp -implicitDefEqProofs only [pkA, ptA, ↓reduceIte, Nat.reduceEqDiff, Nat.reduceAdd, Nat.reduceBEq, Nat.reduceMul, Nat.reduceLT, Nat.reduceLeDiff, Nat.zero_add, decide_true, Nat.reduceSub, isMb_cl, isMb_zbox, cl_len, zbox_len, c_w8, c_lo8, wr_add, w_xor, w_and, w_or, w_not, vbin_shl, vbin_shr, vint_mul, ea, d1, d2, n2, hbb]
      · have n3 := n3 (of_decide_eq_true d3)
        have hel := end_len (ks := t.ks) (now := now)
        have d4 : decide ((((endT t now).length : Nat) : Int) = ((t.ks.length : Nat) : Int)) = false := decide_eq_false (by omega)
        simp -implicitDefEqProofs only [pkA, ptA, ↓reduceIte, Nat.reduceEqDiff, Nat.reduceAdd, Nat.reduceBEq, Nat.reduceMul, Nat.reduceLT, Nat.reduceLeDiff, Nat.zero_add, decide_true, Nat.reduceSub, isMb_cl, isMb_zbox, cl_len, zbox_len, c_w8, c_lo8, wr_add, w_xor, w_and, w_or, w_not, vbin_shl, vbin_shr, vint_mul, ea, d1, d2, d3, n2]
        refine call_fn («as» := [tv t, i64 now]) rfl (Ended_ok t now hl6) (fun h => by cases h) ?_
        simp -implicitDefEqProofs only [pkA, ptA, ↓reduceIte, Nat.reduceEqDiff, Nat.reduceAdd, Nat.reduceBEq, Nat.reduceMul, Nat.reduceLT, Nat.reduceLeDiff, Nat.zero_add, decide_true, Nat.reduceSub, isMb_cl, isMb_zbox, cl_len, zbox_len, c_w8, c_lo8, wr_add, w_xor, w_and, w_or, w_not, vbin_shl, vbin_shr, vint_mul, ea, d1, d2, d3, n2, mC_len, List.length_map, d4]
        refine call_fn rfl sanity_ok (fun _ => rfl) ?_
        simp -implicitDefEqProofs only [pkA, ptA, ↓reduceIte, Nat.reduceEqDiff, Nat.reduceAdd, Nat.reduceBEq, Nat.reduceMul, Nat.reduceLT, Nat.reduceLeDiff, Nat.zero_add, decide_true, Nat.reduceSub, isMb_cl, isMb_zbox, cl_len, zbox_len, c_w8, c_lo8, wr_add, w_xor, w_and, w_or, w_not, vbin_shl, vbin_shr, vint_mul, ea, d1, d2, n2, hbb]
  have he := of_decide_eq_true d1
  have hf0 := n1 he
  simp -implicitDefEqProofs only [pkA, ptA, ↓reduceIte, Nat.reduceEqDiff, Nat.reduceAdd, Nat.reduceBEq, Nat.reduceMul, Nat.reduceLT, Nat.reduceLeDiff, Nat.zero_add, decide_true, Nat.reduceSub, isMb_cl, isMb_zbox, cl_len, zbox_len, c_w8, c_lo8, wr_add, w_xor, w_and, w_or, w_not, vbin_shl, vbin_shr, vint_mul, ea, he, hf0, d0, d13, hde]
  obtain ⟨i, k, hk, h4, hput, hsr, hj⟩ := n4 he
  rw [h4]
  refine lda_kv (show 1 < 5 by decide) ?_
  have p3 : ∀ (k : Ky) K, partV false 1 3 (kC k) K = K (i64 k.uses) := fun k K => rfl
  have p4 : ∀ (k : Ky) K, partV false 1 4 (kC k) K = K (i64 k.st) := fun k K => rfl
  have p5 : ∀ (k : Ky) K, partV false 1 5 (kC k) K = K (i64 k.en) := fun k K => rfl
  have ea2 : ∀ K, vint .and .i64 k.uses less K = K (i64 (bits .and .i64 k.uses less)) := fun _ => rfl
  have s3 : setV ((kC k).map V.c) 3 [V.c (ic (bits .and .i64 k.uses less))] = (kC { k with uses := bits .and .i64 k.uses less }).map V.c := rfl
  simp -implicitDefEqProofs only [pkA, ptA, ↓reduceIte, Nat.reduceEqDiff, Nat.reduceAdd, Nat.reduceBEq, Nat.reduceMul, Nat.reduceLT, Nat.reduceLeDiff, Nat.zero_add, decide_true, Nat.reduceSub, isMb_cl, isMb_zbox, cl_len, zbox_len, c_w8, c_lo8, wr_add, w_xor, w_and, w_or, w_not, vbin_shl, vbin_shr, vint_mul, kv]
  rw [hset _ _ rfl]
  refine ⟨kC_len k, ?_⟩
  simp -implicitDefEqProofs only [pkA, ptA, ↓reduceIte, Nat.reduceEqDiff, Nat.reduceAdd, Nat.reduceBEq, Nat.reduceMul, Nat.reduceLT, Nat.reduceLeDiff, Nat.zero_add, decide_true, Nat.reduceSub, isMb_cl, isMb_zbox, cl_len, zbox_len, c_w8, c_lo8, wr_add, w_xor, w_and, w_or, w_not, vbin_shl, vbin_shr, vint_mul, isMb_kv, p3, ea2, s3]
  refine ⟨by rw [List.length_map, kC_len]; decide, ?_⟩
  have s5 : setV ((kC { k with uses := bits .and .i64 k.uses less }).map V.c) 5 [V.c (ic (if k.st < (if en < k.en then en else k.en) then (if en < k.en then en else k.en) else k.st))] = (kC (narK k less en)).map V.c := rfl
  simp -implicitDefEqProofs only [pkA, ptA, ↓reduceIte, Nat.reduceEqDiff, Nat.reduceAdd, Nat.reduceBEq, Nat.reduceMul, Nat.reduceLT, Nat.reduceLeDiff, Nat.zero_add, decide_true, Nat.reduceSub, isMb_cl, isMb_zbox, cl_len, zbox_len, c_w8, c_lo8, wr_add, w_xor, w_and, w_or, w_not, vbin_shl, vbin_shr, vint_mul, isMb_kv, p4, p5, vmin, s5]
  refine ⟨by rw [List.length_map, kC_len]; decide, ?_⟩
  refine lda_kv (show 5 < 6 by decide) ?_
  have hP := Put_ok (G := gl) t (narK k less en) hs hl6
  rw [hput] at hP
  have hl7 : (t.ks.set i (narK k less en)).length ≤ 1000000 := by rw [List.length_set]; exact hl6
  have hD := Allowed_ok (G := gl) ⟨t.nx, t.ks.set i (narK k less en)⟩ x uses later hsr hl7
  simp -implicitDefEqProofs only [pkA, ptA, ↓reduceIte, Nat.reduceEqDiff, Nat.reduceAdd, Nat.reduceBEq, Nat.reduceMul, Nat.reduceLT, Nat.reduceLeDiff, Nat.zero_add, decide_true, Nat.reduceSub, isMb_cl, isMb_zbox, cl_len, zbox_len, c_w8, c_lo8, wr_add, w_xor, w_and, w_or, w_not, vbin_shl, vbin_shr, vint_mul, isMb_kv]
  refine call_fn («as» := [tv t, kv (narK k less en)]) rfl hP (fun h => by cases h) ?_
  generalize t.ks.set i (narK k less en) = ks' at *
  have hset2 : ∀ (Z L : List V), Z.length = 2 → L.length = 2 → setV Z 0 L = L := fun Z L h1 h2 => setV_all (by rw [h1, h2])
  simp -implicitDefEqProofs only [pkA, ptA, ↓reduceIte, Nat.reduceEqDiff, Nat.reduceAdd, Nat.reduceBEq, Nat.reduceMul, Nat.reduceLT, Nat.reduceLeDiff, Nat.zero_add, decide_true, Nat.reduceSub, isMb_cl, isMb_zbox, cl_len, zbox_len, c_w8, c_lo8, wr_add, w_xor, w_and, w_or, w_not, vbin_shl, vbin_shr, vint_mul, isMb_kv]
  rw [hset2 _ _ rfl rfl]
  refine ⟨rfl, lda_tv (t := ⟨t.nx, ks'⟩) (show 6 < 7 by decide) ?_⟩
  simp -implicitDefEqProofs only [pkA, ptA, ↓reduceIte, Nat.reduceEqDiff, Nat.reduceAdd, Nat.reduceBEq, Nat.reduceMul, Nat.reduceLT, Nat.reduceLeDiff, Nat.zero_add, decide_true, Nat.reduceSub, isMb_cl, isMb_zbox, cl_len, zbox_len, c_w8, c_lo8, wr_add, w_xor, w_and, w_or, w_not, vbin_shl, vbin_shr, vint_mul, isMb_kv]
  refine call_fn («as» := [tv ⟨t.nx, ks'⟩, i64 x, i64 uses, i64 later]) rfl hD (fun h => by cases h) ?_
  generalize alwT ⟨t.nx, ks'⟩ x uses later = aj at *
  simp -implicitDefEqProofs only [pkA, ptA, ↓reduceIte, Nat.reduceEqDiff, Nat.reduceAdd, Nat.reduceBEq, Nat.reduceMul, Nat.reduceLT, Nat.reduceLeDiff, Nat.zero_add, decide_true, Nat.reduceSub, isMb_cl, isMb_zbox, cl_len, zbox_len, c_w8, c_lo8, wr_add, w_xor, w_and, w_or, w_not, vbin_shl, vbin_shr, vint_mul, isMb_kv]
  refine ⟨kC_len aj.1, ?_⟩
  rw [hset _ _ rfl]
  refine call_fn rfl sanity_ok (fun _ => rfl) ?_
  cases dj : decide (aj.2 = 0)
  · simp -implicitDefEqProofs only [pkA, ptA, ↓reduceIte, Nat.reduceEqDiff, Nat.reduceAdd, Nat.reduceBEq, Nat.reduceMul, Nat.reduceLT, Nat.reduceLeDiff, Nat.zero_add, decide_true, Nat.reduceSub, isMb_cl, isMb_zbox, cl_len, zbox_len, c_w8, c_lo8, wr_add, w_xor, w_and, w_or, w_not, vbin_shl, vbin_shr, vint_mul, dj]
  · have hh := hj (of_decide_eq_true dj)
    have dh : decide (ah.2 = 0) = true := decide_eq_true hh
    simp -implicitDefEqProofs only [pkA, ptA, ↓reduceIte, Nat.reduceEqDiff, Nat.reduceAdd, Nat.reduceBEq, Nat.reduceMul, Nat.reduceLT, Nat.reduceLeDiff, Nat.zero_add, decide_true, Nat.reduceSub, isMb_cl, isMb_zbox, cl_len, zbox_len, c_w8, c_lo8, wr_add, w_xor, w_and, w_or, w_not, vbin_shl, vbin_shr, vint_mul, dj, dh]
end Go.Proofs.YtidlohfkfdeaiaaDoor
