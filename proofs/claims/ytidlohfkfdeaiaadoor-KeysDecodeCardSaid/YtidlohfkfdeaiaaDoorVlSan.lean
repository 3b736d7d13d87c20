/- The example of layer 27 is as it should be. -/
import Derived.Test.YtidlohfkfdeaiaaDoorVlSb
set_option linter.unusedSimpArgs false
set_option linter.unusedVariables false
namespace Go.Proofs.YtidlohfkfdeaiaaDoor
open Go Go.Vl

theorem okS : kyS.ok := ⟨⟨by decide, by decide⟩, ⟨by decide, by decide⟩, ⟨by decide, by decide⟩, ⟨by decide, by decide⟩, ⟨by decide, by decide⟩, ⟨by decide, by decide⟩, ⟨by decide, by decide⟩⟩
set_option maxRecDepth 100000 in
set_option maxHeartbeats 8000000 in
theorem sanity_ok : FnOK Tryd.prog gl 11 [] (bo true) := by
  refine FnOK_by (rs := [.tmp 0]) false [200028, 302800, 200002, 300201] mixed Tryd.func11 rfl rfl rfl rfl (by kernel_rfl) (by simp) rfl rfl ?_
  have hv : sv (List.replicate 32 118) = sv vvB := rfl
  have hk : sv (List.replicate 32 107) = sv kkB := rfl
  have hx : sv (List.replicate 32 120) = sv xxB := rfl
  have hval := value_ok (G := gl) 118
  have hvak := value_ok (G := gl) 107
  have hvax := value_ok (G := gl) 120
  rw [hv] at hval; rw [hk] at hvak; rw [hx] at hvax
  have hadd := Add_ok27 (G := gl) ⟨1, []⟩ kyS (by decide) ⟨by decide, by decide⟩
  rw [a_d] at hadd
  have h1 := Allowed_ok (G := gl) tbS 1 8 9 srt (by decide)
  have h2 := Allowed_ok (G := gl) tbS 1 8 10 srt (by decide)
  have h3 := Allowed_ok (G := gl) tbS 1 8 20 srt (by decide)
  have h4 := Allowed_ok (G := gl) tbS 1 32 10 srt (by decide)
  have h5 := Allowed_ok (G := gl) tbS 2 0 10 srt (by decide)
  rw [al1] at h1; rw [al2] at h2; rw [al3] at h3; rw [al4] at h4; rw [al5] at h5
  have hbox := Box_ok kkB kyS (by decide) okS
  rw [b_x] at hbox
  have hub := Unbox_ok kkB boxS (by decide) (by decide)
  have hux := Unbox_ok xxB boxS (by decide) (by decide)
  rw [u_k] at hub; rw [u_x] at hux
  have hen := Encode_ok (G := gl) tbS ⟨by decide, by decide⟩ (by decide) (fun k hk => by
    obtain rfl : k = kyS1 := by simpa [tbS] using hk
    exact ⟨⟨⟨by decide, by decide⟩, ⟨by decide, by decide⟩, ⟨by decide, by decide⟩, ⟨by decide, by decide⟩, ⟨by decide, by decide⟩, ⟨by decide, by decide⟩, ⟨by decide, by decide⟩⟩, by decide⟩)
  rw [e_t] at hen
  have hks : kv kyS = .agg [ic 0, ic 2, sc vvB, ic 24, ic 10, ic 20, ic 1, ic 0, bC1 false] := rfl
  simp -implicitDefEqProofs only [pkA, ↓reduceIte, Nat.reduceAdd, Nat.reduceBEq]
  refine call_fn («as» := [bb 118]) rfl hval (fun _ => rfl) ?_
  simp -implicitDefEqProofs only [pkA, ptA, ↓reduceIte, Nat.reduceEqDiff, Nat.reduceAdd, Nat.reduceBEq, Nat.reduceMul, Nat.reduceLT, Nat.reduceLeDiff, Nat.zero_add, decide_true]
  have hset9 : ∀ (Z L : List V), Z.length = 9 → L.length = 9 → setV Z 0 L = L := fun Z L h1 h2 => setV_all (by rw [h1, h2])
  have hset2 : ∀ (Z L : List V), Z.length = 2 → L.length = 2 → setV Z 0 L = L := fun Z L h1 h2 => setV_all (by rw [h1, h2])
  have hde : ∀ n : Int, decide (n = n) = true := fun n => by simp
  rw [hset9 _ _ rfl rfl]
  refine call_fn rfl New_ok (fun h => by cases h) ?_
  simp -implicitDefEqProofs only [pkA, ptA, ↓reduceIte, Nat.reduceEqDiff, Nat.reduceAdd, Nat.reduceBEq, Nat.reduceMul, Nat.reduceLT, Nat.zero_add, decide_true]
  refine call_fn («as» := [tv ⟨1, []⟩, kv kyS]) rfl hadd (fun h => by cases h) ?_
  simp -implicitDefEqProofs only [pkA, ptA, ↓reduceIte, Nat.reduceEqDiff, Nat.reduceAdd, Nat.reduceBEq, Nat.reduceMul, Nat.reduceLT, Nat.reduceLeDiff, Nat.zero_add, decide_true]
  rw [hset2 _ _ rfl rfl]
  refine ⟨rfl, lda_tv (t := tbS) (Nat.lt_succ_self 1) ?_⟩
  simp -implicitDefEqProofs only [pkA, ↓reduceIte, Nat.reduceAdd, Nat.reduceBEq]
  refine call_fn («as» := [tv tbS, i64 1, i64 8, i64 9]) rfl h1 (fun h => by cases h) ?_
  simp -implicitDefEqProofs only [pkA, ptA, ↓reduceIte, Nat.reduceEqDiff, Nat.reduceAdd, Nat.reduceBEq, Nat.reduceMul, Nat.reduceLT, Nat.reduceLeDiff, Nat.zero_add, decide_true]
  refine ⟨rfl, ?_⟩
  rw [hset9 _ _ rfl rfl]
  refine call_fn («as» := [tv tbS, i64 1, i64 8, i64 10]) rfl h2 (fun h => by cases h) ?_
  simp -implicitDefEqProofs only [pkA, ptA, ↓reduceIte, Nat.reduceEqDiff, Nat.reduceAdd, Nat.reduceBEq, Nat.reduceMul, Nat.reduceLT, Nat.reduceLeDiff, Nat.zero_add, decide_true]
  refine ⟨rfl, ?_⟩
  rw [hset9 _ _ rfl rfl]
  refine call_fn («as» := [tv tbS, i64 1, i64 8, i64 20]) rfl h3 (fun h => by cases h) ?_
  simp -implicitDefEqProofs only [pkA, ptA, ↓reduceIte, Nat.reduceEqDiff, Nat.reduceAdd, Nat.reduceBEq, Nat.reduceMul, Nat.reduceLT, Nat.reduceLeDiff, Nat.zero_add, decide_true]
  refine ⟨rfl, ?_⟩
  rw [hset9 _ _ rfl rfl]
  refine call_fn («as» := [tv tbS, i64 1, i64 32, i64 10]) rfl h4 (fun h => by cases h) ?_
  simp -implicitDefEqProofs only [pkA, ptA, ↓reduceIte, Nat.reduceEqDiff, Nat.reduceAdd, Nat.reduceBEq, Nat.reduceMul, Nat.reduceLT, Nat.reduceLeDiff, Nat.zero_add, decide_true]
  refine ⟨rfl, ?_⟩
  rw [hset9 _ _ rfl rfl]
  refine call_fn («as» := [tv tbS, i64 2, i64 0, i64 10]) rfl h5 (fun h => by cases h) ?_
  simp -implicitDefEqProofs only [pkA, ptA, ↓reduceIte, Nat.reduceEqDiff, Nat.reduceAdd, Nat.reduceBEq, Nat.reduceMul, Nat.reduceLT, Nat.reduceLeDiff, Nat.zero_add, decide_true]
  refine ⟨rfl, ?_⟩
  rw [hset9 _ _ rfl rfl]
  refine call_fn («as» := [bb 107]) rfl hvak (fun _ => rfl) ?_
  simp -implicitDefEqProofs only [pkA, ptA, ↓reduceIte, Nat.reduceEqDiff, Nat.reduceAdd, Nat.reduceBEq, Nat.reduceMul, Nat.reduceLT, Nat.zero_add, decide_true]
  refine call_fn («as» := [sv kkB, kv kyS]) rfl hbox (fun h => by cases h) ?_
  simp -implicitDefEqProofs only [pkA, ↓reduceIte, Nat.reduceEqDiff, Nat.reduceAdd, Nat.reduceBEq]
  refine call_fn («as» := [bb 107]) rfl hvak (fun _ => rfl) ?_
  simp -implicitDefEqProofs only [pkA, ↓reduceIte, Nat.reduceEqDiff, Nat.reduceAdd, Nat.reduceBEq]
  refine call_fn («as» := [sv kkB, sv boxS]) rfl hub (fun h => by cases h) ?_
  simp -implicitDefEqProofs only [pkA, ptA, ↓reduceIte, Nat.reduceEqDiff, Nat.reduceAdd, Nat.reduceBEq, Nat.reduceMul, Nat.reduceLT, Nat.reduceLeDiff, Nat.zero_add, decide_true]
  refine ⟨rfl, ?_⟩
  rw [hset9 _ _ rfl rfl]
  refine call_fn («as» := [bb 120]) rfl hvax (fun _ => rfl) ?_
  simp -implicitDefEqProofs only [pkA, ↓reduceIte, Nat.reduceEqDiff, Nat.reduceAdd, Nat.reduceBEq]
  refine call_fn («as» := [sv xxB, sv boxS]) rfl hux (fun h => by cases h) ?_
  simp -implicitDefEqProofs only [pkA, ptA, ↓reduceIte, Nat.reduceEqDiff, Nat.reduceAdd, Nat.reduceBEq, Nat.reduceMul, Nat.reduceLT, Nat.reduceLeDiff, Nat.zero_add, decide_true]
  refine ⟨rfl, ?_⟩
  rw [hset9 _ _ rfl rfl]
  refine call_fn («as» := [tv tbS]) rfl hen (fun h => by cases h) ?_
  simp -implicitDefEqProofs only [pkA, ↓reduceIte, Nat.reduceAdd, Nat.reduceBEq]
  refine call_fn («as» := [sv txS]) rfl D_ok (fun h => by cases h) ?_
  simp -implicitDefEqProofs only [pkA, ptA, ↓reduceIte, Nat.reduceEqDiff, Nat.reduceAdd, Nat.reduceBEq, Nat.reduceMul, Nat.reduceLT, Nat.reduceLeDiff, Nat.zero_add, decide_true]
  rw [hset2 _ _ rfl rfl]
  refine lda_kv (show 3 < 10 by decide) ?_
  simp -implicitDefEqProofs only [pkA, ↓reduceIte, Nat.reduceAdd, Nat.reduceBEq]
  refine call_fn («as» := [kv kyS1]) rfl (Describe_ok kyS1 (by decide)) (fun h => by cases h) ?_
  have hnx : tbS.nx = 2 := rfl
  have p0S : ∀ K, partV false 1 0 (kC kyS1) K = K (i64 1) := fun K => rfl
  have pd0 : ∀ K, partV false 1 0 (descB kyS1) K = K (i64 1) := fun K => rfl
  have pd1 : ∀ K, partV false 1 1 (descB kyS1) K = K (i64 2) := fun K => rfl
  have hdl : (descB kyS1).length = 24 := by unfold descB; rw [List.length_append, List.length_map, ofB_len]; rfl
  have hset24 : ∀ (Z : List V), Z.length = 24 → setV Z 0 ((descB kyS1).map V.c) = (descB kyS1).map V.c := fun Z h1 => setV_all (by rw [h1, List.length_map, hdl])
  simp -implicitDefEqProofs only [pkA, ptA, ↓reduceIte, Nat.reduceEqDiff, Nat.reduceAdd, Nat.reduceBEq, Nat.reduceMul, Nat.reduceLT, Nat.zero_add, decide_true, hnx]
  rw [hset24 _ (by simp [zbox_len])]
  refine ⟨rfl, ⟨hdl, by simp [zbox_len]⟩, ?_⟩
  simp -implicitDefEqProofs only [pkA, ptA, ↓reduceIte, Nat.reduceEqDiff, Nat.reduceAdd, Nat.reduceBEq, Nat.reduceMul, Nat.reduceLT, Nat.zero_add, decide_true, p0S, List.append_eq]
  refine lda_kv (show 7 < 11 by decide) ?_
  simp -implicitDefEqProofs only [pkA, ptA, ↓reduceIte, Nat.reduceEqDiff, Nat.reduceAdd, Nat.reduceBEq, Nat.reduceMul, Nat.reduceLT, Nat.zero_add, decide_true]
  refine (b_eq kyS _).mpr ?_
  simp -implicitDefEqProofs only [pkA, ptA, ↓reduceIte, Nat.reduceEqDiff, Nat.reduceAdd, Nat.reduceBEq, Nat.reduceMul, Nat.reduceLT, Nat.zero_add, decide_true]
  refine call_fn («as» := [tv tbS, tv tbS]) rfl (Same_ok tbS (by decide)) (fun _ => rfl) ?_
  simp -implicitDefEqProofs only [pkA, ptA, ↓reduceIte, Nat.reduceEqDiff, Nat.reduceAdd, Nat.reduceBEq, Nat.reduceMul, Nat.reduceLT, Nat.zero_add, decide_true, pd0, pd1]
  have hvk := Valid_ok (G := gl) kyS
  rw [v_k] at hvk
  refine call_fn («as» := [kv kyS]) rfl hvk (fun _ => rfl) ?_
  simp -implicitDefEqProofs only [pkA, ptA, ↓reduceIte, Nat.reduceEqDiff, Nat.reduceAdd, Nat.reduceBEq, Nat.reduceMul, Nat.reduceLT, Nat.zero_add, decide_true]
  have hlv := Live_ok (G := gl) kyS 19
  rw [show liveK kyS 19 = true from rfl] at hlv
  refine call_fn («as» := [kv kyS, i64 19]) rfl hlv (fun _ => rfl) ?_
  simp -implicitDefEqProofs only [pkA, ptA, ↓reduceIte, Nat.reduceEqDiff, Nat.reduceAdd, Nat.reduceBEq, Nat.reduceMul, Nat.reduceLT, Nat.zero_add, decide_true]
  have hhd := Header_ok (G := gl) kyS okS
  rw [h_d] at hhd
  refine call_fn («as» := [kv kyS]) rfl hhd (fun _ => rfl) ?_
  have hd12 : hdB.length = 12 := rfl
  have d5 : decide ((5 : Int) < ((12 : Nat) : Int)) = true := rfl
  simp -implicitDefEqProofs only [pkA, ptA, ↓reduceIte, Nat.reduceEqDiff, Nat.reduceAdd, Nat.reduceBEq, Nat.reduceMul, Nat.reduceLT, Nat.zero_add, decide_true, bs8_size, hd12, d5]
  have hnd := Ended_ok (G := gl) tbS 20 (by decide)
  rw [show endT tbS 20 = [1] from rfl] at hnd
  refine call_fn («as» := [tv tbS, i64 20]) rfl hnd (fun h => by cases h) ?_
  have d6 : decide (((1 : Nat) : Int) = 1) = true := rfl
  simp -implicitDefEqProofs only [pkA, ptA, ↓reduceIte, Nat.reduceEqDiff, Nat.zero_add, mC_len, d6]
end Go.Proofs.YtidlohfkfdeaiaaDoor
