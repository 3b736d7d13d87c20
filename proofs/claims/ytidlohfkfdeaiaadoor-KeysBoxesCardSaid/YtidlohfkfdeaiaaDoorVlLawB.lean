/- The statement of KeysBoxes. -/
import Derived.Test.YtidlohfkfdeaiaaDoorVlQB
import Derived.Test.YtidlohfkfdeaiaaDoorVlBp
import Derived.Test.YtidlohfkfdeaiaaDoorVlR3
import Derived.Test.YtidlohfkfdeaiaaDoorVlSan
set_option linter.unusedSimpArgs false
set_option linter.unusedVariables false
namespace Go.Proofs.YtidlohfkfdeaiaaDoor
open Go Go.Vl

theorem eqCs_app : ∀ (k1 k2 : List Vl.EK) (c1 c2 : List C), c1.length = k1.length → eqCs k1 c1 c1 = some true → eqCs k2 c2 c2 = some true → eqCs (k1 ++ k2) (c1 ++ c2) (c1 ++ c2) = some true
  | [], k2, [], c2, _, _, h => h
  | [], _, _ :: _, _, h, _, _ => by simp at h
  | _ :: _, _, [], _, h, _, _ => by simp at h
  | k :: k1, k2, c :: c1, c2, hl, h1, h2 => by
    simp only [eqCs] at h1
    simp only [List.cons_append, eqCs]
    cases he : eqC k c c with
    | none => rw [he] at h1; simp at h1
    | some p =>
      cases hr : eqCs k1 c1 c1 with
      | none => rw [he, hr] at h1; simp at h1
      | some q =>
        rw [he, hr] at h1
        simp only [Option.some.injEq, Bool.and_eq_true] at h1
        have := eqCs_app k1 k2 c1 c2 (by simpa using hl) (by rw [hr, h1.2]) h2
        rw [this, h1.1]; rfl
theorem eqCs_bytes : ∀ o : B, eqCs (List.replicate o.length .int) (o.map bc) (o.map bc) = some true
  | [] => rfl
  | x :: o => by
    simp only [List.length_cons, List.replicate_succ, List.map_cons, eqCs, eqC, eqCs_bytes o, if_true, decide_true, Bool.and_self]
theorem eq_made (k : Ky) : eqCs [.int, .int, .int, .int, .int, .int, .int, .bool, .int, .int, .int, .int, .int, .int, .int, .int, .int, .int, .int, .int, .int, .int, .int, .int] (descB k) (descB k) = some true := by
  have hl := ofB_len 10 [k.val]
  have h2 := eqCs_bytes (ofB 10 [k.val])
  rw [hl] at h2
  unfold descB
  generalize (ofB 10 [k.val]).map bc = z at *
  exact eqCs_app [.int, .int, .int, .int, .int, .int, .int, .bool] (List.replicate 16 .int) [ic k.id, ic k.ty, ic k.uses, ic k.st, ic k.en, ic k.ver, ic k.par, bC1 k.raw] z rfl (by simp [eqCs, eqC]) h2
theorem made_len (k : Ky) : (descB k).length = 24 := by
  unfold descB
  rw [List.length_append, List.length_map, ofB_len]; rfl
theorem made_ne (k : Ky) (K : V → Prop) : vbin Tryd.prog .neq 43 (.agg (descB k)) (.agg (descB k)) K = K (bo false) := vbin_neq ti_43 rfl rfl (eq_made k) (made_len k) (made_len k)
set_option maxRecDepth 100000 in
set_option maxHeartbeats 3000000 in
theorem lawBoxes_ok (key : B) (k : Ky) (hk : k.ok) : FnOK Tryd.prog gl2 4 [sv key, kv k] (bo true) := by
  refine FnOK_by (rs := [.tmp 4]) false [] mixed Tryd.func4 rfl rfl rfl rfl (by kernel_rfl) (by simp) rfl rfl ?_
  have hset : ∀ (k : Ky) (l : List V), l.length = 9 → setV l 0 ((kC k).map V.c) = (kC k).map V.c := fun k l h => setV_all (by rw [h]; rfl)
  have hde : ∀ n : Int, decide (n = n) = true := fun n => by simp
  have hdb : ∀ b : B, decide (b = b) = true := fun n => by simp
  have d00 : (!decide ((0 : Int) = 0)) = false := rfl
  have pv : ∀ K, partV false 1 2 (kC k) K = K (sv k.val) := fun K => rfl
  have hsan := up2 sanity_ok
  simp -implicitDefEqProofs only [pkA, ptA, ↓reduceIte, Nat.reduceEqDiff, Nat.reduceAdd, Nat.zero_add, bs8_size]
  cases d1 : decide ((100 : Int) < (key.length : Nat))
  case true =>
    simp -implicitDefEqProofs only [pkA, ↓reduceIte, Nat.reduceEqDiff, Nat.reduceAdd]
    refine call_fn rfl hsan (fun _ => rfl) ?_
    simp -implicitDefEqProofs only [pkA, ↓reduceIte]
  simp -implicitDefEqProofs only [pkA, ptA, ↓reduceIte, Nat.reduceEqDiff, Nat.reduceAdd, Nat.reduceMul, Nat.reduceLT, Nat.zero_add, decide_true, pv, bs8_size]
  cases d2 : decide ((100 : Int) < (k.val.length : Nat))
  case true =>
    simp -implicitDefEqProofs only [pkA, ↓reduceIte, Nat.reduceAdd]
    refine call_fn rfl hsan (fun _ => rfl) ?_
    simp -implicitDefEqProofs only [pkA, ↓reduceIte]
  have h1 : key.length ≤ 100 := by have := of_decide_eq_false d1; omega
  have h2 : k.val.length ≤ 100 := by have := of_decide_eq_false d2; omega
  have hB := up2 (Box_ok key k (by omega) hk)
  have hR := rBox_ok key k (by omega) hk
  have hU := unbox_box (key := key) (k := k) hk
  have hbl : (boxB key k).1.length ≤ 1000000 := by
    have e1 := headB_len k
    have e2 := enc_len (headB k) (by omega)
    have e3 := sealB_len (key := key) (ad := headB k) (text := k.val)
    rw [boxB_def]
    split
    · split
      · simp only [List.length_append]; omega
      · simp
    · simp
  have hUn := up2 (Unbox_ok key (boxB key k).1 (by omega) hbl)
  generalize boxB key k = r at *
  obtain ⟨s, e⟩ := r
  simp only at hU hUn hbl
  simp -implicitDefEqProofs only [pkA, ptA, ↓reduceIte, Nat.reduceEqDiff, Nat.reduceAdd, Nat.reduceMul, Nat.reduceLT, decide_true]
  refine lda_kv (by decide) ?_
  simp -implicitDefEqProofs only [pkA, ↓reduceIte, Nat.reduceEqDiff, Nat.reduceAdd]
  refine call_fn rfl hB (fun h => by cases h) ?_
  simp -implicitDefEqProofs only [pkA, ptA, ↓reduceIte, Nat.reduceEqDiff, Nat.reduceAdd, Nat.reduceMul, Nat.reduceLT, decide_true]
  refine lda_kv (by decide) ?_
  simp -implicitDefEqProofs only [pkA, ↓reduceIte, Nat.reduceEqDiff, Nat.reduceAdd]
  refine call_fn rfl hR (fun h => by cases h) ?_
  simp -implicitDefEqProofs only [pkA, ptA, ↓reduceIte, Nat.reduceEqDiff, Nat.reduceAdd, Nat.reduceMul, Nat.reduceLT, decide_true]
  refine lda_kv (by decide) ?_
  simp -implicitDefEqProofs only [pkA, ↓reduceIte, Nat.reduceEqDiff, Nat.reduceAdd]
  refine call_fn rfl (Header_ok k hk) (fun h => by cases h) ?_
  simp -implicitDefEqProofs only [pkA, ptA, ↓reduceIte, Nat.reduceEqDiff, Nat.reduceAdd, Nat.reduceMul, Nat.reduceLT, decide_true]
  refine lda_kv (by decide) ?_
  simp -implicitDefEqProofs only [pkA, ↓reduceIte, Nat.reduceEqDiff, Nat.reduceAdd]
  refine call_fn rfl (rHeader_ok k hk) (fun h => by cases h) ?_
  simp -implicitDefEqProofs only [pkA, ptA, ↓reduceIte, Nat.reduceEqDiff, Nat.reduceAdd, Nat.reduceMul, Nat.reduceLT, decide_true]
  refine lda_kv (by decide) ?_
  simp -implicitDefEqProofs only [pkA, ↓reduceIte, Nat.reduceEqDiff, Nat.reduceAdd]
  refine call_fn rfl (up2 (Describe_ok k (by omega))) (fun h => by cases h) ?_
  simp -implicitDefEqProofs only [pkA, ptA, ↓reduceIte, Nat.reduceEqDiff, Nat.reduceAdd, Nat.reduceMul, Nat.reduceLT, decide_true]
  refine lda_kv (by decide) ?_
  simp -implicitDefEqProofs only [pkA, ↓reduceIte, Nat.reduceEqDiff, Nat.reduceAdd]
  refine call_fn rfl (rDescribe_ok k (by omega)) (fun h => by cases h) ?_
  simp -implicitDefEqProofs only [pkA, ↓reduceIte, Nat.reduceEqDiff]
  refine (made_ne k _).mpr ?_
  simp -implicitDefEqProofs only [pkA, ↓reduceIte, Nat.reduceEqDiff, Nat.reduceAdd]
  by_cases he : e = 0
  case neg =>
    have d : (!decide (e = 0)) = true := by simp [he]
    simp -implicitDefEqProofs only [pkA, ↓reduceIte, Nat.reduceAdd, d]
    refine call_fn rfl hsan (fun _ => rfl) ?_
    simp -implicitDefEqProofs only [pkA, ↓reduceIte]
  subst he
  rw [hU rfl] at hUn
  simp -implicitDefEqProofs only [pkA, ↓reduceIte, Nat.reduceEqDiff, Nat.reduceAdd, decide_true]
  refine call_fn rfl hUn (fun h => by cases h) ?_
  simp -implicitDefEqProofs only [pkA, ptA, ↓reduceIte, Nat.reduceEqDiff, Nat.reduceAdd, Nat.reduceMul, Nat.reduceLT, Nat.reduceLeDiff, Nat.zero_add, decide_true]
  refine ⟨kC_len _, ?_⟩
  rw [hset _ _ rfl]
  have q1 : ∀ K, partV false 1 1 (kC k) K = K (i64 k.ty) := fun K => rfl
  have q3 : ∀ K, partV false 1 3 (kC k) K = K (i64 k.uses) := fun K => rfl
  have q4 : ∀ K, partV false 1 4 (kC k) K = K (i64 k.st) := fun K => rfl
  have q5 : ∀ K, partV false 1 5 (kC k) K = K (i64 k.en) := fun K => rfl
  have q6 : ∀ K, partV false 1 6 (kC k) K = K (i64 k.ver) := fun K => rfl
  simp -implicitDefEqProofs only [pkA, ptA, ↓reduceIte, Nat.reduceEqDiff, Nat.reduceAdd, Nat.reduceMul, Nat.reduceLT, Nat.reduceLeDiff, Nat.zero_add, decide_true, q1, q3, q4, q5, q6, pv]
  have hw : ∀ l : List V, l.length = 9 → setV l 0 [i64 0, i64 k.ty, sv k.val, i64 k.uses, i64 k.st, i64 k.en, i64 k.ver, i64 0, bo false] = (kC (wantK k)).map V.c := fun l h => hset (wantK k) l h
  rw [hw _ rfl]
  refine call_fn rfl hsan (fun _ => rfl) ?_
  simp -implicitDefEqProofs only [pkA, ptA, ↓reduceIte, Nat.reduceEqDiff, Nat.reduceAdd, Nat.reduceMul, Nat.reduceLT, decide_true]
  refine lda_kv (show 1 < 3 by decide) ?_
  simp -implicitDefEqProofs only [pkA, ptA, ↓reduceIte, Nat.reduceEqDiff, Nat.reduceAdd, Nat.reduceMul, Nat.reduceLT, decide_true]
  refine lda_kv (show 2 < 3 by decide) ?_
  simp -implicitDefEqProofs only [pkA, ↓reduceIte, Nat.reduceEqDiff]
  refine (b_eq (wantK k) _).mpr ?_
  simp -implicitDefEqProofs only [pkA, ↓reduceIte, Nat.reduceEqDiff]
end Go.Proofs.YtidlohfkfdeaiaaDoor
