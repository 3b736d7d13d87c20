/- The specification's layer 27: headers, boxes, descriptions. -/
import Derived.Test.YtidlohfkfdeaiaaDoorVlQA
import Derived.Test.YtidlohfkfdeaiaaDoorVlY3
import Derived.Test.YtidlohfkfdeaiaaDoorVlR2
set_option linter.unusedSimpArgs false
set_option linter.unusedVariables false
namespace Go.Proofs.YtidlohfkfdeaiaaDoor
open Go Go.Vl

set_option maxRecDepth 100000 in
set_option maxHeartbeats 1500000 in
theorem rHeader_ok {G : Gl} (k : Ky) (h : k.ok) : FnOK Tryd.prog G 22 [kv k] (sv (headB k)) := by
  refine FnOK_by (rs := [.tmp 2]) false [] mixed Tryd.func22 rfl rfl rfl rfl (by kernel_rfl) (by simp) rfl rfl ?_
  obtain ⟨id, ty, val, us, st, en, ver, par, raw⟩ := k
  obtain ⟨h1, h2, h3, h4, h5, h6, h7⟩ := h
  simp only at h1 h2 h3 h4 h5 h6 h7
  simp -implicitDefEqProofs only [pkA, ptA, ↓reduceIte, Nat.reduceEqDiff, Nat.reduceAdd, Nat.reduceMul, Nat.reduceLT, Nat.reduceLeDiff, Nat.zero_add, decide_true, kv, kC]
  refine call_fn («as» := [.c (.sl (mC ic [ty, us, st, en, ver]))]) rfl (rInts_ok [ty, us, st, en, ver] (by simp) (by simp [h2, h3, h4, h5, h6])) (fun h => by cases h) ?_
  simp -implicitDefEqProofs only [pkA, ↓reduceIte, Nat.reduceAdd, c_bs]
  rfl
theorem sealB_bad {key ad text : B} (h : key.length ≠ 32) : sealB key ad text = ([], 1) := if_pos h
set_option maxRecDepth 100000 in
set_option maxHeartbeats 1500000 in
theorem rBox_ok (key : B) (k : Ky) (hk : key.length ≤ 1000000) (h : k.ok) : FnOK Tryd.prog gl2 20 [sv key, kv k] (.tup [sv (boxB key k).1, i64 (boxB key k).2]) := by
  refine FnOK_by (rs := [.tmp 4, .tmp 5]) false [] mixed Tryd.func20 rfl rfl rfl rfl (by kernel_rfl) (by simp) rfl rfl ?_
  simp -implicitDefEqProofs only [pkA, ptA, ↓reduceIte, Nat.reduceEqDiff, Nat.reduceAdd, Nat.reduceMul, Nat.reduceLT, Nat.zero_add, decide_true]
  refine lda_kv (by decide) ?_
  simp -implicitDefEqProofs only [pkA, ↓reduceIte, Nat.reduceAdd]
  refine call_fn rfl (rValid_ok k h) (fun h => by cases h) ?_
  unfold boxB
  cases hv : validK k
  · simp -implicitDefEqProofs only [pkA, ↓reduceIte, Nat.reduceEqDiff, Nat.reduceAdd]
    refine retV_two ?_ ?_ <;> rfl
  have hvl := valid_len hv
  by_cases hk32 : key.length = 32
  case neg =>
    have d1 : (!decide ((key.length : Int) = 32)) = true := by
      have : ¬ ((key.length : Nat) : Int) = 32 := by omega
      simp [this]
    rw [sealB_bad hk32]
    simp -implicitDefEqProofs only [pkA, ptA, ↓reduceIte, Nat.reduceEqDiff, Nat.reduceAdd, bs8_size, d1]
    refine retV_two ?_ ?_ <;> rfl
  have d1 : (!decide ((key.length : Int) = 32)) = false := by rw [hk32]; rfl
  simp -implicitDefEqProofs only [pkA, ptA, ↓reduceIte, Nat.reduceEqDiff, Nat.reduceAdd, Nat.reduceMul, Nat.reduceLT, decide_true, bs8_size, d1]
  refine lda_kv (by decide) ?_
  simp -implicitDefEqProofs only [pkA, ↓reduceIte, Nat.reduceAdd]
  refine call_fn rfl (rHeader_ok k h) (fun h => by cases h) ?_
  have hhl := headB_len k
  have hhd := rHeader_ok (G := gl2) k h
  generalize headB k = hd at *
  have pv : ∀ K, partV false 1 2 (kC k) K = K (sv k.val) := fun K => rfl
  simp -implicitDefEqProofs only [pkA, ptA, ↓reduceIte, Nat.reduceEqDiff, Nat.reduceAdd, Nat.reduceMul, Nat.reduceLT, Nat.zero_add, decide_true, pv]
  refine call_fn rfl (rSeal_ok key hd k.val hk (by omega) (by omega)) (fun h => by cases h) ?_
  have hsl := sealB_len (key := key) (ad := hd) (text := k.val)
  generalize hse : sealB key hd k.val = se at *
  obtain ⟨x, e⟩ := se
  simp only at hsl
  simp -implicitDefEqProofs only [pkA, ↓reduceIte, Nat.reduceEqDiff, Nat.reduceAdd]
  refine vcond_of (fun he => ?_) (fun he => ?_)
  · have he : e ≠ 0 := by simpa using he
    rw [if_neg he]
    simp -implicitDefEqProofs only [pkA, ↓reduceIte, Nat.reduceEqDiff, Nat.reduceAdd]
    refine retV_two ?_ ?_ <;> rfl
  have he : e = 0 := by simpa using he
  rw [if_pos he]
  have hel := enc_len hd (by omega)
  simp -implicitDefEqProofs only [pkA, ptA, ↓reduceIte, Nat.reduceEqDiff, Nat.reduceAdd, Nat.reduceMul, Nat.reduceLT, decide_true]
  refine lda_kv (by decide) ?_
  simp -implicitDefEqProofs only [pkA, ↓reduceIte, Nat.reduceAdd]
  refine call_fn rfl hhd (fun h => by cases h) ?_
  simp -implicitDefEqProofs only [pkA, ↓reduceIte, Nat.reduceAdd]
  refine call_fn rfl (rBytes_ok hd (by omega)) (fun h => by cases h) ?_
  generalize encB hd = eh at *
  simp -implicitDefEqProofs only [pkA, ↓reduceIte, Nat.reduceEqDiff, Nat.reduceAdd, c_bs]
  refine s_add (by omega) ?_
  simp -implicitDefEqProofs only [pkA, ↓reduceIte]
  refine retV_two ?_ ?_ <;> rfl
theorem rdI_I64 (b : B) : ∀ (n at_ : Nat) (acc : List Int), (∀ x ∈ acc, I64 x) → ∀ x ∈ (rdI b n at_ acc).1, I64 x
  | 0, _, acc, h => h
  | n + 1, at_, acc, h => by
    unfold rdI
    split
    · intro x hx; simp at hx
    · refine rdI_I64 b n _ _ fun x hx => ?_
      rcases List.mem_append.1 hx with hx | hx
      · exact h x hx
      · obtain rfl : x = (getI (b.drop at_)).1 := by simpa using hx
        generalize hg : getI (b.drop at_) = g
        obtain ⟨n', u', e'⟩ := g
        exact (getI_used hg).2.2.1
theorem getIs_I64 (b : B) : ∀ x ∈ (getIs b).1, I64 x := by
  unfold getIs
  split
  · intro x hx; simp at hx
  · exact rdI_I64 b _ _ _ (by simp)
set_option maxRecDepth 100000 in
set_option maxHeartbeats 1500000 in
theorem rUnbox_ok (key box : B) (hk : key.length ≤ 1000000) (hb : box.length ≤ 1000000) : FnOK Tryd.prog gl2 26 [sv key, sv box] (.tup [kv (unboxB key box).1, i64 (unboxB key box).2]) := by
  refine FnOK_by (rs := [.cell 4 26, .tmp 5]) false [200063, 200067, 200070, 200073, 200076, 200014, 301401] mixed Tryd.func26 rfl rfl rfl rfl (by kernel_rfl) (by simp) rfl rfl ?_
  unfold unboxB
  simp -implicitDefEqProofs only [pkA, ptA, ↓reduceIte, Nat.reduceEqDiff, Nat.reduceAdd, Nat.reduceBEq, Nat.zero_add, c_sb]
  refine call_fn rfl (rGetBytes_ok box (by omega)) (fun _ => rfl) ?_
  generalize hg : getB box = g
  obtain ⟨hd, u, e⟩ := g
  simp -implicitDefEqProofs only [pkA, ↓reduceIte, Nat.reduceEqDiff, Nat.reduceAdd, Nat.reduceBEq]
  refine vcond_of (fun he => ?_) (fun he => ?_)
  · have he : e ≠ 0 := by simpa using he
    rw [if_pos he]
    simp -implicitDefEqProofs only [pkA, ptA, ↓reduceIte, Nat.reduceEqDiff, Nat.reduceAdd, Nat.reduceBEq, Nat.reduceMul, Nat.reduceLT, Nat.reduceLeDiff, Nat.zero_add, decide_true]
    exact ret0 rfl rfl rfl
  have he : e = 0 := by simpa using he
  subst he
  rw [if_neg (by simp)]
  obtain ⟨hu, hhd⟩ := getB_ok hg
  simp -implicitDefEqProofs only [pkA, ↓reduceIte, Nat.reduceEqDiff, Nat.reduceAdd, Nat.reduceBEq, decide_true, c_sb]
  refine call_fn rfl (rGetInts_ok hd (by omega)) (fun h => by cases h) ?_
  generalize hg2 : getIs hd = g
  obtain ⟨l, m, e⟩ := g
  simp -implicitDefEqProofs only [pkA, ↓reduceIte, Nat.reduceEqDiff, Nat.reduceAdd, Nat.reduceBEq]
  refine vcond_of (fun he => ?_) (fun he => ?_)
  · have he : e ≠ 0 := by simpa using he
    rw [if_pos he]
    simp -implicitDefEqProofs only [pkA, ptA, ↓reduceIte, Nat.reduceEqDiff, Nat.reduceAdd, Nat.reduceBEq, Nat.reduceMul, Nat.reduceLT, Nat.reduceLeDiff, Nat.zero_add, decide_true]
    exact ret0 rfl rfl rfl
  have he : e = 0 := by simpa using he
  subst he
  rw [if_neg (by simp)]
  simp -implicitDefEqProofs only [pkA, ptA, ↓reduceIte, Nat.reduceEqDiff, Nat.reduceAdd, Nat.reduceBEq, decide_true, bs8_size]
  refine vgd_of (fun h1 => ?_) (fun h1 => ?_)
  case refine_2 =>
    have h1 : m ≠ hd.length := by intro e; rw [e] at h1; simp at h1
    rw [if_pos (Or.inl h1)]
    simp -implicitDefEqProofs only [pkA, ptA, ↓reduceIte, Nat.reduceEqDiff, Nat.reduceAdd, Nat.reduceBEq, Nat.reduceMul, Nat.reduceLT, Nat.reduceLeDiff, Nat.zero_add, decide_true]
    exact ret0 rfl rfl rfl
  have h1 : m = hd.length := by
    have : ((m : Nat) : Int) = hd.length := by simpa using h1
    omega
  simp -implicitDefEqProofs only [pkA, ptA, ↓reduceIte, Nat.reduceEqDiff, Nat.reduceBEq, mC_len]
  refine vcond_of (fun h2 => ?_) (fun h2 => ?_)
  · have h2 : l.length ≠ 5 := by
      intro e; rw [e] at h2; cases h2
    rw [if_pos (Or.inr h2)]
    simp -implicitDefEqProofs only [pkA, ptA, ↓reduceIte, Nat.reduceEqDiff, Nat.reduceAdd, Nat.reduceBEq, Nat.reduceMul, Nat.reduceLT, Nat.reduceLeDiff, Nat.zero_add, decide_true]
    exact ret0 rfl rfl rfl
  have h2 : l.length = 5 := by
    have : ((l.length : Nat) : Int) = 5 := by simpa using h2
    omega
  rw [if_neg (by simp [h1, h2])]
  simp -implicitDefEqProofs only [pkA, ↓reduceIte, Nat.reduceEqDiff, Nat.reduceAdd, Nat.reduceBEq]
  refine sl_sv ti_9 rfl (a := u) (b := box.length) rfl rfl hu (Nat.le_refl _) ?_
  rw [List.take_length]
  simp -implicitDefEqProofs only [pkA, ↓reduceIte, Nat.reduceEqDiff, Nat.reduceAdd, Nat.reduceBEq]
  refine call_fn rfl (rOpen_ok key hd (box.drop u) hk (by omega) (by rw [List.length_drop]; omega)) (fun _ => rfl) ?_
  generalize hg3 : openB key hd (box.drop u) = g
  obtain ⟨v, e⟩ := g
  simp -implicitDefEqProofs only [pkA, ↓reduceIte, Nat.reduceEqDiff, Nat.reduceAdd, Nat.reduceBEq]
  refine vcond_of (fun he => ?_) (fun he => ?_)
  · have he : e ≠ 0 := by simpa using he
    rw [if_pos he]
    simp -implicitDefEqProofs only [pkA, ptA, ↓reduceIte, Nat.reduceEqDiff, Nat.reduceAdd, Nat.reduceBEq, Nat.reduceMul, Nat.reduceLT, Nat.reduceLeDiff, Nat.zero_add, decide_true]
    exact ret0 rfl rfl rfl
  have he : e = 0 := by simpa using he
  subst he
  rw [if_neg (by simp)]
  have hlI := getIs_I64 hd
  rw [hg2] at hlI
  simp only at hlI
  match l, h2 with
  | [a0, a1, a2, a3, a4], _ =>
  have hky : (⟨0, a0, v, a1, a2, a3, a4, 0, false⟩ : Ky).ok := ⟨(show I64 0 by unfold I64; decide), hlI a0 (by simp), hlI a1 (by simp), hlI a2 (by simp), hlI a3 (by simp), hlI a4 (by simp), (show I64 0 by unfold I64; decide)⟩
  have hko : keyOf [a0, a1, a2, a3, a4] v = ⟨0, a0, v, a1, a2, a3, a4, 0, false⟩ := rfl
  rw [hko]
  simp -implicitDefEqProofs only [pkA, ↓reduceIte, Nat.reduceEqDiff, Nat.reduceAdd, Nat.reduceBEq, Nat.zero_add, decide_true]
  refine ia_mC ti_34 rfl ti_3 rfl (k := 0) rfl rfl ?_
  simp -implicitDefEqProofs only [pkA, ptA, ↓reduceIte, Nat.reduceEqDiff, Nat.reduceAdd, Nat.reduceBEq]
  refine ia_mC ti_34 rfl ti_3 rfl (k := 1) rfl rfl ?_
  simp -implicitDefEqProofs only [pkA, ptA, ↓reduceIte, Nat.reduceEqDiff, Nat.reduceAdd, Nat.reduceBEq]
  refine ia_mC ti_34 rfl ti_3 rfl (k := 2) rfl rfl ?_
  simp -implicitDefEqProofs only [pkA, ptA, ↓reduceIte, Nat.reduceEqDiff, Nat.reduceAdd, Nat.reduceBEq]
  refine ia_mC ti_34 rfl ti_3 rfl (k := 3) rfl rfl ?_
  simp -implicitDefEqProofs only [pkA, ptA, ↓reduceIte, Nat.reduceEqDiff, Nat.reduceAdd, Nat.reduceBEq]
  refine ia_mC ti_34 rfl ti_3 rfl (k := 4) rfl rfl ?_
  simp -implicitDefEqProofs only [pkA, ptA, ↓reduceIte, Nat.reduceEqDiff, Nat.reduceAdd, Nat.reduceBEq, Nat.reduceMul, Nat.reduceLT, Nat.reduceLeDiff, Nat.zero_add, decide_true]
  have hset : ∀ Z : List V, Z.length = 9 → setV Z 0 [V.c (.lit (.int .i64 0)), V.c (ic a0), V.c (.lit (.string (bs8 v))), V.c (ic a1), V.c (ic a2), V.c (ic a3), V.c (ic a4), V.c (.lit (.int .i64 0)), V.c (.lit (.bool false))] = (kC ⟨0, a0, v, a1, a2, a3, a4, 0, false⟩).map V.c := fun Z h => setV_all (by rw [h]; rfl)
  rw [hset _ rfl]
  generalize (⟨0, a0, v, a1, a2, a3, a4, 0, false⟩ : Ky) = ky at *
  refine ⟨rfl, lda_kv (Nat.lt_succ_self 1) ?_⟩
  simp -implicitDefEqProofs only [pkA, ↓reduceIte, Nat.reduceAdd, Nat.reduceBEq]
  refine call_fn rfl (rValid_ok ky hky) (fun _ => rfl) ?_
  have hs2 : ∀ Z : List V, Z.length = 9 → setV Z 0 ((kC ky).map V.c) = (kC ky).map V.c := fun Z h => setV_all (by rw [h]; rfl)
  cases hv : validK ky
  · simp -implicitDefEqProofs only [pkA, ptA, ↓reduceIte, Nat.reduceEqDiff, Nat.reduceAdd, Nat.reduceBEq, Nat.reduceMul, Nat.reduceLT, Nat.reduceLeDiff, Nat.zero_add, decide_true]
    exact ret0' rfl (Nat.zero_lt_succ _) rfl rfl
  · simp -implicitDefEqProofs only [pkA, ptA, ↓reduceIte, Nat.reduceEqDiff, Nat.reduceAdd, Nat.reduceBEq, Nat.reduceMul, Nat.reduceLT, decide_true]
    refine lda_kv (Nat.lt_succ_self 1) ?_
    simp -implicitDefEqProofs only [pkA, ptA, ↓reduceIte, Nat.reduceEqDiff, Nat.reduceAdd, Nat.reduceBEq, Nat.reduceMul, Nat.reduceLT, Nat.reduceLeDiff, Nat.zero_add, decide_true, kv]
    rw [hs2 _ rfl]
    exact ⟨rfl, ret0' rfl (Nat.zero_lt_succ _) rfl rfl⟩
set_option maxRecDepth 100000 in
set_option maxHeartbeats 1500000 in
theorem rDescribe_ok (k : Ky) (hl : k.val.length ≤ 1000000) : FnOK Tryd.prog gl2 24 [kv k] (.agg (descB k)) := by
  refine FnOK_by (rs := [.cell 2 43]) false [] mixed Tryd.func24 rfl rfl rfl rfl (by kernel_rfl) (by simp) rfl rfl ?_
  obtain ⟨id, ty, val, us, st, en, ver, par, raw⟩ := k
  simp only at hl
  have htot : tot [val] ≤ 100000000 := by have := enc_len val (by omega); simp [tot]; omega
  simp -implicitDefEqProofs only [pkA, ptA, ↓reduceIte, Nat.reduceEqDiff, Nat.reduceAdd, Nat.reduceMul, Nat.reduceLT, Nat.reduceLeDiff, Nat.zero_add, decide_true, kv, kC]
  refine call_fn («as» := [i64 ((10 : Nat) : Int), .c (.sl (mC sc [val]))]) rfl (rOf_ok 10 [val] (by simp) htot) (fun h => by cases h) ?_
  rw [← ofB_eq (by omega)]
  have hd : descB ⟨id, ty, val, us, st, en, ver, par, raw⟩ = [ic id, ic ty, ic us, ic st, ic en, ic ver, ic par, bC1 raw] ++ (ofB 10 [val]).map bc := rfl
  rw [hd]
  have hl := ofB_len 10 [val]
  generalize ofB 10 [val] = o at *
  simp -implicitDefEqProofs only [pkA, ptA, ↓reduceIte, Nat.reduceEqDiff, Nat.reduceAdd, Nat.reduceMul, Nat.reduceLT, Nat.reduceLeDiff, Nat.zero_add, decide_true, List.length_map, hl, List.append_nil]
  have hall : ∀ ds : List V, ds.length = 24 → setV (zbox 7 (V.c (.lit (.int .i64 0))) ++ [V.c (.lit (.bool false))] ++ zbox 16 (V.c (.lit (.int .u8 0)))) 0 ds = ds := fun ds h => setV_all (by simp [zbox_len, h])
  rw [hall _ (by simp [hl])]
  refine ⟨rfl, by simp [zbox_len], rfl, ?_⟩
  have e : V.c (ic id) :: V.c (ic ty) :: V.c (ic us) :: V.c (ic st) :: V.c (ic en) :: V.c (ic ver) :: V.c (ic par) :: V.c (bC1 raw) :: List.map V.c (List.map bc o) = cl _root_.id ([ic id, ic ty, ic us, ic st, ic en, ic ver, ic par, bC1 raw] ++ o.map bc) := by simp [cl]
  rw [e]
  exact ldA_cl (by decide) (by simp [hl]) (by rw [List.map_id]; rfl)
end Go.Proofs.YtidlohfkfdeaiaaDoor
