/- The specification's layer 3: the state, a block, a text. -/
import Derived.Test.YtidlohfkfdeaiaaDoorVlQ8
set_option linter.unusedSimpArgs false
set_option linter.unusedVariables false
namespace Go.Proofs.YtidlohfkfdeaiaaDoor
open Go Go.Vl

variable {G : Gl}
theorem stP_ctr {kw nw : List W} {ctr : W} (hk : kw.length = 8) : (stP kw 0 nw 8 0).set 12 ctr = stP kw ctr nw 8 0 := by
  unfold stP
  have h8 : (fill (0 : W) 8 kw 8).length = 8 := fill_len (by omega) (by omega)
  rw [List.set_append_right _ _ (by rw [c4_len]; decide), c4_len, List.set_append_right _ _ (by rw [h8]; decide), h8]
  rfl
theorem stP_zero {kw nw : List W} : setV (setV (setV (setV (zbox 16 (V.c (C.lit (Value.int IntKind.u32 0)))) 0 [V.c (C.lit (Value.int IntKind.u32 1634760805))]) 1 [V.c (C.lit (Value.int IntKind.u32 857760878))]) 2 [V.c (C.lit (Value.int IntKind.u32 2036477234))]) 3 [V.c (C.lit (Value.int IntKind.u32 1797285236))] = cl wc (stP kw 0 nw 0 0) := by
  simp only [stP, fill_zero]; rfl
set_option maxRecDepth 100000 in
set_option maxHeartbeats 2500000 in
theorem rState_ok (key nonce : B) (ctr : W) (hk : key.length = 32) (hn : nonce.length = 12) : FnOK Tryd.prog G 100 [sv key, wv ctr, sv nonce] (.tup [.agg ((stW key ctr nonce).map wc), i64 0]) := by
  refine FnOK_by (rs := [.cell 6 124, .tmp 7]) false [] mixed Tryd.func100 rfl rfl rfl rfl (by kernel_rfl) (by simp) rfl rfl ?_
  have d1 : (!decide (((32 : Nat) : Int) = 32)) = false := by decide
  have d2 : (!decide (((12 : Nat) : Int) = 12)) = false := by decide
  have hzb : zbox 16 (.c (.lit (.int .u32 0))) = cl wc (List.replicate 16 0) := zbox_cl (f := wc) (x := (0 : W))
  have hkl := leWs_len 8 key
  have hnl := leWs_len 3 nonce
  have hka := fun i h => leWs_at 8 key i h
  have hna := fun i h => leWs_at 3 nonce i h
  rw [← stP_all]
  generalize leWs 8 key = kw at *
  generalize leWs 3 nonce = nw at *
  simp -implicitDefEqProofs only [pkA, ptA, ↓reduceIte, Nat.reduceEqDiff, Nat.reduceAdd, Nat.zero_add, bs8_size, hk, hn, d1, d2]
  refine ia_cl ti_124 rfl ti_99 rfl (k := 0) rfl (by decide) ?_
  simp -implicitDefEqProofs only [pkA, ptA, ↓reduceIte, Nat.reduceEqDiff, Nat.reduceAdd, Nat.reduceMul, Nat.reduceLT, Nat.reduceLeDiff, Nat.zero_add, decide_true, isMb_zbox, zbox_len]
  refine ia_cl ti_124 rfl ti_99 rfl (k := 1) rfl (by decide) ?_
  simp -implicitDefEqProofs only [pkA, ptA, ↓reduceIte, Nat.reduceEqDiff, Nat.reduceAdd, Nat.reduceMul, Nat.reduceLT, Nat.zero_add, decide_true]
  refine ⟨rfl, Nat.le_of_ble_eq_true rfl, ?_⟩
  refine ia_cl ti_124 rfl ti_99 rfl (k := 2) rfl (by decide) ?_
  simp -implicitDefEqProofs only [pkA, ptA, ↓reduceIte, Nat.reduceEqDiff, Nat.reduceAdd, Nat.reduceMul, Nat.reduceLT, Nat.zero_add, decide_true]
  refine ⟨rfl, Nat.le_of_ble_eq_true rfl, ?_⟩
  refine ia_cl ti_124 rfl ti_99 rfl (k := 3) rfl (by decide) ?_
  simp -implicitDefEqProofs only [pkA, ptA, ↓reduceIte, Nat.reduceAdd, Nat.reduceMul, Nat.reduceLT, Nat.zero_add, decide_true]
  refine ⟨rfl, Nat.le_of_ble_eq_true rfl, ?_⟩
  rw [stP_zero (kw := kw) (nw := nw)]
  refine run_loop (fun i : Nat => hdS [(0, sv key), (1, wv ctr), (2, sv nonce), (6, .bp 0 0), (8, .bp 1 0), (9, i64 (i : Nat))] [zbox 16 (.c (.lit (.int .u32 0))), cl wc (stP kw 0 nw i 0)]) (fun i => 8 - i) (fun i => i ≤ 8) 0 (Nat.zero_le _) ?_ ?_
  · refine le_hd (by simp only [leOk, List.all_cons, List.all_nil, hzb, cl_ltB, List.length_cons, List.length_nil]; rfl) (Nat.zero_le _) (by simp) (by simp [FL, up_apply]) (by simp [BL, up_apply])
  rintro i hi R hnorm hexit hret
  have hwi := wrap_of (n := (i : Int) + 1) (k := i + 1) (by omega) (by omega)
  simp -implicitDefEqProofs only [pkA, ↓reduceIte, Nat.reduceEqDiff, Nat.reduceAdd, Nat.zero_add]
  refine vcond_of (fun hlt => ?_) (fun hge => ?_)
  · have hlt : i < 8 := by have := dlt hlt; omega
    have w4 := wrap_of (n := 4 + (i : Int)) (k := 4 + i) (by omega) (by omega)
    have wm := wrap_of (n := 4 * (i : Int)) (k := 4 * i) (by omega) (by omega)
    have hsl : (stP kw 0 nw i 0).length = 16 := stP_len ⟨by omega, by omega⟩ ⟨by omega, by omega⟩
    simp -implicitDefEqProofs only [pkA, ↓reduceIte, Nat.reduceEqDiff, Nat.reduceAdd, w4, wm]
    refine sl_sv ti_9 rfl (a := 4 * i) (b := key.length) rfl rfl (by omega) (Nat.le_refl _) ?_
    rw [List.take_length]
    simp -implicitDefEqProofs only [pkA, ↓reduceIte, Nat.reduceAdd]
    refine call_fn rfl (word_at key (4 * i) (by omega)) (fun _ => rfl) ?_
    simp -implicitDefEqProofs only [pkA, ↓reduceIte, Nat.reduceEqDiff]
    refine ia_cl ti_124 rfl ti_99 rfl rfl (k := 4 + i) (by omega) ?_
    simp -implicitDefEqProofs only [pkA, ptA, ↓reduceIte, Nat.reduceEqDiff, Nat.reduceAdd, Nat.reduceMul, Nat.reduceLT, Nat.zero_add, decide_true, isMb_cl, cl_len, hwi]
    rw [setV_cl (by omega), stP_set1 (hka i hlt) hlt]
    refine ⟨by omega, ?_⟩
    exact hnorm (i + 1) _ hlt (by omega) (le_hd (by simp only [leOk, List.all_cons, List.all_nil, hzb, cl_ltB, List.length_cons, List.length_nil]; rfl) (Nat.zero_le _) (by simp) (by simp [FL, up_apply]) (by simp [BL, up_apply, bxs]))
  have hi8 : i = 8 := by have := dge hge; omega
  subst hi8
  simp -implicitDefEqProofs only [pkA]
  refine hexit _ _ ?_
  clear hexit hnorm hret hge hwi hi R
  have hsl : (stP kw 0 nw 8 0).length = 16 := stP_len ⟨by omega, by omega⟩ ⟨by omega, by omega⟩
  simp -implicitDefEqProofs only [pkA, ↓reduceIte, Nat.reduceEqDiff, Nat.reduceAdd]
  refine ia_cl ti_124 rfl ti_99 rfl (k := 12) rfl (by decide) ?_
  simp -implicitDefEqProofs only [pkA, ptA, ↓reduceIte, Nat.reduceEqDiff, Nat.reduceAdd, Nat.reduceMul, Nat.reduceLT, Nat.zero_add, decide_true, isMb_cl, cl_len]
  refine ⟨by omega, ?_⟩
  rw [setV_cl (by omega), stP_ctr hkl]
  refine run_loop (fun i : Nat => hdS [(0, sv key), (2, sv nonce), (6, .bp 0 0), (8, .bp 1 0), (10, i64 (i : Nat))] [zbox 16 (.c (.lit (.int .u32 0))), cl wc (stP kw ctr nw 8 i)]) (fun i => 3 - i) (fun i => i ≤ 3) 0 (Nat.zero_le _) ?_ ?_
  · refine le_hd (by simp only [leOk, List.all_cons, List.all_nil, hzb, cl_ltB, List.length_cons, List.length_nil]; rfl) (Nat.zero_le _) (by simp) (by simp [FL, up_apply]) (by simp [BL, up_apply, bxs])
  rintro i hi R hnorm hexit hret
  have hwi := wrap_of (n := (i : Int) + 1) (k := i + 1) (by omega) (by omega)
  have hsl : (stP kw ctr nw 8 i).length = 16 := stP_len ⟨by omega, by omega⟩ ⟨by omega, by omega⟩
  simp -implicitDefEqProofs only [pkA, ↓reduceIte, Nat.reduceEqDiff, Nat.reduceAdd, Nat.zero_add]
  refine vcond_of (fun hlt => ?_) (fun hge => ?_)
  · have hlt : i < 3 := by have := dlt hlt; omega
    have w4 := wrap_of (n := 13 + (i : Int)) (k := 13 + i) (by omega) (by omega)
    have wm := wrap_of (n := 4 * (i : Int)) (k := 4 * i) (by omega) (by omega)
    simp -implicitDefEqProofs only [pkA, ↓reduceIte, Nat.reduceEqDiff, Nat.reduceAdd, w4, wm]
    refine sl_sv ti_9 rfl (a := 4 * i) (b := nonce.length) rfl rfl (by omega) (Nat.le_refl _) ?_
    rw [List.take_length]
    simp -implicitDefEqProofs only [pkA, ↓reduceIte, Nat.reduceAdd]
    refine call_fn rfl (word_at nonce (4 * i) (by omega)) (fun _ => rfl) ?_
    simp -implicitDefEqProofs only [pkA, ↓reduceIte, Nat.reduceEqDiff]
    refine ia_cl ti_124 rfl ti_99 rfl rfl (k := 13 + i) (by omega) ?_
    simp -implicitDefEqProofs only [pkA, ptA, ↓reduceIte, Nat.reduceEqDiff, Nat.reduceAdd, Nat.reduceMul, Nat.reduceLT, Nat.zero_add, decide_true, isMb_cl, cl_len, hwi]
    rw [setV_cl (by omega), stP_set2 hkl (hna i hlt) hlt]
    refine ⟨by omega, ?_⟩
    exact hnorm (i + 1) _ hlt (by omega) (le_hd (by simp only [leOk, List.all_cons, List.all_nil, hzb, cl_ltB, List.length_cons, List.length_nil]; rfl) (Nat.zero_le _) (by simp) (by simp [FL, up_apply]) (by simp [BL, up_apply, bxs]))
  have hi8 : i = 3 := by have := dge hge; omega
  subst hi8
  simp -implicitDefEqProofs only [pkA]
  refine hexit _ _ ?_
  clear hexit hnorm hret hge hwi hi R
  simp -implicitDefEqProofs only [pkA, ptA, ↓reduceIte, Nat.reduceEqDiff, Nat.reduceAdd, Nat.reduceMul, Nat.reduceLT, decide_true, isMb_cl]
  refine ldA_cl (by decide) hsl ?_
  have hset2 : setV (zbox 16 (V.c (C.lit (Value.int IntKind.u32 0)))) 0 (cl wc (stP kw ctr nw 8 3)) = cl wc (stP kw ctr nw 8 3) := setV_all (by rw [cl_len, hsl, zbox_len])
  simp -implicitDefEqProofs only [pkA, ptA, ↓reduceIte, Nat.reduceEqDiff, Nat.reduceAdd, Nat.reduceMul, Nat.reduceLT, Nat.reduceLeDiff, Nat.zero_add, decide_true, isMb_zbox, zbox_len, stP_fold, hset2, List.length_map, hsl]
  refine retV_ct ?_ rfl
  simp -implicitDefEqProofs only [resV, pkA, ptA, ↓reduceIte, Nat.reduceEqDiff, isMb_cl]
  exact ldA_cl (by decide) hsl rfl
set_option maxRecDepth 100000 in
theorem apLe {E : Option (TypeId × Nat)} {l : B} {x : W} {K : V → Prop} (h0 : E = none ∨ E = EB) (hl : l.length + 4 ≤ 140737488355328) (hK : K (.ow EB (bC (l ++ leB x)))) : vappend Tryd.prog 71 (.ow E (bC l)) (.c (.sl [[bc (lo8 x)], [bc (lo8 (x >>> 8))], [bc (lo8 (x >>> 16))], [bc (lo8 (x >>> 24))]])) K :=
  app_bC (m := leB x) ti_71 rfl ti_5 rfl rfl rfl h0 hl hK
set_option maxRecDepth 100000 in
set_option maxHeartbeats 2500000 in
theorem rBlock_ok (key nonce : B) (ctr : W) (hk : key.length = 32) (hn : nonce.length = 12) : FnOK Tryd.prog G 101 [sv key, wv ctr, sv nonce] (.tup [sv (blockB key ctr nonce), i64 0]) := by
  refine FnOK_by (rs := [.tmp 6, .tmp 7]) false [37] mixed Tryd.func101 rfl rfl rfl rfl (by kernel_rfl) (by simp) rfl rfl ?_
  simp -implicitDefEqProofs only [pkA, ↓reduceIte, Nat.reduceEqDiff, Nat.reduceAdd, Nat.reduceBEq, Nat.zero_add]
  refine call_fn rfl (rState_ok key nonce ctr hk hn) (fun _ => flat_st0) ?_
  have hS := stW_len (key := key) (ctr := ctr) (nonce := nonce)
  have hBe : blockB key ctr nonce = leL (blkW (stW key ctr nonce)) := rfl
  rw [hBe]
  generalize stW key ctr nonce = S at *
  have d00 : (!decide ((0 : Int) = 0)) = false := rfl
  have hset : ∀ A : List W, A.length = 16 → setV (zbox 16 (V.c (C.lit (Value.int IntKind.u32 0)))) 0 (cl wc A) = cl wc A := fun A h => setV_all (by rw [cl_len, h, zbox_len])
  simp -implicitDefEqProofs only [pkA, ptA, ↓reduceIte, Nat.reduceEqDiff, Nat.reduceAdd, Nat.reduceBEq, Nat.reduceMul, Nat.reduceLT, Nat.reduceLeDiff, Nat.zero_add, decide_true, isMb_cl, isMb_zbox, zbox_len, stP_fold, hset S hS, List.length_map, hS]
  refine ldA_cl (by decide) hS ?_
  simp -implicitDefEqProofs only [pkA, ↓reduceIte, Nat.reduceAdd, Nat.reduceBEq]
  refine call_fn rfl (rRounds_ok S hS) (fun h => by cases h) ?_
  have hL := leL_len (blkW S)
  have hW := blkW_len hS
  have hD : (dblS S 10).length = 16 := by rw [dblS_len, hS]
  have hx : ∀ i x y, (dblS S 10)[i]? = some x → S[i]? = some y → (blkW S)[i]? = some (y + x) := fun i x y h1 h2 => by
    unfold blkW; rw [List.getElem?_zipWith, h1, h2, BitVec.add_comm]
  generalize blkW S = B0 at *
  generalize dblS S 10 = D at *
  simp -implicitDefEqProofs only [pkA, ptA, ↓reduceIte, Nat.reduceEqDiff, Nat.reduceAdd, Nat.reduceBEq, Nat.reduceMul, Nat.reduceLT, Nat.reduceLeDiff, Nat.zero_add, decide_true, isMb_zbox, zbox_len, stP_fold, hset D hD, List.length_map, hD]
  refine run_loop (fun x : Nat × Option (TypeId × Nat) => hdS [(8, .bp 0 0), (10, .bp 1 0), (11, .ow x.2 (bC ((leL B0).take (4 * x.1)))), (12, i64 (x.1 : Int))] [cl wc S, cl wc D]) (fun x => 16 - x.1) (fun x => x.1 ≤ 16 ∧ (x.2 = none ∨ x.2 = EB)) (0, none) ⟨Nat.zero_le _, Or.inl rfl⟩ ?_ ?_
  · refine le_hd (by simp only [leOk, List.all_cons, List.all_nil, cl_ltB, List.length_cons, List.length_nil]; rfl) (Nat.zero_le _) (by simp) (by simp [FL, up_apply]; rfl) (by simp [BL, up_apply])
  rintro ⟨i, E⟩ ⟨hi, hE⟩ R hnorm hexit hret
  simp only at hi hE
  have hwi := wrap_of (n := (i : Int) + 1) (k := i + 1) (by omega) (by omega)
  simp -implicitDefEqProofs only [pkA, ↓reduceIte, Nat.reduceEqDiff, Nat.reduceAdd, Nat.reduceBEq, Nat.zero_add]
  refine vcond_of (fun hlt => ?_) (fun hge => ?_)
  · have hlt : i < 16 := by have := dlt hlt; omega
    obtain ⟨x, hx1⟩ : ∃ x, D[i]? = some x := ⟨D[i]'(by omega), List.getElem?_eq_getElem _⟩
    obtain ⟨y, hy1⟩ : ∃ y, S[i]? = some y := ⟨S[i]'(by omega), List.getElem?_eq_getElem _⟩
    have hxy := hx i x y hx1 hy1
    have hnt := leL_take B0 i (y + x) hxy
    simp -implicitDefEqProofs only [pkA, ↓reduceIte, Nat.reduceEqDiff, Nat.reduceAdd, Nat.reduceBEq]
    refine ia_cl ti_124 rfl ti_99 rfl rfl hlt ?_
    simp -implicitDefEqProofs only [pkA, ptA, ↓reduceIte, Nat.reduceAdd, Nat.reduceBEq, Nat.reduceMul, Nat.reduceLT, Nat.zero_add, decide_true, isMb_cl]
    refine ld_cl (by decide) hy1 ?_
    simp -implicitDefEqProofs only [pkA, ↓reduceIte, Nat.reduceEqDiff, Nat.reduceBEq]
    refine ia_cl ti_124 rfl ti_99 rfl rfl hlt ?_
    simp -implicitDefEqProofs only [pkA, ptA, ↓reduceIte, Nat.reduceAdd, Nat.reduceBEq, Nat.reduceMul, Nat.reduceLT, Nat.zero_add, decide_true, isMb_cl]
    refine ld_cl (by decide) hx1 ?_
    simp -implicitDefEqProofs only [pkA, ptA, ↓reduceIte, Nat.reduceEqDiff, Nat.reduceAdd, Nat.reduceBEq, Nat.reduceMul, Nat.reduceLT, Nat.reduceLeDiff, Nat.zero_add, c_lo8, wr_add, vbin_shr, shr8, shr16, shr24]
    refine apLe hE (by rw [List.length_take]; omega) ?_
    simp -implicitDefEqProofs only [pkA, ↓reduceIte, Nat.reduceEqDiff, Nat.reduceAdd, Nat.reduceBEq, hwi]
    refine hnorm (i + 1, EB) _ ⟨hlt, Or.inr rfl⟩ (show 16 - (i + 1) < 16 - i by omega) (le_hd (by simp only [leOk, List.all_cons, List.all_nil, cl_ltB, List.length_cons, List.length_nil]; rfl) (Nat.zero_le _) (by simp) ?_ (by simp [BL, bxs]))
    rw [hnt]
    simp [FL, up_apply]
  have : i = 16 := by have := dge hge; omega
  subst this
  simp -implicitDefEqProofs only [pkA, Nat.reduceMul]
  refine hexit _ _ ?_
  rw [List.take_of_length_le (by omega)]
  simp -implicitDefEqProofs only [pkA, ↓reduceIte, Nat.reduceEqDiff, Nat.reduceAdd, Nat.reduceBEq, c_bs]
  refine retV_two ?_ ?_ <;> rfl
set_option maxRecDepth 100000 in
set_option maxHeartbeats 2500000 in
theorem rXor_ok (key nonce text : B) (ctr : W) (hk : key.length = 32) (hn : nonce.length = 12) (ht : text.length ≤ 1000000000) : FnOK Tryd.prog G 81 [sv key, wv ctr, sv nonce, sv text] (.tup [sv (xorB key ctr nonce text), i64 0]) := by
  refine FnOK_by (rs := [.tmp 8, .tmp 9]) false [45] mixed Tryd.func81 rfl rfl rfl rfl (by kernel_rfl) (by simp) rfl rfl ?_
  simp -implicitDefEqProofs only [pkA, ↓reduceIte, Nat.reduceEqDiff, Nat.reduceAdd, Nat.reduceBEq, Nat.zero_add]
  refine call_fn rfl (rState_ok key nonce ctr hk hn) (fun _ => flat_st0) ?_
  have hS := stW_len (key := key) (ctr := ctr) (nonce := nonce)
  generalize stW key ctr nonce = S at *
  have d00 : (!decide ((0 : Int) = 0)) = false := rfl
  have hset : setV (zbox 16 (V.c (C.lit (Value.int IntKind.u32 0)))) 0 (cl wc S) = cl wc S := setV_all (by rw [cl_len, hS, zbox_len])
  have hXl := xorB_len (key := key) (ctr := ctr) (nonce := nonce) (text := text)
  simp -implicitDefEqProofs only [pkA, ptA, ↓reduceIte, Nat.reduceEqDiff, Nat.reduceAdd, Nat.reduceBEq, Nat.reduceMul, Nat.reduceLT, Nat.reduceLeDiff, Nat.zero_add, decide_true, isMb_zbox, zbox_len, stP_fold, hset, List.length_map, hS]
  refine run_loop (fun x : Nat × Option (TypeId × Nat) => hdS [(0, sv key), (1, wv (ctrAt ctr x.1)), (2, sv nonce), (3, sv (text.drop (64 * x.1))), (12, .ow x.2 (bC ((xorB key ctr nonce text).take (64 * x.1))))] []) (fun x => text.length + 64 - 64 * x.1) (fun x => 64 * x.1 ≤ text.length + 63 ∧ (x.2 = none ∨ x.2 = EB)) (0, none) ⟨by simp, Or.inl rfl⟩ ?_ ?_
  · refine le_hd rfl (Nat.zero_le _) (by simp) ?_ trivial
    simp [FL, up_apply, ctrAt]; rfl
  rintro ⟨j, E⟩ ⟨hj, hE⟩ R hnorm hexit hret
  simp only at hj hE
  simp -implicitDefEqProofs only [pkA, ptA, ↓reduceIte, Nat.reduceEqDiff, Nat.reduceAdd, Nat.reduceBEq, bs8_size]
  have hdl : (text.drop (64 * j)).length = text.length - 64 * j := List.length_drop
  refine vcond_of (fun hlt => ?_) (fun hge => ?_)
  · have hlt : 64 * j < text.length := by have := of_decide_eq_true hlt; omega
    obtain ⟨n, hnm⟩ : ∃ n, min 64 (text.length - 64 * j) = n := ⟨_, rfl⟩
    simp -implicitDefEqProofs only [pkA, ↓reduceIte, Nat.reduceEqDiff, Nat.reduceAdd, Nat.reduceBEq]
    refine call_fn rfl (rBlock_ok key nonce (ctrAt ctr j) hk hn) (fun _ => rfl) ?_
    simp -implicitDefEqProofs only [pkA, ptA, ↓reduceIte, Nat.reduceEqDiff, Nat.reduceAdd, Nat.reduceBEq, bs8_size, vmin]
    have hmin : (if ((text.drop (64 * j)).length : Int) < 64 then ((text.drop (64 * j)).length : Int) else 64) = (n : Int) := by
      rw [hdl]; split <;> omega
    rw [hmin]
    have hbl := blockB_len (key := key) (nonce := nonce) (ctr := ctrAt ctr j)
    have hat : ∀ i x y, i < 64 → text[64 * j + i]? = some x → (blockB key (ctrAt ctr j) nonce)[i]? = some y → (xorB key ctr nonce text)[64 * j + i]? = some (x ^^^ y) := fun i x y hi h1 h2 => by
      refine xorB_at h1 ?_
      rw [show (64 * j + i) / 64 = j by omega, show (64 * j + i) % 64 = i by omega]; exact h2
    generalize blockB key (ctrAt ctr j) nonce = bk at *
    have hXe : (xorB key ctr nonce text).take (64 * j + n) = (xorB key ctr nonce text).take (64 * (j + 1)) := by
      rcases Nat.lt_or_ge n 64 with h | h
      · rw [List.take_of_length_le (by omega), List.take_of_length_le (by omega)]
      · rw [show 64 * (j + 1) = 64 * j + n by omega]
    generalize xorB key ctr nonce text = X at *
    refine run_loop (fun x : Nat × Option (TypeId × Nat) => hdS [(0, sv key), (1, wv (ctrAt ctr j)), (2, sv nonce), (3, sv (text.drop (64 * j))), (12, .ow x.2 (bC (X.take (64 * j + x.1)))), (13, sv bk), (15, i64 (n : Int)), (16, i64 (x.1 : Int))] []) (fun x => n - x.1) (fun x => x.1 ≤ n ∧ (x.2 = none ∨ x.2 = EB)) (0, E) ⟨Nat.zero_le _, hE⟩ ?_ ?_
    · exact le_hd rfl (Nat.zero_le _) (by simp) (by simp [FL, up_apply]) trivial
    rintro ⟨i, E2⟩ ⟨hi, hE2⟩ R2 hnorm2 hexit2 hret2
    simp only at hi hE2
    have hwi := wrap_of (n := (i : Int) + 1) (k := i + 1) (by omega) (by omega)
    simp -implicitDefEqProofs only [pkA, ↓reduceIte, Nat.reduceEqDiff, Nat.reduceAdd, Nat.reduceBEq]
    refine vcond_of (fun hlt2 => ?_) (fun hge2 => ?_)
    · have hlt2 : i < n := by have := dlt hlt2; omega
      obtain ⟨x, hx⟩ : ∃ x, text[64 * j + i]? = some x := ⟨text[64 * j + i]'(by omega), List.getElem?_eq_getElem _⟩
      obtain ⟨y, hy⟩ : ∃ y, bk[i]? = some y := ⟨bk[i]'(by omega), List.getElem?_eq_getElem _⟩
      have hX := hat i x y (by omega) hx hy
      simp -implicitDefEqProofs only [pkA, ↓reduceIte, Nat.reduceEqDiff, Nat.reduceAdd, Nat.reduceBEq]
      refine ix_sv ti_9 rfl rfl (by rw [List.getElem?_drop]; exact hx) ?_
      simp -implicitDefEqProofs only [pkA, ↓reduceIte, Nat.reduceEqDiff, Nat.reduceBEq]
      refine ix_sv ti_9 rfl rfl hy ?_
      simp -implicitDefEqProofs only [pkA, ptA, ↓reduceIte, Nat.reduceEqDiff, Nat.reduceAdd, Nat.reduceBEq, Nat.reduceMul, Nat.reduceLeDiff, Nat.zero_add, b_xor]
      refine ap1 hE2 (by rw [List.length_take]; omega) ?_
      simp -implicitDefEqProofs only [pkA, ↓reduceIte, Nat.reduceEqDiff, Nat.reduceAdd, Nat.reduceBEq, hwi]
      refine hnorm2 (i + 1, EB) _ ⟨hlt2, Or.inr rfl⟩ (show n - (i + 1) < n - i by omega) (le_hd rfl (Nat.zero_le _) (by simp) ?_ trivial)
      have ht := take_snoc hX
      rw [← Nat.add_assoc, ht]
      simp [FL, up_apply]
    have : i = n := by have := dge hge2; omega
    subst this
    simp -implicitDefEqProofs only [pkA]
    refine hexit2 _ _ ?_
    clear hexit2 hret2 hnorm2 hge2 R2
    simp -implicitDefEqProofs only [pkA, ↓reduceIte, Nat.reduceEqDiff, Nat.reduceAdd, Nat.reduceBEq]
    refine sl_sv ti_9 rfl (a := i) (b := (text.drop (64 * j)).length) rfl rfl (by omega) (Nat.le_refl _) ?_
    rw [List.take_length, List.drop_drop]
    have hte : text.drop (64 * j + i) = text.drop (64 * (j + 1)) := by
      rcases Nat.lt_or_ge i 64 with h | h
      · rw [List.drop_eq_nil_of_le (by omega), List.drop_eq_nil_of_le (by omega)]
      · rw [show 64 * (j + 1) = 64 * j + i by omega]
    have hone : ((1 : W).toNat : Int) = 1 := rfl
    have hadd : ∀ K, vint .add .u32 ((ctrAt ctr j).toNat : Int) 1 K = K (wv (ctrAt ctr (j + 1))) := fun K => by
      rw [← hone, w_add, ctrAt_succ]
    have hwa : IntKind.u32.wrap (((ctrAt ctr j).toNat : Int) + 1) = ((ctrAt ctr (j + 1)).toNat : Int) := by
      rw [← hone, wr_add, ctrAt_succ]
    rw [hte, hXe]
    simp -implicitDefEqProofs only [pkA, ↓reduceIte, Nat.reduceEqDiff, Nat.reduceAdd, Nat.reduceBEq, hwa]
    refine hnorm (j + 1, E2) _ ⟨by simp only; omega, hE2⟩ (show text.length + 64 - 64 * (j + 1) < text.length + 64 - 64 * j by omega) (le_hd rfl (Nat.zero_le _) (by simp) (by simp [FL, up_apply]) trivial)
  have hge : ¬ 64 * j < text.length := by have := of_decide_eq_false hge; omega
  simp -implicitDefEqProofs only [pkA]
  refine hexit _ _ ?_
  rw [List.take_of_length_le (by omega)]
  simp -implicitDefEqProofs only [pkA, ↓reduceIte, Nat.reduceEqDiff, Nat.reduceAdd, Nat.reduceBEq, c_bs]
  refine retV_two ?_ ?_ <;> rfl
end Go.Proofs.YtidlohfkfdeaiaaDoor
