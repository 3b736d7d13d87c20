/- The specification's layer 4: seals. -/
import Derived.Test.YtidlohfkfdeaiaaDoorVlQ9
import Derived.Test.YtidlohfkfdeaiaaDoorVlS3
set_option linter.unusedSimpArgs false
set_option linter.unusedVariables false
namespace Go.Proofs.YtidlohfkfdeaiaaDoor
open Go Go.Vl

set_option maxRecDepth 100000 in
theorem rKeys_ok (key : B) (hk : key.length = 32) : FnOK Tryd.prog gl2 79 [sv key] (.tup [sv (macB key lenc), sv (macB key lmac), i64 0]) := by
  refine FnOK_by (rs := [.tmp 2, .tmp 3, .tmp 4]) false [] mixed Tryd.func79 rfl rfl rfl rfl (by kernel_rfl) (by simp) rfl rfl ?_
  have d1 : (!decide (((32 : Nat) : Int) = 32)) = false := by decide
  rw [macB_eq (by omega) (by decide), macB_eq (by omega) (by decide)]
  simp -implicitDefEqProofs only [pkA, ptA, ↓reduceIte, Nat.reduceEqDiff, Nat.reduceAdd, Nat.zero_add, bs8_size, hk, d1]
  refine call_fn («as» := [sv key, sv lenc]) rfl (rMac_ok key lenc (by omega) (by decide)) (fun _ => rfl) ?_
  simp -implicitDefEqProofs only [pkA, ↓reduceIte, Nat.reduceEqDiff, Nat.reduceAdd]
  refine call_fn («as» := [sv key, sv lmac]) rfl (rMac_ok key lmac (by omega) (by decide)) (fun _ => rfl) ?_
  simp -implicitDefEqProofs only [pkA, ↓reduceIte, Nat.reduceEqDiff]
  refine retV_three ?_ ?_ ?_ <;> simp -implicitDefEqProofs only [pkA, ↓reduceIte, Nat.reduceEqDiff]
set_option maxRecDepth 100000 in
theorem rKeys_bad (key : B) (hk : key.length ≠ 32) (hb : key.length ≤ 1000000000) : FnOK Tryd.prog gl2 79 [sv key] (.tup [sv [], sv [], i64 1]) := by
  refine FnOK_by (rs := [.tmp 2, .tmp 3, .tmp 4]) false [] mixed Tryd.func79 rfl rfl rfl rfl (by kernel_rfl) (by simp) rfl rfl ?_
  have d1 : (!decide (((key.length : Nat) : Int) = 32)) = true := by
    have : ¬ ((key.length : Nat) : Int) = 32 := by omega
    simp [this]
  simp -implicitDefEqProofs only [pkA, ptA, ↓reduceIte, Nat.reduceEqDiff, Nat.reduceAdd, Nat.zero_add, bs8_size, d1]
  refine retV_three ?_ ?_ ?_ <;> simp -implicitDefEqProofs only [pkA, ↓reduceIte, Nat.reduceEqDiff] <;> rfl
theorem code3 {mac a b c : B} {n : Nat} (hm : mac.length ≤ 1000000000) (hl : (a ++ b ++ c).length ≤ 1000000000) : codeB mac n [a, b, c] = (macR mac (a ++ b ++ c)).take n := by
  unfold codeB
  have e : [a, b, c].flatten = a ++ b ++ c := by simp
  rw [e, macB_eq hm hl]
theorem code4 {mac a b c d : B} {n : Nat} (hm : mac.length ≤ 1000000000) (hl : (a ++ b ++ c ++ d).length ≤ 1000000000) : codeB mac n [a, b, c, d] = (macR mac (a ++ b ++ c ++ d)).take n := by
  unfold codeB
  have e : [a, b, c, d].flatten = a ++ b ++ c ++ d := by simp
  rw [e, macB_eq hm hl]
theorem macR_len {k t : B} : (macR k t).length = 32 := shaR_len _
set_option maxRecDepth 100000 in
set_option maxHeartbeats 1500000 in
theorem rnonce_ok (mac ad text : B) (hm : mac.length ≤ 1000000) (ha : ad.length ≤ 1000000) (ht : text.length ≤ 1000000) : FnOK Tryd.prog gl2 80 [sv mac, sv ad, sv text] (sv (codeB mac 12 [lnon, encB ad, text])) := by
  refine FnOK_by (rs := [.tmp 6]) false [] mixed Tryd.func80 rfl rfl rfl rfl (by kernel_rfl) (by simp) rfl rfl ?_
  have hel := enc_len ad (by omega)
  have hnl : lnon.length = 5 := rfl
  rw [code3 (by omega) (by simp only [List.length_append]; omega)]
  simp -implicitDefEqProofs only [pkA, ↓reduceIte, Nat.reduceEqDiff, Nat.reduceAdd, Nat.zero_add]
  refine call_fn rfl (rBytes_ok ad (by omega)) (fun h => by cases h) ?_
  simp -implicitDefEqProofs only [pkA, ↓reduceIte, Nat.reduceAdd, c_bs]
  refine s_add (a := lnon) (b := encB ad) (by omega) ?_
  simp -implicitDefEqProofs only [pkA, ↓reduceIte, Nat.reduceEqDiff]
  refine s_add (b := text) (by rw [List.length_append]; omega) ?_
  simp -implicitDefEqProofs only [pkA, ↓reduceIte, Nat.reduceEqDiff, Nat.reduceAdd]
  refine call_fn rfl (rMac_ok mac _ (by omega) (by simp only [List.length_append]; omega)) (fun _ => rfl) ?_
  have hml := macR_len (k := mac) (t := lnon ++ encB ad ++ text)
  generalize macR mac (lnon ++ encB ad ++ text) = m at *
  simp -implicitDefEqProofs only [pkA, ↓reduceIte]
  refine sl_sv ti_9 rfl (a := 0) (b := 12) rfl rfl (Nat.zero_le _) (by omega) ?_
  rw [List.drop_zero]
  simp -implicitDefEqProofs only [pkA, ↓reduceIte]
set_option maxRecDepth 100000 in
set_option maxHeartbeats 1500000 in
theorem rtag_ok (mac n ad c : B) (hm : mac.length ≤ 1000000) (hn : n.length ≤ 1000000) (ha : ad.length ≤ 1000000) (ht : c.length ≤ 1000000) : FnOK Tryd.prog gl2 82 [sv mac, sv n, sv ad, sv c] (sv (codeB mac 16 [ltag, n, encB ad, c])) := by
  refine FnOK_by (rs := [.tmp 8]) false [] mixed Tryd.func82 rfl rfl rfl rfl (by kernel_rfl) (by simp) rfl rfl ?_
  have hel := enc_len ad (by omega)
  have hnl : ltag.length = 3 := rfl
  rw [code4 (by omega) (by simp only [List.length_append]; omega)]
  simp -implicitDefEqProofs only [pkA, ↓reduceIte, Nat.reduceEqDiff, Nat.reduceAdd, Nat.zero_add]
  refine s_add (a := ltag) (b := n) (by omega) ?_
  simp -implicitDefEqProofs only [pkA, ↓reduceIte, Nat.reduceEqDiff, Nat.reduceAdd]
  refine call_fn rfl (rBytes_ok ad (by omega)) (fun h => by cases h) ?_
  simp -implicitDefEqProofs only [pkA, ↓reduceIte, Nat.reduceEqDiff, Nat.reduceAdd, c_bs]
  refine s_add (b := encB ad) (by rw [List.length_append]; omega) ?_
  simp -implicitDefEqProofs only [pkA, ↓reduceIte, Nat.reduceEqDiff]
  refine s_add (b := c) (by simp only [List.length_append]; omega) ?_
  simp -implicitDefEqProofs only [pkA, ↓reduceIte, Nat.reduceEqDiff, Nat.reduceAdd]
  refine call_fn rfl (rMac_ok mac _ (by omega) (by simp only [List.length_append]; omega)) (fun _ => rfl) ?_
  have hml := macR_len (k := mac) (t := ltag ++ n ++ encB ad ++ c)
  generalize macR mac (ltag ++ n ++ encB ad ++ c) = m at *
  simp -implicitDefEqProofs only [pkA, ↓reduceIte]
  refine sl_sv ti_9 rfl (a := 0) (b := 16) rfl rfl (Nat.zero_le _) (by omega) ?_
  rw [List.drop_zero]
  simp -implicitDefEqProofs only [pkA, ↓reduceIte]
set_option maxRecDepth 100000 in
set_option maxHeartbeats 1500000 in
theorem rSeal_ok (key ad text : B) (hk : key.length ≤ 1000000) (ha : ad.length ≤ 1000000) (ht : text.length ≤ 1000000) : FnOK Tryd.prog gl2 48 [sv key, sv ad, sv text] (.tup [sv (sealB key ad text).1, i64 (sealB key ad text).2]) := by
  refine FnOK_by (rs := [.tmp 6, .tmp 7]) false [] mixed Tryd.func48 rfl rfl rfl rfl (by kernel_rfl) (by simp) rfl rfl ?_
  have d1 : (!decide ((1 : Int) = 0)) = true := by decide
  have d0 : (!decide ((0 : Int) = 0)) = false := rfl
  unfold sealB
  by_cases hk32 : key.length = 32
  case neg =>
    rw [if_pos hk32]
    simp -implicitDefEqProofs only [pkA, ↓reduceIte, Nat.reduceEqDiff, Nat.reduceAdd, Nat.zero_add]
    refine call_fn rfl (rKeys_bad key hk32 (by omega)) (fun _ => rfl) ?_
    simp -implicitDefEqProofs only [pkA, ↓reduceIte, Nat.reduceEqDiff, Nat.reduceAdd, d1]
    refine retV_two ?_ ?_ <;> rfl
  rw [if_neg (by simpa using hk32)]
  simp -implicitDefEqProofs only [pkA, ↓reduceIte, Nat.reduceEqDiff, Nat.reduceAdd, Nat.zero_add]
  refine call_fn rfl (rKeys_ok key hk32) (fun _ => rfl) ?_
  have d2 : decide ((1048576 : Int) < (ad.length : Nat)) = false := decide_eq_false (by omega)
  have d3 : decide ((1048576 : Int) < (text.length : Nat)) = false := decide_eq_false (by omega)
  have hm1 := macB_len (k := key) (t := lenc)
  have hm2 := macB_len (k := key) (t := lmac)
  generalize macB key lenc = enc at *
  generalize macB key lmac = mac at *
  simp -implicitDefEqProofs only [pkA, ptA, ↓reduceIte, Nat.reduceEqDiff, Nat.reduceAdd, decide_true, d2, d3, bs8_size]
  refine call_fn rfl (rnonce_ok mac ad text (by omega) ha ht) (fun _ => rfl) ?_
  have hno := codeB_len (mac := mac) (n := 12) (ps := [lnon, encB ad, text]) (by decide)
  generalize codeB mac 12 [lnon, encB ad, text] = no at *
  simp -implicitDefEqProofs only [pkA, ↓reduceIte, Nat.reduceEqDiff, Nat.reduceAdd]
  refine call_fn («as» := [sv enc, wv 1, sv no, sv text]) rfl (rXor_ok enc no text 1 hm1 hno (by omega)) (fun _ => rfl) ?_
  have hxl := xorB_len (key := enc) (ctr := 1) (nonce := no) (text := text)
  generalize xorB enc 1 no text = c at *
  simp -implicitDefEqProofs only [pkA, ↓reduceIte, Nat.reduceEqDiff, Nat.reduceAdd]
  refine s_add (a := no) (b := c) (by omega) ?_
  simp -implicitDefEqProofs only [pkA, ↓reduceIte, Nat.reduceEqDiff, Nat.reduceAdd]
  refine call_fn rfl (rtag_ok mac no ad c (by omega) (by omega) ha (by omega)) (fun _ => rfl) ?_
  have htl := codeB_len (mac := mac) (n := 16) (ps := [ltag, no, encB ad, c]) (by decide)
  generalize codeB mac 16 [ltag, no, encB ad, c] = tg at *
  simp -implicitDefEqProofs only [pkA, ↓reduceIte, Nat.reduceEqDiff]
  refine s_add (b := tg) (by rw [List.length_append]; omega) ?_
  simp -implicitDefEqProofs only [pkA, ↓reduceIte]
  refine retV_two ?_ ?_ <;> rfl
set_option maxRecDepth 100000 in
set_option maxHeartbeats 1500000 in
theorem rOpen_ok (key ad blob : B) (hk : key.length ≤ 1000000) (ha : ad.length ≤ 1000000) (ht : blob.length ≤ 1000000) : FnOK Tryd.prog gl2 59 [sv key, sv ad, sv blob] (.tup [sv (openB key ad blob).1, i64 (openB key ad blob).2]) := by
  refine FnOK_by (rs := [.tmp 6, .tmp 7]) false [] mixed Tryd.func59 rfl rfl rfl rfl (by kernel_rfl) (by simp) rfl rfl ?_
  unfold openB
  by_cases hk32 : key.length = 32
  case neg =>
    rw [if_pos hk32]
    simp -implicitDefEqProofs only [pkA, ↓reduceIte, Nat.reduceEqDiff, Nat.reduceAdd, Nat.zero_add]
    refine call_fn rfl (rKeys_bad key hk32 (by omega)) (fun _ => rfl) ?_
    have d1 : (!decide ((1 : Int) = 0)) = true := by decide
    simp -implicitDefEqProofs only [pkA, ↓reduceIte, Nat.reduceEqDiff, Nat.reduceAdd, d1]
    refine retV_two ?_ ?_ <;> rfl
  rw [if_neg (by simpa using hk32)]
  simp -implicitDefEqProofs only [pkA, ↓reduceIte, Nat.reduceEqDiff, Nat.reduceAdd, Nat.zero_add]
  refine call_fn rfl (rKeys_ok key hk32) (fun _ => rfl) ?_
  have d0 : (!decide ((0 : Int) = 0)) = false := by decide
  have d1 : decide ((1048576 : Int) < (ad.length : Nat)) = false := decide_eq_false (by omega)
  have d2 : decide ((1048604 : Int) < (blob.length : Nat)) = false := decide_eq_false (by omega)
  simp -implicitDefEqProofs only [pkA, ptA, ↓reduceIte, Nat.reduceEqDiff, Nat.reduceAdd, decide_true, d1, d2, bs8_size]
  have hm1 := macB_len (k := key) (t := lenc)
  have hm2 := macB_len (k := key) (t := lmac)
  generalize macB key lenc = enc at *
  generalize macB key lmac = mac at *
  by_cases hs : blob.length < 28
  case pos =>
    have d3 : decide ((blob.length : Nat) < (28 : Int)) = true := decide_eq_true (by omega)
    rw [if_pos hs]
    simp -implicitDefEqProofs only [pkA, ↓reduceIte, Nat.reduceAdd, d3]
    refine retV_two ?_ ?_ <;> rfl
  have d3 : decide ((blob.length : Nat) < (28 : Int)) = false := decide_eq_false (by omega)
  rw [if_neg hs]
  have hwi := wrap_of (n := (blob.length : Int) - 16) (k := blob.length - 16) (by omega) (by omega)
  simp -implicitDefEqProofs only [pkA, ↓reduceIte, Nat.reduceEqDiff, Nat.reduceAdd, d3]
  refine sl_sv ti_9 rfl (a := 0) (b := 12) rfl rfl (Nat.zero_le _) (by omega) ?_
  rw [List.drop_zero]
  simp -implicitDefEqProofs only [pkA, ptA, ↓reduceIte, Nat.reduceEqDiff, Nat.reduceAdd, bs8_size, hwi]
  refine sl_sv ti_9 rfl (a := 12) (b := blob.length - 16) rfl rfl (by omega) (by omega) ?_
  simp -implicitDefEqProofs only [pkA, ptA, ↓reduceIte, Nat.reduceEqDiff, Nat.reduceAdd, bs8_size, hwi]
  refine sl_sv ti_9 rfl (a := blob.length - 16) (b := blob.length) rfl rfl (by omega) (Nat.le_refl _) ?_
  rw [List.take_length]
  have hn12 : (blob.take 12).length = 12 := by rw [List.length_take]; omega
  have hcl : ((blob.take (blob.length - 16)).drop 12).length ≤ 1000000 := by rw [List.length_drop, List.length_take]; omega
  generalize blob.take 12 = nonce at *
  generalize (blob.take (blob.length - 16)).drop 12 = c at *
  generalize blob.drop (blob.length - 16) = tg at *
  simp -implicitDefEqProofs only [pkA, ↓reduceIte, Nat.reduceEqDiff, Nat.reduceAdd]
  refine call_fn rfl (rtag_ok mac nonce ad c (by omega) (by omega) ha hcl) (fun _ => rfl) ?_
  generalize codeB mac 16 [ltag, nonce, encB ad, c] = tag at *
  simp -implicitDefEqProofs only [pkA, ↓reduceIte, Nat.reduceEqDiff, bs8_inj]
  refine vcond_of (fun h => ?_) (fun h => ?_)
  · have h : tag ≠ tg := fun e => by subst e; simp at h
    rw [if_pos h]
    simp -implicitDefEqProofs only [pkA, ↓reduceIte, Nat.reduceAdd]
    refine retV_two ?_ ?_ <;> rfl
  have h : tag = tg := by
    have h : tg = tag := by simpa using h
    exact h.symm
  rw [if_neg (by simpa using h)]
  simp -implicitDefEqProofs only [pkA, ↓reduceIte, Nat.reduceEqDiff, Nat.reduceAdd]
  refine call_fn («as» := [sv enc, wv 1, sv nonce, sv c]) rfl (rXor_ok enc nonce c 1 hm1 hn12 (by omega)) (fun _ => rfl) ?_
  have hxl := xorB_len (key := enc) (ctr := 1) (nonce := nonce) (text := c)
  generalize xorB enc 1 nonce c = x at *
  simp -implicitDefEqProofs only [pkA, ↓reduceIte, Nat.reduceEqDiff, Nat.reduceAdd]
  refine call_fn rfl (rnonce_ok mac ad x (by omega) ha (by omega)) (fun _ => rfl) ?_
  generalize codeB mac 12 [lnon, encB ad, x] = no at *
  simp -implicitDefEqProofs only [pkA, ↓reduceIte, Nat.reduceEqDiff, bs8_inj]
  refine vcond_of (fun h => ?_) (fun h => ?_)
  · have h : no ≠ nonce := by simpa using h
    rw [if_pos h]
    simp -implicitDefEqProofs only [pkA, ↓reduceIte, Nat.reduceAdd]
    refine retV_two ?_ ?_ <;> rfl
  have h : no = nonce := by simpa using h
  rw [if_neg (by simpa using h)]
  simp -implicitDefEqProofs only [pkA, ↓reduceIte, Nat.reduceEqDiff, Nat.reduceAdd]
  refine retV_two ?_ ?_ <;> rfl
end Go.Proofs.YtidlohfkfdeaiaaDoor
