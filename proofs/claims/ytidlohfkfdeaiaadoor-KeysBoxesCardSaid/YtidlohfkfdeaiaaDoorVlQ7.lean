/- The specification's layer 2: codes and digests. -/
import Derived.Test.YtidlohfkfdeaiaaDoorVlQ6
set_option linter.unusedSimpArgs false
set_option linter.unusedVariables false
namespace Go.Proofs.YtidlohfkfdeaiaaDoor
open Go Go.Vl

set_option maxRecDepth 100000 in
set_option maxHeartbeats 1500000 in
theorem rB32_ok {G : Gl} (o : B) (ho : o.length = 32) : FnOK Tryd.prog G 115 [av o] (sv o) := by
  refine FnOK_by (rs := [.tmp 2]) false [9] mixed Tryd.func115 rfl rfl rfl rfl (by kernel_rfl) (by simp) rfl rfl ?_
  simp -implicitDefEqProofs only [pkA, ↓reduceIte, Nat.reduceAdd, Nat.reduceBEq, Nat.zero_add, ← cl_eq]
  refine run_loop (fun x : Nat × Option (TypeId × Nat) => hdS [(1, .bp 0 0), (3, .ow x.2 (bC (o.take x.1))), (4, i64 (x.1 : Int))] [cl bc o]) (fun x => 32 - x.1) (fun x => x.1 ≤ 32 ∧ (x.2 = none ∨ x.2 = EB)) (0, none) ⟨Nat.zero_le _, Or.inl rfl⟩ ?_ ?_
  · exact le_hd (by simp only [leOk, List.all_cons, List.all_nil, cl_ltB, List.length_cons, List.length_nil]; rfl) (Nat.zero_le _) (by simp) (by simp [FL, up_apply]; rfl) (by simp [BL])
  rintro ⟨i, E⟩ ⟨hi, hE⟩ R hnorm hexit hret
  simp only at hi hE
  simp -implicitDefEqProofs only [pkA, ↓reduceIte, Nat.reduceEqDiff, Nat.reduceAdd, Nat.reduceBEq, Nat.zero_add]
  refine vcond_of (fun hlt => ?_) (fun hge => ?_)
  · have hlt : i < 32 := by have := dlt hlt; omega
    have hw := wrap_of (n := (i : Int) + 1) (k := i + 1) (by omega) (by omega)
    obtain ⟨x, hx⟩ : ∃ x, o[i]? = some x := ⟨o[i]'(by omega), List.getElem?_eq_getElem _⟩
    simp -implicitDefEqProofs only [pkA, ↓reduceIte, Nat.reduceEqDiff, Nat.reduceAdd, Nat.reduceBEq]
    refine ia_cl ti_109 rfl ti_5 rfl rfl hlt ?_
    simp -implicitDefEqProofs only [pkA, ptA, ↓reduceIte, Nat.reduceAdd, Nat.reduceBEq, Nat.reduceMul, Nat.reduceLT, Nat.zero_add, decide_true, isMb_cl]
    refine ld_cl (by decide) hx ?_
    simp -implicitDefEqProofs only [pkA, ptA, ↓reduceIte, Nat.reduceEqDiff, Nat.reduceAdd, Nat.reduceBEq, Nat.reduceMul, Nat.reduceLeDiff, Nat.zero_add]
    refine ap1 hE (by rw [List.length_take]; omega) ?_
    simp -implicitDefEqProofs only [pkA, ↓reduceIte, Nat.reduceEqDiff, Nat.reduceAdd, Nat.reduceBEq, hw]
    refine hnorm (i + 1, EB) _ ⟨hlt, Or.inr rfl⟩ (show 32 - (i + 1) < 32 - i by omega) (le_hd (by simp only [leOk, List.all_cons, List.all_nil, cl_ltB, List.length_cons, List.length_nil]; rfl) (Nat.zero_le _) (by simp) ?_ (by simp [BL, bxs]))
    rw [take_snoc hx]
    simp [FL, up_apply]
  have : i = 32 := by have := dge hge; omega
  subst this
  simp -implicitDefEqProofs only [pkA]
  refine hexit _ _ ?_
  rw [List.take_of_length_le (by omega)]
  simp -implicitDefEqProofs only [pkA, ↓reduceIte, Nat.reduceEqDiff, Nat.reduceAdd, Nat.reduceBEq, c_bs]
theorem padK_at {k : B} {w : UInt8} (hk : k.length ≤ 64) {i : Nat} (hi : i < 64) : (padK k w)[i]? = some ((if h : i < k.length then k[i] else 0) ^^^ w) := by
  unfold padK
  rw [List.getElem?_map]
  split
  · rename_i h; rw [List.getElem?_append_left h, List.getElem?_eq_getElem h]; rfl
  · rename_i h; rw [List.getElem?_append_right (by omega), List.getElem?_replicate, if_pos (by omega)]; rfl
def keyR (key : B) : B := if 64 < key.length then shaR key else key
theorem keyR_len (key : B) : (keyR key).length ≤ 64 := by
  unfold keyR; split
  · rw [shaR_len]; omega
  · omega
set_option maxRecDepth 100000 in
set_option maxHeartbeats 1500000 in
theorem padKey_ok (key : B) (w : UInt8) (hk : key.length ≤ 1000000000) : FnOK Tryd.prog gl2 114 [sv key, bb w] (.ow EB (bC (padK (keyR key) w))) := by
  refine FnOK_by (rs := [.tmp 4]) false [28, 34] mixed Tryd.func114 rfl rfl rfl rfl (by kernel_rfl) (by simp) rfl rfl ?_
  have hkr : keyR key = if 64 < key.length then shaR key else key := rfl
  have hkl := keyR_len key
  simp -implicitDefEqProofs only [pkA, ptA, ↓reduceIte, Nat.reduceEqDiff, Nat.reduceAdd, Nat.reduceBEq, Nat.zero_add, bs8_size]
  refine join_cond (fun s' => ∃ fr, s' = ⟨fr, fun _ => [], 0⟩ ∧ fr 1 = bb w ∧ fr 5 = sv (keyR key)) ?_ ?_
  case refine_2 =>
    intro R hR _
    refine vcond_of (fun h => ?_) (fun h => ?_)
    · have h : 64 < key.length := by have := of_decide_eq_true h; omega
      simp -implicitDefEqProofs only [pkA, ↓reduceIte, Nat.reduceEqDiff, Nat.reduceAdd, Nat.reduceBEq, c_sb]
      refine call_fn rfl (rSum_ok key hk) (fun _ => flat_av _) ?_
      simp -implicitDefEqProofs only [pkA, ↓reduceIte, Nat.reduceAdd, Nat.reduceBEq]
      refine call_fn rfl (rB32_ok _ (shaR_len key)) (fun _ => rfl) ?_
      simp -implicitDefEqProofs only [pkA, ↓reduceIte]
      refine hR _ ⟨_, rfl, by simp [up_apply], ?_⟩
      rw [hkr, if_pos h]; simp []
    · have h : ¬ 64 < key.length := by have := of_decide_eq_false h; omega
      simp -implicitDefEqProofs only [pkA]
      refine hR _ ⟨_, rfl, by simp [up_apply], ?_⟩
      rw [hkr, if_neg h]; simp [up_apply]
  rintro _ ⟨fr, rfl, h1, h5⟩
  clear hkr
  generalize keyR key = k at *
  simp -implicitDefEqProofs only [pkA, ↓reduceIte, Nat.reduceAdd, Nat.reduceBEq]
  refine run_loop (fun x : Nat × Option (TypeId × Nat) => hdS [(1, bb w), (5, sv k), (6, .ow x.2 (bC ((padK k w).take x.1))), (7, i64 (x.1 : Int))] []) (fun x => 64 - x.1) (fun x => x.1 ≤ 64 ∧ (x.2 = none ∨ x.2 = EB) ∧ (0 < x.1 → x.2 = EB)) (0, none) ⟨Nat.zero_le _, Or.inl rfl, fun h => by simp at h⟩ ?_ ?_
  · exact le_hd rfl (Nat.zero_le _) (by simp) (by simp [FL, up_apply, h1, h5]; rfl) trivial
  rintro ⟨i, E⟩ ⟨hi, hE, hE2⟩ R hnorm hexit hret
  simp only at hi hE hE2
  simp -implicitDefEqProofs only [pkA, ↓reduceIte, Nat.reduceEqDiff, Nat.reduceAdd, Nat.reduceBEq]
  refine vcond_of (fun hlt => ?_) (fun hge => ?_)
  · have hlt : i < 64 := by have := dlt hlt; omega
    have hw := wrap_of (n := (i : Int) + 1) (k := i + 1) (by omega) (by omega)
    have hat := padK_at (w := w) hkl hlt
    have hpl := padK_len (w := w) hkl
    have hx : ∃ x, (if h : i < k.length then k[i] else 0) = x := ⟨_, rfl⟩
    obtain ⟨x, hx⟩ := hx
    rw [hx] at hat
    simp -implicitDefEqProofs only [pkA, ptA, ↓reduceIte, Nat.reduceEqDiff, Nat.reduceAdd, Nat.reduceBEq, bs8_size]
    refine join_cond (fun s' => ∃ fr, s' = ⟨fr, fun _ => [], 0⟩ ∧ fr 1 = bb w ∧ fr 5 = sv k ∧ fr 6 = .ow E (bC ((padK k w).take i)) ∧ fr 7 = i64 (i : Int) ∧ fr 8 = bb x) ?_ ?_
    case refine_2 =>
      intro R1 hR1 _
      refine vcond_of (fun h => ?_) (fun h => ?_)
      · have h : i < k.length := by have := of_decide_eq_true h; omega
        rw [dif_pos h] at hx
        simp -implicitDefEqProofs only [pkA, ↓reduceIte, Nat.reduceEqDiff, Nat.reduceAdd, Nat.reduceBEq]
        refine ix_sv ti_9 rfl rfl (by rw [List.getElem?_eq_getElem h, hx]) ?_
        simp -implicitDefEqProofs only [pkA, ↓reduceIte]
        exact hR1 _ ⟨_, rfl, by simp [up_apply], by simp [up_apply], by simp [up_apply], by simp [up_apply], by simp []⟩
      · have h : ¬ i < k.length := by have := of_decide_eq_false h; omega
        rw [dif_neg h] at hx
        subst hx
        simp -implicitDefEqProofs only [pkA]
        exact hR1 _ ⟨_, rfl, by simp [up_apply], by simp [up_apply], by simp [up_apply], by simp [up_apply], by simp [up_apply]⟩
    rintro _ ⟨fr, rfl, h1, h5, h6, h7, h8⟩
    simp -implicitDefEqProofs only [pkA, ptA, ↓reduceIte, Nat.reduceEqDiff, Nat.reduceAdd, Nat.reduceBEq, Nat.reduceMul, Nat.reduceLeDiff, Nat.zero_add, h1, h6, h8, b_xor]
    refine ap1 hE (by rw [List.length_take]; omega) ?_
    simp -implicitDefEqProofs only [pkA, ↓reduceIte, Nat.reduceEqDiff, Nat.reduceAdd, Nat.reduceBEq, h7, hw]
    refine hnorm (i + 1, EB) _ ⟨hlt, Or.inr rfl, fun _ => rfl⟩ (show 64 - (i + 1) < 64 - i by omega) (le_hd rfl (Nat.zero_le _) (by simp) ?_ trivial)
    rw [take_snoc hat]
    simp [FL, up_apply, h1, h5]
  have : i = 64 := by have := dge hge; omega
  subst this
  obtain rfl := hE2 (by decide)
  have hpl := padK_len (w := w) hkl
  simp -implicitDefEqProofs only [pkA]
  refine hexit _ _ ?_
  rw [List.take_of_length_le (by omega)]
  simp -implicitDefEqProofs only [pkA, ↓reduceIte, Nat.reduceEqDiff, Nat.reduceAdd, Nat.reduceBEq]
theorem macR_eq (key text : B) : macR key text = shaR (padK (keyR key) 92 ++ shaR (padK (keyR key) 54 ++ text)) := rfl
set_option maxRecDepth 100000 in
set_option maxHeartbeats 1500000 in
theorem rMac_ok (key text : B) (hk : key.length ≤ 100000000) (ht : text.length ≤ 100000000) : FnOK Tryd.prog gl2 99 [sv key, sv text] (sv (macR key text)) := by
  refine FnOK_by (rs := [.tmp 4]) false [9, 14] mixed Tryd.func99 rfl rfl rfl rfl (by kernel_rfl) (by simp) rfl rfl ?_
  have hkl := keyR_len key
  have h54 := padK_len (w := 54) hkl
  have h92 := padK_len (w := 92) hkl
  rw [macR_eq]
  simp -implicitDefEqProofs only [pkA, ↓reduceIte, Nat.reduceEqDiff, Nat.reduceAdd, Nat.reduceBEq, Nat.zero_add]
  refine call_fn rfl (padKey_ok key 54 (by omega)) (fun h => by cases h) ?_
  simp -implicitDefEqProofs only [pkA, ↓reduceIte, Nat.reduceEqDiff, Nat.reduceAdd, Nat.reduceBEq, appStr_of ti_71 rfl ti_9 rfl ti_5 rfl, strC_bs8]
  refine apEB (by omega) ?_
  simp -implicitDefEqProofs only [pkA, ↓reduceIte, Nat.reduceEqDiff, Nat.reduceAdd, Nat.reduceBEq]
  refine call_fn rfl (padKey_ok key 92 (by omega)) (fun h => by cases h) ?_
  simp -implicitDefEqProofs only [pkA, ↓reduceIte, Nat.reduceEqDiff, Nat.reduceAdd, Nat.reduceBEq]
  refine call_fn rfl (rSum_ok _ (by rw [List.length_append]; omega)) (fun _ => flat_av _) ?_
  simp -implicitDefEqProofs only [pkA, ↓reduceIte, Nat.reduceAdd, Nat.reduceBEq]
  refine call_fn rfl (rB32_ok _ (shaR_len _)) (fun _ => rfl) ?_
  have hsl := shaR_len (padK (keyR key) 54 ++ text)
  generalize shaR (padK (keyR key) 54 ++ text) = inner at *
  simp -implicitDefEqProofs only [pkA, ↓reduceIte, Nat.reduceEqDiff, Nat.reduceAdd, Nat.reduceBEq, appStr_of ti_71 rfl ti_9 rfl ti_5 rfl, strC_bs8]
  refine apEB (by omega) ?_
  simp -implicitDefEqProofs only [pkA, ↓reduceIte, Nat.reduceEqDiff, Nat.reduceAdd, Nat.reduceBEq]
  refine call_fn rfl (rSum_ok _ (by rw [List.length_append]; omega)) (fun _ => flat_av _) ?_
  simp -implicitDefEqProofs only [pkA, ↓reduceIte, Nat.reduceAdd, Nat.reduceBEq]
  refine call_fn rfl (rB32_ok _ (shaR_len _)) (fun _ => rfl) ?_
  simp -implicitDefEqProofs only [pkA, ↓reduceIte]
set_option maxRecDepth 100000 in
set_option maxHeartbeats 1500000 in
theorem rShort_ok (m : B) (hm : m.length ≤ 1000000000) : FnOK Tryd.prog gl2 86 [bv m] (av ((shaR m).take 16)) := by
  refine FnOK_by (rs := [.cell 2 41]) false [] mixed Tryd.func86 rfl rfl rfl rfl (by kernel_rfl) (by simp) rfl rfl ?_
  have hzb : zbox 16 (.c (.lit (.int .u8 0))) = cl bc (List.replicate 16 0) := zbox_cl (f := bc) (x := (0 : UInt8))
  have hbz : ∀ K, vbuild Tryd.prog 41 [] K = K (.agg ((List.replicate 16 (0 : UInt8)).map bc)) := fun K => by
    unfold vbuild; rw [ti_41]; simp only [ti_5]; rfl
  have hl := shaR_len m
  have hl16 : ((shaR m).take 16).length = 16 := by rw [List.length_take, hl]; rfl
  simp -implicitDefEqProofs only [pkA, ptA, ↓reduceIte, Nat.reduceEqDiff, Nat.reduceAdd, Nat.zero_add]
  refine call_fn rfl (rSum_ok m hm) (fun _ => flat_av _) ?_
  have hat : ∀ i x, i < 16 → (shaR m)[i]? = some x → ((shaR m).take 16)[i]? = some x := fun i x hi h => by rw [List.getElem?_take, if_pos hi, h]
  generalize (shaR m).take 16 = o at *
  generalize shaR m = h at *
  simp -implicitDefEqProofs only [pkA, ptA, ↓reduceIte, Nat.reduceEqDiff, Nat.reduceAdd, Nat.reduceMul, Nat.reduceLT, Nat.reduceLeDiff, Nat.zero_add, decide_true, isMb_zbox, zbox_len, List.length_map, hl]
  rw [setV_zb hl]
  simp -implicitDefEqProofs only [pkA, ptA, ↓reduceIte, Nat.reduceEqDiff, Nat.reduceAdd, Nat.reduceMul, Nat.reduceLT, Nat.reduceLeDiff, Nat.zero_add, decide_true, isMb_zbox, zbox_len, hbz]
  refine run_loop (fun i : Nat => hdS [(2, .bp 0 0), (3, .bp 1 0), (4, .bp 2 0), (5, i64 (i : Int))] [zbox 16 (.c (.lit (.int .u8 0))), cl bc h, cl bc (fill 0 16 o i)]) (fun i => 16 - i) (fun i => i ≤ 16) 0 (Nat.zero_le _) ?_ ?_
  · exact le_hd (by simp only [leOk, List.all_cons, List.all_nil, hzb, cl_ltB, List.length_cons, List.length_nil]; rfl) (Nat.zero_le _) (by simp) (by simp [FL, up_apply]) ⟨rfl, rfl, by rw [fill_zero]; rfl, trivial⟩
  rintro i hi R hnorm hexit hret
  simp -implicitDefEqProofs only [pkA, ↓reduceIte, Nat.reduceEqDiff, Nat.reduceAdd, Nat.zero_add]
  refine vcond_of (fun hlt => ?_) (fun hge => ?_)
  · have hlt : i < 16 := by have := dlt hlt; omega
    have hw := wrap_of (n := (i : Int) + 1) (k := i + 1) (by omega) (by omega)
    obtain ⟨x, hx⟩ : ∃ x, h[i]? = some x := ⟨h[i]'(by omega), List.getElem?_eq_getElem _⟩
    have hfl := fill_len (z := 0) (n := 16) (o := o) (i := i) (by omega) (by omega)
    simp -implicitDefEqProofs only [pkA, ↓reduceIte, Nat.reduceEqDiff, Nat.reduceAdd]
    refine ia_cl ti_109 rfl ti_5 rfl rfl (by omega) ?_
    simp -implicitDefEqProofs only [pkA, ptA, ↓reduceIte, Nat.reduceAdd, Nat.reduceMul, Nat.reduceLT, Nat.zero_add, decide_true, isMb_cl]
    refine ld_cl (by decide) hx ?_
    simp -implicitDefEqProofs only [pkA, ↓reduceIte, Nat.reduceEqDiff]
    refine ia_cl ti_41 rfl ti_5 rfl rfl hlt ?_
    simp -implicitDefEqProofs only [pkA, ptA, ↓reduceIte, Nat.reduceEqDiff, Nat.reduceAdd, Nat.reduceMul, Nat.reduceLT, Nat.zero_add, decide_true, isMb_cl, cl_len, hw]
    refine ⟨by omega, ?_⟩
    rw [setV_fill (hat i x hlt hx) hlt]
    exact hnorm (i + 1) _ hlt (by omega) (le_hd (by simp only [leOk, List.all_cons, List.all_nil, hzb, cl_ltB, List.length_cons, List.length_nil]; rfl) (Nat.zero_le _) (by simp) (by simp [FL, up_apply]) (by simp [BL, up_apply, bxs]))
  have : i = 16 := by have := dge hge; omega
  subst this
  rw [fill_all hl16] at *
  simp -implicitDefEqProofs only [pkA]
  refine hexit _ _ ?_
  simp -implicitDefEqProofs only [pkA, ptA, ↓reduceIte, Nat.reduceEqDiff, Nat.reduceAdd, Nat.reduceMul, Nat.reduceLT, decide_true, isMb_cl]
  refine ldA_cl (by decide) hl16 ?_
  simp -implicitDefEqProofs only [pkA, ptA, ↓reduceIte, Nat.reduceEqDiff, Nat.reduceAdd, Nat.reduceMul, Nat.reduceLT, Nat.reduceLeDiff, Nat.zero_add, decide_true, isMb_zbox, zbox_len]
  rw [setV_zb hl16]
  exact ⟨by rw [List.length_map, hl16], isMb_cl, ldA_cl (by decide) hl16 rfl⟩
set_option maxRecDepth 100000 in
set_option maxHeartbeats 1500000 in
theorem rInput_ok {G : Gl} (tag : Nat) (parts : List B) (hl : parts.length ≤ 1000000) (ht : tot parts ≤ 1000000000) : FnOK Tryd.prog G 87 [i64 (tag : Int), .c (.sl (mC sc parts))] (.ow EB (bC (UInt8.ofNat tag :: (parts.map encB).flatten))) := by
  refine FnOK_by (rs := [.tmp 4]) false [16, 23] mixed Tryd.func87 rfl rfl rfl rfl (by kernel_rfl) (by simp) rfl rfl ?_
  simp -implicitDefEqProofs only [pkA, ptA, ↓reduceIte, Nat.reduceEqDiff, Nat.reduceAdd, Nat.reduceBEq, Nat.reduceMul, Nat.reduceLeDiff, Nat.zero_add, c_i8]
  refine run_loop (fun k : Nat => hdS [(1, .c (.sl (mC sc parts))), (5, .ow EB (bC (UInt8.ofNat tag :: ((parts.take k).map encB).flatten))), (6, i64 (k : Int))] []) (fun k => parts.length - k) (fun k => k ≤ parts.length) 0 (Nat.zero_le _) ?_ ?_
  · exact le_hd rfl (Nat.zero_le _) (by simp) (by simp [FL, up_apply]; rfl) trivial
  rintro k hk R hnorm hexit hret
  simp -implicitDefEqProofs only [pkA, ptA, ↓reduceIte, Nat.reduceEqDiff, Nat.reduceAdd, Nat.reduceBEq, mC_len]
  refine vcond_of (fun hp => ?_) (fun hz => ?_)
  · have hp : k < parts.length := by have := dlt hp; omega
    obtain ⟨x, hx⟩ : ∃ x, parts[k]? = some x := ⟨parts[k], List.getElem?_eq_getElem hp⟩
    have hw1 := wrap_of (n := (k : Int) + 1) (k := k + 1) (by omega) (by omega)
    have hxl := tot_mem (List.mem_of_getElem? hx)
    have hxe : (encB x).length = (encI (x.length : Int)).length + x.length := by unfold encB; rw [List.length_append]
    have htk : tot (parts.take k) ≤ tot parts := by
      conv => rhs; rw [← List.take_append_drop k parts]
      unfold tot; rw [List.map_append, List.sum_append]; omega
    have hfl := flat_tot (parts.take k)
    simp -implicitDefEqProofs only [pkA, ↓reduceIte, Nat.reduceEqDiff, Nat.reduceAdd, Nat.reduceBEq]
    refine ia_mC ti_76 rfl ti_9 rfl rfl hx ?_
    simp -implicitDefEqProofs only [pkA, ptA, ↓reduceIte, Nat.reduceAdd, Nat.reduceBEq]
    refine call_fn rfl (rBytes_ok x (by omega)) (fun h => by cases h) ?_
    simp -implicitDefEqProofs only [pkA, ↓reduceIte, Nat.reduceEqDiff, Nat.reduceAdd, Nat.reduceBEq]
    refine apEB (by rw [List.length_cons]; omega) ?_
    simp -implicitDefEqProofs only [pkA, ↓reduceIte, Nat.reduceEqDiff, Nat.reduceAdd, Nat.reduceBEq, hw1]
    refine hnorm (k + 1) _ hp (by omega) (le_hd rfl (Nat.zero_le _) (by simp) ?_ trivial)
    rw [take_snoc hx]
    simp [FL, up_apply]
  have hz : k = parts.length := by have := dge hz; omega
  subst hz
  simp -implicitDefEqProofs only [pkA]
  refine hexit _ _ ?_
  rw [List.take_length]
  simp -implicitDefEqProofs only [pkA, ↓reduceIte, Nat.reduceEqDiff, Nat.reduceAdd, Nat.reduceBEq]
set_option maxRecDepth 100000 in
theorem rOf_ok (tag : Nat) (parts : List B) (hl : parts.length ≤ 1000000) (ht : tot parts ≤ 100000000) : FnOK Tryd.prog gl2 53 [i64 (tag : Int), .c (.sl (mC sc parts))] (av (ofR tag parts)) := by
  refine FnOK_by (rs := [.cell 4 41]) false [] mixed Tryd.func53 rfl rfl rfl rfl (by kernel_rfl) (by simp) rfl rfl ?_
  have he : ofR tag parts = (shaR (UInt8.ofNat tag :: (parts.map encB).flatten)).take 16 := rfl
  rw [he]
  simp -implicitDefEqProofs only [pkA, ptA, ↓reduceIte, Nat.reduceEqDiff, Nat.reduceAdd, Nat.zero_add]
  refine call_fn rfl (rInput_ok tag parts hl (by omega)) (fun h => by cases h) ?_
  simp -implicitDefEqProofs only [pkA, ↓reduceIte, Nat.reduceAdd]
  refine call_fn rfl (rShort_ok _ (by rw [List.length_cons, flat_tot]; omega)) (fun _ => flat_av _) ?_
  have hl := shaR_len (UInt8.ofNat tag :: (parts.map encB).flatten)
  have h16 : ((shaR (UInt8.ofNat tag :: (parts.map encB).flatten)).take 16).length = 16 := by rw [List.length_take, hl]; rfl
  generalize (shaR (UInt8.ofNat tag :: (parts.map encB).flatten)).take 16 = o at *
  simp -implicitDefEqProofs only [pkA, ptA, ↓reduceIte, Nat.reduceEqDiff, Nat.reduceAdd, Nat.reduceMul, Nat.reduceLT, Nat.reduceLeDiff, Nat.zero_add, decide_true, isMb_zbox, zbox_len]
  rw [setV_zb h16]
  exact ⟨by rw [List.length_map, h16], isMb_cl, ldA_cl (by decide) h16 rfl⟩
end Go.Proofs.YtidlohfkfdeaiaaDoor
