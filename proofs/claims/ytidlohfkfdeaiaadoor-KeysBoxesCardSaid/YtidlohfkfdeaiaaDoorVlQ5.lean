/- The specification's layer 2: rotations, the padded message, the schedule. -/
import Derived.Test.YtidlohfkfdeaiaaDoorVlQ4
import Derived.Test.YtidlohfkfdeaiaaDoorVlQ3
set_option linter.unusedSimpArgs false
set_option linter.unusedVariables false
namespace Go.Proofs.YtidlohfkfdeaiaaDoor
open Go Go.Vl

variable {G : Gl}
set_option maxRecDepth 100000 in
theorem rotr_ok (x : W) (n : Nat) (h1 : 0 < n) (h2 : n < 32) : FnOK Tryd.prog G 122 [wv x, i64 (n : Int)] (wv (rr x n)) := by
  refine FnOK_by (rs := [.tmp 4]) false [] mixed Tryd.func122 rfl rfl rfl rfl (by kernel_rfl) (by simp) rfl rfl ?_
  have hw := wrap_of (n := 32 - (n : Int)) (k := 32 - n) (by omega) (by omega)
  have e1 := fun K => w_shl (K := K) (a := x) (n := 32 - n) (by omega)
  have e2 := fun K => w_shr (K := K) (a := x) (n := n) (by omega)
  simp -implicitDefEqProofs only [pkA, ↓reduceIte, Nat.reduceEqDiff, Nat.reduceAdd, Nat.zero_add, w_or, vbin_shl, vbin_shr, hw, e1, e2]
  unfold rr; rw [BitVec.or_comm]
set_option maxRecDepth 100000 in
theorem apB0 {l m : B} {K : V → Prop} (hl : l.length + m.length ≤ 140737488355328) (hK : ∀ E, (E = none ∨ E = EB) → K (.ow E (bC (l ++ m)))) : vappend Tryd.prog 71 (.ow none (bC l)) (.c (.sl (bC m))) K := by
  refine app_bC (m := m) ti_71 rfl ti_5 rfl rfl rfl (Or.inl rfl) hl ?_
  cases m with
  | nil => exact hK _ (Or.inl rfl)
  | cons x m => exact hK _ (Or.inr rfl)
theorem v_rem64 {m : Nat} {K : V → Prop} : vint .rem .i64 (m : Int) 64 K = K (i64 ((m % 64 : Nat) : Int)) := by
  have e : (m : Int).tmod 64 = ((m % 64 : Nat) : Int) := by rw [Int.tmod_eq_emod_of_nonneg (Int.natCast_nonneg m)]; rfl
  show ((64 : Int) ≠ 0 ∧ K (.c (.lit (.int .i64 ((m : Int).tmod 64))))) = _
  rw [e]
  have : ((64 : Int) ≠ 0) = True := by simp
  rw [this, true_and]
set_option maxRecDepth 100000 in
set_option maxHeartbeats 2500000 in
theorem padded_ok (b : B) (hb : b.length ≤ 1000000000) : FnOK Tryd.prog G 120 [bv b] (.ow EB (bC (b ++ padS b.length))) := by
  refine FnOK_by (rs := [.tmp 2]) false [9, 16, 27, 36] mixed Tryd.func120 rfl rfl rfl rfl (by kernel_rfl) (by simp) rfl rfl ?_
  have hz : (119 - b.length % 64) % 64 < 64 := Nat.mod_lt _ (by decide)
  have hpe : padS b.length = 128 :: (List.replicate ((119 - b.length % 64) % 64) 0 ++ u64be (8 * b.length % 18446744073709551616)) := rfl
  have hzm : (b.length + 1 + (119 - b.length % 64) % 64) % 64 = 56 := by omega
  have hzk : ∀ k, k < (119 - b.length % 64) % 64 → (b.length + 1 + k) % 64 ≠ 56 := by intro k hk; omega
  rw [hpe, show 8 * b.length % 18446744073709551616 = 8 * b.length by omega]
  generalize (119 - b.length % 64) % 64 = z at hz hzm hzk
  have hb0 : ∀ K, vbuildSlice Tryd.prog 71 0 [] K = K (.ow none (bC [])) := fun K => by
    rw [bsl_71 (by decide)]; simp -implicitDefEqProofs only [pkA, ↓reduceIte]; rfl
  simp -implicitDefEqProofs only [pkA, ↓reduceIte, Nat.reduceEqDiff, Nat.reduceAdd, Nat.reduceBEq, Nat.zero_add, hb0]
  refine apB0 (l := []) (by simp only [List.length_nil]; omega) fun E hE => ?_
  rw [List.nil_append]
  simp -implicitDefEqProofs only [pkA, ptA, ↓reduceIte, Nat.reduceEqDiff, Nat.reduceAdd, Nat.reduceBEq, Nat.reduceMul, Nat.reduceLeDiff, Nat.zero_add]
  refine ap1 (x := 128) hE (by omega) ?_
  simp -implicitDefEqProofs only [pkA, ↓reduceIte, Nat.reduceEqDiff]
  refine run_loop (fun k : Nat => hdS [(0, bv b), (3, .ow EB (bC (b ++ 128 :: List.replicate k 0)))] []) (fun k => z - k) (fun k => k ≤ z) 0 (Nat.zero_le _) ?_ ?_
  · refine le_hd rfl (Nat.zero_le _) (by simp) (by simp [FL, up_apply]) trivial
  rintro k hk R hnorm hexit hret
  have hll : ((bC (b ++ 128 :: List.replicate k 0)).length : Int) = ((b.length + 1 + k : Nat) : Int) := by rw [bC_len]; simp; omega
  simp -implicitDefEqProofs only [pkA, ptA, ↓reduceIte, Nat.reduceEqDiff, Nat.reduceAdd, Nat.reduceBEq, hll, v_rem64]
  refine vcond_of (fun hne => ?_) (fun heq => ?_)
  · have hlt : k < z := by
      have hne : (((b.length + 1 + k) % 64 : Nat) : Int) ≠ 56 := by simpa using hne
      have : k ≠ z := by rintro rfl; exact hne (by omega)
      omega
    simp -implicitDefEqProofs only [pkA, ptA, ↓reduceIte, Nat.reduceEqDiff, Nat.reduceAdd, Nat.reduceBEq, Nat.reduceMul, Nat.reduceLeDiff, Nat.zero_add]
    refine ap1 (x := 0) (Or.inr rfl) (by simp; omega) ?_
    simp -implicitDefEqProofs only [pkA, ↓reduceIte, Nat.reduceEqDiff]
    refine hnorm (k + 1) _ hlt (by omega) (le_hd rfl (Nat.zero_le _) (by simp) ?_ trivial)
    have e : (b ++ 128 :: List.replicate k 0 ++ [0] : B) = b ++ 128 :: List.replicate (k + 1) 0 := by rw [List.append_assoc, List.cons_append, ← List.replicate_succ']
    simp [FL, up_apply, ← e]
  have hkz : k = z := by
    have heq : (((b.length + 1 + k) % 64 : Nat) : Int) = 56 := by simpa using heq
    have : ¬ k < z := fun h => hzk k h (by omega)
    omega
  subst hkz
  simp -implicitDefEqProofs only [pkA]
  refine hexit _ _ ?_
  have hcv : ∀ K, vconv Tryd.prog 3 104 (i64 (b.length : Int)) K = K (.c (.lit (.int .u64 (b.length : Int)))) := fun K => by
    have e : IntKind.u64.wrap (b.length : Int) = (b.length : Int) := by rw [IntKind.wrap_u64]; omega
    simp only [vconv, ti_3, ti_104, e]
  have hN : IntKind.u64.wrap (8 * (b.length : Int)) = ((8 * b.length : Nat) : Int) := by rw [IntKind.wrap_u64]; omega
  simp -implicitDefEqProofs only [pkA, ptA, ↓reduceIte, Nat.reduceEqDiff, Nat.reduceAdd, Nat.reduceBEq, bC_len, hcv, hN]
  clear hexit hnorm hret heq hzk hzm hk R
  have hbn : 8 * b.length < 18446744073709551616 := by omega
  generalize 8 * b.length = N at *
  have h8 := u64be_len N
  have hu8 := fun i hi => u64be_at N (i := i) hi
  generalize u64be N = u at h8 hu8
  refine run_loop (fun i : Nat => hdS [(3, .ow EB (bC (b ++ 128 :: (List.replicate k 0 ++ u.take i)))), (4, .c (.lit (.int .u64 (N : Int)))), (5, i64 i)] []) (fun i => 8 - i) (fun i => i ≤ 8) 0 (Nat.zero_le _) ?_ ?_
  · refine le_hd rfl (Nat.zero_le _) (by simp) (by simp [FL, up_apply]) trivial
  rintro i hi R hnorm hexit hret
  simp -implicitDefEqProofs only [pkA, ↓reduceIte, Nat.reduceEqDiff, Nat.reduceAdd, Nat.reduceBEq]
  refine vcond_of (fun hlt => ?_) (fun hge => ?_)
  · have hlt : i < 8 := by have := dlt hlt; omega
    have hw1 := wrap_of (n := 8 * (i : Int)) (k := 8 * i) (by omega) (by omega)
    have hw2 := wrap_of (n := 56 - ((8 * i : Nat) : Int)) (k := 56 - 8 * i) (by omega) (by omega)
    have hw3 := wrap_of (n := (i : Int) + 1) (k := i + 1) (by omega) (by omega)
    have hsh := fun K => q_shr (K := K) (a := N) (n := 56 - 8 * i) (by omega)
    have hcw : ∀ (n : Nat) K, vconv Tryd.prog 104 5 (.c (.lit (.int .u64 (n : Int)))) K = K (.c (bc (UInt8.ofNat n))) := fun n K => conv_q8 ti_104 ti_5 rfl
    simp -implicitDefEqProofs only [pkA, ptA, ↓reduceIte, Nat.reduceEqDiff, Nat.reduceAdd, Nat.reduceBEq, Nat.reduceMul, Nat.reduceLeDiff, Nat.zero_add, vbin_shr, hw1, hw2, hsh, hcw]
    refine ap1 (Or.inr rfl) (by simp only [List.length_append, List.length_cons, List.length_replicate, List.length_take]; omega) ?_
    simp -implicitDefEqProofs only [pkA, ↓reduceIte, Nat.reduceEqDiff, Nat.reduceAdd, Nat.reduceBEq, hw3]
    refine hnorm (i + 1) _ hlt (by omega) (le_hd rfl (Nat.zero_le _) (by simp) ?_ trivial)
    rw [take_snoc (hu8 i hlt)]
    simp [FL, up_apply]
  have hi8 : i = 8 := by have := dge hge; omega
  subst hi8
  simp -implicitDefEqProofs only [pkA]
  refine hexit _ _ ?_
  rw [List.take_of_length_le (by omega)]
  simp -implicitDefEqProofs only [pkA, ↓reduceIte, Nat.reduceEqDiff, Nat.reduceAdd, Nat.reduceBEq]
theorem foldW_four (a b c d : UInt8) : foldW [a, b, c, d] = w8 a <<< 24 ||| w8 b <<< 16 ||| w8 c <<< 8 ||| w8 d := by
  simp only [foldW, List.foldl_cons, List.foldl_nil, BitVec.shiftLeft_or_distrib, ← BitVec.shiftLeft_add, Nat.reduceAdd]
  have : (0 : W) <<< 32 = 0 := rfl
  have h0 : ∀ x : W, (0 : W) ||| x = x := fun x => BitVec.zero_or
  rw [this, h0]
theorem four_at {b : B} {o : Nat} (h : o + 4 ≤ b.length) : ∃ x y z u, b[o]? = some x ∧ b[o + 1]? = some y ∧ b[o + 2]? = some z ∧ b[o + 3]? = some u ∧ (b.drop o).take 4 = [x, y, z, u] := by
  refine ⟨b[o], b[o + 1], b[o + 2], b[o + 3], List.getElem?_eq_getElem _, List.getElem?_eq_getElem _, List.getElem?_eq_getElem _, List.getElem?_eq_getElem _, ?_⟩
  rw [List.drop_eq_getElem_cons (by omega), List.drop_eq_getElem_cons (by omega), List.drop_eq_getElem_cons (by omega), List.drop_eq_getElem_cons (by omega)]
  rfl
set_option maxRecDepth 100000 in
set_option maxHeartbeats 4000000 in
theorem words_ok (b : B) (hb : b.length = 64) : FnOK Tryd.prog G 121 [bv b] (.agg ((schR b 64).reverse.map wc)) := by
  refine FnOK_by (rs := [.cell 2 145]) false [200017, 200025, 200034, 200043, 200046, 304601] mixed Tryd.func121 rfl rfl rfl rfl (by kernel_rfl) (by simp) rfl rfl ?_
  have hz : zbox 64 (.c (.lit (.int .u32 0))) = cl wc (pad64 []) := by unfold pad64; exact zbox_cl (f := wc) (x := (0 : W))
  have e8 := fun K a => w_shl (K := K) (a := a) (n := 8) (by omega)
  have e16 := fun K a => w_shl (K := K) (a := a) (n := 16) (by omega)
  have e24 := fun K a => w_shl (K := K) (a := a) (n := 24) (by omega)
  have s3 := fun K a => w_shr (K := K) (a := a) (n := 3) (by omega)
  have s10 := fun K a => w_shr (K := K) (a := a) (n := 10) (by omega)
  rw [show ((8 : Nat) : Int) = 8 from rfl] at e8
  rw [show ((16 : Nat) : Int) = 16 from rfl] at e16
  rw [show ((24 : Nat) : Int) = 24 from rfl] at e24
  rw [show ((3 : Nat) : Int) = 3 from rfl] at s3
  rw [show ((10 : Nat) : Int) = 10 from rfl] at s10
  simp -implicitDefEqProofs only [pkA, ptA, ↓reduceIte, Nat.reduceAdd, Nat.reduceBEq, Nat.zero_add]
  refine run_loop (fun t : Nat => hdS [(0, bv b), (2, .bp 0 0), (3, .bp 1 0), (4, i64 t)] [zbox 64 (.c (.lit (.int .u32 0))), cl wc (pad64 (schR b t).reverse)]) (fun t => 16 - t) (fun t => t ≤ 16) 0 (Nat.zero_le _) ?_ ?_
  · refine le_hd (by simp only [leOk, List.all_cons, List.all_nil, hz, cl_ltB, List.length_cons, List.length_nil]; rfl) (Nat.zero_le _) (by simp) (by simp [FL, up_apply]) (by simp [BL, up_apply, hz, schR])
  rintro t ht R hnorm hexit hret
  have hl := schR_len b t
  have hlr : (schR b t).reverse.length = t := by simp [hl]
  simp -implicitDefEqProofs only [pkA, ↓reduceIte, Nat.reduceEqDiff, Nat.reduceAdd, Nat.reduceBEq, Nat.zero_add]
  refine vcond_of (fun hlt => ?_) (fun hge => ?_)
  · have hlt : t < 16 := by have := dlt hlt; omega
    have hpl := pad64_len (l := (schR b t).reverse) (by omega)
    have hw := wrap_of (n := (t : Int) + 1) (k := t + 1) (by omega) (by omega)
    have m0 := wrap_of (n := 4 * (t : Int)) (k := 4 * t) (by omega) (by omega)
    have m1 := wrap_of (n := ((4 * t : Nat) : Int) + 1) (k := 4 * t + 1) (by omega) (by omega)
    have m2 := wrap_of (n := ((4 * t : Nat) : Int) + 2) (k := 4 * t + 2) (by omega) (by omega)
    have m3 := wrap_of (n := ((4 * t : Nat) : Int) + 3) (k := 4 * t + 3) (by omega) (by omega)
    obtain ⟨x, y, z, u, hx, hy, hzz, hu, h4⟩ := four_at (b := b) (o := 4 * t) (by omega)
    have e1 := schR_lo b hlt
    rw [h4, foldW_four] at e1
    simp -implicitDefEqProofs only [pkA, ↓reduceIte, Nat.reduceEqDiff, Nat.reduceAdd, Nat.reduceBEq, m0]
    refine ia_bC ti_71 rfl ti_5 rfl rfl hx ?_
    simp -implicitDefEqProofs only [pkA, ptA, ↓reduceIte, Nat.reduceEqDiff, Nat.reduceAdd, Nat.reduceBEq, c_w8, vbin_shl, m0, m1, e24]
    refine ia_bC ti_71 rfl ti_5 rfl rfl hy ?_
    simp -implicitDefEqProofs only [pkA, ptA, ↓reduceIte, Nat.reduceEqDiff, Nat.reduceAdd, Nat.reduceBEq, c_w8, w_or, vbin_shl, m0, m2, e16]
    refine ia_bC ti_71 rfl ti_5 rfl rfl hzz ?_
    simp -implicitDefEqProofs only [pkA, ptA, ↓reduceIte, Nat.reduceEqDiff, Nat.reduceAdd, Nat.reduceBEq, c_w8, w_or, vbin_shl, m0, m3, e8]
    refine ia_bC ti_71 rfl ti_5 rfl rfl hu ?_
    simp -implicitDefEqProofs only [pkA, ptA, ↓reduceIte, Nat.reduceEqDiff, Nat.reduceAdd, Nat.reduceBEq, c_w8, w_or]
    refine ia_cl ti_145 rfl ti_99 rfl rfl (by omega) ?_
    simp -implicitDefEqProofs only [pkA, ptA, ↓reduceIte, Nat.reduceEqDiff, Nat.reduceAdd, Nat.reduceBEq, Nat.reduceMul, Nat.reduceLT, Nat.zero_add, decide_true, isMb_cl, cl_len, hw]
    refine ⟨by omega, ?_⟩
    rw [setV_cl (k := t) (L := pad64 (schR b t).reverse) (by omega)]
    refine hnorm (t + 1) _ (by omega) (by omega) (le_hd (by simp only [leOk, List.all_cons, List.all_nil, hz, cl_ltB, List.length_cons, List.length_nil]; rfl) (Nat.zero_le _) (by simp) (by simp [FL, up_apply]) ?_)
    rw [pad64_set hlr (by omega), e1, List.reverse_cons]
    simp [BL, up_apply, bxs]
  have : t = 16 := by have := dge hge; omega
  subst this
  simp -implicitDefEqProofs only [pkA]
  refine hexit _ _ ?_
  clear hexit hret hnorm hge ht hl hlr R
  simp -implicitDefEqProofs only [pkA, ↓reduceIte, Nat.reduceAdd, Nat.reduceBEq]
  refine run_loop (fun t : Nat => hdS [(2, .bp 0 0), (3, .bp 1 0), (5, i64 t)] [zbox 64 (.c (.lit (.int .u32 0))), cl wc (pad64 (schR b t).reverse)]) (fun t => 64 - t) (fun t => 16 ≤ t ∧ t ≤ 64) 16 ⟨Nat.le_refl _, by omega⟩ ?_ ?_
  · refine le_hd (by simp only [leOk, List.all_cons, List.all_nil, hz, cl_ltB, List.length_cons, List.length_nil]; rfl) (Nat.zero_le _) (by simp) (by simp [FL, up_apply]) (by simp [BL, bxs])
  rintro t ⟨h16, ht⟩ R hnorm hexit hret
  have hl := schR_len b t
  have hlr : (schR b t).reverse.length = t := by simp [hl]
  simp -implicitDefEqProofs only [pkA, ↓reduceIte, Nat.reduceEqDiff, Nat.reduceAdd, Nat.reduceBEq, Nat.zero_add]
  refine vcond_of (fun hlt => ?_) (fun hge => ?_)
  · have hlt : t < 64 := by have := dlt hlt; omega
    have hpl := pad64_len (l := (schR b t).reverse) (by omega)
    have hw := wrap_of (n := (t : Int) + 1) (k := t + 1) (by omega) (by omega)
    have m15 := wrap_of (n := (t : Int) - 15) (k := t - 1 - 14) (by omega) (by omega)
    have m2 := wrap_of (n := (t : Int) - 2) (k := t - 1 - 1) (by omega) (by omega)
    have m16 := wrap_of (n := (t : Int) - 16) (k := t - 1 - 15) (by omega) (by omega)
    have m7 := wrap_of (n := (t : Int) - 7) (k := t - 1 - 6) (by omega) (by omega)
    have at_ : ∀ k, k < t → (pad64 (schR b t).reverse)[t - 1 - k]? = some ((schR b t).getD k 0) := fun k hk => by
      rw [pad64_at (by omega), rev_at b hk]
    have a14 := at_ 14 (by omega)
    have a1 := at_ 1 (by omega)
    have a15 := at_ 15 (by omega)
    have a6 := at_ 6 (by omega)
    have e1 := schR_hi b (t := t) (by omega)
    generalize (schR b t).getD 14 0 = p at *
    generalize (schR b t).getD 1 0 = q at *
    simp -implicitDefEqProofs only [pkA, ↓reduceIte, Nat.reduceEqDiff, Nat.reduceAdd, Nat.reduceBEq, m15]
    refine ia_cl ti_145 rfl ti_99 rfl rfl (by omega) ?_
    simp -implicitDefEqProofs only [pkA, ptA, ↓reduceIte, Nat.reduceAdd, Nat.reduceBEq, Nat.reduceMul, Nat.reduceLT, Nat.zero_add, decide_true, isMb_cl]
    refine ld_cl (by decide) a14 ?_
    simp -implicitDefEqProofs only [pkA, ↓reduceIte, Nat.reduceAdd, Nat.reduceBEq]
    refine call_fn rfl (rotr_ok p 7 (by omega) (by omega)) (fun _ => rfl) ?_
    simp -implicitDefEqProofs only [pkA, ↓reduceIte, Nat.reduceEqDiff, Nat.reduceBEq, m15]
    refine ia_cl ti_145 rfl ti_99 rfl rfl (by omega) ?_
    simp -implicitDefEqProofs only [pkA, ptA, ↓reduceIte, Nat.reduceAdd, Nat.reduceBEq, Nat.reduceMul, Nat.reduceLT, Nat.zero_add, decide_true, isMb_cl]
    refine ld_cl (by decide) a14 ?_
    simp -implicitDefEqProofs only [pkA, ↓reduceIte, Nat.reduceAdd, Nat.reduceBEq]
    refine call_fn rfl (rotr_ok p 18 (by omega) (by omega)) (fun _ => rfl) ?_
    simp -implicitDefEqProofs only [pkA, ↓reduceIte, Nat.reduceEqDiff, Nat.reduceBEq, w_xor, m15]
    refine ia_cl ti_145 rfl ti_99 rfl rfl (by omega) ?_
    simp -implicitDefEqProofs only [pkA, ptA, ↓reduceIte, Nat.reduceAdd, Nat.reduceBEq, Nat.reduceMul, Nat.reduceLT, Nat.zero_add, decide_true, isMb_cl]
    refine ld_cl (by decide) a14 ?_
    simp -implicitDefEqProofs only [pkA, ↓reduceIte, Nat.reduceEqDiff, Nat.reduceAdd, Nat.reduceBEq, w_xor, vbin_shr, s3, m2]
    refine ia_cl ti_145 rfl ti_99 rfl rfl (by omega) ?_
    simp -implicitDefEqProofs only [pkA, ptA, ↓reduceIte, Nat.reduceAdd, Nat.reduceBEq, Nat.reduceMul, Nat.reduceLT, Nat.zero_add, decide_true, isMb_cl]
    refine ld_cl (by decide) a1 ?_
    simp -implicitDefEqProofs only [pkA, ↓reduceIte, Nat.reduceAdd, Nat.reduceBEq]
    refine call_fn rfl (rotr_ok q 17 (by omega) (by omega)) (fun _ => rfl) ?_
    simp -implicitDefEqProofs only [pkA, ↓reduceIte, Nat.reduceEqDiff, Nat.reduceBEq, m2]
    refine ia_cl ti_145 rfl ti_99 rfl rfl (by omega) ?_
    simp -implicitDefEqProofs only [pkA, ptA, ↓reduceIte, Nat.reduceAdd, Nat.reduceBEq, Nat.reduceMul, Nat.reduceLT, Nat.zero_add, decide_true, isMb_cl]
    refine ld_cl (by decide) a1 ?_
    simp -implicitDefEqProofs only [pkA, ↓reduceIte, Nat.reduceAdd, Nat.reduceBEq]
    refine call_fn rfl (rotr_ok q 19 (by omega) (by omega)) (fun _ => rfl) ?_
    simp -implicitDefEqProofs only [pkA, ↓reduceIte, Nat.reduceEqDiff, Nat.reduceBEq, w_xor, m2]
    refine ia_cl ti_145 rfl ti_99 rfl rfl (by omega) ?_
    simp -implicitDefEqProofs only [pkA, ptA, ↓reduceIte, Nat.reduceAdd, Nat.reduceBEq, Nat.reduceMul, Nat.reduceLT, Nat.zero_add, decide_true, isMb_cl]
    refine ld_cl (by decide) a1 ?_
    simp -implicitDefEqProofs only [pkA, ↓reduceIte, Nat.reduceEqDiff, Nat.reduceAdd, Nat.reduceBEq, w_xor, vbin_shr, s10, m16]
    refine ia_cl ti_145 rfl ti_99 rfl rfl (by omega) ?_
    simp -implicitDefEqProofs only [pkA, ptA, ↓reduceIte, Nat.reduceAdd, Nat.reduceBEq, Nat.reduceMul, Nat.reduceLT, Nat.zero_add, decide_true, isMb_cl]
    refine ld_cl (by decide) a15 ?_
    simp -implicitDefEqProofs only [pkA, ↓reduceIte, Nat.reduceEqDiff, Nat.reduceBEq, wr_add, m7]
    refine ia_cl ti_145 rfl ti_99 rfl rfl (by omega) ?_
    simp -implicitDefEqProofs only [pkA, ptA, ↓reduceIte, Nat.reduceAdd, Nat.reduceBEq, Nat.reduceMul, Nat.reduceLT, Nat.zero_add, decide_true, isMb_cl]
    refine ld_cl (by decide) a6 ?_
    simp -implicitDefEqProofs only [pkA, ↓reduceIte, Nat.reduceEqDiff, Nat.reduceBEq, wr_add]
    refine ia_cl ti_145 rfl ti_99 rfl rfl hlt ?_
    simp -implicitDefEqProofs only [pkA, ptA, ↓reduceIte, Nat.reduceEqDiff, Nat.reduceAdd, Nat.reduceBEq, Nat.reduceMul, Nat.reduceLT, Nat.zero_add, decide_true, isMb_cl, cl_len, hw]
    refine ⟨by omega, ?_⟩
    rw [setV_cl (k := t) (L := pad64 (schR b t).reverse) (by omega)]
    refine hnorm (t + 1) _ ⟨by omega, by omega⟩ (by omega) (le_hd (by simp only [leOk, List.all_cons, List.all_nil, hz, cl_ltB, List.length_cons, List.length_nil]; rfl) (Nat.zero_le _) (by simp) (by simp [FL, up_apply]) ?_)
    have e2 := fun x => pad64_set hlr hlt x
    rw [e1, List.reverse_cons, ← e2]
    simp [BL, up_apply, bxs]; rfl
  have : t = 64 := by have := dge hge; omega
  subst this
  simp -implicitDefEqProofs only [pkA]
  refine hexit _ _ ?_
  clear hexit hret hnorm hge ht
  have hpl := pad64_len (l := (schR b 64).reverse) (by omega)
  have he : pad64 (schR b 64).reverse = (schR b 64).reverse := by unfold pad64; rw [hlr]; simp
  simp -implicitDefEqProofs only [pkA, ptA, ↓reduceIte, Nat.reduceEqDiff, Nat.reduceAdd, Nat.reduceBEq, Nat.reduceMul, Nat.reduceLT, decide_true, isMb_cl]
  refine ldA_cl (by decide) hpl ?_
  rw [he]
  simp -implicitDefEqProofs only [pkA, ptA, ↓reduceIte, Nat.reduceEqDiff, Nat.reduceAdd, Nat.reduceBEq, Nat.reduceMul, Nat.reduceLT, Nat.reduceLeDiff, Nat.zero_add, decide_true, isMb_zbox, zbox_len]
  refine ⟨by simp [hl], ?_⟩
  rw [setV_all (by simp [zbox_len, hl]), ← cl_eq]
  exact ⟨isMb_cl, ldA_cl (by decide) (by simp [hl]) rfl⟩
end Go.Proofs.YtidlohfkfdeaiaaDoor
