/- The specification's layer 3: words, quarter rounds, rounds. -/
import Derived.Test.YtidlohfkfdeaiaaDoorVlQ7
import Derived.Test.YtidlohfkfdeaiaaDoorVlC6
set_option linter.unusedSimpArgs false
set_option linter.unusedVariables false
namespace Go.Proofs.YtidlohfkfdeaiaaDoor
open Go Go.Vl

variable {G : Gl}
theorem w8_bit {x : UInt8} {i : Nat} (h : 8 ≤ i) : (w8 x).getLsbD i = false := by
  rw [← BitVec.testBit_toNat, w8_toNat]
  exact Nat.testBit_lt_two_pow (Nat.lt_of_lt_of_le x.toNat_lt (Nat.pow_le_pow_right (by decide) h))
theorem add_or {x y : W} (n : Nat) (hx : ∀ i, n ≤ i → x.getLsbD i = false) (hy : ∀ i, i < n → y.getLsbD i = false) : x + y = x ||| y := by
  apply BitVec.add_eq_or_of_and_eq_zero
  apply BitVec.eq_of_getLsbD_eq
  intro i hi
  rw [BitVec.getLsbD_and]
  rcases Nat.lt_or_ge i n with h | h
  · rw [hy i h]; simp
  · rw [hx i h]; simp
theorem shl_low {x : W} {n i : Nat} (h : i < n) : (x <<< n).getLsbD i = false := by
  rw [BitVec.getLsbD_shiftLeft]; simp [h]
theorem shl_high {x : UInt8} {n i : Nat} (h : n + 8 ≤ i) : (w8 x <<< n).getLsbD i = false := by
  rw [BitVec.getLsbD_shiftLeft, w8_bit (by omega)]; simp
theorem leW_add (a b c d : UInt8) : w8 a + w8 b <<< 8 + w8 c <<< 16 + w8 d <<< 24 = leW a b c d := by
  unfold leW
  rw [add_or (x := w8 a) (y := w8 b <<< 8) 8 (fun i h => w8_bit h) (fun i h => shl_low h)]
  rw [add_or (x := w8 a ||| w8 b <<< 8) (y := w8 c <<< 16) 16 (fun i h => by rw [BitVec.getLsbD_or, w8_bit (by omega), shl_high (by omega)]; rfl) (fun i h => shl_low h)]
  rw [add_or (x := w8 a ||| w8 b <<< 8 ||| w8 c <<< 16) (y := w8 d <<< 24) 24 (fun i h => by rw [BitVec.getLsbD_or, BitVec.getLsbD_or, w8_bit (by omega), shl_high (by omega), shl_high (by omega)]; rfl) (fun i h => shl_low h)]
set_option maxRecDepth 100000 in
set_option maxHeartbeats 1500000 in
theorem word_ok (a b c d : UInt8) (r : B) : FnOK Tryd.prog G 116 [sv (a :: b :: c :: d :: r)] (wv (leW a b c d)) := by
  refine FnOK_by (rs := [.tmp 2]) false [] mixed Tryd.func116 rfl rfl rfl rfl (by kernel_rfl) (by simp) rfl rfl ?_
  simp -implicitDefEqProofs only [pkA, ↓reduceIte, Nat.reduceEqDiff, Nat.reduceAdd, Nat.zero_add]
  refine ix_sv ti_9 rfl (k := 0) rfl rfl ?_
  simp -implicitDefEqProofs only [pkA, ↓reduceIte, Nat.reduceEqDiff, Nat.reduceAdd, c_w8]
  refine ix_sv ti_9 rfl (k := 1) rfl rfl ?_
  simp -implicitDefEqProofs only [pkA, ↓reduceIte, Nat.reduceEqDiff, Nat.reduceAdd, c_w8, wr_add, vbin_shl, shl8]
  refine ix_sv ti_9 rfl (k := 2) rfl rfl ?_
  simp -implicitDefEqProofs only [pkA, ↓reduceIte, Nat.reduceEqDiff, Nat.reduceAdd, c_w8, wr_add, vbin_shl, shl16]
  refine ix_sv ti_9 rfl (k := 3) rfl rfl ?_
  simp -implicitDefEqProofs only [pkA, ↓reduceIte, Nat.reduceEqDiff, Nat.reduceAdd, c_w8, wr_add, vbin_shl, shl24]
  rw [← leW_add]
theorem drop4 (l : B) (o : Nat) (h : o + 4 ≤ l.length) : l.drop o = l.getD o 0 :: l.getD (o + 1) 0 :: l.getD (o + 2) 0 :: l.getD (o + 3) 0 :: l.drop (o + 4) := by
  have g : ∀ (k : Nat) (hk : k < l.length), l.getD k 0 = l[k] := fun k hk => by simp [List.getD_eq_getElem?_getD, hk]
  rw [List.drop_eq_getElem_cons (by omega : o < l.length), List.drop_eq_getElem_cons (by omega : o + 1 < l.length), List.drop_eq_getElem_cons (by omega : o + 2 < l.length), List.drop_eq_getElem_cons (by omega : o + 3 < l.length),
    g o (by omega), g (o + 1) (by omega), g (o + 2) (by omega), g (o + 3) (by omega)]
theorem word_at (l : B) (o : Nat) (h : o + 4 ≤ l.length) : FnOK Tryd.prog G 116 [sv (l.drop o)] (wv (leW (l.getD o 0) (l.getD (o + 1) 0) (l.getD (o + 2) 0) (l.getD (o + 3) 0))) := by
  rw [drop4 l o h]; exact word_ok _ _ _ _ _
set_option maxRecDepth 100000 in
theorem rotl_ok (x : W) (n : Nat) (h1 : 0 < n) (h2 : n < 32) : FnOK Tryd.prog G 131 [wv x, i64 (n : Int)] (wv (rr x (32 - n))) := by
  refine FnOK_by (rs := [.tmp 4]) false [] mixed Tryd.func131 rfl rfl rfl rfl (by kernel_rfl) (by simp) rfl rfl ?_
  have hw := wrap_of (n := 32 - (n : Int)) (k := 32 - n) (by omega) (by omega)
  have e1 := fun K => w_shl (K := K) (a := x) (n := n) (by omega)
  have e2 := fun K => w_shr (K := K) (a := x) (n := 32 - n) (by omega)
  simp -implicitDefEqProofs only [pkA, ↓reduceIte, Nat.reduceEqDiff, Nat.reduceAdd, Nat.zero_add, w_or, vbin_shl, vbin_shr, hw, e1, e2]
  unfold rr; rw [show 32 - (32 - n) = n by omega]
theorem set8 {s : List W} {i j k l : Nat} {x1 y1 z1 u1 x2 y2 z2 u2 : W} :
    (((((((s.set i x1).set l y1).set k z1).set j u1).set i x2).set l y2).set k z2).set j u2 = (((s.set i x2).set l y2).set k z2).set j u2 := by
  apply List.ext_getElem?
  intro q
  simp only [List.getElem?_set, List.length_set]
  by_cases hj : j = q
  · simp [hj]
  by_cases hk : k = q
  · simp [hj, hk]
  by_cases hl : l = q
  · simp [hj, hk, hl]
  by_cases hi : i = q
  · simp [hj, hk, hl, hi]
  simp [hj, hk, hl, hi]
set_option maxRecDepth 100000 in
set_option maxHeartbeats 4000000 in
theorem rquarter_ok (s : List W) (i j k l : Nat) (hs : s.length = 16) (hi : i < 16 ∧ j < 16 ∧ k < 16 ∧ l < 16) (hij : i ≠ j ∧ i ≠ k ∧ i ≠ l ∧ j ≠ k ∧ j ≠ l ∧ k ≠ l) :
    FnOK Tryd.prog G 127 [.agg (s.map wc), i64 (i : Int), i64 (j : Int), i64 (k : Int), i64 (l : Int)] (.agg ((qrAt s i j k l).map wc)) := by
  refine FnOK_by (rs := [.cell 10 124]) false [] mixed Tryd.func127 rfl rfl rfl rfl (by kernel_rfl) (by simp) rfl rfl ?_
  have hqr : qrAt s i j k l = (((s.set i (qr (atW s i) (atW s j) (atW s k) (atW s l)).1).set l (qr (atW s i) (atW s j) (atW s k) (atW s l)).2.2.2).set k (qr (atW s i) (atW s j) (atW s k) (atW s l)).2.2.1).set j (qr (atW s i) (atW s j) (atW s k) (atW s l)).2.1 := rfl
  have hql : (qrAt s i j k l).length = 16 := by rw [qrAt_len, hs]
  obtain ⟨i1, i2, i3, i4⟩ := hi
  obtain ⟨nij, nik, nil, njk, njl, nkl⟩ := hij
  have ha := atW_at (s := s) (i := i) (by omega)
  have hb := atW_at (s := s) (i := j) (by omega)
  have hc := atW_at (s := s) (i := k) (by omega)
  have hd := atW_at (s := s) (i := l) (by omega)
  generalize atW s i = a at *
  generalize atW s j = b at *
  generalize atW s k = c at *
  generalize atW s l = d at *
  have hq : qr a b c d = (a + b + rr (b ^^^ (c + rr (d ^^^ (a + b)) 16)) 20,
      rr (rr (b ^^^ (c + rr (d ^^^ (a + b)) 16)) 20 ^^^ (c + rr (d ^^^ (a + b)) 16 + rr (rr (d ^^^ (a + b)) 16 ^^^ (a + b + rr (b ^^^ (c + rr (d ^^^ (a + b)) 16)) 20)) 24)) 25,
      c + rr (d ^^^ (a + b)) 16 + rr (rr (d ^^^ (a + b)) 16 ^^^ (a + b + rr (b ^^^ (c + rr (d ^^^ (a + b)) 16)) 20)) 24,
      rr (rr (d ^^^ (a + b)) 16 ^^^ (a + b + rr (b ^^^ (c + rr (d ^^^ (a + b)) 16)) 20)) 24) := rfl
  rw [hq] at hqr
  simp only at hqr
  rw [← set8 (x1 := a + b) (y1 := rr (d ^^^ (a + b)) 16) (z1 := c + rr (d ^^^ (a + b)) 16) (u1 := rr (b ^^^ (c + rr (d ^^^ (a + b)) 16)) 20)] at hqr
  have hzb : zbox 16 (.c (.lit (.int .u32 0))) = cl wc (List.replicate 16 0) := zbox_cl (f := wc) (x := (0 : W))
  simp -implicitDefEqProofs only [pkA, ptA, ↓reduceIte, Nat.reduceEqDiff, Nat.reduceAdd, Nat.zero_add, ← cl_eq]
  refine ia_cl ti_124 rfl ti_99 rfl rfl i1 ?_
  simp -implicitDefEqProofs only [pkA, ptA, ↓reduceIte, Nat.reduceEqDiff, Nat.reduceAdd, Nat.reduceMul, Nat.reduceLT, Nat.zero_add, decide_true, isMb_cl]
  refine ld_cl (by decide) ha ?_
  simp -implicitDefEqProofs only [pkA, ↓reduceIte, Nat.reduceEqDiff]
  refine ia_cl ti_124 rfl ti_99 rfl rfl i2 ?_
  simp -implicitDefEqProofs only [pkA, ptA, ↓reduceIte, Nat.reduceEqDiff, Nat.reduceAdd, Nat.reduceMul, Nat.reduceLT, Nat.zero_add, decide_true, isMb_cl]
  refine ld_cl (by decide) hb ?_
  simp -implicitDefEqProofs only [pkA, ↓reduceIte, Nat.reduceEqDiff, wr_add]
  refine ia_cl ti_124 rfl ti_99 rfl rfl i1 ?_
  simp -implicitDefEqProofs only [pkA, ptA, ↓reduceIte, Nat.reduceEqDiff, Nat.reduceAdd, Nat.reduceMul, Nat.reduceLT, Nat.zero_add, decide_true, isMb_cl, cl_len]
  refine ⟨by omega, ?_⟩
  obtain ⟨x1, w1⟩ : ∃ t : W, t = a + b := ⟨_, rfl⟩
  have g1 : setV (cl wc s) i [wv x1] = cl wc (s.set i x1) := setV_cl (by omega)
  rw [w1] at g1
  rw [g1, ← w1]
  obtain ⟨s1, e1⟩ : ∃ t : List W, t = s.set i x1 := ⟨_, rfl⟩
  rw [← e1]
  have m1 : s1.length = 16 := by rw [e1, List.length_set]; exact hs
  have f1i : s1[i]? = some x1 := by rw [e1]; exact upd_self (by omega)
  have f1j : s1[j]? = some b := by rw [e1]; exact upd nij hb
  have f1k : s1[k]? = some c := by rw [e1]; exact upd nik hc
  have f1l : s1[l]? = some d := by rw [e1]; exact upd nil hd
  refine ia_cl ti_124 rfl ti_99 rfl rfl i4 ?_
  simp -implicitDefEqProofs only [pkA, ptA, ↓reduceIte, Nat.reduceAdd, Nat.reduceMul, Nat.reduceLT, Nat.zero_add, decide_true, isMb_cl]
  refine ld_cl (by decide) f1l ?_
  simp -implicitDefEqProofs only [pkA, ↓reduceIte, Nat.reduceEqDiff]
  refine ia_cl ti_124 rfl ti_99 rfl rfl i1 ?_
  simp -implicitDefEqProofs only [pkA, ptA, ↓reduceIte, Nat.reduceAdd, Nat.reduceMul, Nat.reduceLT, Nat.zero_add, decide_true, isMb_cl]
  refine ld_cl (by decide) f1i ?_
  simp -implicitDefEqProofs only [pkA, ↓reduceIte, Nat.reduceEqDiff, Nat.reduceAdd, w_xor]
  refine call_fn rfl (rotl_ok _ 16 (by decide) (by decide)) (fun _ => rfl) ?_
  simp -implicitDefEqProofs only [pkA, ↓reduceIte, Nat.reduceEqDiff, Nat.reduceSub]
  refine ia_cl ti_124 rfl ti_99 rfl rfl i4 ?_
  simp -implicitDefEqProofs only [pkA, ptA, ↓reduceIte, Nat.reduceEqDiff, Nat.reduceAdd, Nat.reduceMul, Nat.reduceLT, Nat.zero_add, decide_true, isMb_cl, cl_len]
  refine ⟨by omega, ?_⟩
  obtain ⟨x2, w2⟩ : ∃ t : W, t = rr (d ^^^ x1) 16 := ⟨_, rfl⟩
  have g2 : setV (cl wc s1) l [wv x2] = cl wc (s1.set l x2) := setV_cl (by omega)
  rw [w2] at g2
  rw [g2, ← w2]
  obtain ⟨s2, e2⟩ : ∃ t : List W, t = s1.set l x2 := ⟨_, rfl⟩
  rw [← e2]
  have m2 : s2.length = 16 := by rw [e2, List.length_set]; exact m1
  have f2i : s2[i]? = some x1 := by rw [e2]; exact upd nil.symm f1i
  have f2j : s2[j]? = some b := by rw [e2]; exact upd njl.symm f1j
  have f2k : s2[k]? = some c := by rw [e2]; exact upd nkl.symm f1k
  have f2l : s2[l]? = some x2 := by rw [e2]; exact upd_self (by omega)
  refine ia_cl ti_124 rfl ti_99 rfl rfl i3 ?_
  simp -implicitDefEqProofs only [pkA, ptA, ↓reduceIte, Nat.reduceAdd, Nat.reduceMul, Nat.reduceLT, Nat.zero_add, decide_true, isMb_cl]
  refine ld_cl (by decide) f2k ?_
  simp -implicitDefEqProofs only [pkA, ↓reduceIte, Nat.reduceEqDiff]
  refine ia_cl ti_124 rfl ti_99 rfl rfl i4 ?_
  simp -implicitDefEqProofs only [pkA, ptA, ↓reduceIte, Nat.reduceAdd, Nat.reduceMul, Nat.reduceLT, Nat.zero_add, decide_true, isMb_cl]
  refine ld_cl (by decide) f2l ?_
  simp -implicitDefEqProofs only [pkA, ↓reduceIte, Nat.reduceEqDiff, wr_add]
  refine ia_cl ti_124 rfl ti_99 rfl rfl i3 ?_
  simp -implicitDefEqProofs only [pkA, ptA, ↓reduceIte, Nat.reduceEqDiff, Nat.reduceAdd, Nat.reduceMul, Nat.reduceLT, Nat.zero_add, decide_true, isMb_cl, cl_len]
  refine ⟨by omega, ?_⟩
  obtain ⟨x3, w3⟩ : ∃ t : W, t = c + x2 := ⟨_, rfl⟩
  have g3 : setV (cl wc s2) k [wv x3] = cl wc (s2.set k x3) := setV_cl (by omega)
  rw [w3] at g3
  rw [g3, ← w3]
  obtain ⟨s3, e3⟩ : ∃ t : List W, t = s2.set k x3 := ⟨_, rfl⟩
  rw [← e3]
  have m3 : s3.length = 16 := by rw [e3, List.length_set]; exact m2
  have f3i : s3[i]? = some x1 := by rw [e3]; exact upd nik.symm f2i
  have f3j : s3[j]? = some b := by rw [e3]; exact upd njk.symm f2j
  have f3k : s3[k]? = some x3 := by rw [e3]; exact upd_self (by omega)
  have f3l : s3[l]? = some x2 := by rw [e3]; exact upd nkl f2l
  refine ia_cl ti_124 rfl ti_99 rfl rfl i2 ?_
  simp -implicitDefEqProofs only [pkA, ptA, ↓reduceIte, Nat.reduceAdd, Nat.reduceMul, Nat.reduceLT, Nat.zero_add, decide_true, isMb_cl]
  refine ld_cl (by decide) f3j ?_
  simp -implicitDefEqProofs only [pkA, ↓reduceIte, Nat.reduceEqDiff]
  refine ia_cl ti_124 rfl ti_99 rfl rfl i3 ?_
  simp -implicitDefEqProofs only [pkA, ptA, ↓reduceIte, Nat.reduceAdd, Nat.reduceMul, Nat.reduceLT, Nat.zero_add, decide_true, isMb_cl]
  refine ld_cl (by decide) f3k ?_
  simp -implicitDefEqProofs only [pkA, ↓reduceIte, Nat.reduceEqDiff, Nat.reduceAdd, w_xor]
  refine call_fn rfl (rotl_ok _ 12 (by decide) (by decide)) (fun _ => rfl) ?_
  simp -implicitDefEqProofs only [pkA, ↓reduceIte, Nat.reduceEqDiff, Nat.reduceSub]
  refine ia_cl ti_124 rfl ti_99 rfl rfl i2 ?_
  simp -implicitDefEqProofs only [pkA, ptA, ↓reduceIte, Nat.reduceEqDiff, Nat.reduceAdd, Nat.reduceMul, Nat.reduceLT, Nat.zero_add, decide_true, isMb_cl, cl_len]
  refine ⟨by omega, ?_⟩
  obtain ⟨x4, w4⟩ : ∃ t : W, t = rr (b ^^^ x3) 20 := ⟨_, rfl⟩
  have g4 : setV (cl wc s3) j [wv x4] = cl wc (s3.set j x4) := setV_cl (by omega)
  rw [w4] at g4
  rw [g4, ← w4]
  obtain ⟨s4, e4⟩ : ∃ t : List W, t = s3.set j x4 := ⟨_, rfl⟩
  rw [← e4]
  have m4 : s4.length = 16 := by rw [e4, List.length_set]; exact m3
  have f4i : s4[i]? = some x1 := by rw [e4]; exact upd nij.symm f3i
  have f4j : s4[j]? = some x4 := by rw [e4]; exact upd_self (by omega)
  have f4k : s4[k]? = some x3 := by rw [e4]; exact upd njk f3k
  have f4l : s4[l]? = some x2 := by rw [e4]; exact upd njl f3l
  refine ia_cl ti_124 rfl ti_99 rfl rfl i1 ?_
  simp -implicitDefEqProofs only [pkA, ptA, ↓reduceIte, Nat.reduceAdd, Nat.reduceMul, Nat.reduceLT, Nat.zero_add, decide_true, isMb_cl]
  refine ld_cl (by decide) f4i ?_
  simp -implicitDefEqProofs only [pkA, ↓reduceIte, Nat.reduceEqDiff]
  refine ia_cl ti_124 rfl ti_99 rfl rfl i2 ?_
  simp -implicitDefEqProofs only [pkA, ptA, ↓reduceIte, Nat.reduceAdd, Nat.reduceMul, Nat.reduceLT, Nat.zero_add, decide_true, isMb_cl]
  refine ld_cl (by decide) f4j ?_
  simp -implicitDefEqProofs only [pkA, ↓reduceIte, Nat.reduceEqDiff, wr_add]
  refine ia_cl ti_124 rfl ti_99 rfl rfl i1 ?_
  simp -implicitDefEqProofs only [pkA, ptA, ↓reduceIte, Nat.reduceEqDiff, Nat.reduceAdd, Nat.reduceMul, Nat.reduceLT, Nat.zero_add, decide_true, isMb_cl, cl_len]
  refine ⟨by omega, ?_⟩
  obtain ⟨x5, w5⟩ : ∃ t : W, t = x1 + x4 := ⟨_, rfl⟩
  have g5 : setV (cl wc s4) i [wv x5] = cl wc (s4.set i x5) := setV_cl (by omega)
  rw [w5] at g5
  rw [g5, ← w5]
  obtain ⟨s5, e5⟩ : ∃ t : List W, t = s4.set i x5 := ⟨_, rfl⟩
  rw [← e5]
  have m5 : s5.length = 16 := by rw [e5, List.length_set]; exact m4
  have f5i : s5[i]? = some x5 := by rw [e5]; exact upd_self (by omega)
  have f5j : s5[j]? = some x4 := by rw [e5]; exact upd nij f4j
  have f5k : s5[k]? = some x3 := by rw [e5]; exact upd nik f4k
  have f5l : s5[l]? = some x2 := by rw [e5]; exact upd nil f4l
  refine ia_cl ti_124 rfl ti_99 rfl rfl i4 ?_
  simp -implicitDefEqProofs only [pkA, ptA, ↓reduceIte, Nat.reduceAdd, Nat.reduceMul, Nat.reduceLT, Nat.zero_add, decide_true, isMb_cl]
  refine ld_cl (by decide) f5l ?_
  simp -implicitDefEqProofs only [pkA, ↓reduceIte, Nat.reduceEqDiff]
  refine ia_cl ti_124 rfl ti_99 rfl rfl i1 ?_
  simp -implicitDefEqProofs only [pkA, ptA, ↓reduceIte, Nat.reduceAdd, Nat.reduceMul, Nat.reduceLT, Nat.zero_add, decide_true, isMb_cl]
  refine ld_cl (by decide) f5i ?_
  simp -implicitDefEqProofs only [pkA, ↓reduceIte, Nat.reduceEqDiff, Nat.reduceAdd, w_xor]
  refine call_fn rfl (rotl_ok _ 8 (by decide) (by decide)) (fun _ => rfl) ?_
  simp -implicitDefEqProofs only [pkA, ↓reduceIte, Nat.reduceEqDiff, Nat.reduceSub]
  refine ia_cl ti_124 rfl ti_99 rfl rfl i4 ?_
  simp -implicitDefEqProofs only [pkA, ptA, ↓reduceIte, Nat.reduceEqDiff, Nat.reduceAdd, Nat.reduceMul, Nat.reduceLT, Nat.zero_add, decide_true, isMb_cl, cl_len]
  refine ⟨by omega, ?_⟩
  obtain ⟨x6, w6⟩ : ∃ t : W, t = rr (x2 ^^^ x5) 24 := ⟨_, rfl⟩
  have g6 : setV (cl wc s5) l [wv x6] = cl wc (s5.set l x6) := setV_cl (by omega)
  rw [w6] at g6
  rw [g6, ← w6]
  obtain ⟨s6, e6⟩ : ∃ t : List W, t = s5.set l x6 := ⟨_, rfl⟩
  rw [← e6]
  have m6 : s6.length = 16 := by rw [e6, List.length_set]; exact m5
  have f6i : s6[i]? = some x5 := by rw [e6]; exact upd nil.symm f5i
  have f6j : s6[j]? = some x4 := by rw [e6]; exact upd njl.symm f5j
  have f6k : s6[k]? = some x3 := by rw [e6]; exact upd nkl.symm f5k
  have f6l : s6[l]? = some x6 := by rw [e6]; exact upd_self (by omega)
  refine ia_cl ti_124 rfl ti_99 rfl rfl i3 ?_
  simp -implicitDefEqProofs only [pkA, ptA, ↓reduceIte, Nat.reduceAdd, Nat.reduceMul, Nat.reduceLT, Nat.zero_add, decide_true, isMb_cl]
  refine ld_cl (by decide) f6k ?_
  simp -implicitDefEqProofs only [pkA, ↓reduceIte, Nat.reduceEqDiff]
  refine ia_cl ti_124 rfl ti_99 rfl rfl i4 ?_
  simp -implicitDefEqProofs only [pkA, ptA, ↓reduceIte, Nat.reduceAdd, Nat.reduceMul, Nat.reduceLT, Nat.zero_add, decide_true, isMb_cl]
  refine ld_cl (by decide) f6l ?_
  simp -implicitDefEqProofs only [pkA, ↓reduceIte, Nat.reduceEqDiff, wr_add]
  refine ia_cl ti_124 rfl ti_99 rfl rfl i3 ?_
  simp -implicitDefEqProofs only [pkA, ptA, ↓reduceIte, Nat.reduceEqDiff, Nat.reduceAdd, Nat.reduceMul, Nat.reduceLT, Nat.zero_add, decide_true, isMb_cl, cl_len]
  refine ⟨by omega, ?_⟩
  obtain ⟨x7, w7⟩ : ∃ t : W, t = x3 + x6 := ⟨_, rfl⟩
  have g7 : setV (cl wc s6) k [wv x7] = cl wc (s6.set k x7) := setV_cl (by omega)
  rw [w7] at g7
  rw [g7, ← w7]
  obtain ⟨s7, e7⟩ : ∃ t : List W, t = s6.set k x7 := ⟨_, rfl⟩
  rw [← e7]
  have m7 : s7.length = 16 := by rw [e7, List.length_set]; exact m6
  have f7i : s7[i]? = some x5 := by rw [e7]; exact upd nik.symm f6i
  have f7j : s7[j]? = some x4 := by rw [e7]; exact upd njk.symm f6j
  have f7k : s7[k]? = some x7 := by rw [e7]; exact upd_self (by omega)
  have f7l : s7[l]? = some x6 := by rw [e7]; exact upd nkl f6l
  refine ia_cl ti_124 rfl ti_99 rfl rfl i2 ?_
  simp -implicitDefEqProofs only [pkA, ptA, ↓reduceIte, Nat.reduceAdd, Nat.reduceMul, Nat.reduceLT, Nat.zero_add, decide_true, isMb_cl]
  refine ld_cl (by decide) f7j ?_
  simp -implicitDefEqProofs only [pkA, ↓reduceIte, Nat.reduceEqDiff]
  refine ia_cl ti_124 rfl ti_99 rfl rfl i3 ?_
  simp -implicitDefEqProofs only [pkA, ptA, ↓reduceIte, Nat.reduceAdd, Nat.reduceMul, Nat.reduceLT, Nat.zero_add, decide_true, isMb_cl]
  refine ld_cl (by decide) f7k ?_
  simp -implicitDefEqProofs only [pkA, ↓reduceIte, Nat.reduceEqDiff, Nat.reduceAdd, w_xor]
  refine call_fn rfl (rotl_ok _ 7 (by decide) (by decide)) (fun _ => rfl) ?_
  simp -implicitDefEqProofs only [pkA, ↓reduceIte, Nat.reduceEqDiff, Nat.reduceSub]
  refine ia_cl ti_124 rfl ti_99 rfl rfl i2 ?_
  simp -implicitDefEqProofs only [pkA, ptA, ↓reduceIte, Nat.reduceEqDiff, Nat.reduceAdd, Nat.reduceMul, Nat.reduceLT, Nat.zero_add, decide_true, isMb_cl, cl_len]
  refine ⟨by omega, ?_⟩
  obtain ⟨x8, w8⟩ : ∃ t : W, t = rr (x4 ^^^ x7) 25 := ⟨_, rfl⟩
  have g8 : setV (cl wc s7) j [wv x8] = cl wc (s7.set j x8) := setV_cl (by omega)
  rw [w8] at g8
  rw [g8, ← w8]
  obtain ⟨s8, e8⟩ : ∃ t : List W, t = s7.set j x8 := ⟨_, rfl⟩
  rw [← e8]
  have m8 : s8.length = 16 := by rw [e8, List.length_set]; exact m7
  have f8i : s8[i]? = some x5 := by rw [e8]; exact upd nij.symm f7i
  have f8j : s8[j]? = some x8 := by rw [e8]; exact upd_self (by omega)
  have f8k : s8[k]? = some x7 := by rw [e8]; exact upd njk f7k
  have f8l : s8[l]? = some x6 := by rw [e8]; exact upd njl f7l
  refine ⟨isMb_cl, ?_⟩
  refine ldA_cl (by decide) m8 ?_
  simp -implicitDefEqProofs only [pkA, ptA, ↓reduceIte, Nat.reduceEqDiff, Nat.reduceAdd, Nat.reduceMul, Nat.reduceLT, Nat.reduceLeDiff, Nat.zero_add, decide_true, isMb_zbox, zbox_len, List.length_map, m8]
  have hset : setV (zbox 16 (V.c (C.lit (Value.int IntKind.u32 0)))) 0 (List.map V.c (List.map wc s8)) = cl wc s8 := by
    rw [setV_all (by rw [List.length_map, List.length_map, m8, zbox_len]), ← cl_eq]
  rw [hset]
  have hfin : qrAt s i j k l = s8 := by
    rw [hqr, e8, e7, e6, e5, e4, e3, e2, e1, w8, w7, w6, w5, w4, w3, w2, w1]
  rw [hfin]
  exact ⟨isMb_cl, ldA_cl (by decide) m8 rfl⟩
/-- The words of the quarter rounds of a double round. -/
def ordL : List (Nat × Nat × Nat × Nat) := [(0, 4, 8, 12), (1, 5, 9, 13), (2, 6, 10, 14), (3, 7, 11, 15), (0, 5, 10, 15), (1, 6, 11, 12), (2, 7, 8, 13), (3, 4, 9, 14)]
def ordC (x : Nat × Nat × Nat × Nat) : C := .sl (mC ic [(x.1 : Int), (x.2.1 : Int), (x.2.2.1 : Int), (x.2.2.2 : Int)])
set_option maxRecDepth 100000 in
theorem Order_ok : FnOK Tryd.prog G 126 [] (.ow (some (34, 1)) (mC ordC ordL)) := by
  refine FnOK_by (rs := [.tmp 0]) false [] mixed Tryd.func126 rfl rfl rfl rfl (by kernel_rfl) (by simp) rfl rfl ?_
  simp -implicitDefEqProofs only [pkA, ptA, ↓reduceIte, Nat.reduceEqDiff, Nat.reduceAdd, Nat.reduceMul, Nat.reduceLT, Nat.reduceLeDiff, Nat.zero_add]
  rfl
def ordS (s : List W) : Nat → List W
  | 0 => s
  | n + 1 => match ordL[n]? with
    | some x => qrAt (ordS s n) x.1 x.2.1 x.2.2.1 x.2.2.2
    | none => ordS s n
theorem ordS_len {s : List W} : ∀ n, (ordS s n).length = s.length
  | 0 => rfl
  | n + 1 => by
    unfold ordS
    split
    · rw [qrAt_len, ordS_len n]
    · exact ordS_len n
theorem ordS_all (s : List W) : ordS s 8 = diaS (colS s 4) 4 := rfl
set_option maxRecDepth 100000 in
set_option maxHeartbeats 2500000 in
theorem rRounds_ok (s : List W) (hs : s.length = 16) : FnOK Tryd.prog G 117 [.agg (s.map wc)] (.agg ((dblS s 10).map wc)) := by
  refine FnOK_by (rs := [.cell 2 124]) false [200017, 301700, 200021, 200023, 200027, 200029, 200033, 200035, 200039, 200041, 200001, 300100] mixed Tryd.func117 rfl rfl rfl rfl (by kernel_rfl) (by simp) rfl rfl ?_
  simp -implicitDefEqProofs only [pkA, ptA, ↓reduceIte, Nat.reduceAdd, Nat.reduceBEq, Nat.zero_add, ← cl_eq]
  refine call_fn rfl Order_ok (fun h => by cases h) ?_
  simp -implicitDefEqProofs only [pkA, ↓reduceIte, Nat.reduceAdd, Nat.reduceBEq]
  have hzb : zbox 16 (.c (.lit (.int .u32 0))) = cl wc (List.replicate 16 0) := zbox_cl (f := wc) (x := (0 : W))
  refine run_loop (fun t : Nat => hdS [(1, .bp 0 0), (2, .bp 1 0), (3, .ow (some (34, 1)) (mC ordC ordL)), (4, i64 (t : Nat))] [cl wc (dblS s t), zbox 16 (.c (.lit (.int .u32 0)))]) (fun t => 10 - t) (fun t => t ≤ 10) 0 (Nat.zero_le _) ?_ ?_
  · refine le_hd (by simp only [leOk, List.all_cons, List.all_nil, hzb, cl_ltB, List.length_cons, List.length_nil]; rfl) (Nat.zero_le _) (by simp) (by simp [FL, up_apply]) (by simp [BL, up_apply, dblS])
  rintro t ht R hnorm hexit hret
  have hwt := wrap_of (n := (t : Int) + 1) (k := t + 1) (by omega) (by omega)
  simp -implicitDefEqProofs only [pkA, ↓reduceIte, Nat.reduceEqDiff, Nat.reduceAdd, Nat.reduceBEq, Nat.zero_add]
  refine vcond_of (fun hlt => ?_) (fun hge => ?_)
  · have hlt : t < 10 := by have := dlt hlt; omega
    have hSl : (dblS s t).length = 16 := by rw [dblS_len, hs]
    have hnext : dblS s (t + 1) = ordS (dblS s t) 8 := (ordS_all _).symm
    generalize dblS s t = S at *
    simp -implicitDefEqProofs only [pkA, ↓reduceIte, Nat.reduceAdd, Nat.reduceBEq]
    refine run_loop (fun i : Nat => hdS [(1, .bp 0 0), (2, .bp 1 0), (3, .ow (some (34, 1)) (mC ordC ordL)), (4, i64 (t : Nat)), (5, i64 (i : Nat))] [cl wc (ordS S i), zbox 16 (.c (.lit (.int .u32 0)))]) (fun i => 8 - i) (fun i => i ≤ 8) 0 (Nat.zero_le _) ?_ ?_
    · refine le_hd (by simp only [leOk, List.all_cons, List.all_nil, hzb, cl_ltB, List.length_cons, List.length_nil]; rfl) (Nat.zero_le _) (by simp) (by simp [FL, up_apply]) (by simp [BL, bxs, ordS])
    rintro i hi R2 hnorm2 hexit2 hret2
    have hwi := wrap_of (n := (i : Int) + 1) (k := i + 1) (by omega) (by omega)
    have hol : ((mC ordC ordL).length : Int) = 8 := rfl
    simp -implicitDefEqProofs only [pkA, ptA, ↓reduceIte, Nat.reduceEqDiff, Nat.reduceAdd, Nat.reduceBEq, Nat.zero_add, hol]
    refine vcond_of (fun hlt2 => ?_) (fun hge2 => ?_)
    · have hlt2 : i < 8 := by have := dlt hlt2; omega
      obtain ⟨x, hx⟩ : ∃ x, ordL[i]? = some x := ⟨ordL[i]'(by show i < 8; omega), List.getElem?_eq_getElem _⟩
      have hxm := List.mem_of_getElem? hx
      have hxp : (x.1 < 16 ∧ x.2.1 < 16 ∧ x.2.2.1 < 16 ∧ x.2.2.2 < 16) ∧ (x.1 ≠ x.2.1 ∧ x.1 ≠ x.2.2.1 ∧ x.1 ≠ x.2.2.2 ∧ x.2.1 ≠ x.2.2.1 ∧ x.2.1 ≠ x.2.2.2 ∧ x.2.2.1 ≠ x.2.2.2) := by
        have : ∀ x ∈ ordL, (x.1 < 16 ∧ x.2.1 < 16 ∧ x.2.2.1 < 16 ∧ x.2.2.2 < 16) ∧ (x.1 ≠ x.2.1 ∧ x.1 ≠ x.2.2.1 ∧ x.1 ≠ x.2.2.2 ∧ x.2.1 ≠ x.2.2.1 ∧ x.2.1 ≠ x.2.2.2 ∧ x.2.2.1 ≠ x.2.2.2) := by decide
        exact this x hxm
      have hCl : (ordS S i).length = 16 := by rw [ordS_len, hSl]
      have hnx : ordS S (i + 1) = qrAt (ordS S i) x.1 x.2.1 x.2.2.1 x.2.2.2 := by conv => lhs; unfold ordS; rw [hx]
      have pl : ∀ K, partV false 1 0 [ordC x] K = K (.c (.sl (mC ic [(x.1 : Int), (x.2.1 : Int), (x.2.2.1 : Int), (x.2.2.2 : Int)]))) := fun K => rfl
      have ix : ∀ (k : Nat) (y : Int) K, [(x.1 : Int), (x.2.1 : Int), (x.2.2.1 : Int), (x.2.2.2 : Int)][k]? = some y → K (.c (.rp [ic y] 0)) → vindexAddr Tryd.prog 34 (.c (.sl (mC ic [(x.1 : Int), (x.2.1 : Int), (x.2.2.1 : Int), (x.2.2.2 : Int)]))) (i64 (k : Int)) K :=
        fun k y K h1 h2 => ia_mC ti_34 rfl ti_3 rfl rfl h1 h2
      simp -implicitDefEqProofs only [pkA, ptA, ↓reduceIte, Nat.reduceEqDiff, Nat.reduceAdd, Nat.reduceBEq, Nat.reduceMul, Nat.reduceLT, decide_true, isMb_cl]
      refine ldA_cl (by decide) hCl ?_
      simp -implicitDefEqProofs only [pkA, ↓reduceIte, Nat.reduceEqDiff, Nat.reduceBEq]
      refine ia_mC ti_155 rfl ti_34 rfl rfl hx ?_
      simp -implicitDefEqProofs only [pkA, ptA, ↓reduceIte, Nat.reduceAdd, Nat.reduceBEq, pl]
      refine ix 0 _ _ rfl ?_
      simp -implicitDefEqProofs only [pkA, ptA, ↓reduceIte, Nat.reduceEqDiff, Nat.reduceAdd, Nat.reduceBEq]
      refine ia_mC ti_155 rfl ti_34 rfl rfl hx ?_
      simp -implicitDefEqProofs only [pkA, ptA, ↓reduceIte, Nat.reduceAdd, Nat.reduceBEq, pl]
      refine ix 1 _ _ rfl ?_
      simp -implicitDefEqProofs only [pkA, ptA, ↓reduceIte, Nat.reduceEqDiff, Nat.reduceAdd, Nat.reduceBEq]
      refine ia_mC ti_155 rfl ti_34 rfl rfl hx ?_
      simp -implicitDefEqProofs only [pkA, ptA, ↓reduceIte, Nat.reduceAdd, Nat.reduceBEq, pl]
      refine ix 2 _ _ rfl ?_
      simp -implicitDefEqProofs only [pkA, ptA, ↓reduceIte, Nat.reduceEqDiff, Nat.reduceAdd, Nat.reduceBEq]
      refine ia_mC ti_155 rfl ti_34 rfl rfl hx ?_
      simp -implicitDefEqProofs only [pkA, ptA, ↓reduceIte, Nat.reduceAdd, Nat.reduceBEq, pl]
      refine ix 3 _ _ rfl ?_
      simp -implicitDefEqProofs only [pkA, ptA, ↓reduceIte, Nat.reduceEqDiff, Nat.reduceAdd, Nat.reduceBEq]
      refine call_fn rfl (rquarter_ok (ordS S i) x.1 x.2.1 x.2.2.1 x.2.2.2 hCl hxp.1 hxp.2) (fun h => by cases h) ?_
      rw [← hnx]
      have hCl2 : (ordS S (i + 1)).length = 16 := by rw [ordS_len, hSl]
      simp -implicitDefEqProofs only [pkA, ptA, ↓reduceIte, Nat.reduceEqDiff, Nat.reduceAdd, Nat.reduceBEq, Nat.reduceMul, Nat.reduceLT, Nat.zero_add, decide_true, isMb_cl, cl_len, List.length_map, hCl2, hwi]
      refine ⟨by omega, ?_⟩
      refine hnorm2 (i + 1) _ hlt2 (by omega) (le_hd (by simp only [leOk, List.all_cons, List.all_nil, hzb, cl_ltB, List.length_cons, List.length_nil]; rfl) (Nat.zero_le _) (by simp) (by simp [FL, up_apply]) ?_)
      refine ⟨?_, rfl, trivial⟩
      show setV (cl wc (ordS S i)) 0 (List.map V.c (List.map wc (ordS S (i + 1)))) = cl wc (ordS S (i + 1))
      rw [setV_all (by rw [cl_len, List.length_map, List.length_map, hCl, hCl2]), ← cl_eq]
    have hi8 : i = 8 := by have := dge hge2; omega
    subst hi8
    simp -implicitDefEqProofs only [pkA]
    refine hexit2 _ _ ?_
    simp -implicitDefEqProofs only [pkA, ↓reduceIte, Nat.reduceEqDiff, Nat.reduceAdd, Nat.reduceBEq, hwt]
    refine hnorm (t + 1) _ hlt (by omega) (le_hd (by simp only [leOk, List.all_cons, List.all_nil, hzb, cl_ltB, List.length_cons, List.length_nil]; rfl) (Nat.zero_le _) (by simp) (by simp [FL, up_apply]) ?_)
    rw [hnext]
    simp [BL, bxs]
  have ht10 : t = 10 := by have := dge hge; omega
  subst ht10
  have hl : (dblS s 10).length = 16 := by rw [dblS_len, hs]
  generalize dblS s 10 = D at *
  simp -implicitDefEqProofs only [pkA]
  refine hexit _ _ ?_
  simp -implicitDefEqProofs only [pkA, ptA, ↓reduceIte, Nat.reduceEqDiff, Nat.reduceAdd, Nat.reduceBEq, Nat.reduceMul, Nat.reduceLT, decide_true, isMb_cl]
  refine ldA_cl (by decide) hl ?_
  simp -implicitDefEqProofs only [pkA, ptA, ↓reduceIte, Nat.reduceEqDiff, Nat.reduceAdd, Nat.reduceBEq, Nat.reduceMul, Nat.reduceLT, Nat.reduceLeDiff, Nat.zero_add, decide_true, isMb_zbox, zbox_len, List.length_map, hl]
  have hset : setV (zbox 16 (V.c (C.lit (Value.int IntKind.u32 0)))) 0 (List.map V.c (List.map wc D)) = cl wc D := by
    rw [setV_all (by rw [List.length_map, List.length_map, hl, zbox_len]), ← cl_eq]
  rw [hset]
  exact ⟨isMb_cl, ldA_cl (by decide) hl rfl⟩
end Go.Proofs.YtidlohfkfdeaiaaDoor
