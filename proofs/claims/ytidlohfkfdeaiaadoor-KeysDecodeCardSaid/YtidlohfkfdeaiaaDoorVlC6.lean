/- Layer 3: words as bytes. -/
import Derived.Test.YtidlohfkfdeaiaaDoorVlM2
set_option linter.unusedSimpArgs false
set_option linter.unusedVariables false
namespace Go.Proofs.YtidlohfkfdeaiaaDoor
open Go Go.Vl

variable {G : Gl}
def leW (a b c d : UInt8) : W := w8 a ||| w8 b <<< 8 ||| w8 c <<< 16 ||| w8 d <<< 24
def leB (x : W) : B := [lo8 x, lo8 (x >>> 8), lo8 (x >>> 16), lo8 (x >>> 24)]
section
variable {K : V → Prop} {a : W}
theorem shl8 : vint .shl .u32 (a.toNat : Int) 8 K = K (.c (wc (a <<< 8))) := w_shl (n := 8) (by decide)
theorem shl16 : vint .shl .u32 (a.toNat : Int) 16 K = K (.c (wc (a <<< 16))) := w_shl (n := 16) (by decide)
theorem shl24 : vint .shl .u32 (a.toNat : Int) 24 K = K (.c (wc (a <<< 24))) := w_shl (n := 24) (by decide)
theorem shr8 : vint .shr .u32 (a.toNat : Int) 8 K = K (.c (wc (a >>> 8))) := w_shr (n := 8) (by decide)
theorem shr16 : vint .shr .u32 (a.toNat : Int) 16 K = K (.c (wc (a >>> 16))) := w_shr (n := 16) (by decide)
theorem shr24 : vint .shr .u32 (a.toNat : Int) 24 K = K (.c (wc (a >>> 24))) := w_shr (n := 24) (by decide)
end
set_option maxRecDepth 100000 in
set_option maxHeartbeats 1500000 in
theorem get_ok (a b c d : UInt8) (r : B) : FnOK Tryd.prog G 111 [sv (a :: b :: c :: d :: r)] (wv (leW a b c d)) := by
  refine FnOK_by (rs := [.tmp 2]) false [] mixed Tryd.func111 rfl rfl rfl rfl (by kernel_rfl) (by simp) rfl rfl ?_
  simp -implicitDefEqProofs only [pkA, ↓reduceIte, Nat.reduceEqDiff, Nat.reduceAdd, Nat.zero_add]
  refine ix_sv ti_9 rfl (k := 0) rfl rfl ?_
  simp -implicitDefEqProofs only [pkA, ↓reduceIte, Nat.reduceEqDiff, Nat.reduceAdd, c_w8]
  refine ix_sv ti_9 rfl (k := 1) rfl rfl ?_
  simp -implicitDefEqProofs only [pkA, ↓reduceIte, Nat.reduceEqDiff, Nat.reduceAdd, c_w8, w_or, vbin_shl, shl8]
  refine ix_sv ti_9 rfl (k := 2) rfl rfl ?_
  simp -implicitDefEqProofs only [pkA, ↓reduceIte, Nat.reduceEqDiff, Nat.reduceAdd, c_w8, w_or, vbin_shl, shl16]
  refine ix_sv ti_9 rfl (k := 3) rfl rfl ?_
  simp -implicitDefEqProofs only [pkA, ↓reduceIte, Nat.reduceEqDiff, Nat.reduceAdd, c_w8, w_or, vbin_shl, shl24]
  rfl

theorem argsCl_ok {α : Type} {f : α → C} {L : List α} {args : List V} (h : args.all (fun v => v.ltB 1) = true) : xargsOk args [cl f L] = true := by
  simp only [xargsOk, List.all_cons, List.all_nil, Bool.and_true, Bool.and_eq_true]
  exact ⟨h, cl_ltB⟩
theorem setVw {L : List W} {k : Nat} {x : W} (h : k < L.length) : setV (cl wc L) k [V.c (C.lit (Value.int .u32 (x.toNat : Int)))] = cl wc (L.set k x) := setV_cl (f := wc) h
theorem upd {s : List W} {i j : Nat} {x y : W} (h : i ≠ j) (hj : s[j]? = some y) : (s.set i x)[j]? = some y := by rw [List.getElem?_set_ne h]; exact hj
theorem upd_self {s : List W} {i : Nat} {x : W} (h : i < s.length) : (s.set i x)[i]? = some x := List.getElem?_set_self h
def qr (a b c d : W) : W × W × W × W :=
  let a := a + b; let d := rr (d ^^^ a) 16; let c := c + d; let b := rr (b ^^^ c) 20
  let a := a + b; let d := rr (d ^^^ a) 24; let c := c + d; let b := rr (b ^^^ c) 25
  (a, b, c, d)
set_option maxRecDepth 100000 in
set_option maxHeartbeats 1500000 in
theorem quarter_ok (s : List W) (i j k l : Nat) (a b c d : W) (hs : s.length = 16) (hij : i ≠ j ∧ i ≠ k ∧ i ≠ l ∧ j ≠ k ∧ j ≠ l ∧ k ≠ l) (ha : s[i]? = some a) (hb : s[j]? = some b) (hc : s[k]? = some c) (hd : s[l]? = some d) :
    FnB Tryd.prog G 125 [.bp 0 i, .bp 0 j, .bp 0 k, .bp 0 l] [cl wc s] (.tup []) [cl wc ((((s.set i (qr a b c d).1).set l (qr a b c d).2.2.2).set k (qr a b c d).2.2.1).set j (qr a b c d).2.1)] := by
  refine FnB_by (rs := []) (k := 1) [3000001] mixed Tryd.func125 rfl rfl rfl rfl (by kernel_rfl) (by simp) rfl rfl rfl (argsCl_ok rfl) (by simp) ?_
  simp -implicitDefEqProofs only [pkA, ptA, ↓reduceIte, Nat.reduceAdd, Nat.reduceBEq, Nat.reduceMul, Nat.reduceLT, Nat.zero_add, decide_true, isMb_cl]
  obtain ⟨nij, nik, nil, njk, njl, nkl⟩ := hij
  have hs0 := hs
  have ha0 := ha
  have hb0 := hb
  have hc0 := hc
  have hd0 := hd
  refine ld_cl (by decide) ha0 ?_
  simp -implicitDefEqProofs only [pkA, ptA, ↓reduceIte, Nat.reduceEqDiff, Nat.reduceAdd, Nat.reduceBEq, Nat.reduceMul, Nat.reduceLT, decide_true, isMb_cl]
  refine ld_cl (by decide) hb0 ?_
  simp -implicitDefEqProofs only [pkA, ptA, ↓reduceIte, Nat.reduceEqDiff, Nat.reduceAdd, Nat.reduceBEq, Nat.reduceMul, Nat.reduceLT, decide_true, isMb_cl, cl_len, wr_add]
  obtain ⟨x1, e1⟩ : ∃ x : W, x = a + b := ⟨_, rfl⟩
  obtain ⟨s1, q1⟩ : ∃ t : List W, t = s.set i x1 := ⟨_, rfl⟩
  have hs1 : s1.length = 16 := by rw [q1, List.length_set]; exact hs0
  have lt1 : i < s.length := (List.getElem?_eq_some_iff.1 ha0).1
  have ha1 : s1[i]? = some x1 := by rw [q1]; exact upd_self lt1
  have hb1 : s1[j]? = some b := by rw [q1]; exact upd (by omega) hb0
  have hc1 : s1[k]? = some c := by rw [q1]; exact upd (by omega) hc0
  have hd1 : s1[l]? = some d := by rw [q1]; exact upd (by omega) hd0
  have w1 : setV (cl wc s) i [V.c (C.lit (Value.int .u32 (BitVec.toNat (a + b) : Int)))] = cl wc s1 := by rw [q1, e1]; exact setVw lt1
  rw [w1]
  refine ⟨lt1, isMb_cl, ?_⟩
  clear w1
  refine ld_cl (by decide) hd1 ?_
  simp -implicitDefEqProofs only [pkA, ptA, ↓reduceIte, Nat.reduceEqDiff, Nat.reduceAdd, Nat.reduceBEq, Nat.reduceMul, Nat.reduceLT, decide_true, isMb_cl]
  refine ld_cl (by decide) ha1 ?_
  simp -implicitDefEqProofs only [pkA, ↓reduceIte, Nat.reduceEqDiff, Nat.reduceAdd, Nat.reduceBEq, w_xor]
  refine call_fn rfl (Rot_pos _ 16 (by decide) (by decide)) (fun _ => rfl) ?_
  simp -implicitDefEqProofs only [pkA, ptA, ↓reduceIte, Nat.reduceEqDiff, Nat.reduceAdd, Nat.reduceBEq, Nat.reduceMul, Nat.reduceLT, decide_true, Nat.reduceSub, isMb_cl, cl_len]
  obtain ⟨x2, e2⟩ : ∃ x : W, x = rr (d ^^^ x1) 16 := ⟨_, rfl⟩
  obtain ⟨s2, q2⟩ : ∃ t : List W, t = s1.set l x2 := ⟨_, rfl⟩
  have hs2 : s2.length = 16 := by rw [q2, List.length_set]; exact hs1
  have lt2 : l < s1.length := (List.getElem?_eq_some_iff.1 hd1).1
  have ha2 : s2[i]? = some x1 := by rw [q2]; exact upd (by omega) ha1
  have hb2 : s2[j]? = some b := by rw [q2]; exact upd (by omega) hb1
  have hc2 : s2[k]? = some c := by rw [q2]; exact upd (by omega) hc1
  have hd2 : s2[l]? = some x2 := by rw [q2]; exact upd_self lt2
  have w2 : setV (cl wc s1) l [V.c (wc (rr (d ^^^ x1) 16))] = cl wc s2 := by rw [q2, e2]; exact setV_cl lt2
  rw [w2]
  refine ⟨lt2, isMb_cl, ?_⟩
  clear w2
  refine ld_cl (by decide) hc2 ?_
  simp -implicitDefEqProofs only [pkA, ptA, ↓reduceIte, Nat.reduceEqDiff, Nat.reduceAdd, Nat.reduceBEq, Nat.reduceMul, Nat.reduceLT, decide_true, isMb_cl]
  refine ld_cl (by decide) hd2 ?_
  simp -implicitDefEqProofs only [pkA, ptA, ↓reduceIte, Nat.reduceEqDiff, Nat.reduceAdd, Nat.reduceBEq, Nat.reduceMul, Nat.reduceLT, decide_true, isMb_cl, cl_len, wr_add]
  obtain ⟨x3, e3⟩ : ∃ x : W, x = c + x2 := ⟨_, rfl⟩
  obtain ⟨s3, q3⟩ : ∃ t : List W, t = s2.set k x3 := ⟨_, rfl⟩
  have hs3 : s3.length = 16 := by rw [q3, List.length_set]; exact hs2
  have lt3 : k < s2.length := (List.getElem?_eq_some_iff.1 hc2).1
  have ha3 : s3[i]? = some x1 := by rw [q3]; exact upd (by omega) ha2
  have hb3 : s3[j]? = some b := by rw [q3]; exact upd (by omega) hb2
  have hc3 : s3[k]? = some x3 := by rw [q3]; exact upd_self lt3
  have hd3 : s3[l]? = some x2 := by rw [q3]; exact upd (by omega) hd2
  have w3 : setV (cl wc s2) k [V.c (C.lit (Value.int .u32 (BitVec.toNat (c + x2) : Int)))] = cl wc s3 := by rw [q3, e3]; exact setVw lt3
  rw [w3]
  refine ⟨lt3, isMb_cl, ?_⟩
  clear w3
  refine ld_cl (by decide) hb3 ?_
  simp -implicitDefEqProofs only [pkA, ptA, ↓reduceIte, Nat.reduceEqDiff, Nat.reduceAdd, Nat.reduceBEq, Nat.reduceMul, Nat.reduceLT, decide_true, isMb_cl]
  refine ld_cl (by decide) hc3 ?_
  simp -implicitDefEqProofs only [pkA, ↓reduceIte, Nat.reduceEqDiff, Nat.reduceAdd, Nat.reduceBEq, w_xor]
  refine call_fn rfl (Rot_pos _ 12 (by decide) (by decide)) (fun _ => rfl) ?_
  simp -implicitDefEqProofs only [pkA, ptA, ↓reduceIte, Nat.reduceEqDiff, Nat.reduceAdd, Nat.reduceBEq, Nat.reduceMul, Nat.reduceLT, decide_true, Nat.reduceSub, isMb_cl, cl_len]
  obtain ⟨x4, e4⟩ : ∃ x : W, x = rr (b ^^^ x3) 20 := ⟨_, rfl⟩
  obtain ⟨s4, q4⟩ : ∃ t : List W, t = s3.set j x4 := ⟨_, rfl⟩
  have hs4 : s4.length = 16 := by rw [q4, List.length_set]; exact hs3
  have lt4 : j < s3.length := (List.getElem?_eq_some_iff.1 hb3).1
  have ha4 : s4[i]? = some x1 := by rw [q4]; exact upd (by omega) ha3
  have hb4 : s4[j]? = some x4 := by rw [q4]; exact upd_self lt4
  have hc4 : s4[k]? = some x3 := by rw [q4]; exact upd (by omega) hc3
  have hd4 : s4[l]? = some x2 := by rw [q4]; exact upd (by omega) hd3
  have w4 : setV (cl wc s3) j [V.c (wc (rr (b ^^^ x3) 20))] = cl wc s4 := by rw [q4, e4]; exact setV_cl lt4
  rw [w4]
  refine ⟨lt4, isMb_cl, ?_⟩
  clear w4
  refine ld_cl (by decide) ha4 ?_
  simp -implicitDefEqProofs only [pkA, ptA, ↓reduceIte, Nat.reduceEqDiff, Nat.reduceAdd, Nat.reduceBEq, Nat.reduceMul, Nat.reduceLT, decide_true, isMb_cl]
  refine ld_cl (by decide) hb4 ?_
  simp -implicitDefEqProofs only [pkA, ptA, ↓reduceIte, Nat.reduceEqDiff, Nat.reduceAdd, Nat.reduceBEq, Nat.reduceMul, Nat.reduceLT, decide_true, isMb_cl, cl_len, wr_add]
  obtain ⟨x5, e5⟩ : ∃ x : W, x = x1 + x4 := ⟨_, rfl⟩
  obtain ⟨s5, q5⟩ : ∃ t : List W, t = s4.set i x5 := ⟨_, rfl⟩
  have hs5 : s5.length = 16 := by rw [q5, List.length_set]; exact hs4
  have lt5 : i < s4.length := (List.getElem?_eq_some_iff.1 ha4).1
  have ha5 : s5[i]? = some x5 := by rw [q5]; exact upd_self lt5
  have hb5 : s5[j]? = some x4 := by rw [q5]; exact upd (by omega) hb4
  have hc5 : s5[k]? = some x3 := by rw [q5]; exact upd (by omega) hc4
  have hd5 : s5[l]? = some x2 := by rw [q5]; exact upd (by omega) hd4
  have w5 : setV (cl wc s4) i [V.c (C.lit (Value.int .u32 (BitVec.toNat (x1 + x4) : Int)))] = cl wc s5 := by rw [q5, e5]; exact setVw lt5
  rw [w5]
  refine ⟨lt5, isMb_cl, ?_⟩
  clear w5
  refine ld_cl (by decide) hd5 ?_
  simp -implicitDefEqProofs only [pkA, ptA, ↓reduceIte, Nat.reduceEqDiff, Nat.reduceAdd, Nat.reduceBEq, Nat.reduceMul, Nat.reduceLT, decide_true, isMb_cl]
  refine ld_cl (by decide) ha5 ?_
  simp -implicitDefEqProofs only [pkA, ↓reduceIte, Nat.reduceEqDiff, Nat.reduceAdd, Nat.reduceBEq, w_xor]
  refine call_fn rfl (Rot_pos _ 8 (by decide) (by decide)) (fun _ => rfl) ?_
  simp -implicitDefEqProofs only [pkA, ptA, ↓reduceIte, Nat.reduceEqDiff, Nat.reduceAdd, Nat.reduceBEq, Nat.reduceMul, Nat.reduceLT, decide_true, Nat.reduceSub, isMb_cl, cl_len]
  obtain ⟨x6, e6⟩ : ∃ x : W, x = rr (x2 ^^^ x5) 24 := ⟨_, rfl⟩
  obtain ⟨s6, q6⟩ : ∃ t : List W, t = s5.set l x6 := ⟨_, rfl⟩
  have hs6 : s6.length = 16 := by rw [q6, List.length_set]; exact hs5
  have lt6 : l < s5.length := (List.getElem?_eq_some_iff.1 hd5).1
  have ha6 : s6[i]? = some x5 := by rw [q6]; exact upd (by omega) ha5
  have hb6 : s6[j]? = some x4 := by rw [q6]; exact upd (by omega) hb5
  have hc6 : s6[k]? = some x3 := by rw [q6]; exact upd (by omega) hc5
  have hd6 : s6[l]? = some x6 := by rw [q6]; exact upd_self lt6
  have w6 : setV (cl wc s5) l [V.c (wc (rr (x2 ^^^ x5) 24))] = cl wc s6 := by rw [q6, e6]; exact setV_cl lt6
  rw [w6]
  refine ⟨lt6, isMb_cl, ?_⟩
  clear w6
  refine ld_cl (by decide) hc6 ?_
  simp -implicitDefEqProofs only [pkA, ptA, ↓reduceIte, Nat.reduceEqDiff, Nat.reduceAdd, Nat.reduceBEq, Nat.reduceMul, Nat.reduceLT, decide_true, isMb_cl]
  refine ld_cl (by decide) hd6 ?_
  simp -implicitDefEqProofs only [pkA, ptA, ↓reduceIte, Nat.reduceEqDiff, Nat.reduceAdd, Nat.reduceBEq, Nat.reduceMul, Nat.reduceLT, decide_true, isMb_cl, cl_len, wr_add]
  obtain ⟨x7, e7⟩ : ∃ x : W, x = x3 + x6 := ⟨_, rfl⟩
  obtain ⟨s7, q7⟩ : ∃ t : List W, t = s6.set k x7 := ⟨_, rfl⟩
  have hs7 : s7.length = 16 := by rw [q7, List.length_set]; exact hs6
  have lt7 : k < s6.length := (List.getElem?_eq_some_iff.1 hc6).1
  have ha7 : s7[i]? = some x5 := by rw [q7]; exact upd (by omega) ha6
  have hb7 : s7[j]? = some x4 := by rw [q7]; exact upd (by omega) hb6
  have hc7 : s7[k]? = some x7 := by rw [q7]; exact upd_self lt7
  have hd7 : s7[l]? = some x6 := by rw [q7]; exact upd (by omega) hd6
  have w7 : setV (cl wc s6) k [V.c (C.lit (Value.int .u32 (BitVec.toNat (x3 + x6) : Int)))] = cl wc s7 := by rw [q7, e7]; exact setVw lt7
  rw [w7]
  refine ⟨lt7, isMb_cl, ?_⟩
  clear w7
  refine ld_cl (by decide) hb7 ?_
  simp -implicitDefEqProofs only [pkA, ptA, ↓reduceIte, Nat.reduceEqDiff, Nat.reduceAdd, Nat.reduceBEq, Nat.reduceMul, Nat.reduceLT, decide_true, isMb_cl]
  refine ld_cl (by decide) hc7 ?_
  simp -implicitDefEqProofs only [pkA, ↓reduceIte, Nat.reduceEqDiff, Nat.reduceAdd, Nat.reduceBEq, w_xor]
  refine call_fn rfl (Rot_pos _ 7 (by decide) (by decide)) (fun _ => rfl) ?_
  simp -implicitDefEqProofs only [pkA, ptA, ↓reduceIte, Nat.reduceEqDiff, Nat.reduceAdd, Nat.reduceBEq, Nat.reduceMul, Nat.reduceLT, decide_true, Nat.reduceSub, isMb_cl, cl_len]
  obtain ⟨x8, e8⟩ : ∃ x : W, x = rr (x4 ^^^ x7) 25 := ⟨_, rfl⟩
  obtain ⟨s8, q8⟩ : ∃ t : List W, t = s7.set j x8 := ⟨_, rfl⟩
  have hs8 : s8.length = 16 := by rw [q8, List.length_set]; exact hs7
  have lt8 : j < s7.length := (List.getElem?_eq_some_iff.1 hb7).1
  have ha8 : s8[i]? = some x5 := by rw [q8]; exact upd (by omega) ha7
  have hb8 : s8[j]? = some x8 := by rw [q8]; exact upd_self lt8
  have hc8 : s8[k]? = some x7 := by rw [q8]; exact upd (by omega) hc7
  have hd8 : s8[l]? = some x6 := by rw [q8]; exact upd (by omega) hd7
  have w8 : setV (cl wc s7) j [V.c (wc (rr (x4 ^^^ x7) 25))] = cl wc s8 := by rw [q8, e8]; exact setV_cl lt8
  rw [w8]
  refine ⟨lt8, ?_⟩
  have hq : qr a b c d = (x5, x8, x7, x6) := by rw [e8, e7, e6, e5, e4, e3, e2, e1]; rfl
  rw [hq]
  have hfin : ((((s.set i x5).set l x6).set k x7).set j x8) = s8 := by
    apply List.ext_getElem?
    intro n
    by_cases n1 : i = n
    · subst n1; rw [ha8]; exact upd (by omega) (upd (by omega) (upd (by omega) (upd_self (by omega))))
    by_cases n2 : l = n
    · subst n2; rw [hd8]; exact upd (by omega) (upd (by omega) (upd_self (by rw [List.length_set]; omega)))
    by_cases n3 : k = n
    · subst n3; rw [hc8]; exact upd (by omega) (upd_self (by rw [List.length_set, List.length_set]; omega))
    by_cases n4 : j = n
    · subst n4; rw [hb8]; exact upd_self (by rw [List.length_set, List.length_set, List.length_set]; omega)
    rw [q8, q7, q6, q5, q4, q3, q2, q1]
    simp only [List.getElem?_set_ne n1, List.getElem?_set_ne n2, List.getElem?_set_ne n3, List.getElem?_set_ne n4]
  show endB _ 1 (V.tup []) [cl wc ((((s.set i x5).set l x6).set k x7).set j x8)] [] VE.normal _
  rw [hfin]
  exact end_B [] rfl (by simp only [leOk, List.all_cons, List.all_nil, cl_ltB]; rfl) (by simp) (by simp) trivial (by simp [BL]) retV_none
end Go.Proofs.YtidlohfkfdeaiaaDoor

/- Layer 3: words are appended. -/
namespace Go.Proofs.YtidlohfkfdeaiaaDoor
open Go Go.Vl

variable {G : Gl}
set_option maxRecDepth 100000 in
set_option maxHeartbeats 1500000 in
theorem put_ok (L : B) (x : W) (n : Nat) (hL : L.length = 64) (hn : n + 4 ≤ 64) :
    FnB Tryd.prog G 113 [.ms 0 0 n 64 1, wv x] [cl bc L] (.ms 0 0 (n + 4) 64 1) [cl bc (L.take n ++ leB x ++ L.drop (n + 4))] := by
  refine FnB_by (rs := [.tmp 4]) (k := 1) [3000001, 2700018] mixed Tryd.func113 rfl rfl rfl rfl (by kernel_rfl) (by simp) rfl rfl rfl (argsCl_ok rfl) (by simp) ?_
  simp -implicitDefEqProofs only [pkA, ptA, ↓reduceIte, Nat.reduceEqDiff, Nat.reduceAdd, Nat.reduceBEq, Nat.reduceMul, Nat.reduceLT, Nat.reduceLeDiff, Nat.zero_add, c_lo8, vbin_shr, shr8, shr16, shr24]
  refine room_of ti_71 rfl ti_5 rfl (by decide) rfl (by decide) isMb_cl (by show 0 + 64 * 1 ≤ (cl bc L).length; rw [cl_len]; omega) (by simp only [List.length_cons, List.length_nil]; omega) (by simp) ?_
  have hset : setV (cl bc L) n (cl bc (leB x)) = cl bc (L.take n ++ leB x ++ L.drop (n + 4)) := setV_clp (by rw [hL]; exact hn)
  have e : (0 + n * 1) = n := by omega
  rw [e]
  show mutK _ _ ⟨_, up _ 0 (setV (cl bc L) n (cl bc (leB x))), _⟩ _
  rw [hset]
  simp -implicitDefEqProofs only [pkA, ↓reduceIte, Nat.reduceAdd, Nat.zero_add]
  exact end_B [(4, .ms 0 0 (n + 4) 64 1)] rfl (by simp only [leOk, List.all_cons, List.all_nil, cl_ltB]; rfl) (by simp) (by simp) (by simp [FL]) (by simp [BL]) rfl
end Go.Proofs.YtidlohfkfdeaiaaDoor

/- Layer 3: the rounds. -/
namespace Go.Proofs.YtidlohfkfdeaiaaDoor
open Go Go.Vl

variable {G : Gl}
def atW (s : List W) (i : Nat) : W := s.getD i 0
def qrAt (s : List W) (i j k l : Nat) : List W :=
  let r := qr (atW s i) (atW s j) (atW s k) (atW s l)
  (((s.set i r.1).set l r.2.2.2).set k r.2.2.1).set j r.2.1
theorem qrAt_len {s : List W} {i j k l : Nat} : (qrAt s i j k l).length = s.length := by simp [qrAt]
theorem atW_at {s : List W} {i : Nat} (h : i < s.length) : s[i]? = some (atW s i) := by
  unfold atW; rw [List.getD_eq_getElem?_getD, List.getElem?_eq_getElem h]; rfl
theorem rem4 {n : Nat} {K : V → Prop} (h : n ≤ 1000) : vint .rem .i64 (n : Int) 4 K = K (i64 ((n % 4 : Nat) : Int)) := by
  have hd : ((n : Int)).tmod 4 = ((n % 4 : Nat) : Int) := by rw [Int.tmod_eq_emod_of_nonneg (by omega)]; omega
  have hw := wrap_of (n := ((n % 4 : Nat) : Int)) (k := n % 4) rfl (by omega)
  simp only [vint, hd]
  exact propext ⟨fun h => h.2, fun h => ⟨by decide, h⟩⟩
theorem quarterAt_ok (s : List W) (i j k l : Nat) (hs : s.length = 16) (hi : i < 16 ∧ j < 16 ∧ k < 16 ∧ l < 16) (hij : i ≠ j ∧ i ≠ k ∧ i ≠ l ∧ j ≠ k ∧ j ≠ l ∧ k ≠ l) :
    FnB Tryd.prog G 125 [.bp 0 i, .bp 0 j, .bp 0 k, .bp 0 l] [(s.map wc).map .c] (.tup []) [((qrAt s i j k l).map wc).map .c] := by
  have := quarter_ok (G := G) s i j k l _ _ _ _ hs hij (atW_at (by omega)) (atW_at (by omega)) (atW_at (by omega)) (atW_at (by omega))
  rw [cl_eq, cl_eq] at this
  exact this
def colS (s : List W) : Nat → List W
  | 0 => s
  | n + 1 => qrAt (colS s n) n (4 + n) (8 + n) (12 + n)
def diaS (s : List W) : Nat → List W
  | 0 => s
  | n + 1 => qrAt (diaS s n) n (4 + (n + 1) % 4) (8 + (n + 2) % 4) (12 + (n + 3) % 4)
def dblS (s : List W) : Nat → List W
  | 0 => s
  | n + 1 => diaS (colS (dblS s n) 4) 4
theorem colS_len {s : List W} : ∀ n, (colS s n).length = s.length
  | 0 => rfl
  | n + 1 => by unfold colS; rw [qrAt_len, colS_len n]
theorem diaS_len {s : List W} : ∀ n, (diaS s n).length = s.length
  | 0 => rfl
  | n + 1 => by unfold diaS; rw [qrAt_len, diaS_len n]
theorem dblS_len {s : List W} : ∀ n, (dblS s n).length = s.length
  | 0 => rfl
  | n + 1 => by unfold dblS; rw [diaS_len, colS_len, dblS_len n]
set_option maxRecDepth 100000 in
set_option maxHeartbeats 1500000 in
theorem Rounds_ok (s : List W) (hs : s.length = 16) : FnOK Tryd.prog G 112 [.agg (s.map wc)] (.agg ((dblS s 10).map wc)) := by
  refine FnOK_by (rs := [.cell 2 124]) false [1000021, 1000043] mixed Tryd.func112 rfl rfl rfl rfl (by kernel_rfl) (by simp) rfl rfl ?_
  simp -implicitDefEqProofs only [pkA, ptA, ↓reduceIte, Nat.reduceAdd, Nat.reduceBEq, Nat.zero_add]
  have hzb : zbox 16 (.c (.lit (.int .u32 0))) = cl wc (List.replicate 16 0) := zbox_cl (f := wc) (x := (0 : W))
  refine run_loop (fun t : Nat => hdS [(1, .bp 0 0), (2, .bp 1 0), (5, i64 (t : Nat))] [((dblS s t).map wc).map .c, zbox 16 (.c (.lit (.int .u32 0)))]) (fun t => 10 - t) (fun t => t ≤ 10) 0 (Nat.zero_le _) ?_ ?_
  · refine le_hd (by simp only [leOk, List.all_cons, List.all_nil, hzb, cl_ltB, all_ltB_c, List.length_cons, List.length_nil]; rfl) (Nat.zero_le _) (by simp) (by simp [FL, up_apply]) (by simp [BL, up_apply, dblS])
  rintro t ht R hnorm hexit hret
  have hwt := wrap_of (n := (t : Int) + 1) (k := t + 1) (by omega) (by omega)
  simp -implicitDefEqProofs only [pkA, ↓reduceIte, Nat.reduceEqDiff, Nat.reduceAdd, Nat.reduceBEq, Nat.zero_add]
  refine vcond_of (fun hlt => ?_) (fun hge => ?_)
  · have hlt : t < 10 := by have := dlt hlt; omega
    have hSl : (dblS s t).length = 16 := by rw [dblS_len, hs]
    have hnext : dblS s (t + 1) = diaS (colS (dblS s t) 4) 4 := rfl
    generalize dblS s t = S at *
    simp -implicitDefEqProofs only [pkA, ↓reduceIte, Nat.reduceAdd, Nat.reduceBEq]
    refine run_loop (fun i : Nat => hdS [(1, .bp 0 0), (2, .bp 1 0), (5, i64 (t : Nat)), (7, i64 (i : Nat))] [((colS S i).map wc).map .c, zbox 16 (.c (.lit (.int .u32 0)))]) (fun i => 4 - i) (fun i => i ≤ 4) 0 (Nat.zero_le _) ?_ ?_
    · refine le_hd (by simp only [leOk, List.all_cons, List.all_nil, hzb, cl_ltB, all_ltB_c, List.length_cons, List.length_nil]; rfl) (Nat.zero_le _) (by simp) (by simp [FL, up_apply]) (by simp [BL, bxs, colS])
    rintro i hi R2 hnorm2 hexit2 hret2
    have hwi := wrap_of (n := (i : Int) + 1) (k := i + 1) (by omega) (by omega)
    simp -implicitDefEqProofs only [pkA, ↓reduceIte, Nat.reduceEqDiff, Nat.reduceAdd, Nat.reduceBEq, Nat.zero_add]
    refine vcond_of (fun hlt2 => ?_) (fun hge2 => ?_)
    · have hlt2 : i < 4 := by have := dlt hlt2; omega
      have h4 := wrap_of (n := 4 + (i : Int)) (k := 4 + i) (by omega) (by omega)
      have h8 := wrap_of (n := 8 + (i : Int)) (k := 8 + i) (by omega) (by omega)
      have h12 := wrap_of (n := 12 + (i : Int)) (k := 12 + i) (by omega) (by omega)
      have hCl : (colS S i).length = 16 := by rw [colS_len, hSl]
      simp -implicitDefEqProofs only [pkA, ↓reduceIte, Nat.reduceEqDiff, Nat.reduceAdd, Nat.reduceBEq]
      refine ia_cl ti_124 rfl ti_99 rfl rfl (k := i) (by omega) ?_
      simp -implicitDefEqProofs only [pkA, ↓reduceIte, Nat.reduceEqDiff, Nat.reduceBEq, Nat.zero_add, h4]
      refine ia_cl ti_124 rfl ti_99 rfl rfl (k := 4 + i) (by omega) ?_
      simp -implicitDefEqProofs only [pkA, ↓reduceIte, Nat.reduceEqDiff, Nat.reduceBEq, Nat.zero_add, h8]
      refine ia_cl ti_124 rfl ti_99 rfl rfl (k := 8 + i) (by omega) ?_
      simp -implicitDefEqProofs only [pkA, ↓reduceIte, Nat.reduceEqDiff, Nat.reduceBEq, Nat.zero_add, h12]
      refine ia_cl ti_124 rfl ti_99 rfl rfl (k := 12 + i) (by omega) ?_
      simp -implicitDefEqProofs only [pkA, ↓reduceIte, Nat.reduceEqDiff, Nat.reduceAdd, Nat.reduceBEq, Nat.zero_add]
      refine callB_one 0 rfl (quarterAt_ok (colS S i) i (4 + i) (8 + i) (12 + i) hCl (by omega) (by omega)) rfl (Nat.zero_lt_succ _) rfl rfl ?_
      simp -implicitDefEqProofs only [pkA, ↓reduceIte, Nat.reduceEqDiff, Nat.reduceAdd, Nat.reduceBEq, hwi]
      exact hnorm2 (i + 1) _ hlt2 (by omega) (le_hd (by simp only [leOk, List.all_cons, List.all_nil, hzb, cl_ltB, all_ltB_c, List.length_cons, List.length_nil]; rfl) (Nat.zero_le _) (by simp) (by simp [FL, up_apply]) (by simp [BL, up_apply, bxs, colS]))
    have hi4 : i = 4 := by have := dge hge2; omega
    subst hi4
    simp -implicitDefEqProofs only [pkA]
    refine hexit2 _ _ ?_
    clear hexit2 hnorm2 hret2 hge2 hwi hi R2
    have hDl : (colS S 4).length = 16 := by rw [colS_len, hSl]
    generalize colS S 4 = D at *
    simp -implicitDefEqProofs only [pkA, ↓reduceIte, Nat.reduceAdd, Nat.reduceBEq]
    refine run_loop (fun i : Nat => hdS [(1, .bp 0 0), (2, .bp 1 0), (5, i64 (t : Nat)), (23, i64 (i : Nat))] [((diaS D i).map wc).map .c, zbox 16 (.c (.lit (.int .u32 0)))]) (fun i => 4 - i) (fun i => i ≤ 4) 0 (Nat.zero_le _) ?_ ?_
    · refine le_hd (by simp only [leOk, List.all_cons, List.all_nil, hzb, cl_ltB, all_ltB_c, List.length_cons, List.length_nil]; rfl) (Nat.zero_le _) (by simp) (by simp [FL, up_apply]) (by simp [BL, bxs, diaS])
    rintro i hi R2 hnorm2 hexit2 hret2
    have hwi := wrap_of (n := (i : Int) + 1) (k := i + 1) (by omega) (by omega)
    simp -implicitDefEqProofs only [pkA, ↓reduceIte, Nat.reduceEqDiff, Nat.reduceAdd, Nat.reduceBEq, Nat.zero_add]
    refine vcond_of (fun hlt2 => ?_) (fun hge2 => ?_)
    · have hlt2 : i < 4 := by have := dlt hlt2; omega
      have hw2 := wrap_of (n := (i : Int) + 2) (k := i + 2) (by omega) (by omega)
      have hw3 := wrap_of (n := (i : Int) + 3) (k := i + 3) (by omega) (by omega)
      have r1 := fun K => rem4 (K := K) (n := i + 1) (by omega)
      have r2 := fun K => rem4 (K := K) (n := i + 2) (by omega)
      have r3 := fun K => rem4 (K := K) (n := i + 3) (by omega)
      have h4 := wrap_of (n := 4 + (((i + 1) % 4 : Nat) : Int)) (k := 4 + (i + 1) % 4) (by omega) (by omega)
      have h8 := wrap_of (n := 8 + (((i + 2) % 4 : Nat) : Int)) (k := 8 + (i + 2) % 4) (by omega) (by omega)
      have h12 := wrap_of (n := 12 + (((i + 3) % 4 : Nat) : Int)) (k := 12 + (i + 3) % 4) (by omega) (by omega)
      have hCl : (diaS D i).length = 16 := by rw [diaS_len, hDl]
      simp -implicitDefEqProofs only [pkA, ↓reduceIte, Nat.reduceEqDiff, Nat.reduceAdd, Nat.reduceBEq]
      refine ia_cl ti_124 rfl ti_99 rfl rfl (k := i) (by omega) ?_
      simp -implicitDefEqProofs only [pkA, ↓reduceIte, Nat.reduceEqDiff, Nat.reduceBEq, Nat.zero_add, hwi, r1, h4]
      refine ia_cl ti_124 rfl ti_99 rfl rfl (k := 4 + (i + 1) % 4) (by omega) ?_
      simp -implicitDefEqProofs only [pkA, ↓reduceIte, Nat.reduceEqDiff, Nat.reduceBEq, Nat.zero_add, hw2, r2, h8]
      refine ia_cl ti_124 rfl ti_99 rfl rfl (k := 8 + (i + 2) % 4) (by omega) ?_
      simp -implicitDefEqProofs only [pkA, ↓reduceIte, Nat.reduceEqDiff, Nat.reduceBEq, Nat.zero_add, hw3, r3, h12]
      refine ia_cl ti_124 rfl ti_99 rfl rfl (k := 12 + (i + 3) % 4) (by omega) ?_
      simp -implicitDefEqProofs only [pkA, ↓reduceIte, Nat.reduceEqDiff, Nat.reduceAdd, Nat.reduceBEq, Nat.zero_add]
      refine callB_one 0 rfl (quarterAt_ok (diaS D i) i (4 + (i + 1) % 4) (8 + (i + 2) % 4) (12 + (i + 3) % 4) hCl (by omega) (by omega)) rfl (Nat.zero_lt_succ _) rfl rfl ?_
      simp -implicitDefEqProofs only [pkA, ↓reduceIte, Nat.reduceEqDiff, Nat.reduceAdd, Nat.reduceBEq, hwi]
      exact hnorm2 (i + 1) _ hlt2 (by omega) (le_hd (by simp only [leOk, List.all_cons, List.all_nil, hzb, cl_ltB, all_ltB_c, List.length_cons, List.length_nil]; rfl) (Nat.zero_le _) (by simp) (by simp [FL, up_apply]) (by simp [BL, up_apply, bxs, diaS]))
    have hi4 : i = 4 := by have := dge hge2; omega
    subst hi4
    simp -implicitDefEqProofs only [pkA]
    refine hexit2 _ _ ?_
    clear hexit2 hnorm2 hret2 hge2 hwi hi R2
    simp -implicitDefEqProofs only [pkA, ↓reduceIte, Nat.reduceEqDiff, Nat.reduceAdd, Nat.reduceBEq, hwt]
    refine hnorm (t + 1) _ hlt (by omega) (le_hd (by simp only [leOk, List.all_cons, List.all_nil, hzb, cl_ltB, all_ltB_c, List.length_cons, List.length_nil]; rfl) (Nat.zero_le _) (by simp) (by simp [FL, up_apply]) ?_)
    rw [hnext]
    exact ⟨rfl, rfl, trivial⟩
  have ht10 : t = 10 := by have := dge hge; omega
  subst ht10
  have hl : (dblS s 10).length = 16 := by rw [dblS_len, hs]
  generalize dblS s 10 = D at *
  simp -implicitDefEqProofs only [pkA]
  refine hexit _ _ ?_
  clear hexit hnorm hret hge hwt ht R
  simp -implicitDefEqProofs only [pkA, ptA, ↓reduceIte, Nat.reduceEqDiff, Nat.reduceAdd, Nat.reduceBEq, Nat.reduceMul, Nat.reduceLT, Nat.reduceLeDiff, Nat.zero_add, decide_true, isMb_zbox, zbox_len, List.length_map, hl]
  have hset : setV (zbox 16 (V.c (C.lit (Value.int IntKind.u32 0)))) 0 (List.map V.c (List.map wc D)) = cl wc D := by
    rw [setV_all (by rw [List.length_map, List.length_map, hl, zbox_len]), ← cl_eq]
  rw [hset]
  exact ⟨isMb_cl, ldA_cl (by decide) hl rfl⟩
end Go.Proofs.YtidlohfkfdeaiaaDoor

/- Layer 3: the initial state of a block. -/
namespace Go.Proofs.YtidlohfkfdeaiaaDoor
open Go Go.Vl

variable {G : Gl}
/-- The words of a text. -/
def leWs : Nat → B → List W
  | 0, _ => []
  | n + 1, l => leW (l.getD 0 0) (l.getD 1 0) (l.getD 2 0) (l.getD 3 0) :: leWs n (l.drop 4)
theorem leWs_len : ∀ (n : Nat) (l : B), (leWs n l).length = n
  | 0, _ => rfl
  | n + 1, l => by unfold leWs; rw [List.length_cons, leWs_len n]
theorem leWs_at : ∀ (n : Nat) (l : B) (i : Nat), i < n → (leWs n l)[i]? = some (leW (l.getD (4 * i) 0) (l.getD (4 * i + 1) 0) (l.getD (4 * i + 2) 0) (l.getD (4 * i + 3) 0))
  | 0, _, _, h => by omega
  | n + 1, l, 0, _ => rfl
  | n + 1, l, i + 1, h => by
    unfold leWs
    rw [List.getElem?_cons_succ, leWs_at n (l.drop 4) i (by omega)]
    have e : ∀ k, (l.drop 4).getD k 0 = l.getD (4 + k) 0 := fun k => by simp [List.getD_eq_getElem?_getD, List.getElem?_drop]
    rw [e, e, e, e, show 4 + 4 * i = 4 * (i + 1) by omega, show 4 + (4 * i + 1) = 4 * (i + 1) + 1 by omega, show 4 + (4 * i + 2) = 4 * (i + 1) + 2 by omega, show 4 + (4 * i + 3) = 4 * (i + 1) + 3 by omega]
def stW (key : B) (ctr : W) (nonce : B) : List W := ([0x61707865, 0x3320646e, 0x79622d32, 0x6b206574] : List Nat).map (BitVec.ofNat 32) ++ leWs 8 key ++ [ctr] ++ leWs 3 nonce
theorem stW_len {key nonce : B} {ctr : W} : (stW key ctr nonce).length = 16 := by simp [stW, leWs_len]
theorem get_at (l : B) (o : Nat) (h : o + 4 ≤ l.length) : FnOK Tryd.prog G 111 [sv (l.drop o)] (wv (leW (l.getD o 0) (l.getD (o + 1) 0) (l.getD (o + 2) 0) (l.getD (o + 3) 0))) := by
  have e : l.drop o = l.getD o 0 :: l.getD (o + 1) 0 :: l.getD (o + 2) 0 :: l.getD (o + 3) 0 :: l.drop (o + 4) := by
    have g : ∀ (k : Nat) (hk : k < l.length), l.getD k 0 = l[k] := fun k hk => by simp [List.getD_eq_getElem?_getD, hk]
    rw [List.drop_eq_getElem_cons (by omega : o < l.length), List.drop_eq_getElem_cons (by omega : o + 1 < l.length), List.drop_eq_getElem_cons (by omega : o + 2 < l.length), List.drop_eq_getElem_cons (by omega : o + 3 < l.length),
      g o (by omega), g (o + 1) (by omega), g (o + 2) (by omega), g (o + 3) (by omega)]
  rw [e]
  exact get_ok _ _ _ _ _
theorem retV_ct {P : Program} {fr : Nat → V} {bx : Nat → List V} {nb : Nat} {d e : V} {p u : Tmp} {T : TypeId} (h1 : resV P ⟨fr, bx, nb⟩ (.cell p T) fun v => v.fz = d) (h2 : (fr u).fz = e) : retV P false ⟨fr, bx, nb⟩ (.tup [d, e]) [.cell p T, .tmp u] := by
  refine ⟨_, rfl, rfl, fun i R x hR hx => ?_⟩
  match i with
  | 0 => simp only [List.getElem?_cons_zero, Option.some.injEq] at hR hx; subst hR; subst hx; exact h1
  | 1 => simp only [List.getElem?_cons_succ, List.getElem?_cons_zero, Option.some.injEq] at hR hx; subst hR; subst hx; exact h2
  | n + 2 => simp at hR
def c4 : List W := ([0x61707865, 0x3320646e, 0x79622d32, 0x6b206574] : List Nat).map (BitVec.ofNat 32)
def stP (kw : List W) (ctr : W) (nw : List W) (i j : Nat) : List W := c4 ++ (fill 0 8 kw i ++ ([ctr] ++ fill 0 3 nw j))
theorem c4_len : c4.length = 4 := rfl
theorem stP_len {kw nw : List W} {ctr : W} {i j : Nat} (h1 : i ≤ kw.length ∧ i ≤ 8) (h2 : j ≤ nw.length ∧ j ≤ 3) : (stP kw ctr nw i j).length = 16 := by
  simp [stP, c4_len, fill_len h1.1 h1.2, fill_len h2.1 h2.2]
theorem stP_set1 {kw nw : List W} {ctr x : W} {i j : Nat} (hx : kw[i]? = some x) (hi : i < 8) : (stP kw ctr nw i j).set (4 + i) x = stP kw ctr nw (i + 1) j := by
  have hl := (List.getElem?_eq_some_iff.1 hx).1
  unfold stP
  rw [List.set_append_right _ _ (by rw [c4_len]; omega), c4_len, Nat.add_sub_cancel_left, List.set_append_left _ _ (by rw [fill_len (by omega) (by omega)]; exact hi), fill_set hx hi]
theorem stP_set2 {kw nw : List W} {ctr x : W} {j : Nat} (hk : kw.length = 8) (hx : nw[j]? = some x) (hj : j < 3) : (stP kw ctr nw 8 j).set (13 + j) x = stP kw ctr nw 8 (j + 1) := by
  have hl := (List.getElem?_eq_some_iff.1 hx).1
  have h8 : (fill (0 : W) 8 kw 8).length = 8 := fill_len (by omega) (by omega)
  unfold stP
  rw [List.set_append_right _ _ (by rw [c4_len]; omega), c4_len, List.set_append_right _ _ (by rw [h8]; omega), h8, List.set_append_right _ _ (by simp; omega), show 13 + j - 4 - 8 - [ctr].length = j by simp; omega, fill_set hx hj]
theorem stP_all {key nonce : B} {ctr : W} : stP (leWs 8 key) ctr (leWs 3 nonce) 8 3 = stW key ctr nonce := by
  unfold stP stW; rw [fill_all (leWs_len 8 key), fill_all (leWs_len 3 nonce)]; simp [c4]
theorem b_stt {K : V → Prop} {kw nw : List W} {ctr : W} : vbuild Tryd.prog 124 [(0, V.c (C.lit (Value.int IntKind.u32 1634760805))), (1, V.c (C.lit (Value.int IntKind.u32 857760878))), (2, V.c (C.lit (Value.int IntKind.u32 2036477234))), (3, V.c (C.lit (Value.int IntKind.u32 1797285236))), (12, V.c (wc ctr))] K = K (.agg ((stP kw ctr nw 0 0).map wc)) := by
  unfold vbuild; rw [ti_124]; simp only [ti_99, stP, fill_zero]; rfl
theorem stP_fold {l : List W} : (l.map wc).map V.c = cl wc l := (cl_eq).symm
set_option maxRecDepth 100000 in
set_option maxHeartbeats 1500000 in
theorem State_ok (key nonce : B) (ctr : W) (hk : key.length = 32) (hn : nonce.length = 12) : FnOK Tryd.prog G 97 [sv key, wv ctr, sv nonce] (.tup [.agg ((stW key ctr nonce).map wc), i64 0]) := by
  refine FnOK_by (rs := [.cell 6 124, .tmp 7]) false [] mixed Tryd.func97 rfl rfl rfl rfl (by kernel_rfl) (by simp) rfl rfl ?_
  have d1 : (!decide (((32 : Nat) : Int) = 32)) = false := by decide
  have d2 : (!decide (((12 : Nat) : Int) = 12)) = false := by decide
  simp -implicitDefEqProofs only [pkA, ptA, ↓reduceIte, Nat.reduceEqDiff, Nat.reduceAdd, Nat.zero_add, bs8_size, hk, hn, d1, d2]
  have hkl := leWs_len 8 key
  have hnl := leWs_len 3 nonce
  have hka := fun i h => leWs_at 8 key i h
  have hna := fun i h => leWs_at 3 nonce i h
  rw [← stP_all, b_stt (kw := leWs 8 key) (nw := leWs 3 nonce)]
  generalize leWs 8 key = kw at *
  generalize leWs 3 nonce = nw at *
  have hzb : zbox 16 (.c (.lit (.int .u32 0))) = cl wc (List.replicate 16 0) := zbox_cl (f := wc) (x := (0 : W))
  have h0l : (stP kw ctr nw 0 0).length = 16 := stP_len ⟨by omega, by omega⟩ ⟨by omega, by omega⟩
  have hset : setV (zbox 16 (V.c (C.lit (Value.int IntKind.u32 0)))) 0 (cl wc (stP kw ctr nw 0 0)) = cl wc (stP kw ctr nw 0 0) := setV_all (by rw [cl_len, h0l, zbox_len])
  simp -implicitDefEqProofs only [pkA, ptA, ↓reduceIte, Nat.reduceEqDiff, Nat.reduceAdd, Nat.reduceMul, Nat.reduceLT, Nat.reduceLeDiff, Nat.zero_add, decide_true, isMb_zbox, zbox_len, stP_fold, hset, List.length_map, h0l]
  refine run_loop (fun i : Nat => hdS [(0, sv key), (2, sv nonce), (6, .bp 0 0), (21, i64 (i : Nat))] [cl wc (stP kw ctr nw i 0)]) (fun i => 8 - i) (fun i => i ≤ 8) 0 (Nat.zero_le _) ?_ ?_
  · refine le_hd (by simp only [leOk, List.all_cons, List.all_nil, cl_ltB, List.length_cons, List.length_nil]; rfl) (Nat.zero_le _) (by simp) (by simp [FL, up_apply]) (by simp [BL])
  rintro i hi R hnorm hexit hret
  have hwi := wrap_of (n := (i : Int) + 1) (k := i + 1) (by omega) (by omega)
  simp -implicitDefEqProofs only [pkA, ↓reduceIte, Nat.reduceEqDiff, Nat.reduceAdd, Nat.zero_add]
  refine vcond_of (fun hlt => ?_) (fun hge => ?_)
  · have hlt : i < 8 := by have := dlt hlt; omega
    have w4 := wrap_of (n := 4 + (i : Int)) (k := 4 + i) (by omega) (by omega)
    have wm := wrap_of (n := 4 * (i : Int)) (k := 4 * i) (by omega) (by omega)
    have hsl : (stP kw ctr nw i 0).length = 16 := stP_len ⟨by omega, by omega⟩ ⟨by omega, by omega⟩
    simp -implicitDefEqProofs only [pkA, ↓reduceIte, Nat.reduceEqDiff, Nat.reduceAdd, w4, wm]
    refine sl_sv ti_9 rfl (a := 4 * i) (b := key.length) rfl rfl (by omega) (Nat.le_refl _) ?_
    rw [List.take_length]
    simp -implicitDefEqProofs only [pkA, ↓reduceIte, Nat.reduceAdd]
    refine call_fn rfl (get_at key (4 * i) (by omega)) (fun _ => rfl) ?_
    simp -implicitDefEqProofs only [pkA, ↓reduceIte, Nat.reduceEqDiff]
    refine ia_cl ti_124 rfl ti_99 rfl rfl (k := 4 + i) (by omega) ?_
    simp -implicitDefEqProofs only [pkA, ptA, ↓reduceIte, Nat.reduceEqDiff, Nat.reduceAdd, Nat.reduceMul, Nat.reduceLT, Nat.zero_add, decide_true, isMb_cl, cl_len, hwi]
    rw [setV_cl (by omega), stP_set1 (hka i hlt) hlt]
    refine ⟨by omega, ?_⟩
    exact hnorm (i + 1) _ hlt (by omega) (le_hd (by simp only [leOk, List.all_cons, List.all_nil, cl_ltB, List.length_cons, List.length_nil]; rfl) (Nat.zero_le _) (by simp) (by simp [FL, up_apply]) (by simp [BL]))
  have hi8 : i = 8 := by have := dge hge; omega
  subst hi8
  simp -implicitDefEqProofs only [pkA]
  refine hexit _ _ ?_
  clear hexit hnorm hret hge hwi hi R
  simp -implicitDefEqProofs only [pkA, ↓reduceIte, Nat.reduceAdd]
  refine run_loop (fun i : Nat => hdS [(0, sv key), (2, sv nonce), (6, .bp 0 0), (33, i64 (i : Nat))] [cl wc (stP kw ctr nw 8 i)]) (fun i => 3 - i) (fun i => i ≤ 3) 0 (Nat.zero_le _) ?_ ?_
  · refine le_hd (by simp only [leOk, List.all_cons, List.all_nil, cl_ltB, List.length_cons, List.length_nil]; rfl) (Nat.zero_le _) (by simp) (by simp [FL, up_apply]) (by simp [BL, bxs])
  rintro i hi R hnorm hexit hret
  have hwi := wrap_of (n := (i : Int) + 1) (k := i + 1) (by omega) (by omega)
  have hsl : (stP kw ctr nw 8 i).length = 16 := stP_len ⟨by omega, by omega⟩ ⟨by omega, by omega⟩
  simp -implicitDefEqProofs only [pkA, ↓reduceIte, Nat.reduceEqDiff, Nat.reduceAdd, Nat.zero_add]
  refine vcond_of (fun hlt => ?_) (fun hge => ?_)
  · have hlt : i < 3 := by have := dlt hlt; omega
    have w4 := wrap_of (n := 13 + (i : Int)) (k := 13 + i) (by omega) (by omega)
    have wm := wrap_of (n := 4 * (i : Int)) (k := 4 * i) (by omega) (by omega)
    simp -implicitDefEqProofs only [pkA, ↓reduceIte, Nat.reduceEqDiff, Nat.reduceAdd, w4, wm]
    refine sl_sv ti_9 rfl (a := 4 * i) (b := nonce.length) rfl rfl (by omega) (Nat.le_refl _) ?_
    rw [List.take_length]
    simp -implicitDefEqProofs only [pkA, ↓reduceIte, Nat.reduceAdd]
    refine call_fn rfl (get_at nonce (4 * i) (by omega)) (fun _ => rfl) ?_
    simp -implicitDefEqProofs only [pkA, ↓reduceIte, Nat.reduceEqDiff]
    refine ia_cl ti_124 rfl ti_99 rfl rfl (k := 13 + i) (by omega) ?_
    simp -implicitDefEqProofs only [pkA, ptA, ↓reduceIte, Nat.reduceEqDiff, Nat.reduceAdd, Nat.reduceMul, Nat.reduceLT, Nat.zero_add, decide_true, isMb_cl, cl_len, hwi]
    rw [setV_cl (by omega), stP_set2 hkl (hna i hlt) hlt]
    refine ⟨by omega, ?_⟩
    exact hnorm (i + 1) _ hlt (by omega) (le_hd (by simp only [leOk, List.all_cons, List.all_nil, cl_ltB, List.length_cons, List.length_nil]; rfl) (Nat.zero_le _) (by simp) (by simp [FL, up_apply]) (by simp [BL]))
  have hi8 : i = 3 := by have := dge hge; omega
  subst hi8
  simp -implicitDefEqProofs only [pkA]
  refine hexit _ _ ?_
  clear hexit hnorm hret hge hwi hi R
  simp -implicitDefEqProofs only [pkA, ptA, ↓reduceIte, Nat.reduceEqDiff, Nat.reduceAdd, Nat.reduceMul, Nat.reduceLT, decide_true, isMb_cl]
  refine ldA_cl (by decide) hsl ?_
  have hset2 : setV (cl wc (stP kw ctr nw 8 3)) 0 (cl wc (stP kw ctr nw 8 3)) = cl wc (stP kw ctr nw 8 3) := setV_all rfl
  simp -implicitDefEqProofs only [pkA, ptA, ↓reduceIte, Nat.reduceEqDiff, Nat.reduceAdd, Nat.reduceMul, Nat.reduceLT, Nat.reduceLeDiff, Nat.zero_add, decide_true, isMb_cl, cl_len, stP_fold, hset2, List.length_map, hsl]
  refine retV_ct ?_ rfl
  simp -implicitDefEqProofs only [resV, pkA, ptA, ↓reduceIte, Nat.reduceEqDiff, isMb_cl]
  exact ldA_cl (by decide) hsl rfl
end Go.Proofs.YtidlohfkfdeaiaaDoor

/- Layer 3: a block. -/
namespace Go.Proofs.YtidlohfkfdeaiaaDoor
open Go Go.Vl

variable {G : Gl}
def leL (ws : List W) : B := (ws.map leB).flatten
theorem leL_len : ∀ ws : List W, (leL ws).length = 4 * ws.length
  | [] => rfl
  | x :: ws => by
    have e : leL (x :: ws) = leB x ++ leL ws := rfl
    rw [e, List.length_append, leL_len ws, List.length_cons, show (leB x).length = 4 from rfl]; omega
theorem leL_take : ∀ (ws : List W) (i : Nat) (x : W), ws[i]? = some x → (leL ws).take (4 * (i + 1)) = (leL ws).take (4 * i) ++ leB x
  | [], _, _, h => by simp at h
  | y :: ws, 0, x, h => by
    obtain rfl : y = x := by simpa using h
    have e : leL (y :: ws) = leB y ++ leL ws := rfl
    rw [e]; rfl
  | y :: ws, i + 1, x, h => by
    have e : leL (y :: ws) = leB y ++ leL ws := rfl
    have h4 : (leB y).length = 4 := rfl
    have ih := leL_take ws i x (by simpa using h)
    rw [e, show 4 * (i + 1 + 1) = (leB y).length + 4 * (i + 1) by rw [h4]; omega, show 4 * (i + 1) = (leB y).length + 4 * i by rw [h4]; omega,
      List.take_length_add_append, List.take_length_add_append, List.append_assoc, show (leB y).length + 4 * i = 4 * (i + 1) by rw [h4]; omega, ih]
theorem fill_put {ws : List W} {i : Nat} {x : W} (hl : ws.length = 16) (hx : ws[i]? = some x) :
    (fill 0 64 (leL ws) (4 * i)).take (4 * i) ++ leB x ++ (fill 0 64 (leL ws) (4 * i)).drop (4 * i + 4) = fill 0 64 (leL ws) (4 * (i + 1)) := by
  have hi := (List.getElem?_eq_some_iff.1 hx).1
  have hL := leL_len ws
  have ht : ((leL ws).take (4 * i)).length = 4 * i := by rw [List.length_take]; omega
  unfold fill
  rw [List.take_left' ht, List.drop_append, ht, List.drop_eq_nil_of_le (by rw [ht]; omega), List.nil_append, List.drop_replicate, leL_take ws i x hx]
  congr 2; omega
def blkW (S : List W) : List W := List.zipWith (· + ·) (dblS S 10) S
theorem blkW_len {S : List W} (h : S.length = 16) : (blkW S).length = 16 := by unfold blkW; rw [List.length_zipWith, dblS_len, h]; rfl
def blockB (key : B) (ctr : W) (nonce : B) : B := leL (blkW (stW key ctr nonce))
/-- A call with one box of several, whose result leads into it. -/
theorem callB_oneR {P : Program} {G : Gl} {s : S} {f : V} {args all cargs : List V} {g : FuncId} {K : S → V → Prop} {r r' : V} {c0 c1 : List C} (q : Nat) (hc : calleeV f args = some (g, all)) (hf : FnB P G g cargs [c0.map .c] r [c1.map .c])
    (hall : all.map V.fz = cargs.map (V.ren (rho [q] s.nb))) (hq : q < s.nb) (hb : s.bx q = c0.map .c) (hr : r.ren (rho [q] s.nb) = r') (hK : K ⟨s.fr, up s.bx q (c1.map .c), s.nb⟩ r') : vcallB P G s f args K := by
  have hm : ∀ (ρ : Nat → Nat) (l : List C), (l.map V.c).map (V.ren ρ) = l.map .c := fun ρ l => by
    rw [List.map_map]; rfl
  have h0 : rho [q] s.nb 0 = q := rfl
  unfold vcallB vcallE
  simp only [hc]
  refine ⟨[q], cargs, [c0.map .c], r, [c1.map .c], hf, hall, ⟨rfl, by simp⟩, ⟨⟨by rw [h0]; exact hq, by rw [h0, hm]; exact hb⟩, trivial⟩, ?_⟩
  rw [hr]
  have e : setBx (rho [q] s.nb) 0 [c1.map .c] s.bx = up s.bx q (c1.map .c) := by
    simp only [setBx, hm, h0]
  rw [e]
  exact hK
theorem mk_of {P : Program} {T e : TypeId} {i j : TI} {kd kd' : IntKind} {a b : Int} {n m : Nat} {z : C} {K : Nat → Nat → Nat → List C → Prop} (hT : ti P T = some i) (hk : i.kd = .slice e) (hj : ti P e = some j) (hs : j.size = 1) (hb : j.bytes = 1) (hz : j.zero = some [z])
    (ha : a = (n : Nat)) (hb' : b = (m : Nat)) (hn : n ≤ m) (hm : m ≤ 281474976710656) (hK : K n m 1 [z]) : vmake P T (.c (.lit (.int kd a))) (.c (.lit (.int kd' b))) K := by
  obtain ⟨a1, a2, a3, a4, a5, a6, a7⟩ := i
  obtain ⟨b1, b2, b3, b4, b5, b6, b7⟩ := j
  simp only at hk hs hb hz; subst hk hs hb hz ha hb'
  simp only [vmake, hT, hj, Int.toNat_natCast]
  exact ⟨⟨by decide, rfl, by omega, by omega, by omega, by omega⟩, hK⟩
theorem mk_box {α : Type} {f : α → C} {n : Nat} {x : α} : (List.replicate n [f x]).flatten.map V.c = cl f (List.replicate n x) := by
  unfold cl
  induction n with
  | zero => rfl
  | succ n ih => simp only [List.replicate_succ, List.flatten_cons, List.map_append, List.map_cons, ih]; rfl
theorem flat_st0 {l : List W} {n : Int} : (V.tup [.agg (l.map wc), i64 n]).isFlat = true := by
  simp [V.isFlat, C.isLit]
set_option maxRecDepth 100000 in
set_option maxHeartbeats 1500000 in
theorem Block_ok (key nonce : B) (ctr : W) (hk : key.length = 32) (hn : nonce.length = 12) : FnOK Tryd.prog G 98 [sv key, wv ctr, sv nonce] (.tup [sv (blockB key ctr nonce), i64 0]) := by
  refine FnOK_by (rs := [.tmp 6, .tmp 7]) false [2000023, 1000036] mixed Tryd.func98 rfl rfl rfl rfl (by kernel_rfl) (by simp) rfl rfl ?_
  simp -implicitDefEqProofs only [pkA, ↓reduceIte, Nat.reduceEqDiff, Nat.reduceAdd, Nat.reduceBEq, Nat.zero_add]
  refine call_fn rfl (State_ok key nonce ctr hk hn) (fun _ => flat_st0) ?_
  have hS := stW_len (key := key) (ctr := ctr) (nonce := nonce)
  have hBe : blockB key ctr nonce = leL (blkW (stW key ctr nonce)) := rfl
  rw [hBe]
  generalize stW key ctr nonce = S at *
  have hset : setV (zbox 16 (V.c (C.lit (Value.int IntKind.u32 0)))) 0 (cl wc S) = cl wc S := setV_all (by rw [cl_len, hS, zbox_len])
  simp -implicitDefEqProofs only [pkA, ptA, ↓reduceIte, Nat.reduceEqDiff, Nat.reduceAdd, Nat.reduceBEq, Nat.reduceMul, Nat.reduceLT, Nat.reduceLeDiff, Nat.zero_add, decide_true, isMb_zbox, zbox_len, stP_fold, hset, List.length_map, hS]
  refine mk_of ti_71 rfl ti_5 rfl rfl rfl (n := 0) (m := 64) rfl rfl (by decide) (by decide) ?_
  have hmk : (List.replicate 64 [C.lit (.int .u8 0)]).flatten.map V.c = cl bc (List.replicate 64 0) := mk_box (f := bc) (x := (0 : UInt8))
  simp -implicitDefEqProofs only [pkA, ptA, ↓reduceIte, Nat.reduceEqDiff, Nat.reduceAdd, Nat.reduceBEq, Nat.reduceMul, Nat.reduceLT, decide_true, isMb_cl]
  refine ldA_cl (by decide) hS ?_
  simp -implicitDefEqProofs only [pkA, ↓reduceIte, Nat.reduceAdd, Nat.reduceBEq]
  refine call_fn rfl (Rounds_ok S hS) (fun h => by cases h) ?_
  have hL := leL_len (blkW S)
  have hW := blkW_len hS
  have hD : (dblS S 10).length = 16 := by rw [dblS_len, hS]
  have hx : ∀ i x y, (dblS S 10)[i]? = some x → S[i]? = some y → (blkW S)[i]? = some (x + y) := fun i x y h1 h2 => by
    unfold blkW; rw [List.getElem?_zipWith, h1, h2]
  generalize blkW S = B0 at *
  generalize dblS S 10 = D at *
  simp -implicitDefEqProofs only [pkA, ↓reduceIte, Nat.reduceBEq]
  refine run_loop (fun i : Nat => hdS [(8, .bp 0 0), (10, .ms 1 0 (4 * i) 64 1), (25, .agg (D.map wc)), (26, i64 (i : Nat))] [cl wc S, cl bc (fill 0 64 (leL B0) (4 * i))]) (fun i => 16 - i) (fun i => i ≤ 16) 0 (Nat.zero_le _) ?_ ?_
  · refine le_hd (by simp only [leOk, List.all_cons, List.all_nil, cl_ltB, List.length_cons, List.length_nil]; rfl) (Nat.zero_le _) (by simp) (by simp [FL, up_apply]) (by simp [BL, up_apply, fill_zero]; rfl)
  rintro i hi R hnorm hexit hret
  have hwi := wrap_of (n := (i : Int) + 1) (k := i + 1) (by omega) (by omega)
  have hfl : (fill 0 64 (leL B0) (4 * i)).length = 64 := fill_len (by omega) (by omega)
  simp -implicitDefEqProofs only [pkA, ↓reduceIte, Nat.reduceEqDiff, Nat.reduceAdd, Nat.reduceBEq, Nat.zero_add]
  refine vcond_of (fun hlt => ?_) (fun hge => ?_)
  · have hlt : i < 16 := by have := dlt hlt; omega
    obtain ⟨x, hx1⟩ : ∃ x, D[i]? = some x := ⟨D[i]'(by omega), List.getElem?_eq_getElem _⟩
    obtain ⟨y, hy1⟩ : ∃ y, S[i]? = some y := ⟨S[i]'(by omega), List.getElem?_eq_getElem _⟩
    have hxy := hx i x y hx1 hy1
    have hput := put_ok (G := G) (fill 0 64 (leL B0) (4 * i)) (x + y) (4 * i) hfl (by omega)
    rw [fill_put hW hxy, cl_eq, cl_eq] at hput
    simp -implicitDefEqProofs only [pkA, ↓reduceIte, Nat.reduceEqDiff, Nat.reduceAdd, Nat.reduceBEq]
    refine ix_cl ti_124 rfl ti_99 rfl rfl rfl hlt hx1 ?_
    simp -implicitDefEqProofs only [pkA, ↓reduceIte, Nat.reduceEqDiff, Nat.reduceAdd, Nat.reduceBEq]
    refine ia_cl ti_124 rfl ti_99 rfl rfl (k := i) hlt ?_
    simp -implicitDefEqProofs only [pkA, ptA, ↓reduceIte, Nat.reduceAdd, Nat.reduceBEq, Nat.reduceMul, Nat.reduceLT, Nat.zero_add, decide_true, isMb_cl]
    refine ld_cl (by decide) hy1 ?_
    simp -implicitDefEqProofs only [pkA, ↓reduceIte, Nat.reduceEqDiff, Nat.reduceAdd, Nat.reduceBEq, wr_add]
    refine callB_oneR (r' := .ms 1 0 (4 * i + 4) 64 1) 1 rfl hput ?_ (Nat.lt_succ_self 1) ?_ rfl ?_
    · rfl
    · simp [bxs, cl_eq]
    simp -implicitDefEqProofs only [pkA, ↓reduceIte, Nat.reduceEqDiff, Nat.reduceAdd, Nat.reduceBEq, hwi]
    exact hnorm (i + 1) _ hlt (by omega) (le_hd (by simp only [leOk, List.all_cons, List.all_nil, cl_ltB, List.length_cons, List.length_nil]; rfl) (Nat.zero_le _) (by simp) (by simp [FL, up_apply]; omega) (by simp [BL, up_apply, bxs, cl_eq]))
  have hi8 : i = 16 := by have := dge hge; omega
  subst hi8
  simp -implicitDefEqProofs only [pkA, Nat.reduceMul]
  refine hexit _ _ ?_
  clear hexit hnorm hret hge hwi hi R
  have hfa : fill 0 64 (leL B0) (4 * 16) = leL B0 := fill_all (by omega)
  rw [hfa]
  simp -implicitDefEqProofs only [pkA, ↓reduceIte, Nat.reduceEqDiff, Nat.reduceAdd, Nat.reduceBEq]
  rw [vw_all (l := leL B0) (by decide) rfl (by omega)]
  simp -implicitDefEqProofs only [pkA, ↓reduceIte, c_bs]
  refine retV_two ?_ ?_ <;> rfl
end Go.Proofs.YtidlohfkfdeaiaaDoor

/- Layer 3: a text is encrypted. -/
namespace Go.Proofs.YtidlohfkfdeaiaaDoor
open Go Go.Vl

variable {G : Gl}
theorem blockB_len {key nonce : B} {ctr : W} : (blockB key ctr nonce).length = 64 := by unfold blockB; rw [leL_len, blkW_len stW_len]
def ctrAt (ctr : W) (i : Nat) : W := ctr + BitVec.ofNat 32 i
def xorAt (key : B) (ctr : W) (nonce text : B) (i : Nat) : UInt8 := text.getD i 0 ^^^ (blockB key (ctrAt ctr (i / 64)) nonce).getD (i % 64) 0
def xorB (key : B) (ctr : W) (nonce text : B) : B := (List.range text.length).map (xorAt key ctr nonce text)
theorem xorB_len {key nonce text : B} {ctr : W} : (xorB key ctr nonce text).length = text.length := by simp [xorB]
theorem xorB_at {key nonce text : B} {ctr : W} {i : Nat} {x y : UInt8} (h : text[i]? = some x) (hy : (blockB key (ctrAt ctr (i / 64)) nonce)[i % 64]? = some y) : (xorB key ctr nonce text)[i]? = some (x ^^^ y) := by
  have hl := (List.getElem?_eq_some_iff.1 h).1
  unfold xorB
  rw [List.getElem?_map, List.getElem?_range hl]
  show some (xorAt key ctr nonce text i) = _
  unfold xorAt
  rw [List.getD_eq_getElem?_getD, List.getD_eq_getElem?_getD, h, hy]; rfl
def blkAt (key : B) (ctr : W) (nonce : B) (i : Nat) : B := if i = 0 then [] else blockB key (ctrAt ctr ((i - 1) / 64)) nonce
theorem ctrAt_succ (ctr : W) (i : Nat) : ctrAt ctr i + 1 = ctrAt ctr (i + 1) := by
  unfold ctrAt
  rw [BitVec.add_assoc]; congr 1
  apply BitVec.eq_of_toNat_eq
  simp
theorem rem64 {n : Nat} {K : V → Prop} (h : n ≤ 1000000000) : vint .rem .i64 (n : Int) 64 K = K (i64 ((n % 64 : Nat) : Int)) := by
  have hd : ((n : Int)).tmod 64 = ((n % 64 : Nat) : Int) := by rw [Int.tmod_eq_emod_of_nonneg (by omega)]; omega
  have hw := wrap_of (n := ((n % 64 : Nat) : Int)) (k := n % 64) rfl (by omega)
  simp only [vint, hd]
  exact propext ⟨fun h => h.2, fun h => ⟨by decide, h⟩⟩
set_option maxRecDepth 100000 in
set_option maxHeartbeats 1500000 in
theorem Xor_ok (key nonce text : B) (ctr : W) (hk : key.length = 32) (hn : nonce.length = 12) (ht : text.length ≤ 1000000000) : FnOK Tryd.prog G 78 [sv key, wv ctr, sv nonce, sv text] (.tup [sv (xorB key ctr nonce text), i64 0]) := by
  refine FnOK_by (rs := [.tmp 8, .tmp 9]) false [2000026] mixed Tryd.func78 rfl rfl rfl rfl (by kernel_rfl) (by simp) rfl rfl ?_
  simp -implicitDefEqProofs only [pkA, ↓reduceIte, Nat.reduceEqDiff, Nat.reduceAdd, Nat.reduceBEq, Nat.zero_add]
  refine call_fn rfl (State_ok key nonce ctr hk hn) (fun _ => flat_st0) ?_
  have hS := stW_len (key := key) (ctr := ctr) (nonce := nonce)
  generalize stW key ctr nonce = S at *
  have hset : setV (zbox 16 (V.c (C.lit (Value.int IntKind.u32 0)))) 0 (cl wc S) = cl wc S := setV_all (by rw [cl_len, hS, zbox_len])
  have hcp : (strC (bs8 text)).flatten.map V.c = cl bc text := by rw [strC_bs8, flat_bC]
  simp -implicitDefEqProofs only [pkA, ptA, ↓reduceIte, Nat.reduceEqDiff, Nat.reduceAdd, Nat.reduceBEq, Nat.reduceMul, Nat.reduceLT, Nat.reduceLeDiff, Nat.zero_add, decide_true, isMb_zbox, zbox_len, stP_fold, hset, List.length_map, hS]
  rw [bytes_of ti_9 rfl ti_71 rfl ti_5 rfl]
  simp -implicitDefEqProofs only [pkA, ptA, ↓reduceIte, Nat.reduceEqDiff, Nat.reduceAdd, Nat.reduceBEq, hcp, bs8_size]
  have hA := xorB_len (key := key) (ctr := ctr) (nonce := nonce) (text := text)
  have hAt := fun i x y => xorB_at (key := key) (ctr := ctr) (nonce := nonce) (text := text) (i := i) (x := x) (y := y)
  generalize xorB key ctr nonce text = A at *
  refine run_loop (fun i : Nat => hdS [(0, sv key), (1, wv (ctrAt ctr ((i + 63) / 64))), (2, sv nonce), (12, .ms 1 0 text.length text.length 1), (13, sv (blkAt key ctr nonce i)), (28, i64 (text.length : Nat)), (29, i64 (i : Nat))] [cl wc S, cl bc (half A text i)]) (fun i => text.length - i) (fun i => i ≤ text.length) 0 (Nat.zero_le _) ?_ ?_
  · refine le_hd (by simp only [leOk, List.all_cons, List.all_nil, cl_ltB, List.length_cons, List.length_nil]; rfl) (Nat.zero_le _) (by simp) ?_ (by simp [BL, up_apply, half_zero])
    have h0 : ctrAt ctr ((0 + 63) / 64) = ctr := by unfold ctrAt; simp
    rw [h0]
    simp [FL, up_apply, blkAt]; rfl
  rintro i hi R hnorm hexit hret
  have hwi := wrap_of (n := (i : Int) + 1) (k := i + 1) (by omega) (by omega)
  simp -implicitDefEqProofs only [pkA, ↓reduceIte, Nat.reduceEqDiff, Nat.reduceAdd, Nat.reduceBEq, Nat.zero_add]
  refine vcond_of (fun hlt => ?_) (fun hge => ?_)
  · have hlt : i < text.length := by have := dlt hlt; omega
    have hhl := half_len hA (i := i) (by omega)
    obtain ⟨x, hx⟩ : ∃ x, text[i]? = some x := ⟨text[i], List.getElem?_eq_getElem hlt⟩
    simp -implicitDefEqProofs only [pkA, ↓reduceIte, Nat.reduceEqDiff, Nat.reduceAdd, Nat.reduceBEq]
    rw [rem64 (by omega)]
    simp -implicitDefEqProofs only [pkA, ↓reduceIte]
    have hb1 : blockB key (ctrAt ctr ((i + 1 - 1) / 64)) nonce = blkAt key ctr nonce (i + 1) := by unfold blkAt; rw [if_neg (by omega)]
    refine join_cond (fun s' => ∃ fr, s' = ⟨fr, bxs [cl wc S, cl bc (half A text i)], 2⟩ ∧ fr 0 = sv key ∧ fr 2 = sv nonce ∧ fr 12 = .ms 1 0 text.length text.length 1 ∧ fr 28 = i64 (text.length : Nat) ∧ fr 29 = i64 (i : Nat) ∧ fr 14 = i64 (i : Nat) ∧ fr 13 = sv (blkAt key ctr nonce (i + 1)) ∧ fr 1 = wv (ctrAt ctr ((i + 1 + 63) / 64))) ?_ ?_
    case refine_2 =>
      intro R' hR _
      refine vcond_of (fun h => ?_) (fun h => ?_)
      · have h : i % 64 = 0 := by have := of_decide_eq_true h; omega
        have e1 : (i + 63) / 64 = i / 64 := by omega
        have e2 : (i + 1 + 63) / 64 = i / 64 + 1 := by omega
        rw [e1]
        simp -implicitDefEqProofs only [pkA, ↓reduceIte, Nat.reduceEqDiff, Nat.reduceAdd, Nat.reduceBEq]
        refine call_fn rfl (Block_ok key nonce _ hk hn) (fun h => rfl) ?_
        simp -implicitDefEqProofs only [pkA, ↓reduceIte, Nat.reduceEqDiff, Nat.reduceAdd, Nat.reduceBEq]
        refine hR _ ⟨_, rfl, by simp [up_apply], by simp [up_apply], by simp [up_apply], by simp [up_apply], by simp [up_apply], by simp [up_apply], ?_, ?_⟩
        · rw [← hb1, Nat.add_sub_cancel]; simp [up_apply]
        · rw [e2, ← ctrAt_succ]; simp [IntKind.wrap_u32]
      · have h : ¬ i % 64 = 0 := by have := of_decide_eq_false h; omega
        have e1 : (i + 63) / 64 = (i + 1 + 63) / 64 := by omega
        simp -implicitDefEqProofs only [pkA]
        refine hR _ ⟨_, rfl, by simp [up_apply], by simp [up_apply], by simp [up_apply], by simp [up_apply], by simp [up_apply], by simp [up_apply], ?_, ?_⟩
        · have hb0 : blkAt key ctr nonce i = blockB key (ctrAt ctr ((i - 1) / 64)) nonce := by unfold blkAt; rw [if_neg (by omega)]
          have e3 : (i - 1) / 64 = i / 64 := by omega
          rw [← hb1, Nat.add_sub_cancel]
          rw [hb0, e3]; simp [up_apply]
        · rw [← e1]; simp [up_apply]
    rintro _ ⟨fr, rfl, g0, g2, g12, g28, g29, g14, g13, g1⟩
    simp -implicitDefEqProofs only [pkA, ↓reduceIte, Nat.reduceEqDiff, Nat.reduceAdd, Nat.reduceBEq, g12, g14]
    have hbl : (blkAt key ctr nonce (i + 1)).length = 64 := by rw [← hb1, blockB_len]
    obtain ⟨y, hy⟩ : ∃ y, (blkAt key ctr nonce (i + 1))[i % 64]? = some y := ⟨(blkAt key ctr nonce (i + 1))[i % 64]'(by omega), List.getElem?_eq_getElem _⟩
    have hxy := hAt i x y hx (by rw [← hy, ← hb1, Nat.add_sub_cancel])
    refine ia_clm ti_71 rfl ti_5 rfl rfl hlt ?_
    simp -implicitDefEqProofs only [pkA, ptA, ↓reduceIte, Nat.reduceAdd, Nat.reduceBEq, Nat.reduceMul, Nat.reduceLT, Nat.zero_add, decide_true, isMb_cl]
    refine ld_cl (Nat.lt_succ_self 1) (by rw [half_at hA hlt]; exact hx) ?_
    simp -implicitDefEqProofs only [pkA, ↓reduceIte, Nat.reduceEqDiff, Nat.reduceBEq, g14, g13]
    rw [rem64 (by omega)]
    simp -implicitDefEqProofs only [pkA, ↓reduceIte, Nat.reduceEqDiff]
    refine ix_sv ti_9 rfl rfl hy ?_
    simp -implicitDefEqProofs only [pkA, ↓reduceIte, Nat.reduceEqDiff, b_xor]
    refine ia_clm ti_71 rfl ti_5 rfl rfl hlt ?_
    simp -implicitDefEqProofs only [pkA, ptA, ↓reduceIte, Nat.reduceEqDiff, Nat.reduceAdd, Nat.reduceBEq, Nat.reduceMul, Nat.reduceLT, Nat.zero_add, decide_true, isMb_cl, cl_len, hwi, g29]
    rw [setV_cl (by omega), half_set hA hxy]
    refine ⟨by omega, ?_⟩
    exact hnorm (i + 1) _ hlt (by omega) (le_hd (by simp only [leOk, List.all_cons, List.all_nil, cl_ltB, List.length_cons, List.length_nil]; rfl) (Nat.zero_le _) (by simp) (by simp [FL, up_apply, g0, g2, g12, g28, g13, g1]) (by simp [BL, up_apply, bxs]))
  have hz : i = text.length := by have := dge hge; omega
  subst hz
  simp -implicitDefEqProofs only [pkA]
  refine hexit _ _ ?_
  clear hexit hnorm hret hge hi R
  rw [half_all hA rfl]
  simp -implicitDefEqProofs only [pkA, ↓reduceIte, Nat.reduceEqDiff, Nat.reduceAdd, Nat.reduceBEq]
  rw [vw_all (l := A) (by decide) rfl (by omega)]
  simp -implicitDefEqProofs only [pkA, ↓reduceIte, c_bs]
  refine retV_two ?_ ?_ <;> rfl
end Go.Proofs.YtidlohfkfdeaiaaDoor
