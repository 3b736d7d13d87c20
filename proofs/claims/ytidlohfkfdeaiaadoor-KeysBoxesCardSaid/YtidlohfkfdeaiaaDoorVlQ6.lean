/- The specification's layer 2: the hash. -/
import Derived.Test.YtidlohfkfdeaiaaDoorVlQ5
set_option linter.unusedSimpArgs false
set_option linter.unusedVariables false
namespace Go.Proofs.YtidlohfkfdeaiaaDoor
open Go Go.Vl

/-- Both tables of round constants. -/
def gl2 : Gl := fun g => match g with
  | 0 => some (kW.map wc)
  | 1 => some (kW.map wc)
  | _ => none
theorem ev_g1 {s : Vl.S} : ev gl2 s (.global 1) = .c (.rp (kW.map wc) 0) := rfl
/-- More variables known. -/
theorem FnOK_gl {P : Program} {G G' : Gl} {f : FuncId} {az : List V} {r : V} (hG : ∀ g cs, G g = some cs → G' g = some cs) (h : FnOK P G f az r) : FnOK P G' f az r :=
  ⟨h.1, fun I w vs hI hg hs ha => h.2 I w vs hI (fun g cs hc => hg g cs (hG g cs hc)) hs ha⟩
theorem gl_gl2 : ∀ g cs, gl g = some cs → gl2 g = some cs := by
  intro g cs h
  unfold gl at h
  split at h
  · exact h
  · cases h
theorem up2 {f : FuncId} {az : List V} {r : V} (h : FnOK Tryd.prog gl f az r) : FnOK Tryd.prog gl2 f az r := FnOK_gl gl_gl2 h
theorem w_not2 {a : W} {K : V → Prop} : vint .xor .u32 (a.toNat : Int) 4294967295 K = K (.c (wc (~~~a))) := by
  have e : (4294967295 : Int) = ((BitVec.allOnes 32).toNat : Int) := by decide
  rw [e, w_xor, BitVec.xor_allOnes]
section
variable {P : Program} {K : V → Prop} {a b c d e f g h : W} {nb q : Nat} {x0 x1 x2 x3 x4 x5 x6 x7 : C}
theorem l8_0 : ldB nb q (cl wc [a, b, c, d, e, f, g, h]) 0 K = (q < nb ∧ K (.c (wc a))) := rfl
theorem l8_1 : ldB nb q (cl wc [a, b, c, d, e, f, g, h]) 1 K = (q < nb ∧ K (.c (wc b))) := rfl
theorem l8_2 : ldB nb q (cl wc [a, b, c, d, e, f, g, h]) 2 K = (q < nb ∧ K (.c (wc c))) := rfl
theorem l8_3 : ldB nb q (cl wc [a, b, c, d, e, f, g, h]) 3 K = (q < nb ∧ K (.c (wc d))) := rfl
theorem l8_4 : ldB nb q (cl wc [a, b, c, d, e, f, g, h]) 4 K = (q < nb ∧ K (.c (wc e))) := rfl
theorem l8_5 : ldB nb q (cl wc [a, b, c, d, e, f, g, h]) 5 K = (q < nb ∧ K (.c (wc f))) := rfl
theorem l8_6 : ldB nb q (cl wc [a, b, c, d, e, f, g, h]) 6 K = (q < nb ∧ K (.c (wc g))) := rfl
theorem l8_7 : ldB nb q (cl wc [a, b, c, d, e, f, g, h]) 7 K = (q < nb ∧ K (.c (wc h))) := rfl
theorem i8 {o : Nat} (k : Nat) (h : k < 8) : vindexAddr Tryd.prog 102 (.bp q o) (.c (.lit (.int .i64 (k : Int)))) K = K (.bp q (o + k)) := by
  have e : ((0 : Int) ≤ (k : Int) ∧ (k : Int) < 8) = True := by simp; omega
  simp only [vindexAddr, ti_102, ti_99]
  simp
  intro _; omega
theorem i8_0 {o : Nat} : vindexAddr Tryd.prog 102 (.bp q o) (.c (.lit (.int .i64 0))) K = K (.bp q o) := i8 0 (by decide)
theorem i8_1 {o : Nat} : vindexAddr Tryd.prog 102 (.bp q o) (.c (.lit (.int .i64 1))) K = K (.bp q (o + 1)) := i8 1 (by decide)
theorem i8_2 {o : Nat} : vindexAddr Tryd.prog 102 (.bp q o) (.c (.lit (.int .i64 2))) K = K (.bp q (o + 2)) := i8 2 (by decide)
theorem i8_3 {o : Nat} : vindexAddr Tryd.prog 102 (.bp q o) (.c (.lit (.int .i64 3))) K = K (.bp q (o + 3)) := i8 3 (by decide)
theorem i8_4 {o : Nat} : vindexAddr Tryd.prog 102 (.bp q o) (.c (.lit (.int .i64 4))) K = K (.bp q (o + 4)) := i8 4 (by decide)
theorem i8_5 {o : Nat} : vindexAddr Tryd.prog 102 (.bp q o) (.c (.lit (.int .i64 5))) K = K (.bp q (o + 5)) := i8 5 (by decide)
theorem i8_6 {o : Nat} : vindexAddr Tryd.prog 102 (.bp q o) (.c (.lit (.int .i64 6))) K = K (.bp q (o + 6)) := i8 6 (by decide)
theorem i8_7 {o : Nat} : vindexAddr Tryd.prog 102 (.bp q o) (.c (.lit (.int .i64 7))) K = K (.bp q (o + 7)) := i8 7 (by decide)
theorem b8 : vbuild Tryd.prog 102 [(0, .c x0), (1, .c x1), (2, .c x2), (3, .c x3), (4, .c x4), (5, .c x5), (6, .c x6), (7, .c x7)] K = K (.agg [x0, x1, x2, x3, x4, x5, x6, x7]) := by
  unfold vbuild; rw [ti_102]; simp only [ti_99]; rfl
end
theorem iv_build {K : V → Prop} : vbuild Tryd.prog 102 [(0, V.c (C.lit (Value.int IntKind.u32 1779033703))), (1, V.c (C.lit (Value.int IntKind.u32 3144134277))), (2, V.c (C.lit (Value.int IntKind.u32 1013904242))), (3, V.c (C.lit (Value.int IntKind.u32 2773480762))), (4, V.c (C.lit (Value.int IntKind.u32 1359893119))), (5, V.c (C.lit (Value.int IntKind.u32 2600822924))), (6, V.c (C.lit (Value.int IntKind.u32 528734635))), (7, V.c (C.lit (Value.int IntKind.u32 1541459225)))] K = K (.agg (iv.map wc)) := b8
theorem v_rem4 {m : Nat} {K : V → Prop} : vint .rem .i64 (m : Int) 4 K = K (i64 ((m % 4 : Nat) : Int)) := by
  have e : (m : Int).tmod 4 = ((m % 4 : Nat) : Int) := by rw [Int.tmod_eq_emod_of_nonneg (Int.natCast_nonneg m)]; rfl
  show ((4 : Int) ≠ 0 ∧ K (.c (.lit (.int .i64 ((m : Int).tmod 4))))) = _
  rw [e]
  have : ((4 : Int) ≠ 0) = True := by simp
  rw [this, true_and]
theorem v_quo4 {m : Nat} (h : m < 9223372036854775808) {K : V → Prop} : vint .quo .i64 (m : Int) 4 K = K (i64 ((m / 4 : Nat) : Int)) := by
  have e : IntKind.i64.wrap ((m : Int).tdiv 4) = ((m / 4 : Nat) : Int) := by
    rw [Int.tdiv_eq_ediv_of_nonneg (Int.natCast_nonneg m)]
    exact wrap_of (by rfl) (by omega)
  show ((4 : Int) ≠ 0 ∧ K (.c (.lit (.int .i64 (IntKind.i64.wrap ((m : Int).tdiv 4)))))) = _
  rw [e]
  have : ((4 : Int) ≠ 0) = True := by simp
  rw [this, true_and]
theorem ia_g {t : Nat} {K : V → Prop} (ht : t < 64) : vindexAddr Tryd.prog 145 (.c (.rp (kW.map wc) 0)) (.c (.lit (.int .i64 (t : Int)))) K = K (.c (.rp (kW.map wc) t)) := by
  have e : ((0 : Int) ≤ (t : Int) ∧ (t : Int) < (64 : Nat)) = True := by simp; omega
  simp only [vindexAddr, ti_145, ti_99, e, true_and, Int.toNat_natCast, Nat.mul_one, Nat.zero_add]
theorem p_g {t : Nat} {k : W} {K : V → Prop} (hk : kW[t]? = some k) : partV false 1 t (kW.map wc) K = K (wv k) := by
  unfold partV
  rw [List.getElem?_map, hk]; rfl
theorem R8_eta (r : R8) : r.toL = [r.v0, r.v1, r.v2, r.v3, r.e0, r.e1, r.e2, r.e3] := rfl
theorem addL_len {s : List W} (hs : s.length = 8) (r : R8) : (addL s r.toL).length = 8 := by simp [addL, hs, toL_len]
set_option maxRecDepth 100000 in
set_option maxHeartbeats 8000000 in
theorem rSum_ok (b : B) (hb : b.length ≤ 1000000000) : FnOK Tryd.prog gl2 103 [bv b] (av (shaR b)) := by
  refine FnOK_by (rs := [.cell 2 109]) false [200125, 312501, 200128, 312803, 200130, 313001] mixed Tryd.func103 rfl rfl rfl rfl (by kernel_rfl) (by simp) rfl rfl ?_
  have hz8 : zbox 8 (.c (.lit (.int .u32 0))) = cl wc (List.replicate 8 0) := zbox_cl (f := wc) (x := (0 : W))
  have hz32 : zbox 32 (.c (.lit (.int .u8 0))) = cl bc (List.replicate 32 0) := zbox_cl (f := bc) (x := (0 : UInt8))
  have hz64 : zbox 64 (.c (.lit (.int .u32 0))) = cl wc (List.replicate 64 0) := zbox_cl (f := wc) (x := (0 : W))
  have hpl := padS_len b.length
  have hsr : shaR b = outL (blkF iv (b ++ padS b.length) ((b ++ padS b.length).length / 64)) := rfl
  have hml : (b ++ padS b.length).length = b.length + (padS b.length).length := List.length_append
  rw [hsr]
  simp -implicitDefEqProofs only [pkA, ptA, ↓reduceIte, Nat.reduceEqDiff, Nat.reduceAdd, Nat.reduceBEq, Nat.reduceMul, Nat.reduceLT, Nat.reduceLeDiff, Nat.zero_add, decide_true, iv_build]
  refine ⟨rfl, ?_⟩
  refine call_fn rfl (padded_ok b hb) (fun h => by cases h) ?_
  have hivs : setV (zbox 8 (.c (.lit (.int .u32 0)))) 0 ((iv.map wc).map V.c) = cl wc iv := setV_all rfl
  generalize b ++ padS b.length = m at *
  obtain ⟨N, hN⟩ : ∃ N, m.length = 64 * N := ⟨m.length / 64, by omega⟩
  rw [show m.length / 64 = N by omega]
  simp -implicitDefEqProofs only [pkA, ↓reduceIte, Nat.reduceAdd, Nat.reduceBEq]
  refine run_loop (fun i : Nat => hdS [(2, .bp 0 0), (3, .bp 1 0), (4, .ow EB (bC m)), (5, i64 ((64 * i : Nat) : Int))] [zbox 32 (.c (.lit (.int .u8 0))), cl wc (blkF iv m i)]) (fun i => N - i) (fun i => i ≤ N) 0 (Nat.zero_le _) ?_ ?_
  · refine le_hd (by simp only [leOk, List.all_cons, List.all_nil, hz32, cl_ltB, List.length_cons, List.length_nil]; rfl) (Nat.zero_le _) (by simp) (by simp [FL, up_apply]) (by simp [BL, up_apply]; rfl)
  rintro i hi R hnorm hexit hret
  simp -implicitDefEqProofs only [pkA, ptA, ↓reduceIte, Nat.reduceEqDiff, Nat.reduceAdd, Nat.reduceBEq, Nat.zero_add, bC_len]
  refine vcond_of (fun hlt => ?_) (fun hge => ?_)
  · have hlt : i < N := by have := of_decide_eq_true hlt; omega
    have hw64 := wrap_of (n := ((64 * i : Nat) : Int) + 64) (k := 64 * i + 64) (by omega) (by omega)
    obtain ⟨blk, hblk⟩ : ∃ blk, (m.take (64 * i + 64)).drop (64 * i) = blk := ⟨_, rfl⟩
    have hbl : blk.length = 64 := by rw [← hblk, List.length_drop, List.length_take]; omega
    have hbe : blkF iv m (i + 1) = compress (blkF iv m i) blk := by
      have : (m.take (64 * i + 64)).drop (64 * i) = (m.drop (64 * i)).take 64 := by rw [List.drop_take]; congr 1; omega
      rw [← hblk, this]; rfl
    have hs8 := blkF_len (m := m) iv_len i
    have hsn := hnorm (i + 1)
    simp only [hbe] at hsn
    have hwl : (schR blk 64).reverse.length = 64 := by simp [schR_len]
    simp -implicitDefEqProofs only [pkA, ↓reduceIte, Nat.reduceEqDiff, Nat.reduceAdd, Nat.reduceBEq, hw64]
    refine sl_bC ti_71 rfl ti_5 rfl (a := 64 * i) (b := 64 * i + 64) rfl rfl (by omega) (by omega) ?_
    rw [hblk]
    simp -implicitDefEqProofs only [pkA, ↓reduceIte, Nat.reduceAdd, Nat.reduceBEq]
    refine call_fn rfl (words_ok _ hbl) (fun h => by cases h) ?_
    have hcomp : ∀ s : List W, compress s blk = addL s (rnd s (schR blk 64).reverse 64).toL := fun s => by
      unfold compress rnd
      rw [List.take_of_length_le (by simp [kW_len]), List.take_of_length_le (by omega)]
    simp only [hcomp] at hsn
    clear hcomp hbe hnorm
    generalize (schR blk 64).reverse = w at *
    generalize blkF iv m i = s at *
    match s, hs8 with
    | [a0, a1, a2, a3, a4, a5, a6, a7], _ =>
    generalize hse : [a0, a1, a2, a3, a4, a5, a6, a7] = s at *
    have hs8 : s.length = 8 := by rw [← hse]; rfl
    have i0 : (rnd s w 0).toL = s := by rw [← hse]; rfl
    have hsw : setV (zbox 64 (.c (.lit (.int .u32 0)))) 0 ((w.map wc).map V.c) = cl wc w := by rw [setV_all (by simp [zbox_len, hwl]), ← cl_eq]
    have hss : ∀ Z : List V, Z.length = 8 → setV Z 0 ((s.map wc).map V.c) = cl wc s := fun Z hZ => by rw [setV_all (by simp [hZ, hs8]), ← cl_eq]
    simp -implicitDefEqProofs only [pkA, ptA, ↓reduceIte, Nat.reduceEqDiff, Nat.reduceAdd, Nat.reduceBEq, Nat.reduceMul, Nat.reduceLT, Nat.reduceLeDiff, Nat.zero_add, decide_true, isMb_cl, isMb_zbox, zbox_len, List.length_map, hwl, hsw]
    refine ldA_cl (by decide) hs8 ?_
    simp -implicitDefEqProofs only [pkA, ptA, ↓reduceIte, Nat.reduceEqDiff, Nat.reduceAdd, Nat.reduceBEq, Nat.reduceMul, Nat.reduceLT, Nat.reduceLeDiff, Nat.zero_add, decide_true, List.length_map, hs8]
    rw [hss _ rfl]
    have kat : ∀ t, t < 64 → ∃ k, kW[t]? = some k := fun t ht => ⟨kW[t], List.getElem?_eq_getElem ht⟩
    have wat : ∀ t, t < 64 → ∃ k, w[t]? = some k := fun t ht => ⟨w[t], List.getElem?_eq_getElem (by omega)⟩
    refine run_loop (fun t : Nat => hdS [(2, .bp 0 0), (3, .bp 1 0), (4, .ow EB (bC m)), (5, i64 ((64 * i : Nat) : Int)), (6, .bp 2 0), (7, .bp 3 0), (8, i64 (t : Int))] [zbox 32 (.c (.lit (.int .u8 0))), cl wc s, cl wc w, cl wc [(rnd s w t).v0, (rnd s w t).v1, (rnd s w t).v2, (rnd s w t).v3, (rnd s w t).e0, (rnd s w t).e1, (rnd s w t).e2, (rnd s w t).e3]])
      (fun t => 64 - t) (fun t => t ≤ 64) 0 (Nat.zero_le _) ?_ ?_
    · refine le_hd (by simp only [leOk, List.all_cons, List.all_nil, hz32, cl_ltB, List.length_cons, List.length_nil]; rfl) (Nat.zero_le _) (by simp) (by simp [FL, up_apply]) ?_
      rw [R8_eta] at i0
      simp [BL, up_apply, bxs, i0]
    rintro t ht R2 hnorm2 hexit2 hret2
    simp -implicitDefEqProofs only [pkA, ↓reduceIte, Nat.reduceEqDiff, Nat.reduceAdd, Nat.reduceBEq, Nat.zero_add]
    refine vcond_of (fun hlt2 => ?_) (fun hge2 => ?_)
    · have hlt2 : t < 64 := by have := dlt hlt2; omega
      have hwt := wrap_of (n := (t : Int) + 1) (k := t + 1) (by omega) (by omega)
      obtain ⟨k, hk⟩ := kat t hlt2
      obtain ⟨x, hx⟩ := wat t hlt2
      have hst := rnd_succ (s := s) hwl hlt2 hk hx
      simp -implicitDefEqProofs only [pkA, ptA, ↓reduceIte, Nat.reduceEqDiff, Nat.reduceAdd, Nat.reduceBEq, Nat.reduceMul, Nat.reduceLT, Nat.zero_add, decide_true, isMb_cl, i8_4, i8_7, l8_4, l8_7, ia_g hlt2, p_g hk]
      refine call_fn rfl (rotr_ok _ 6 (by omega) (by omega)) (fun _ => rfl) ?_
      simp -implicitDefEqProofs only [pkA, ptA, ↓reduceIte, Nat.reduceEqDiff, Nat.reduceAdd, Nat.reduceBEq, Nat.reduceMul, Nat.reduceLT, Nat.zero_add, decide_true, isMb_cl, i8_4, l8_4, ia_g hlt2, p_g hk]
      refine call_fn rfl (rotr_ok _ 11 (by omega) (by omega)) (fun _ => rfl) ?_
      simp -implicitDefEqProofs only [pkA, ptA, ↓reduceIte, Nat.reduceEqDiff, Nat.reduceAdd, Nat.reduceBEq, Nat.reduceMul, Nat.reduceLT, Nat.zero_add, decide_true, isMb_cl, w_xor, i8_4, l8_4, ia_g hlt2, p_g hk]
      refine call_fn rfl (rotr_ok _ 25 (by omega) (by omega)) (fun _ => rfl) ?_
      simp -implicitDefEqProofs only [pkA, ptA, ↓reduceIte, Nat.reduceEqDiff, Nat.reduceAdd, Nat.reduceBEq, Nat.reduceMul, Nat.reduceLT, Nat.zero_add, decide_true, isMb_cl, wr_add, w_xor, w_and, i8_4, i8_5, i8_6, l8_4, l8_5, l8_6, w_not2, ev_g1, ia_g hlt2, p_g hk]
      refine ia_cl ti_145 rfl ti_99 rfl rfl hlt2 ?_
      simp -implicitDefEqProofs only [pkA, ptA, ↓reduceIte, Nat.reduceAdd, Nat.reduceBEq, Nat.reduceMul, Nat.reduceLT, Nat.zero_add, decide_true, isMb_cl]
      refine ld_cl (by decide) hx ?_
      simp -implicitDefEqProofs only [pkA, ptA, ↓reduceIte, Nat.reduceEqDiff, Nat.reduceAdd, Nat.reduceBEq, Nat.reduceMul, Nat.reduceLT, decide_true, isMb_cl, wr_add, i8_0, l8_0]
      refine call_fn rfl (rotr_ok _ 2 (by omega) (by omega)) (fun _ => rfl) ?_
      simp -implicitDefEqProofs only [pkA, ptA, ↓reduceIte, Nat.reduceEqDiff, Nat.reduceAdd, Nat.reduceBEq, Nat.reduceMul, Nat.reduceLT, decide_true, isMb_cl, i8_0, l8_0]
      refine call_fn rfl (rotr_ok _ 13 (by omega) (by omega)) (fun _ => rfl) ?_
      simp -implicitDefEqProofs only [pkA, ptA, ↓reduceIte, Nat.reduceEqDiff, Nat.reduceAdd, Nat.reduceBEq, Nat.reduceMul, Nat.reduceLT, decide_true, isMb_cl, w_xor, i8_0, l8_0]
      refine call_fn rfl (rotr_ok _ 22 (by omega) (by omega)) (fun _ => rfl) ?_
      simp -implicitDefEqProofs only [pkA, ptA, ↓reduceIte, Nat.reduceEqDiff, Nat.reduceAdd, Nat.reduceBEq, Nat.reduceMul, Nat.reduceLT, Nat.reduceLeDiff, Nat.zero_add, decide_true, isMb_cl, cl_len, wr_add, w_xor, w_and, i8_0, i8_1, i8_2, i8_3, i8_4, i8_5, i8_6, l8_0, l8_1, l8_2, l8_3, l8_4, l8_5, l8_6, b8]
      simp -implicitDefEqProofs only [hwt]
      refine hnorm2 (t + 1) _ hlt2 (by omega) (le_hd (by simp only [leOk, List.all_cons, List.all_nil, hz32, cl_ltB, List.length_cons, List.length_nil]; rfl) (Nat.zero_le _) (by simp) (by simp [FL, up_apply]) ?_)
      rw [hst]
      exact ⟨rfl, rfl, rfl, rfl, trivial⟩
    have : t = 64 := by have := dge hge2; omega
    subst this
    simp -implicitDefEqProofs only [pkA]
    refine hexit2 _ _ ?_
    clear hexit2 hret2 hnorm2 hge2 ht i0 R2
    generalize rnd s w 64 = r at *
    have hal := addL_len hs8 r
    have hat : ∀ q a c, s[q]? = some a → r.toL[q]? = some c → (addL s r.toL)[q]? = some (a + c) := fun q a c h1 h2 => by
      unfold addL; rw [List.getElem?_zipWith, h1, h2]
    rw [R8_eta] at *
    generalize addL s [r.v0, r.v1, r.v2, r.v3, r.e0, r.e1, r.e2, r.e3] = A at *
    generalize hrl : [r.v0, r.v1, r.v2, r.v3, r.e0, r.e1, r.e2, r.e3] = v at *
    have hvl : v.length = 8 := by rw [← hrl]; rfl
    simp -implicitDefEqProofs only [pkA, ↓reduceIte, Nat.reduceAdd, Nat.reduceBEq]
    refine run_loop (fun q : Nat => hdS [(2, .bp 0 0), (3, .bp 1 0), (4, .ow EB (bC m)), (5, i64 ((64 * i : Nat) : Int)), (7, .bp 3 0), (11, i64 (q : Int))] [zbox 32 (.c (.lit (.int .u8 0))), cl wc (half A s q), cl wc w, cl wc v])
      (fun q => 8 - q) (fun q => q ≤ 8) 0 (Nat.zero_le _) ?_ ?_
    · exact le_hd (by simp only [leOk, List.all_cons, List.all_nil, hz32, cl_ltB, List.length_cons, List.length_nil]; rfl) (Nat.zero_le _) (by simp) (by simp [FL, up_apply]) (by simp [BL, bxs, half_zero])
    rintro q hq R2 hnorm2 hexit2 hret2
    simp -implicitDefEqProofs only [pkA, ↓reduceIte, Nat.reduceEqDiff, Nat.reduceAdd, Nat.reduceBEq, Nat.zero_add]
    refine vcond_of (fun hlt2 => ?_) (fun hge2 => ?_)
    · have hlt2 : q < 8 := by have := dlt hlt2; omega
      have hwq := wrap_of (n := (q : Int) + 1) (k := q + 1) (by omega) (by omega)
      obtain ⟨a, ha⟩ : ∃ a, s[q]? = some a := ⟨s[q]'(by omega), List.getElem?_eq_getElem _⟩
      obtain ⟨c, hc⟩ : ∃ c, v[q]? = some c := ⟨v[q]'(by omega), List.getElem?_eq_getElem _⟩
      have hhl := half_len (A := A) (L := s) (i := q) (by omega) (by omega)
      simp -implicitDefEqProofs only [pkA, ↓reduceIte, Nat.reduceEqDiff, Nat.reduceAdd, Nat.reduceBEq]
      refine ia_cl ti_102 rfl ti_99 rfl rfl hlt2 ?_
      simp -implicitDefEqProofs only [pkA, ptA, ↓reduceIte, Nat.reduceAdd, Nat.reduceBEq, Nat.reduceMul, Nat.reduceLT, Nat.zero_add, decide_true, isMb_cl]
      refine ld_cl (by decide) (by rw [half_at (by omega) (by omega)]; exact ha) ?_
      simp -implicitDefEqProofs only [pkA, ↓reduceIte, Nat.reduceEqDiff, Nat.reduceBEq]
      refine ia_cl ti_102 rfl ti_99 rfl rfl hlt2 ?_
      simp -implicitDefEqProofs only [pkA, ptA, ↓reduceIte, Nat.reduceAdd, Nat.reduceBEq, Nat.reduceMul, Nat.reduceLT, Nat.zero_add, decide_true, isMb_cl]
      refine ld_cl (by decide) hc ?_
      simp -implicitDefEqProofs only [pkA, ↓reduceIte, Nat.reduceEqDiff, wr_add]
      refine ia_cl ti_102 rfl ti_99 rfl rfl hlt2 ?_
      simp -implicitDefEqProofs only [pkA, ptA, ↓reduceIte, Nat.reduceEqDiff, Nat.reduceAdd, Nat.reduceBEq, Nat.reduceMul, Nat.reduceLT, Nat.zero_add, decide_true, isMb_cl, cl_len, hwq]
      refine ⟨by omega, ?_⟩
      rw [setV_cl (k := q) (L := half A s q) (by omega), half_set (by omega) (hat q a c ha hc)]
      exact hnorm2 (q + 1) _ hlt2 (by omega) (le_hd (by simp only [leOk, List.all_cons, List.all_nil, hz32, cl_ltB, List.length_cons, List.length_nil]; rfl) (Nat.zero_le _) (by simp) (by simp [FL, up_apply]) (by simp [BL, up_apply, bxs]))
    have : q = 8 := by have := dge hge2; omega
    subst this
    rw [half_all (by omega) hs8] at *
    simp -implicitDefEqProofs only [pkA]
    refine hexit2 _ _ ?_
    clear hexit2 hret2 hnorm2 hge2 R2
    simp -implicitDefEqProofs only [pkA, ↓reduceIte, Nat.reduceEqDiff, Nat.reduceAdd, Nat.reduceBEq, hw64]
    refine hsn _ hlt (by omega) (le_hd (by simp only [leOk, List.all_cons, List.all_nil, hz32, cl_ltB, List.length_cons, List.length_nil]; rfl) (Nat.zero_le _) (by simp) ?_ (by simp [BL, bxs]))
    simp [FL, up_apply]; omega
  have : i = N := by have := of_decide_eq_false hge; omega
  subst this
  simp -implicitDefEqProofs only [pkA]
  refine hexit _ _ ?_
  clear hexit hret hnorm hge R
  have hs8 := blkF_len (m := m) iv_len i
  generalize blkF iv m i = s at *
  have hol : (outL s).length = 32 := by rw [outL_len, hs8]
  have hoat := fun q r w h hr => outL_at s q r w h hr
  generalize outL s = o at *
  simp -implicitDefEqProofs only [pkA, ptA, ↓reduceIte, Nat.reduceAdd, Nat.reduceBEq]
  refine run_loop (fun q : Nat => hdS [(2, .bp 0 0), (3, .bp 1 0), (12, .bp 2 0), (13, i64 (q : Int))] [zbox 32 (.c (.lit (.int .u8 0))), cl wc s, cl bc (fill 0 32 o q)]) (fun q => 32 - q) (fun q => q ≤ 32) 0 (Nat.zero_le _) ?_ ?_
  · exact le_hd (by simp only [leOk, List.all_cons, List.all_nil, hz32, cl_ltB, List.length_cons, List.length_nil]; rfl) (Nat.zero_le _) (by simp) (by simp [FL, up_apply]) (by simp [BL, up_apply, bxs, hz32, fill])
  rintro q hq R hnorm hexit hret
  simp -implicitDefEqProofs only [pkA, ↓reduceIte, Nat.reduceEqDiff, Nat.reduceAdd, Nat.reduceBEq, Nat.zero_add]
  refine vcond_of (fun hlt => ?_) (fun hge => ?_)
  · have hlt : q < 32 := by have := dlt hlt; omega
    have hwq := wrap_of (n := (q : Int) + 1) (k := q + 1) (by omega) (by omega)
    have hw1 := wrap_of (n := 8 * ((q % 4 : Nat) : Int)) (k := 8 * (q % 4)) (by omega) (by omega)
    have hw2 := wrap_of (n := 24 - ((8 * (q % 4) : Nat) : Int)) (k := 24 - 8 * (q % 4)) (by omega) (by omega)
    obtain ⟨x, hx⟩ : ∃ x, s[q / 4]? = some x := ⟨s[q / 4]'(by omega), List.getElem?_eq_getElem _⟩
    have hs := fun K => w_shr (K := K) (a := x) (n := 24 - 8 * (q % 4)) (by omega)
    have hox := hoat (q / 4) (q % 4) x hx (by omega)
    rw [show 4 * (q / 4) + q % 4 = q by omega] at hox
    have hfl := fill_len (z := 0) (n := 32) (o := o) (i := q) (by omega) (by omega)
    simp -implicitDefEqProofs only [pkA, ↓reduceIte, Nat.reduceEqDiff, Nat.reduceAdd, Nat.reduceBEq, v_quo4 (show q < 9223372036854775808 by omega)]
    refine ia_cl ti_102 rfl ti_99 rfl rfl (by omega) ?_
    simp -implicitDefEqProofs only [pkA, ptA, ↓reduceIte, Nat.reduceAdd, Nat.reduceBEq, Nat.reduceMul, Nat.reduceLT, Nat.zero_add, decide_true, isMb_cl]
    refine ld_cl (by decide) hx ?_
    simp -implicitDefEqProofs only [pkA, ↓reduceIte, Nat.reduceEqDiff, Nat.reduceAdd, Nat.reduceBEq, c_lo8, vbin_shr, v_rem4, hw1, hw2, hs]
    refine ia_cl ti_109 rfl ti_5 rfl rfl hlt ?_
    simp -implicitDefEqProofs only [pkA, ptA, ↓reduceIte, Nat.reduceEqDiff, Nat.reduceAdd, Nat.reduceBEq, Nat.reduceMul, Nat.reduceLT, Nat.zero_add, decide_true, isMb_cl, cl_len, hwq]
    refine ⟨by omega, ?_⟩
    rw [setV_cl (k := q) (L := fill 0 32 o q) (by omega), fill_set hox hlt]
    exact hnorm (q + 1) _ hlt (by omega) (le_hd (by simp only [leOk, List.all_cons, List.all_nil, hz32, cl_ltB, List.length_cons, List.length_nil]; rfl) (Nat.zero_le _) (by simp) (by simp [FL, up_apply]) (by simp [BL, up_apply, bxs]))
  have : q = 32 := by have := dge hge; omega
  subst this
  have hf : fill 0 32 o 32 = o := by unfold fill; rw [List.take_of_length_le (by omega)]; simp
  rw [hf] at *
  simp -implicitDefEqProofs only [pkA]
  refine hexit _ _ ?_
  simp -implicitDefEqProofs only [pkA, ptA, ↓reduceIte, Nat.reduceEqDiff, Nat.reduceAdd, Nat.reduceBEq, Nat.reduceMul, Nat.reduceLT, decide_true, isMb_cl]
  refine ldA_cl (by decide) hol ?_
  simp -implicitDefEqProofs only [pkA, ptA, ↓reduceIte, Nat.reduceEqDiff, Nat.reduceAdd, Nat.reduceBEq, Nat.reduceMul, Nat.reduceLT, Nat.reduceLeDiff, Nat.zero_add, decide_true, isMb_zbox, zbox_len]
  rw [setV_zb hol]
  exact ⟨by rw [List.length_map, hol], isMb_cl, ldA_cl (by decide) hol rfl⟩
end Go.Proofs.YtidlohfkfdeaiaaDoor
