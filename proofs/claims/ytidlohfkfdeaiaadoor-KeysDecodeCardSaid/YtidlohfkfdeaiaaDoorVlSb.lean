/- The example of layer 27: what the hash and the cipher answer there. -/
import Derived.Test.YtidlohfkfdeaiaaDoorVlN1
import Derived.Test.YtidlohfkfdeaiaaDoorVlY3
import Derived.Test.YtidlohfkfdeaiaaDoorVlT2
import Derived.Test.YtidlohfkfdeaiaaDoorVlR3
set_option linter.unusedSimpArgs false
set_option linter.unusedVariables false
namespace Go.Proofs.YtidlohfkfdeaiaaDoor
open Go Go.Vl

def kkB : B := [107, 107, 107, 107, 107, 107, 107, 107, 107, 107, 107, 107, 107, 107, 107, 107, 107, 107, 107, 107, 107, 107, 107, 107, 107, 107, 107, 107, 107, 107, 107, 107]
def xxB : B := [120, 120, 120, 120, 120, 120, 120, 120, 120, 120, 120, 120, 120, 120, 120, 120, 120, 120, 120, 120, 120, 120, 120, 120, 120, 120, 120, 120, 120, 120, 120, 120]
def vvB : B := [118, 118, 118, 118, 118, 118, 118, 118, 118, 118, 118, 118, 118, 118, 118, 118, 118, 118, 118, 118, 118, 118, 118, 118, 118, 118, 118, 118, 118, 118, 118, 118]
def hdB : B := [129, 5, 129, 2, 129, 24, 129, 10, 129, 20, 129, 1]
def ctxB : B := [129, 12, 129, 5, 129, 2, 129, 24, 129, 10, 129, 20, 129, 1]
def eB : B := [238, 226, 18, 95, 111, 182, 41, 239, 103, 209, 2, 100, 239, 7, 244, 40, 137, 36, 79, 150, 150, 201, 99, 117, 92, 0, 40, 138, 227, 116, 234, 86]
def mB : B := [6, 140, 13, 137, 188, 84, 243, 157, 254, 34, 11, 202, 224, 245, 222, 181, 148, 133, 252, 76, 241, 137, 65, 48, 114, 184, 187, 225, 57, 216, 208, 1]
def nB : B := [186, 13, 176, 240, 166, 153, 214, 234, 222, 15, 8, 5, 249, 180, 148, 154, 128, 87, 102, 50, 86, 72, 51, 248, 163, 145, 203, 9, 126, 174, 49, 188]
def blB : B := [110, 70, 207, 13, 174, 13, 140, 178, 190, 226, 196, 11, 232, 119, 180, 211, 195, 167, 123, 91, 90, 147, 7, 66, 141, 72, 26, 53, 200, 55, 225, 254, 198, 59, 129, 211, 114, 226, 114, 43, 163, 191, 9, 33, 66, 64, 42, 125, 180, 77, 177, 18, 19, 33, 193, 164, 219, 202, 229, 75, 85, 5, 111, 176]
def cB : B := [24, 48, 185, 123, 216, 123, 250, 196, 200, 148, 178, 125, 158, 1, 194, 165, 181, 209, 13, 45, 44, 229, 113, 52, 251, 62, 108, 67, 190, 65, 151, 136]
def tB : B := [65, 5, 187, 184, 242, 245, 151, 27, 242, 51, 25, 215, 6, 86, 180, 210, 34, 253, 20, 184, 195, 233, 161, 212, 7, 6, 212, 61, 111, 48, 190, 243]
def mxB : B := [223, 203, 95, 156, 148, 32, 1, 231, 237, 43, 58, 120, 157, 139, 149, 201, 77, 75, 207, 148, 177, 235, 169, 26, 71, 254, 151, 70, 75, 139, 73, 79]
def txB : B := [57, 191, 112, 101, 159, 239, 138, 180, 28, 152, 149, 210, 123, 71, 208, 168, 61, 31, 11, 11, 107, 83, 153, 238, 248, 233, 47, 77, 142, 130, 243, 252]
theorem m_e : macB kkB (lenc) = eB := toB_inj (by rw [← macN_eq _ _ (by decide)]; kernel_rfl)
theorem m_m : macB kkB (lmac) = mB := toB_inj (by rw [← macN_eq _ _ (by decide)]; kernel_rfl)
theorem m_n : macB mB ([lnon, ctxB, vvB].flatten) = nB := toB_inj (by rw [← macN_eq _ _ (by decide)]; kernel_rfl)
theorem m_t : macB mB ([ltag, nB.take 12, ctxB, cB].flatten) = tB := toB_inj (by rw [← macN_eq _ _ (by decide)]; kernel_rfl)
theorem m_mx : macB xxB (lmac) = mxB := toB_inj (by rw [← macN_eq _ _ (by decide)]; kernel_rfl)
theorem m_tx : macB mxB ([ltag, nB.take 12, ctxB, cB].flatten) = txB := toB_inj (by rw [← macN_eq _ _ (by decide)]; kernel_rfl)
theorem b_l : blockB eB 1 (nB.take 12) = blB := toB_inj (by rw [← blockN_eq]; kernel_rfl)
theorem x_c : xorB eB 1 (nB.take 12) vvB = cB := by
  have e : ∀ i, i < 32 → xorAt eB 1 (nB.take 12) vvB i = vvB.getD i 0 ^^^ blB.getD (i % 64) 0 := fun i hi => by
    unfold xorAt
    rw [show i / 64 = 0 by omega, show ctrAt 1 0 = 1 from rfl, b_l]
  unfold xorB
  rw [show (vvB).length = 32 from rfl, List.map_congr_left fun i hi => e i (List.mem_range.1 hi)]
  decide +kernel
theorem x_v : xorB eB 1 (nB.take 12) cB = vvB := by
  have e : ∀ i, i < 32 → xorAt eB 1 (nB.take 12) cB i = cB.getD i 0 ^^^ blB.getD (i % 64) 0 := fun i hi => by
    unfold xorAt
    rw [show i / 64 = 0 by omega, show ctrAt 1 0 = 1 from rfl, b_l]
  unfold xorB
  rw [show (cB).length = 32 from rfl, List.map_congr_left fun i hi => e i (List.mem_range.1 hi)]
  decide +kernel
def kyS : Ky := ⟨0, 2, vvB, 24, 10, 20, 1, 0, false⟩
def kyS1 : Ky := ⟨1, 2, vvB, 24, 10, 20, 1, 0, false⟩
theorem h_d : headB kyS = hdB := by decide +kernel
theorem e_h : encB hdB = ctxB := by decide +kernel
theorem v_k : validK kyS = true := by decide +kernel
def blobB : B := nB.take 12 ++ cB ++ tB.take 16
theorem s_l : sealB kkB hdB vvB = (blobB, 0) := by
  unfold sealB codeB
  rw [if_neg (by decide), m_m, m_e, e_h, m_n, x_c, m_t]; rfl
def boxS : B := ctxB ++ blobB
theorem b_x : boxB kkB kyS = (boxS, 0) := by
  unfold boxB
  rw [if_pos v_k, h_d, show kyS.val = vvB from rfl, s_l, if_pos rfl, e_h]; rfl
theorem o_k : openB kkB hdB blobB = (vvB, 0) := by
  unfold openB codeB
  rw [if_neg (by decide), if_neg (by decide), m_m, m_e, e_h, show blobB.take 12 = nB.take 12 by decide +kernel, show (blobB.take (blobB.length - 16)).drop 12 = cB by decide +kernel, m_t, x_v, m_n, if_neg (by decide +kernel), if_neg (by decide +kernel)]
theorem o_x : openB xxB hdB blobB = ([], 8) := by
  unfold openB codeB
  rw [if_neg (by decide), if_neg (by decide), m_mx, e_h, show blobB.take 12 = nB.take 12 by decide +kernel, show (blobB.take (blobB.length - 16)).drop 12 = cB by decide +kernel, m_tx, if_pos (by decide +kernel)]
theorem g_b : getB boxS = (hdB, 14, 0) := by decide +kernel
theorem g_i : getIs hdB = ([2, 24, 10, 20, 1], 12, 0) := by decide +kernel
theorem d_b : boxS.drop 14 = blobB := by decide +kernel
theorem u_k : unboxB kkB boxS = (kyS, 0) := by
  unfold unboxB
  rw [g_b]
  simp only
  rw [g_i, d_b, o_k]
  rfl
theorem u_x : unboxB xxB boxS = (k0, 8) := by
  unfold unboxB
  rw [g_b]
  simp only
  rw [g_i, d_b, o_x]
  rfl
end Go.Proofs.YtidlohfkfdeaiaaDoor

/- The example of layer 27. -/
namespace Go.Proofs.YtidlohfkfdeaiaaDoor
open Go Go.Vl

set_option maxRecDepth 100000 in
set_option maxHeartbeats 1500000 in
theorem value_ok {G : Gl} (c : UInt8) : FnOK Tryd.prog G 45 [bb c] (sv (List.replicate 32 c)) := by
  refine FnOK_by (rs := [.tmp 2]) false [2000005] mixed Tryd.func45 rfl rfl rfl rfl (by kernel_rfl) (by simp) rfl rfl ?_
  have hAl : (List.replicate 32 c).length = 32 := List.length_replicate
  have hAt : ∀ i, i < 32 → (List.replicate 32 c)[i]? = some c := fun i h => by rw [List.getElem?_replicate, if_pos h]
  have hmk : (List.replicate 32 [C.lit (.int .u8 0)]).flatten.map V.c = cl bc (List.replicate 32 0) := mk_box (f := bc) (x := (0 : UInt8))
  have hZ : fill 0 32 (List.replicate 32 c) 0 = List.replicate 32 0 := fill_zero
  generalize List.replicate 32 c = A at *
  generalize hZd : List.replicate 32 (0 : UInt8) = Z at *
  simp -implicitDefEqProofs only [pkA, ↓reduceIte, Nat.reduceAdd, Nat.reduceBEq, Nat.zero_add]
  refine mk_of ti_71 rfl ti_5 rfl rfl rfl (n := 32) (m := 32) rfl rfl (by decide) (by decide) ?_
  generalize (List.replicate 32 [C.lit (.int .u8 0)]).flatten.map V.c = ZZ at *
  subst hmk
  simp -implicitDefEqProofs only [pkA, ↓reduceIte, Nat.reduceAdd, Nat.reduceBEq, Nat.zero_add]
  refine run_loop (fun i : Nat => hdS [(0, bb c), (3, .ms 0 0 32 32 1), (4, i64 (i : Nat))] [cl bc (fill 0 32 A i)]) (fun i => 32 - i) (fun i => i ≤ 32) 0 (Nat.zero_le _) ?_ ?_
  · refine le_hd (by simp only [leOk, List.all_cons, List.all_nil, cl_ltB, List.length_cons, List.length_nil]; rfl) (Nat.zero_le _) (by simp) (by simp [FL, up_apply]) ?_
    rw [hZ]; simp [BL]; rw [← hZd]; rfl
  rintro i hi R hnorm hexit hret
  have hwi := wrap_of (n := (i : Int) + 1) (k := i + 1) (by omega) (by omega)
  have hfl : (fill 0 32 A i).length = 32 := fill_len (by omega) (by omega)
  simp -implicitDefEqProofs only [pkA, ↓reduceIte, Nat.reduceEqDiff, Nat.reduceAdd, Nat.reduceBEq, Nat.zero_add]
  refine vcond_of (fun hlt => ?_) (fun hge => ?_)
  · have hlt : i < 32 := by have := dlt hlt; omega
    simp -implicitDefEqProofs only [pkA, ↓reduceIte, Nat.reduceEqDiff, Nat.reduceAdd, Nat.reduceBEq]
    refine ia_clm ti_71 rfl ti_5 rfl rfl hlt ?_
    simp -implicitDefEqProofs only [pkA, ptA, ↓reduceIte, Nat.reduceEqDiff, Nat.reduceAdd, Nat.reduceBEq, Nat.reduceMul, Nat.reduceLT, Nat.zero_add, decide_true, isMb_cl, cl_len, hwi]
    rw [setV_cl (by omega), fill_set (hAt i hlt) hlt]
    refine ⟨by omega, ?_⟩
    exact hnorm (i + 1) _ hlt (by omega) (le_hd (by simp only [leOk, List.all_cons, List.all_nil, cl_ltB, List.length_cons, List.length_nil]; rfl) (Nat.zero_le _) (by simp) (by simp [FL, up_apply]) (by simp [BL]))
  have hi8 : i = 32 := by have := dge hge; omega
  subst hi8
  simp -implicitDefEqProofs only [pkA]
  refine hexit _ _ ?_
  clear hexit hnorm hret hge hwi hi R
  rw [fill_all hAl]
  simp -implicitDefEqProofs only [pkA, ↓reduceIte, Nat.reduceEqDiff, Nat.reduceAdd, Nat.reduceBEq]
  rw [vw_all (l := A) (by decide) rfl hAl]
  simp -implicitDefEqProofs only [pkA, ↓reduceIte, c_bs]
def tbS : Tb := ⟨2, [kyS1]⟩
theorem a_d : addT ⟨1, []⟩ kyS = (tbS, 1, 0) := by
  unfold addT
  rw [v_k]; rfl
theorem srt : sortedK tbS.ks := by
  intro i j a b hij h1 h2
  have : j < 1 := (List.getElem?_eq_some_iff.1 h2).1
  omega
theorem al1 : alwT tbS 1 8 9 = (k0, 13) := by decide +kernel
theorem al2 : alwT tbS 1 8 10 = (kyS1, 0) := by decide +kernel
theorem al3 : alwT tbS 1 8 20 = (k0, 13) := by decide +kernel
theorem al4 : alwT tbS 1 32 10 = (k0, 10) := by decide +kernel
theorem al5 : alwT tbS 2 0 10 = (k0, 11) := by decide +kernel
def txS : B := [129, 2, 129, 1, 129, 8, 129, 1, 129, 2, 129, 24, 129, 10, 129, 20, 129, 1, 128, 128, 129, 32] ++ vvB
theorem e_t : encT tbS = txS := by decide +kernel
theorem D_ok : FnOK Tryd.prog gl 27 [sv txS] (.tup [tv tbS, i64 0]) :=
  Decode_one txS (txS.drop 2) (txS.drop 4) (txS.drop 20) [] 2 [1, 2, 24, 10, 20, 1, 0, 0] vvB 2 2 16 34 (by decide) (by decide +kernel) rfl (by decide +kernel) (by decide +kernel) (by decide +kernel) (by decide +kernel) rfl (by decide +kernel) rfl (by decide +kernel) (by decide +kernel) rfl (by decide +kernel)
end Go.Proofs.YtidlohfkfdeaiaaDoor
