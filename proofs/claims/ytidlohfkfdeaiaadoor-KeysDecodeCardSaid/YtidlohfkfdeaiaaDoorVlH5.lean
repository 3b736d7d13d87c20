/- What the texts of this seat share. -/
import Derived.Test.YtidlohfkfdeaiaaDoorVlTypes
import Derived.Test.YtidlohfkfdeaiaaDoorVlRunB
import Derived.Test.YtidlohfkfdeaiaaDoorVlStream
import Derived.Eval
import Derived.KernelRfl
set_option linter.unusedSimpArgs false
set_option linter.unusedVariables false
namespace Go.Proofs.YtidlohfkfdeaiaaDoor
open Go Go.Vl

theorem mixed : Tryd.prog.follows .mixedOrders = true := Tryd.checked.mixed
abbrev i64 (n : Int) : V := .c (.lit (.int .i64 n))
abbrev u64 (n : Nat) : V := .c (.lit (.int .u64 (n : Int)))
abbrev bo (b : Bool) : V := .c (.lit (.bool b))
abbrev wv (w : W) : V := .c (wc w)
abbrev bb (b : UInt8) : V := .c (bc b)

section
variable {K : V → Prop} {a b : W} {x y : UInt8}
theorem c_w8 : vconv Tryd.prog 5 99 (.c (bc x)) K = K (.c (wc (w8 x))) := conv_w8 ti_5 ti_99 rfl
theorem c_lo8 : vconv Tryd.prog 99 5 (.c (wc a)) K = K (.c (bc (lo8 a))) := conv_lo8 ti_99 ti_5 rfl
end
theorem setV_all {l ds : List V} (h : l.length = ds.length) : setV l 0 ds = ds := by simp [setV, h]
theorem zbox_len (n : Nat) (v : V) : (zbox n v).length = n := by simp [zbox]
theorem isMb_zbox {n : Nat} {c : C} : isMb (zbox n (.c c)) = false := by
  unfold zbox; cases n <;> rfl
theorem dlt {a b : Int} (h : decide (a < b) = true) : a < b := of_decide_eq_true h
theorem dge {a b : Int} (h : decide (a < b) = false) : ¬ a < b := of_decide_eq_false h
end Go.Proofs.YtidlohfkfdeaiaaDoor

/- Layer 2: rotations. -/
namespace Go.Proofs.YtidlohfkfdeaiaaDoor
open Go Go.Vl

variable {G : Gl}

theorem and31 : ∀ n : Nat, n < 32 → 0 < n → bits .and .u64 (IntKind.u64.wrap (-(n : Int))) 31 = ((32 - n : Nat) : Int) := by decide +kernel
theorem and31p : ∀ n : Nat, n < 32 → bits .and .u64 (IntKind.u64.wrap (n : Int)) 31 = (n : Int) := by decide +kernel

theorem RotL_ok (x : W) (k : Int) (m : Nat) (hm : bits .and .u64 (IntKind.u64.wrap k) 31 = (m : Int)) (h1 : 0 < m) (h2 : m < 32) :
    FnOK Tryd.prog G 128 [wv x, i64 k] (wv ((x <<< m) ||| (x >>> (32 - m)))) := by
  refine FnOK_by (rs := [.tmp 4]) false [] mixed Tryd.func128 rfl rfl rfl rfl (by kernel_rfl) (by simp) rfl rfl ?_
  have hc : ∀ K, vconv Tryd.prog 3 116 (.c (.lit (.int .i64 k))) K = K (.c (.lit (.int .u64 (IntKind.u64.wrap k)))) := fun K => by
    simp only [vconv, ti_3, ti_116]
  have ha : ∀ K, vint .and .u64 (IntKind.u64.wrap k) 31 K = K (.c (.lit (.int .u64 (m : Int)))) := fun K => by simp only [vint, hm]
  have hs : IntKind.u64.wrap (32 - (m : Int)) = ((32 - m : Nat) : Int) := by rw [IntKind.wrap_u64]; omega
  have e1 := fun K => w_shl (K := K) (a := x) (n := m) (by omega)
  have e2 := fun K => w_shr (K := K) (a := x) (n := 32 - m) (by omega)
  simp -implicitDefEqProofs only [pkA, ↓reduceIte, Nat.reduceEqDiff, Nat.reduceAdd, hc, ha, hs, vbin_shl, vbin_shr, e1, e2, w_or]
theorem Rot_neg (x : W) (n : Nat) (h1 : 0 < n) (h2 : n < 32) : FnOK Tryd.prog G 128 [wv x, i64 (-(n : Int))] (wv (rr x n)) := by
  have := RotL_ok (G := G) x (-(n : Int)) (32 - n) (and31 n h2 h1) (by omega) (by omega)
  rwa [show 32 - (32 - n) = n by omega] at this
theorem Rot_pos (x : W) (n : Nat) (h1 : 0 < n) (h2 : n < 32) : FnOK Tryd.prog G 128 [wv x, i64 (n : Int)] (wv (rr x (32 - n))) := by
  have := RotL_ok (G := G) x (n : Int) n (and31p n h2) h1 h2
  unfold rr
  rwa [show 32 - (32 - n) = n by omega]

theorem mix_ok (x : W) (i j k : Nat) (hi : 0 < i ∧ i < 32) (hj : 0 < j ∧ j < 32) (hk : 0 < k ∧ k < 32) :
    FnOK Tryd.prog G 119 [wv x, i64 (i : Int), i64 (j : Int), i64 (k : Int)] (wv (mix x i j k)) := by
  refine FnOK_by (rs := [.tmp 8]) false [] mixed Tryd.func119 rfl rfl rfl rfl (by kernel_rfl) (by simp) rfl rfl ?_
  have hn : ∀ (m : Nat) K, m < 32 → vun .neg (.c (.lit (.int .i64 (m : Int)))) K = K (i64 (-(m : Int))) := fun m K h => by
    have : IntKind.i64.wrap (0 - (m : Int)) = -(m : Int) := by rw [IntKind.wrap_i64]; omega
    simp only [vun, this]
  have n1 := fun K => hn i K hi.2
  have n2 := fun K => hn j K hj.2
  have n3 := fun K => hn k K hk.2
  repeat' first
    | (simp -implicitDefEqProofs only [pkA, ↓reduceIte, Nat.reduceEqDiff, Nat.reduceAdd, n1, n2, n3, w_xor])
    | refine call_fn rfl (Rot_neg x i hi.1 hi.2) (fun _ => rfl) ?_
    | refine call_fn rfl (Rot_neg x j hj.1 hj.2) (fun _ => rfl) ?_
    | refine call_fn rfl (Rot_neg x k hk.1 hk.2) (fun _ => rfl) ?_
  all_goals rfl
end Go.Proofs.YtidlohfkfdeaiaaDoor

/- Layer 2: the message schedule. -/
namespace Go.Proofs.YtidlohfkfdeaiaaDoor
open Go Go.Vl

variable {G : Gl}

def pad64 (l : List W) : List W := l ++ List.replicate (64 - l.length) 0
theorem pad64_len {l : List W} (h : l.length ≤ 64) : (pad64 l).length = 64 := by unfold pad64; simp; omega
theorem pad64_set {l : List W} {t : Nat} (h : l.length = t) (ht : t < 64) (x : W) : (pad64 l).set t x = pad64 (l ++ [x]) := by
  subst h
  unfold pad64
  rw [List.set_append_right _ _ (Nat.le_refl _), Nat.sub_self, List.append_assoc, List.length_append, List.length_singleton]
  congr 1
  rw [show 64 - l.length = (64 - (l.length + 1)) + 1 by omega, List.replicate_succ]; rfl
theorem pad64_at {l : List W} {k : Nat} (h : k < l.length) : (pad64 l)[k]? = l[k]? := by unfold pad64; rw [List.getElem?_append_left h]
theorem pad64_zero {l : List W} {t : Nat} (h : l.length = t) (ht : t < 64) : (pad64 l)[t]? = some 0 := by
  subst h
  unfold pad64; rw [List.getElem?_append_right (Nat.le_refl _), Nat.sub_self, List.getElem?_replicate]; simp; omega
theorem rev_at (b : B) {t k : Nat} (hk : k < t) : (schR b t).reverse[t - 1 - k]? = some ((schR b t).getD k 0) := by
  have hl := schR_len b t
  rw [List.getElem?_reverse (by omega), hl, show t - 1 - (t - 1 - k) = k by omega, List.getD_eq_getElem?_getD, List.getElem?_eq_getElem (by omega)]; rfl

set_option maxRecDepth 100000 in
set_option maxHeartbeats 4000000 in
theorem schedule_ok (b : B) (hb : b.length = 64) : FnOK Tryd.prog G 118 [bv b] (.agg ((schR b 64).reverse.map wc)) := by
  refine FnOK_by (rs := [.cell 2 145]) false [200041, 304101, 200045, 304501] mixed Tryd.func118 rfl rfl rfl rfl (by kernel_rfl) (by simp) rfl rfl ?_
  have hz : zbox 64 (.c (.lit (.int .u32 0))) = cl wc (pad64 []) := by unfold pad64; exact zbox_cl (f := wc) (x := (0 : W))
  have e8 := fun K a => w_shl (K := K) (a := a) (n := 8) (by omega)
  rw [show ((8 : Nat) : Int) = 8 from rfl] at e8
  have s3 := fun K a => w_shr (K := K) (a := a) (n := 3) (by omega)
  rw [show ((3 : Nat) : Int) = 3 from rfl] at s3
  have s10 := fun K a => w_shr (K := K) (a := a) (n := 10) (by omega)
  rw [show ((10 : Nat) : Int) = 10 from rfl] at s10
  simp -implicitDefEqProofs only [pkA, ptA, ↓reduceIte, Nat.reduceAdd, Nat.reduceBEq, Nat.zero_add]
  refine run_loop (fun t : Nat => hdS [(0, bv b), (2, .bp 0 0), (3, .bp 1 0), (11, i64 t)] [zbox 64 (.c (.lit (.int .u32 0))), cl wc (pad64 (schR b t).reverse)]) (fun t => 64 - t) (fun t => t ≤ 64) 0 (Nat.zero_le _) ?_ ?_
  · refine le_hd (by simp only [leOk, List.all_cons, List.all_nil, hz, cl_ltB, List.length_cons, List.length_nil]; rfl) (Nat.zero_le _) (by simp) (by simp [FL, up_apply]) (by simp [BL, up_apply, hz, schR])
  rintro t ht R hnorm hexit hret
  have hl := schR_len b t
  have hlr : (schR b t).reverse.length = t := by simp [hl]
  simp -implicitDefEqProofs only [pkA, ↓reduceIte, Nat.reduceEqDiff, Nat.reduceAdd, Nat.reduceBEq, Nat.zero_add]
  refine vcond_of (fun hlt => ?_) (fun hge => ?_)
  · have hlt : t < 64 := by have := dlt hlt; omega
    have hpl := pad64_len (l := (schR b t).reverse) (by omega)
    have hw := wrap_of (n := (t : Int) + 1) (k := t + 1) (by omega) (by omega)
    simp -implicitDefEqProofs only [pkA, ↓reduceIte, Nat.reduceEqDiff, Nat.reduceAdd, Nat.reduceBEq]
    refine vcond_of (fun h16 => ?_) (fun h16 => ?_)
    · have h16 : t < 16 := by have := dlt h16; omega
      have hm4 : IntKind.i64.wrap (4 * (t : Int)) = ((4 * t : Nat) : Int) := by rw [IntKind.wrap_i64]; omega
      have hm5 : IntKind.i64.wrap (((4 * t : Nat) : Int) + 4) = ((4 * t + 4 : Nat) : Int) := by rw [IntKind.wrap_i64]; omega
      simp -implicitDefEqProofs only [pkA, ↓reduceIte, Nat.reduceEqDiff, Nat.reduceAdd, Nat.reduceBEq, hm4, hm5]
      refine sl_bC ti_71 rfl ti_5 rfl (a := 4 * t) (b := 4 * t + 4) rfl rfl (by omega) (by omega) ?_
      generalize hc : (b.take (4 * t + 4)).drop (4 * t) = c
      have hcl : c.length = 4 := by rw [← hc]; simp; omega
      have hce : c = (b.drop (4 * t)).take 4 := by rw [← hc, List.drop_take]; congr 1; omega
      simp -implicitDefEqProofs only [pkA, ptA, ↓reduceIte, Nat.reduceBEq, bC_len, hcl]
      refine run_loop (fun i : Nat => hdS [(0, bv b), (2, .bp 0 0), (3, .bp 1 0), (4, i64 t), (11, i64 t), (22, bv c), (23, i64 (4 : Nat)), (24, i64 i)] [zbox 64 (.c (.lit (.int .u32 0))), cl wc ((pad64 (schR b t).reverse).set t (foldW (c.take i)))])
        (fun i => 4 - i) (fun i => i ≤ 4) 0 (Nat.zero_le _) ?_ ?_
      · refine le_hd (by simp only [leOk, List.all_cons, List.all_nil, hz, cl_ltB, List.length_cons, List.length_nil]; rfl) (Nat.zero_le _) (by simp) (by simp [FL, up_apply]) ?_
        have e0 : (pad64 (schR b t).reverse).set t (foldW []) = pad64 (schR b t).reverse := by
          have hz0 := pad64_zero hlr hlt
          obtain ⟨h1, h2⟩ := List.getElem?_eq_some_iff.1 hz0
          show (pad64 (schR b t).reverse).set t 0 = _
          rw [← h2]; exact List.set_getElem_self h1
        simp [BL, bxs, e0]
      rintro i hi R2 hnorm2 hexit2 hret2
      simp -implicitDefEqProofs only [pkA, ↓reduceIte, Nat.reduceEqDiff, Nat.reduceAdd, Nat.reduceBEq, Nat.zero_add]
      refine vcond_of (fun hlt2 => ?_) (fun hge2 => ?_)
      · have hlt2 : i < 4 := by have := dlt hlt2; omega
        have hw2 := wrap_of (n := (i : Int) + 1) (k := i + 1) (by omega) (by omega)
        simp -implicitDefEqProofs only [pkA, ↓reduceIte, Nat.reduceEqDiff, Nat.reduceAdd, Nat.reduceBEq]
        refine ia_bC ti_71 rfl ti_5 rfl rfl (List.getElem?_eq_getElem (by omega)) ?_
        simp -implicitDefEqProofs only [pkA, ptA, ↓reduceIte, Nat.reduceEqDiff, Nat.reduceAdd, Nat.reduceBEq]
        refine ia_cl ti_145 rfl ti_99 rfl rfl hlt ?_
        simp -implicitDefEqProofs only [pkA, ptA, ↓reduceIte, Nat.reduceAdd, Nat.reduceBEq, Nat.reduceMul, Nat.reduceLT, Nat.zero_add, decide_true, isMb_cl]
        refine ld_cl (by decide) (x := foldW (c.take i)) (List.getElem?_set_self (by omega)) ?_
        simp -implicitDefEqProofs only [pkA, ↓reduceIte, Nat.reduceEqDiff, Nat.reduceAdd, Nat.reduceBEq, c_w8, w_or, vbin_shl, e8]
        refine ia_cl ti_145 rfl ti_99 rfl rfl hlt ?_
        simp -implicitDefEqProofs only [pkA, ptA, ↓reduceIte, Nat.reduceEqDiff, Nat.reduceAdd, Nat.reduceBEq, Nat.reduceMul, Nat.reduceLT, Nat.zero_add, decide_true, isMb_cl, cl_len, hw2]
        refine ⟨by rw [List.length_set]; omega, ?_⟩
        rw [setV_cl (by rw [List.length_set]; omega), List.set_set]
        refine hnorm2 (i + 1) _ (by omega) (by omega) (le_hd (by simp only [leOk, List.all_cons, List.all_nil, hz, cl_ltB, List.length_cons, List.length_nil]; rfl) (Nat.zero_le _) (by simp) (by simp [FL, up_apply]) ?_)
        have e1 : (foldW (c.take i) <<< 8) ||| w8 c[i] = foldW (c.take (i + 1)) := by rw [List.take_succ_eq_append_getElem (by omega), foldW_snoc]
        simp [BL, up_apply, bxs, e1]
      have : i = 4 := by have := dge hge2; omega
      subst this
      simp -implicitDefEqProofs only [pkA]
      refine hexit2 _ _ ?_
      clear hexit2 hret2 hnorm2 hge2 hi
      simp -implicitDefEqProofs only [pkA, ↓reduceIte, Nat.reduceEqDiff, Nat.reduceAdd, Nat.reduceBEq, hw]
      refine hnorm (t + 1) _ (by omega) (by omega) (le_hd (by simp only [leOk, List.all_cons, List.all_nil, hz, cl_ltB, List.length_cons, List.length_nil]; rfl) (Nat.zero_le _) (by simp) (by simp [FL, up_apply]) ?_)
      have e1 : (pad64 (schR b t).reverse).set t (foldW (c.take 4)) = pad64 (schR b (t + 1)).reverse := by
        rw [pad64_set hlr hlt, List.take_of_length_le (by omega), hce, schR_lo b h16, List.reverse_cons]
      simp [BL, bxs, e1]
    · have h16 : ¬ t < 16 := by have := dge h16; omega
      have m15 := wrap_of (n := (t : Int) - 15) (k := t - 1 - 14) (by omega) (by omega)
      have m2 := wrap_of (n := (t : Int) - 2) (k := t - 1 - 1) (by omega) (by omega)
      have m16 := wrap_of (n := (t : Int) - 16) (k := t - 1 - 15) (by omega) (by omega)
      have m7 := wrap_of (n := (t : Int) - 7) (k := t - 1 - 6) (by omega) (by omega)
      have at_ : ∀ k, k < t → (pad64 (schR b t).reverse)[t - 1 - k]? = some ((schR b t).getD k 0) := fun k hk => by
        rw [pad64_at (by omega), rev_at b hk]
      have a14 := at_ 14 (by omega)
      have a1 := at_ 1 (by omega)
      have a15 := at_ 15 (by omega)
      have a6 := at_ 6 (by omega)
      simp -implicitDefEqProofs only [pkA, ↓reduceIte, Nat.reduceEqDiff, Nat.reduceAdd, Nat.reduceBEq, m15]
      refine ia_cl ti_145 rfl ti_99 rfl rfl (by omega) ?_
      simp -implicitDefEqProofs only [pkA, ptA, ↓reduceIte, Nat.reduceAdd, Nat.reduceBEq, Nat.reduceMul, Nat.reduceLT, Nat.zero_add, decide_true, isMb_cl]
      refine ld_cl (by decide) a14 ?_
      simp -implicitDefEqProofs only [pkA, ↓reduceIte, Nat.reduceEqDiff, Nat.reduceBEq, m2]
      refine ia_cl ti_145 rfl ti_99 rfl rfl (by omega) ?_
      simp -implicitDefEqProofs only [pkA, ptA, ↓reduceIte, Nat.reduceAdd, Nat.reduceBEq, Nat.reduceMul, Nat.reduceLT, Nat.zero_add, decide_true, isMb_cl]
      refine ld_cl (by decide) a1 ?_
      have e1 := schR_hi b h16
      generalize (schR b t).getD 14 0 = p at *
      generalize (schR b t).getD 1 0 = q at *
      simp -implicitDefEqProofs only [pkA, ↓reduceIte, Nat.reduceEqDiff, Nat.reduceAdd, Nat.reduceBEq]
      refine call_fn rfl (Rot_neg p 7 (by omega) (by omega)) (fun _ => rfl) ?_
      simp -implicitDefEqProofs only [pkA, ↓reduceIte, Nat.reduceEqDiff, Nat.reduceAdd, Nat.reduceBEq]
      refine call_fn rfl (Rot_neg p 18 (by omega) (by omega)) (fun _ => rfl) ?_
      simp -implicitDefEqProofs only [pkA, ↓reduceIte, Nat.reduceEqDiff, Nat.reduceAdd, Nat.reduceBEq, w_xor, vbin_shr, s3]
      refine call_fn rfl (Rot_neg q 17 (by omega) (by omega)) (fun _ => rfl) ?_
      simp -implicitDefEqProofs only [pkA, ↓reduceIte, Nat.reduceEqDiff, Nat.reduceAdd, Nat.reduceBEq]
      refine call_fn rfl (Rot_neg q 19 (by omega) (by omega)) (fun _ => rfl) ?_
      simp -implicitDefEqProofs only [pkA, ↓reduceIte, Nat.reduceEqDiff, Nat.reduceAdd, Nat.reduceBEq, w_xor, vbin_shr, s10, m16]
      refine ia_cl ti_145 rfl ti_99 rfl rfl (by omega) ?_
      simp -implicitDefEqProofs only [pkA, ptA, ↓reduceIte, Nat.reduceAdd, Nat.reduceBEq, Nat.reduceMul, Nat.reduceLT, Nat.zero_add, decide_true, isMb_cl]
      refine ld_cl (by decide) a15 ?_
      simp -implicitDefEqProofs only [pkA, ↓reduceIte, Nat.reduceEqDiff, Nat.reduceBEq, wr_add, m7]
      refine ia_cl ti_145 rfl ti_99 rfl rfl (by omega) ?_
      simp -implicitDefEqProofs only [pkA, ptA, ↓reduceIte, Nat.reduceAdd, Nat.reduceBEq, Nat.reduceMul, Nat.reduceLT, Nat.zero_add, decide_true, isMb_cl]
      refine ld_cl (by decide) a6 ?_
      simp -implicitDefEqProofs only [pkA, ↓reduceIte, Nat.reduceEqDiff, Nat.reduceBEq, wr_add]
      refine ia_cl ti_145 rfl ti_99 rfl rfl hlt ?_
      simp -implicitDefEqProofs only [pkA, ptA, ↓reduceIte, Nat.reduceEqDiff, Nat.reduceAdd, Nat.reduceBEq, Nat.reduceMul, Nat.reduceLT, Nat.zero_add, decide_true, isMb_cl, cl_len, hw]
      refine ⟨by omega, ?_⟩
      rw [setV_cl (k := t) (L := pad64 (schR b t).reverse) (by omega)]
      refine hnorm (t + 1) _ (by omega) (by omega) (le_hd (by simp only [leOk, List.all_cons, List.all_nil, hz, cl_ltB, List.length_cons, List.length_nil]; rfl) (Nat.zero_le _) (by simp) (by simp [FL, up_apply]) ?_)
      have e2 := fun x => pad64_set hlr hlt x
      rw [e1, List.reverse_cons, ← e2]
      simp [BL, up_apply, bxs]; rfl
  have : t = 64 := by have := dge hge; omega
  subst this
  simp -implicitDefEqProofs only [pkA]
  refine hexit _ _ ?_
  clear hexit hret hnorm hge ht
  have hpl := pad64_len (l := (schR b 64).reverse) (by omega)
  have he : pad64 (schR b 64).reverse = (schR b 64).reverse := by unfold pad64; rw [hlr]; simp
  simp -implicitDefEqProofs only [pkA, ptA, ↓reduceIte, Nat.reduceEqDiff, Nat.reduceAdd, Nat.reduceBEq, Nat.reduceMul, Nat.reduceLT, decide_true, isMb_cl]
  refine ldA_cl (by decide) hpl ?_
  rw [he]
  simp -implicitDefEqProofs only [pkA, ptA, ↓reduceIte, Nat.reduceEqDiff, Nat.reduceAdd, Nat.reduceBEq, Nat.reduceMul, Nat.reduceLT, Nat.reduceLeDiff, Nat.zero_add, decide_true, isMb_zbox, zbox_len]
  refine ⟨by simp [hl], ?_⟩
  rw [setV_all (by simp [zbox_len, hl]), ← cl_eq]
  exact ⟨isMb_cl, ldA_cl (by decide) (by simp [hl]) rfl⟩
end Go.Proofs.YtidlohfkfdeaiaaDoor

/- Layer 2: a block is added to the hash value. -/
namespace Go.Proofs.YtidlohfkfdeaiaaDoor
open Go Go.Vl

/-- The variables custody/custodyref02.constants and custody/hash.constants. -/
def gl : Gl := fun g => match g with
  | 0 => some (kW.map wc)
  | _ => none
theorem ev_g0 {s : Vl.S} : ev gl s (.global 0) = .c (.rp (kW.map wc) 0) := rfl

section
variable {P : Program} {K : V → Prop} {a b c d : W} {nb q : Nat} {x y z u : C}
theorem l4_0 : ldB nb q (cl wc [a, b, c, d]) 0 K = (q < nb ∧ K (.c (wc a))) := rfl
theorem l4_1 : ldB nb q (cl wc [a, b, c, d]) 1 K = (q < nb ∧ K (.c (wc b))) := rfl
theorem l4_2 : ldB nb q (cl wc [a, b, c, d]) 2 K = (q < nb ∧ K (.c (wc c))) := rfl
theorem l4_3 : ldB nb q (cl wc [a, b, c, d]) 3 K = (q < nb ∧ K (.c (wc d))) := rfl
theorem i4 {o : Nat} (k : Nat) (h : k < 4) : vindexAddr Tryd.prog 147 (.bp q o) (.c (.lit (.int .i64 (k : Int)))) K = K (.bp q (o + k)) := by
  have e : ((0 : Int) ≤ (k : Int) ∧ (k : Int) < 4) = True := by simp; omega
  simp only [vindexAddr, ti_147, ti_99]
  simp
  intro _; omega
theorem i4_0 {o : Nat} : vindexAddr Tryd.prog 147 (.bp q o) (.c (.lit (.int .i64 0))) K = K (.bp q o) := i4 0 (by decide)
theorem i4_1 {o : Nat} : vindexAddr Tryd.prog 147 (.bp q o) (.c (.lit (.int .i64 1))) K = K (.bp q (o + 1)) := i4 1 (by decide)
theorem i4_2 {o : Nat} : vindexAddr Tryd.prog 147 (.bp q o) (.c (.lit (.int .i64 2))) K = K (.bp q (o + 2)) := i4 2 (by decide)
theorem i4_3 {o : Nat} : vindexAddr Tryd.prog 147 (.bp q o) (.c (.lit (.int .i64 3))) K = K (.bp q (o + 3)) := i4 3 (by decide)
theorem b4 : vbuild Tryd.prog 147 [(0, .c x), (1, .c y), (2, .c z), (3, .c u)] K = K (.agg [x, y, z, u]) := by
  unfold vbuild; rw [ti_147]; simp only [ti_99]; rfl
end
theorem st4 {x0 x1 x2 x3 : V} {a b c d : W} : setV [x0, x1, x2, x3] 0 [V.c (wc a), V.c (wc b), V.c (wc c), V.c (wc d)] = cl wc [a, b, c, d] := rfl
theorem st4c {x0 x1 x2 x3 a b c d : W} : setV (cl wc [x0, x1, x2, x3]) 0 [V.c (wc a), V.c (wc b), V.c (wc c), V.c (wc d)] = cl wc [a, b, c, d] := rfl
def rnd (s w : List W) (t : Nat) : R8 := rounds (kW.take t) (w.take t) (ofL s)
theorem rounds_snoc : ∀ (ks ws : List W) (k w : W) (r : R8), ks.length = ws.length → rounds (ks ++ [k]) (ws ++ [w]) r = stepR (rounds ks ws r) k w
  | [], [], k, w, r, _ => rfl
  | [], _ :: _, k, w, r, h => by simp at h
  | _ :: _, [], k, w, r, h => by simp at h
  | k' :: ks, w' :: ws, k, w, r, h => rounds_snoc ks ws k w (stepR r k' w') (by simpa using h)
theorem rnd_succ {s w : List W} {t : Nat} {k x : W} (hw : w.length = 64) (ht : t < 64) (hk : kW[t]? = some k) (hx : w[t]? = some x) : rnd s w (t + 1) = stepR (rnd s w t) k x := by
  unfold rnd
  have hkl : kW.length = 64 := rfl
  obtain ⟨h1, rfl⟩ := List.getElem?_eq_some_iff.1 hk
  obtain ⟨h2, rfl⟩ := List.getElem?_eq_some_iff.1 hx
  rw [List.take_succ_eq_append_getElem h1, List.take_succ_eq_append_getElem h2]
  exact rounds_snoc _ _ _ _ _ (by simp; omega)
/-- The sums so far. -/
def sumP (s : List W) (r : R8) (i : Nat) : List W := match s with
  | [a, b, c, d, e, f, g, h] => [if 0 < i then a + r.v0 else a, if 1 < i then b + r.v1 else b, if 2 < i then c + r.v2 else c, if 3 < i then d + r.v3 else d,
      if 0 < i then e + r.e0 else e, if 1 < i then f + r.e1 else f, if 2 < i then g + r.e2 else g, if 3 < i then h + r.e3 else h]
  | l => l

set_option maxRecDepth 100000 in
set_option maxHeartbeats 8000000 in
theorem compress_ok (s : List W) (b : B) (hs : s.length = 8) (hb : b.length = 64) : FnOK Tryd.prog gl 102 [.agg (s.map wc), bv b] (.agg ((compress s b).map wc)) := by
  refine FnOK_by (rs := [.cell 4 102]) false [2800002, 2600002, 200017, 301700, 200020, 302000, 200006, 300603, 300604, 200007, 300703, 300704] mixed Tryd.func102 rfl rfl rfl rfl (by kernel_rfl) (by simp) rfl rfl ?_
  have hz8 : zbox 8 (.c (.lit (.int .u32 0))) = cl wc (List.replicate 8 0) := zbox_cl (f := wc) (x := (0 : W))
  have hwl : (schR b 64).reverse.length = 64 := by simp [schR_len]
  have hsch := schedule_ok (G := gl) b hb
  have hcomp : compress s b = addL s (rnd s (schR b 64).reverse 64).toL := by
    unfold compress rnd
    rw [List.take_of_length_le (by simp [kW_len]), List.take_of_length_le (by omega)]
  rw [hcomp]
  generalize (schR b 64).reverse = w at *
  match s, hs with
  | [a0, a1, a2, a3, a4, a5, a6, a7], _ =>
  generalize hse : [a0, a1, a2, a3, a4, a5, a6, a7] = s at *
  have hs8 : s.length = 8 := by rw [← hse]; rfl
  simp -implicitDefEqProofs only [pkA, ptA, ↓reduceIte, Nat.reduceEqDiff, Nat.reduceAdd, Nat.reduceBEq, Nat.zero_add]
  refine call_fn rfl hsch (fun h => by cases h) ?_
  simp -implicitDefEqProofs only [pkA, ptA, ↓reduceIte, Nat.reduceEqDiff, Nat.reduceAdd, Nat.reduceBEq, Nat.reduceMul, Nat.reduceLT, Nat.reduceLeDiff, Nat.zero_add, decide_true, isMb_zbox, zbox_len, List.length_map, hwl]
  rw [setV_all (by simp [zbox_len, hwl]), ← cl_eq, ← cl_eq]
  refine tw_hd (l := [(2, .bp 0 0), (4, .bp 1 0), (5, .bp 2 0)]) (bl := [cl wc s, zbox 8 (.c (.lit (.int .u32 0))), cl wc w]) (by simp only [leOk, List.all_cons, List.all_nil, hz8, cl_ltB, List.length_cons, List.length_nil]; rfl)
    (Nat.zero_le _) (by simp) (by simp [FL, up_apply]) (by simp [BL, up_apply]; rfl) ?_
  rw [hdS_eq, two_mk]
  have d4 : (a0 :: a1 :: a2 :: a3 :: []).length = 4 := rfl
  have eI : [wc a0, wc a1, wc a2, wc a3] = [a0, a1, a2, a3].map wc := rfl
  simp -implicitDefEqProofs only [firstAl, isAlloc, List.findIdx_cons, cond_true, cond_false, swap2, pkA, ↓reduceIte, Nat.reduceAdd, Nat.zero_add]
  refine sl_cl ti_102 rfl ti_99 rfl (l := 0) (h := 4) rfl rfl (by decide) (by decide) ?_
  simp -implicitDefEqProofs only [pkA, ↓reduceIte, Nat.zero_add, Nat.reduceSub]
  refine sp_cl ti_147 rfl ti_99 rfl (by decide) (by decide) ?_
  simp -implicitDefEqProofs only [pkA, ptA, ↓reduceIte, Nat.reduceAdd, Nat.reduceBEq, Nat.reduceMul, Nat.reduceLT, decide_true, isMb_cl]
  refine ldA_clp (by decide) (by omega) ?_
  simp -implicitDefEqProofs only [pkA, ↓reduceIte, Nat.reduceEqDiff]
  refine sl_cl ti_102 rfl ti_99 rfl (l := 4) (h := 8) rfl rfl (by decide) (by decide) ?_
  simp -implicitDefEqProofs only [pkA, ↓reduceIte, Nat.zero_add, Nat.reduceSub]
  refine sp_cl ti_147 rfl ti_99 rfl (by decide) (by decide) ?_
  simp -implicitDefEqProofs only [pkA, ptA, ↓reduceIte, Nat.reduceAdd, Nat.reduceBEq, Nat.reduceMul, Nat.reduceLT, decide_true, isMb_cl]
  refine ldA_clp (by decide) (by omega) ?_
  have q1 : (s.take 4).map wc = [wc a0, wc a1, wc a2, wc a3] := by rw [← hse]; rfl
  have q2 : ((s.drop 4).take 4).map wc = [wc a4, wc a5, wc a6, wc a7] := by rw [← hse]; rfl
  simp -implicitDefEqProofs only [q1, q2, pkA, ptA, ↓reduceIte, Nat.reduceEqDiff, Nat.reduceAdd, Nat.reduceBEq, Nat.reduceMul, Nat.reduceLT, Nat.reduceLeDiff, Nat.zero_add, decide_true]
  have kat : ∀ t, t < 64 → ∃ k, kW[t]? = some k := fun t ht => ⟨kW[t], List.getElem?_eq_getElem ht⟩
  have wat : ∀ t, t < 64 → ∃ k, w[t]? = some k := fun t ht => ⟨w[t], List.getElem?_eq_getElem (by omega)⟩
  have i0 : rnd s w 0 = ⟨a0, a1, a2, a3, a4, a5, a6, a7⟩ := by rw [← hse]; rfl
  simp -implicitDefEqProofs only [pkA, ptA, ↓reduceIte, Nat.reduceBEq, ev_g0, List.length_map, kW_len, st4]
  refine ⟨?_, ?_⟩
  · refine run_loop (fun t : Nat => hdS [(2, .bp 0 0), (4, .bp 1 0), (5, .bp 2 0), (6, .bp 3 0), (7, .bp 4 0), (21, .agg (kW.map wc)), (22, i64 t)] [cl wc s, zbox 8 (.c (.lit (.int .u32 0))), cl wc w, cl wc [(rnd s w t).v0, (rnd s w t).v1, (rnd s w t).v2, (rnd s w t).v3], cl wc [(rnd s w t).e0, (rnd s w t).e1, (rnd s w t).e2, (rnd s w t).e3]])
      (fun t => 64 - t) (fun t => t ≤ 64) 0 (Nat.zero_le _) ?_ ?_
    · refine le_hd (by simp only [leOk, List.all_cons, List.all_nil, hz8, cl_ltB, List.length_cons, List.length_nil]; rfl) (Nat.zero_le _) (by simp) (by simp [FL, up_apply]) (by simp [BL, up_apply, bxs, i0])
    rintro t ht R hnorm hexit hret
    simp -implicitDefEqProofs only [pkA, ↓reduceIte, Nat.reduceEqDiff, Nat.reduceAdd, Nat.reduceBEq, Nat.zero_add]
    refine vcond_of (fun hlt => ?_) (fun hge => ?_)
    · have hlt : t < 64 := by have := dlt hlt; omega
      have hw := wrap_of (n := (t : Int) + 1) (k := t + 1) (by omega) (by omega)
      obtain ⟨k, hk⟩ := kat t hlt
      obtain ⟨x, hx⟩ := wat t hlt
      have hst := rnd_succ (s := s) hwl hlt hk hx
      simp -implicitDefEqProofs only [pkA, ↓reduceIte, Nat.reduceEqDiff, Nat.reduceAdd, Nat.reduceBEq]
      refine ix_cl ti_145 rfl ti_99 rfl rfl rfl hlt hk ?_
      simp -implicitDefEqProofs only [pkA, ptA, ↓reduceIte, Nat.reduceEqDiff, Nat.reduceAdd, Nat.reduceBEq, Nat.reduceMul, Nat.reduceLT, Nat.zero_add, decide_true, isMb_cl, i4_0, i4_3, l4_0, l4_3]
      refine call_fn rfl (mix_ok _ 6 11 25 (by omega) (by omega) (by omega)) (fun _ => rfl) ?_
      simp -implicitDefEqProofs only [pkA, ptA, ↓reduceIte, Nat.reduceEqDiff, Nat.reduceAdd, Nat.reduceBEq, Nat.reduceMul, Nat.reduceLT, Nat.zero_add, decide_true, isMb_cl, wr_add, w_xor, w_and, w_not, i4_0, i4_1, i4_2, l4_0, l4_1, l4_2]
      refine ia_cl ti_145 rfl ti_99 rfl rfl hlt ?_
      simp -implicitDefEqProofs only [pkA, ptA, ↓reduceIte, Nat.reduceAdd, Nat.reduceBEq, Nat.reduceMul, Nat.reduceLT, Nat.zero_add, decide_true, isMb_cl]
      refine ld_cl (by decide) hx ?_
      simp -implicitDefEqProofs only [pkA, ptA, ↓reduceIte, Nat.reduceEqDiff, Nat.reduceAdd, Nat.reduceBEq, Nat.reduceMul, Nat.reduceLT, decide_true, isMb_cl, wr_add, i4_0, l4_0]
      refine call_fn rfl (mix_ok _ 2 13 22 (by omega) (by omega) (by omega)) (fun _ => rfl) ?_
      simp -implicitDefEqProofs only [pkA, ptA, ↓reduceIte, Nat.reduceEqDiff, Nat.reduceAdd, Nat.reduceBEq, Nat.reduceMul, Nat.reduceLT, Nat.reduceLeDiff, Nat.zero_add, decide_true, isMb_cl, cl_len, wr_add, w_xor, w_and, i4_0, i4_1, i4_2, i4_3, l4_0, l4_1, l4_2, l4_3, b4, st4c, hw]
      refine hnorm (t + 1) _ (by omega) (by omega) (le_hd (by simp only [leOk, List.all_cons, List.all_nil, hz8, cl_ltB, List.length_cons, List.length_nil]; rfl) (Nat.zero_le _) (by simp) (by simp [FL, up_apply]) ?_)
      rw [hst]
      exact ⟨rfl, rfl, rfl, rfl, rfl, trivial⟩
    have : t = 64 := by have := dge hge; omega
    subst this
    simp -implicitDefEqProofs only [pkA]
    refine hexit _ _ ?_
    clear hexit hret hnorm hge ht i0 R
    generalize hr : rnd s w 64 = r at *
    simp -implicitDefEqProofs only [pkA, ↓reduceIte, Nat.reduceAdd, Nat.reduceBEq]
    refine run_loop (fun i : Nat => hdS [(2, .bp 0 0), (4, .bp 1 0), (6, .bp 3 0), (7, .bp 4 0), (94, i64 i)] [cl wc (sumP s r i), zbox 8 (.c (.lit (.int .u32 0))), cl wc w, cl wc [r.v0, r.v1, r.v2, r.v3], cl wc [r.e0, r.e1, r.e2, r.e3]])
      (fun i => 4 - i) (fun i => i ≤ 4) 0 (Nat.zero_le _) ?_ ?_
    · refine le_hd (by simp only [leOk, List.all_cons, List.all_nil, hz8, cl_ltB, List.length_cons, List.length_nil]; rfl) (Nat.zero_le _) (by simp) (by simp [FL, up_apply]) ?_
      rw [← hse]; exact ⟨rfl, rfl, rfl, rfl, rfl, trivial⟩
    rintro i hi R hnorm hexit hret
    simp -implicitDefEqProofs only [pkA, ↓reduceIte, Nat.reduceEqDiff, Nat.reduceAdd, Nat.reduceBEq, Nat.zero_add]
    refine vcond_of (fun hlt => ?_) (fun hge => ?_)
    · have hlt : i < 4 := by have := dlt hlt; omega
      have hw := wrap_of (n := (i : Int) + 1) (k := i + 1) (by omega) (by omega)
      have hw4 := wrap_of (n := (i : Int) + 4) (k := i + 4) (by omega) (by omega)
      have hsl : (sumP s r i).length = 8 := by rw [← hse]; rfl
      obtain ⟨x, hx⟩ : ∃ x, (sumP s r i)[i]? = some x := ⟨_, List.getElem?_eq_getElem (by omega)⟩
      obtain ⟨y, hy⟩ : ∃ x, [r.v0, r.v1, r.v2, r.v3][i]? = some x := ⟨_, List.getElem?_eq_getElem (by simpa using hlt)⟩
      obtain ⟨z, hz⟩ : ∃ q, ((sumP s r i).set i (x + y))[i + 4]? = some q := ⟨_, List.getElem?_eq_getElem (by rw [List.length_set]; omega)⟩
      obtain ⟨u, hu⟩ : ∃ x, [r.e0, r.e1, r.e2, r.e3][i]? = some x := ⟨_, List.getElem?_eq_getElem (by simpa using hlt)⟩
      simp -implicitDefEqProofs only [pkA, ↓reduceIte, Nat.reduceEqDiff, Nat.reduceAdd, Nat.reduceBEq]
      refine ia_cl ti_102 rfl ti_99 rfl rfl (by omega) ?_
      simp -implicitDefEqProofs only [pkA, ptA, ↓reduceIte, Nat.reduceAdd, Nat.reduceBEq, Nat.reduceMul, Nat.reduceLT, Nat.zero_add, decide_true, isMb_cl]
      refine ld_cl (by decide) hx ?_
      simp -implicitDefEqProofs only [pkA, ↓reduceIte, Nat.reduceEqDiff, Nat.reduceBEq]
      refine ia_cl ti_147 rfl ti_99 rfl rfl (by omega) ?_
      simp -implicitDefEqProofs only [pkA, ptA, ↓reduceIte, Nat.reduceAdd, Nat.reduceBEq, Nat.reduceMul, Nat.reduceLT, Nat.zero_add, decide_true, isMb_cl]
      refine ld_cl (by decide) hy ?_
      simp -implicitDefEqProofs only [pkA, ↓reduceIte, Nat.reduceEqDiff, wr_add]
      refine ia_cl ti_102 rfl ti_99 rfl rfl (by omega) ?_
      simp -implicitDefEqProofs only [pkA, ptA, ↓reduceIte, Nat.reduceEqDiff, Nat.reduceAdd, Nat.reduceBEq, Nat.reduceMul, Nat.reduceLT, Nat.zero_add, decide_true, isMb_cl, cl_len]
      refine ⟨by omega, ?_⟩
      rw [setV_cl (f := wc) (k := i) (L := sumP s r i) (by omega)]
      simp -implicitDefEqProofs only [hw4]
      refine ia_cl ti_102 rfl ti_99 rfl rfl (by omega) ?_
      simp -implicitDefEqProofs only [pkA, ptA, ↓reduceIte, Nat.reduceAdd, Nat.reduceBEq, Nat.reduceMul, Nat.reduceLT, Nat.zero_add, decide_true, isMb_cl]
      refine ld_cl (by decide) hz ?_
      simp -implicitDefEqProofs only [pkA, ↓reduceIte, Nat.reduceEqDiff, Nat.reduceBEq]
      refine ia_cl ti_147 rfl ti_99 rfl rfl (by omega) ?_
      simp -implicitDefEqProofs only [pkA, ptA, ↓reduceIte, Nat.reduceEqDiff, Nat.reduceAdd, Nat.reduceBEq, Nat.reduceMul, Nat.reduceLT, Nat.zero_add, decide_true, isMb_cl]
      refine ld_cl (by decide) hu ?_
      simp -implicitDefEqProofs only [pkA, ↓reduceIte, Nat.reduceEqDiff, wr_add]
      refine ia_cl ti_102 rfl ti_99 rfl rfl (by omega) ?_
      simp -implicitDefEqProofs only [pkA, ptA, ↓reduceIte, Nat.reduceEqDiff, Nat.reduceAdd, Nat.reduceBEq, Nat.reduceMul, Nat.reduceLT, Nat.zero_add, decide_true, isMb_cl, cl_len, List.length_set, hw]
      refine ⟨by omega, ?_⟩
      rw [setV_cl (f := wc) (k := i + 4) (L := (sumP s r i).set i (x + y)) (by rw [List.length_set]; omega)]
      refine hnorm (i + 1) _ (by omega) (by omega) (le_hd (by simp only [leOk, List.all_cons, List.all_nil, hz8, cl_ltB, List.length_cons, List.length_nil]; rfl) (Nat.zero_le _) (by simp) (by simp [FL, up_apply]) ?_)
      have e : ((sumP s r i).set i (x + y)).set (i + 4) (z + u) = sumP s r (i + 1) := by
        subst hse
        have : i = 0 ∨ i = 1 ∨ i = 2 ∨ i = 3 := by omega
        rcases this with rfl | rfl | rfl | rfl <;> simp only [sumP, List.getElem?_cons_zero, List.getElem?_cons_succ, Option.some.injEq] at hx hy hz hu <;> subst hx <;> subst hy <;> subst hu <;>
          simp only [List.set_cons_zero, List.set_cons_succ, List.getElem?_cons_zero, List.getElem?_cons_succ, Option.some.injEq, Nat.reduceAdd] at hz <;> subst hz <;> rfl
      rw [e]
      exact ⟨rfl, rfl, rfl, rfl, rfl, trivial⟩
    have : i = 4 := by have := dge hge; omega
    subst this
    simp -implicitDefEqProofs only [pkA]
    refine hexit _ _ ?_
    have e4 : sumP s r 4 = addL s r.toL := by rw [← hse]; rfl
    simp -implicitDefEqProofs only [pkA, ptA, ↓reduceIte, Nat.reduceEqDiff, Nat.reduceAdd, Nat.reduceBEq, Nat.reduceMul, Nat.reduceLT, decide_true, isMb_cl, e4]
    have hal : (addL s r.toL).length = 8 := by unfold addL R8.toL; simp [hs8]
    refine ldA_cl (by decide) hal ?_
    simp -implicitDefEqProofs only [pkA, ptA, ↓reduceIte, Nat.reduceEqDiff, Nat.reduceAdd, Nat.reduceBEq, Nat.reduceMul, Nat.reduceLT, Nat.reduceLeDiff, Nat.zero_add, decide_true, isMb_zbox, zbox_len, List.length_map, hal]
    rw [setV_all (by simp [zbox_len, hal]), ← cl_eq]
    exact ⟨isMb_cl, ldA_cl (by decide) hal rfl⟩
  · refine run_loop (fun t : Nat => hdS [(2, .bp 0 0), (4, .bp 1 0), (5, .bp 2 0), (6, .bp 4 0), (7, .bp 3 0), (21, .agg (kW.map wc)), (22, i64 t)] [cl wc s, zbox 8 (.c (.lit (.int .u32 0))), cl wc w, cl wc [(rnd s w t).e0, (rnd s w t).e1, (rnd s w t).e2, (rnd s w t).e3], cl wc [(rnd s w t).v0, (rnd s w t).v1, (rnd s w t).v2, (rnd s w t).v3]])
      (fun t => 64 - t) (fun t => t ≤ 64) 0 (Nat.zero_le _) ?_ ?_
    · refine le_hd (by simp only [leOk, List.all_cons, List.all_nil, hz8, cl_ltB, List.length_cons, List.length_nil]; rfl) (Nat.zero_le _) (by simp) (by simp [FL, up_apply]) (by simp [BL, up_apply, bxs, i0])
    rintro t ht R hnorm hexit hret
    simp -implicitDefEqProofs only [pkA, ↓reduceIte, Nat.reduceEqDiff, Nat.reduceAdd, Nat.reduceBEq, Nat.zero_add]
    refine vcond_of (fun hlt => ?_) (fun hge => ?_)
    · have hlt : t < 64 := by have := dlt hlt; omega
      have hw := wrap_of (n := (t : Int) + 1) (k := t + 1) (by omega) (by omega)
      obtain ⟨k, hk⟩ := kat t hlt
      obtain ⟨x, hx⟩ := wat t hlt
      have hst := rnd_succ (s := s) hwl hlt hk hx
      simp -implicitDefEqProofs only [pkA, ↓reduceIte, Nat.reduceEqDiff, Nat.reduceAdd, Nat.reduceBEq]
      refine ix_cl ti_145 rfl ti_99 rfl rfl rfl hlt hk ?_
      simp -implicitDefEqProofs only [pkA, ptA, ↓reduceIte, Nat.reduceEqDiff, Nat.reduceAdd, Nat.reduceBEq, Nat.reduceMul, Nat.reduceLT, Nat.zero_add, decide_true, isMb_cl, i4_0, i4_3, l4_0, l4_3]
      refine call_fn rfl (mix_ok _ 6 11 25 (by omega) (by omega) (by omega)) (fun _ => rfl) ?_
      simp -implicitDefEqProofs only [pkA, ptA, ↓reduceIte, Nat.reduceEqDiff, Nat.reduceAdd, Nat.reduceBEq, Nat.reduceMul, Nat.reduceLT, Nat.zero_add, decide_true, isMb_cl, wr_add, w_xor, w_and, w_not, i4_0, i4_1, i4_2, l4_0, l4_1, l4_2]
      refine ia_cl ti_145 rfl ti_99 rfl rfl hlt ?_
      simp -implicitDefEqProofs only [pkA, ptA, ↓reduceIte, Nat.reduceAdd, Nat.reduceBEq, Nat.reduceMul, Nat.reduceLT, Nat.zero_add, decide_true, isMb_cl]
      refine ld_cl (by decide) hx ?_
      simp -implicitDefEqProofs only [pkA, ptA, ↓reduceIte, Nat.reduceEqDiff, Nat.reduceAdd, Nat.reduceBEq, Nat.reduceMul, Nat.reduceLT, decide_true, isMb_cl, wr_add, i4_0, l4_0]
      refine call_fn rfl (mix_ok _ 2 13 22 (by omega) (by omega) (by omega)) (fun _ => rfl) ?_
      simp -implicitDefEqProofs only [pkA, ptA, ↓reduceIte, Nat.reduceEqDiff, Nat.reduceAdd, Nat.reduceBEq, Nat.reduceMul, Nat.reduceLT, Nat.reduceLeDiff, Nat.zero_add, decide_true, isMb_cl, cl_len, wr_add, w_xor, w_and, i4_0, i4_1, i4_2, i4_3, l4_0, l4_1, l4_2, l4_3, b4, st4c, hw]
      refine hnorm (t + 1) _ (by omega) (by omega) (le_hd (by simp only [leOk, List.all_cons, List.all_nil, hz8, cl_ltB, List.length_cons, List.length_nil]; rfl) (Nat.zero_le _) (by simp) (by simp [FL, up_apply]) ?_)
      rw [hst]
      exact ⟨rfl, rfl, rfl, rfl, rfl, trivial⟩
    have : t = 64 := by have := dge hge; omega
    subst this
    simp -implicitDefEqProofs only [pkA]
    refine hexit _ _ ?_
    clear hexit hret hnorm hge ht i0 R
    generalize hr : rnd s w 64 = r at *
    simp -implicitDefEqProofs only [pkA, ↓reduceIte, Nat.reduceAdd, Nat.reduceBEq]
    refine run_loop (fun i : Nat => hdS [(2, .bp 0 0), (4, .bp 1 0), (6, .bp 4 0), (7, .bp 3 0), (94, i64 i)] [cl wc (sumP s r i), zbox 8 (.c (.lit (.int .u32 0))), cl wc w, cl wc [r.e0, r.e1, r.e2, r.e3], cl wc [r.v0, r.v1, r.v2, r.v3]])
      (fun i => 4 - i) (fun i => i ≤ 4) 0 (Nat.zero_le _) ?_ ?_
    · refine le_hd (by simp only [leOk, List.all_cons, List.all_nil, hz8, cl_ltB, List.length_cons, List.length_nil]; rfl) (Nat.zero_le _) (by simp) (by simp [FL, up_apply]) ?_
      rw [← hse]; exact ⟨rfl, rfl, rfl, rfl, rfl, trivial⟩
    rintro i hi R hnorm hexit hret
    simp -implicitDefEqProofs only [pkA, ↓reduceIte, Nat.reduceEqDiff, Nat.reduceAdd, Nat.reduceBEq, Nat.zero_add]
    refine vcond_of (fun hlt => ?_) (fun hge => ?_)
    · have hlt : i < 4 := by have := dlt hlt; omega
      have hw := wrap_of (n := (i : Int) + 1) (k := i + 1) (by omega) (by omega)
      have hw4 := wrap_of (n := (i : Int) + 4) (k := i + 4) (by omega) (by omega)
      have hsl : (sumP s r i).length = 8 := by rw [← hse]; rfl
      obtain ⟨x, hx⟩ : ∃ x, (sumP s r i)[i]? = some x := ⟨_, List.getElem?_eq_getElem (by omega)⟩
      obtain ⟨y, hy⟩ : ∃ x, [r.v0, r.v1, r.v2, r.v3][i]? = some x := ⟨_, List.getElem?_eq_getElem (by simpa using hlt)⟩
      obtain ⟨z, hz⟩ : ∃ q, ((sumP s r i).set i (x + y))[i + 4]? = some q := ⟨_, List.getElem?_eq_getElem (by rw [List.length_set]; omega)⟩
      obtain ⟨u, hu⟩ : ∃ x, [r.e0, r.e1, r.e2, r.e3][i]? = some x := ⟨_, List.getElem?_eq_getElem (by simpa using hlt)⟩
      simp -implicitDefEqProofs only [pkA, ↓reduceIte, Nat.reduceEqDiff, Nat.reduceAdd, Nat.reduceBEq]
      refine ia_cl ti_102 rfl ti_99 rfl rfl (by omega) ?_
      simp -implicitDefEqProofs only [pkA, ptA, ↓reduceIte, Nat.reduceAdd, Nat.reduceBEq, Nat.reduceMul, Nat.reduceLT, Nat.zero_add, decide_true, isMb_cl]
      refine ld_cl (by decide) hx ?_
      simp -implicitDefEqProofs only [pkA, ↓reduceIte, Nat.reduceEqDiff, Nat.reduceBEq]
      refine ia_cl ti_147 rfl ti_99 rfl rfl (by omega) ?_
      simp -implicitDefEqProofs only [pkA, ptA, ↓reduceIte, Nat.reduceAdd, Nat.reduceBEq, Nat.reduceMul, Nat.reduceLT, Nat.zero_add, decide_true, isMb_cl]
      refine ld_cl (by decide) hy ?_
      simp -implicitDefEqProofs only [pkA, ↓reduceIte, Nat.reduceEqDiff, wr_add]
      refine ia_cl ti_102 rfl ti_99 rfl rfl (by omega) ?_
      simp -implicitDefEqProofs only [pkA, ptA, ↓reduceIte, Nat.reduceEqDiff, Nat.reduceAdd, Nat.reduceBEq, Nat.reduceMul, Nat.reduceLT, Nat.zero_add, decide_true, isMb_cl, cl_len]
      refine ⟨by omega, ?_⟩
      rw [setV_cl (f := wc) (k := i) (L := sumP s r i) (by omega)]
      simp -implicitDefEqProofs only [hw4]
      refine ia_cl ti_102 rfl ti_99 rfl rfl (by omega) ?_
      simp -implicitDefEqProofs only [pkA, ptA, ↓reduceIte, Nat.reduceAdd, Nat.reduceBEq, Nat.reduceMul, Nat.reduceLT, Nat.zero_add, decide_true, isMb_cl]
      refine ld_cl (by decide) hz ?_
      simp -implicitDefEqProofs only [pkA, ↓reduceIte, Nat.reduceEqDiff, Nat.reduceBEq]
      refine ia_cl ti_147 rfl ti_99 rfl rfl (by omega) ?_
      simp -implicitDefEqProofs only [pkA, ptA, ↓reduceIte, Nat.reduceEqDiff, Nat.reduceAdd, Nat.reduceBEq, Nat.reduceMul, Nat.reduceLT, Nat.zero_add, decide_true, isMb_cl]
      refine ld_cl (by decide) hu ?_
      simp -implicitDefEqProofs only [pkA, ↓reduceIte, Nat.reduceEqDiff, wr_add]
      refine ia_cl ti_102 rfl ti_99 rfl rfl (by omega) ?_
      simp -implicitDefEqProofs only [pkA, ptA, ↓reduceIte, Nat.reduceEqDiff, Nat.reduceAdd, Nat.reduceBEq, Nat.reduceMul, Nat.reduceLT, Nat.zero_add, decide_true, isMb_cl, cl_len, List.length_set, hw]
      refine ⟨by omega, ?_⟩
      rw [setV_cl (f := wc) (k := i + 4) (L := (sumP s r i).set i (x + y)) (by rw [List.length_set]; omega)]
      refine hnorm (i + 1) _ (by omega) (by omega) (le_hd (by simp only [leOk, List.all_cons, List.all_nil, hz8, cl_ltB, List.length_cons, List.length_nil]; rfl) (Nat.zero_le _) (by simp) (by simp [FL, up_apply]) ?_)
      have e : ((sumP s r i).set i (x + y)).set (i + 4) (z + u) = sumP s r (i + 1) := by
        subst hse
        have : i = 0 ∨ i = 1 ∨ i = 2 ∨ i = 3 := by omega
        rcases this with rfl | rfl | rfl | rfl <;> simp only [sumP, List.getElem?_cons_zero, List.getElem?_cons_succ, Option.some.injEq] at hx hy hz hu <;> subst hx <;> subst hy <;> subst hu <;>
          simp only [List.set_cons_zero, List.set_cons_succ, List.getElem?_cons_zero, List.getElem?_cons_succ, Option.some.injEq, Nat.reduceAdd] at hz <;> subst hz <;> rfl
      rw [e]
      exact ⟨rfl, rfl, rfl, rfl, rfl, trivial⟩
    have : i = 4 := by have := dge hge; omega
    subst this
    simp -implicitDefEqProofs only [pkA]
    refine hexit _ _ ?_
    have e4 : sumP s r 4 = addL s r.toL := by rw [← hse]; rfl
    simp -implicitDefEqProofs only [pkA, ptA, ↓reduceIte, Nat.reduceEqDiff, Nat.reduceAdd, Nat.reduceBEq, Nat.reduceMul, Nat.reduceLT, decide_true, isMb_cl, e4]
    have hal : (addL s r.toL).length = 8 := by unfold addL R8.toL; simp [hs8]
    refine ldA_cl (by decide) hal ?_
    simp -implicitDefEqProofs only [pkA, ptA, ↓reduceIte, Nat.reduceEqDiff, Nat.reduceAdd, Nat.reduceBEq, Nat.reduceMul, Nat.reduceLT, Nat.reduceLeDiff, Nat.zero_add, decide_true, isMb_zbox, zbox_len, List.length_map, hal]
    rw [setV_all (by simp [zbox_len, hal]), ← cl_eq]
    exact ⟨isMb_cl, ldA_cl (by decide) hal rfl⟩
end Go.Proofs.YtidlohfkfdeaiaaDoor

/- Layer 2: a stream gets a longer message. -/
namespace Go.Proofs.YtidlohfkfdeaiaaDoor
open Go Go.Vl

theorem str_nil (l : B) : decide (bs8 l = ByteArray.mk #[]) = decide (l = []) := by
  have := bs8_dec l []
  exact this
theorem flat_wc (l : List W) : (V.agg (l.map wc)).isFlat = true := by
  simp only [V.isFlat, List.all_map, List.all_eq_true]; intro x _; rfl
def z0 : Str := ⟨List.replicate 8 0, List.replicate 64 0, 0⟩
theorem z0_ok : z0.ok := ⟨rfl, rfl, by decide⟩
theorem zb73 : (zbox 8 (.c (.lit (.int .u32 0))) ++ zbox 64 (.c (.lit (.int .u8 0))) ++ [.c (.lit (.int .u64 0))]) = stV z0 := rfl
abbrev stv (s : Str) : V := .agg (stC s)

set_option maxRecDepth 100000 in
set_option maxHeartbeats 1500000 in
theorem Add_ok (s0 : Str) (t0 : B) (hs0 : s0.ok) (ht0 : t0.length ≤ 9223372036854775807) : FnOK Tryd.prog gl 84 [stv s0, sv t0] (stv (addB s0 t0)) := by
  refine FnOK_by (rs := [.cell 4 106]) false [] mixed Tryd.func84 rfl rfl rfl rfl (by kernel_rfl) (by simp) rfl rfl ?_
  simp -implicitDefEqProofs only [pkA, ptA, ↓reduceIte, Nat.reduceAdd, Nat.zero_add]
  refine run_loop (fun x : Nat × Str × B => match x with | (f, s, t) => hdS [(1, sv t), (2, .bp 0 0), (4, .bp 1 0)] [stV s, stV z0]) (fun x => x.1)
    (fun x => x.2.1.ok ∧ x.2.2.length < x.1 ∧ x.2.2.length ≤ 9223372036854775807 ∧ addS x.1 x.2.1 x.2.2 = addB s0 t0) (t0.length + 1, s0, t0) ⟨hs0, by simp, ht0, rfl⟩ ?_ ?_
  · refine le_hd (by simp only [leOk, List.all_cons, List.all_nil, stV_ltB, List.length_cons, List.length_nil]; rfl) (Nat.zero_le _) (by simp) (by simp [FL, up_apply]) (by simp [BL, up_apply]; exact ⟨rfl, zb73⟩)
  rintro ⟨f, s, t⟩ ⟨hs, hf, ht, hR⟩ R hnorm hexit hret
  simp only at hs hf ht hR
  simp -implicitDefEqProofs only [pkA, ↓reduceIte, Nat.reduceAdd, Nat.zero_add]
  refine vcond_of (fun hne => ?_) (fun hem => ?_)
  · rw [str_nil] at hne
    have hne : t ≠ [] := by simpa using hne
    obtain ⟨g, m, k, n', blk, rfl, hm, hk, hmk, hk0, hmin, htk, hmod, hw, hblk, hbl, hs', hs'', hset, hsn, hg, hg', h64y, h64n⟩ := add_facts hs hne hf ht hR
    have hwm : IntKind.i64.wrap (m : Int) = (m : Int) := wrap_of rfl (by omega)
    have hwk : IntKind.u64.wrap (k : Int) = (k : Int) := by rw [IntKind.wrap_u64]; omega
    have hc1 : ∀ K, vconv Tryd.prog 104 3 (.c (.lit (.int .u64 (m : Int)))) K = K (i64 (m : Nat)) := fun K => by
      simp only [vconv, ti_104, ti_3]; rw [hwm]
    have hrem : ∀ K, vint .rem .u64 (s.n : Int) 64 K = K (.c (.lit (.int .u64 (m : Int)))) := fun K => by
      simp only [vint, hmod]
      exact propext ⟨fun h => h.2, fun h => ⟨by decide, h⟩⟩
    have hc2 : ∀ K, vconv Tryd.prog 3 104 (i64 (k : Nat)) K = K (.c (.lit (.int .u64 (k : Int)))) := fun K => by
      simp only [vconv, ti_104, ti_3]; rw [hwk]
    have hw2 := wrap_of (n := (m : Int) + (k : Int)) (k := m + k) (by omega) (by omega)
    have hcp : (((strC (bs8 t)).take (64 - m)).flatten.map V.c) = cl bc (t.take k) := by
      rw [strC_bs8, ← htk, ← flat_bC]; congr 2; simp [bC, List.map_take]
    have hl1 := stV_len hs
    have hl2 := stV_len hs'
    have hl3 := stV_len hs''
    clear hR hf
    simp -implicitDefEqProofs only [pkA, ptA, ↓reduceIte, Nat.reduceEqDiff, Nat.reduceAdd, Nat.reduceMul, Nat.reduceLT, Nat.zero_add, decide_true, isMb_stV]
    refine st_n hs (by decide) ?_
    simp -implicitDefEqProofs only [pkA, ptA, ↓reduceIte, Nat.reduceEqDiff, Nat.reduceAdd, Nat.zero_add, hrem, hc1]
    refine sl_cl ti_103 rfl ti_5 rfl (l := m) (h := 64) rfl rfl (by omega) (by decide) ?_
    simp -implicitDefEqProofs only [pkA, ↓reduceIte, Nat.reduceEqDiff]
    refine copy_of ti_71 rfl ti_5 rfl (by decide) isMb_stV (by show 0 + 8 + m + (64 - m) ≤ (stV s).length; rw [hl1]; omega) ?_
    rw [hmin, hcp]
    simp -implicitDefEqProofs only [pkA, ↓reduceIte, Nat.reduceEqDiff, Nat.reduceAdd, hset]
    refine sl_sv ti_9 rfl (a := k) (b := t.length) rfl rfl (by omega) (Nat.le_refl _) ?_
    rw [List.take_length]
    simp -implicitDefEqProofs only [pkA, ptA, ↓reduceIte, Nat.reduceEqDiff, Nat.reduceAdd, Nat.reduceMul, Nat.reduceLT, Nat.zero_add, decide_true, isMb_stV]
    refine st_n hs' (by decide) ?_
    simp -implicitDefEqProofs only [pkA, ptA, ↓reduceIte, Nat.reduceEqDiff, Nat.reduceAdd, Nat.reduceMul, Nat.reduceLT, Nat.zero_add, decide_true, isMb_stV, hc2, hw, hw2, hsn]
    refine ⟨by rw [hl2]; exact Nat.le_refl _, ?_⟩
    refine vcond_of (fun hyes => ?_) (fun hno => ?_)
    · have h64 : m + k = 64 := by have := of_decide_eq_true hyes; omega
      simp -implicitDefEqProofs only [pkA, ptA, ↓reduceIte, Nat.reduceEqDiff, Nat.reduceAdd, Nat.reduceMul, Nat.reduceLT, Nat.zero_add, decide_true, isMb_stV]
      refine st_state hs'' (by decide) ?_
      simp -implicitDefEqProofs only [pkA, ptA, ↓reduceIte, Nat.reduceEqDiff, Nat.zero_add]
      refine sl_cl ti_103 rfl ti_5 rfl (l := 0) (h := 64) rfl rfl (by decide) (by decide) ?_
      simp -implicitDefEqProofs only [pkA, ↓reduceIte, Nat.reduceEqDiff, Nat.reduceAdd, Nat.reduceSub]
      refine call_fn (fs := []) (cs := []) («as» := [.agg (s.state.map wc), bv blk]) ?_ (compress_ok s.state blk hs''.1 hbl) (r := .agg ((compress s.state blk).map wc)) (fun _ => flat_wc _) ?_
      · rw [List.mapM_cons, List.mapM_cons, List.mapM_nil]
        simp only [imm]
        rw [view_block hs'' (by decide) (by rfl)]; rfl
      simp -implicitDefEqProofs only [pkA, ptA, ↓reduceIte, Nat.reduceEqDiff, Nat.reduceAdd, Nat.reduceMul, Nat.reduceLT, Nat.zero_add, decide_true, isMb_stV]
      have h8 : (compress s.state blk).length = 8 := compress_len hs.1
      rw [set_state hs'' h8]
      refine ⟨⟨by rw [List.length_map, h8], by rw [hl3]; decide⟩, ?_⟩
      exact hnorm (g, _, t.drop k) _ ⟨(h64y h64).1, hg, hg', (h64y h64).2⟩ (by simp) (le_hd (by simp only [leOk, List.all_cons, List.all_nil, stV_ltB, List.length_cons, List.length_nil]; rfl) (Nat.zero_le _) (by simp) (by simp [FL, up_apply]) (by simp [BL, up_apply, bxs]))
    · have h64 : ¬ m + k = 64 := by have := of_decide_eq_false hno; omega
      simp -implicitDefEqProofs only [pkA]
      exact hnorm (g, _, t.drop k) _ ⟨hs'', hg, hg', h64n h64⟩ (by simp) (le_hd (by simp only [leOk, List.all_cons, List.all_nil, stV_ltB, List.length_cons, List.length_nil]; rfl) (Nat.zero_le _) (by simp) (by simp [FL, up_apply]) (by simp [BL, up_apply, bxs]))
  · rw [str_nil] at hem
    have hem : t = [] := by simpa using hem
    subst hem
    have e : s = addB s0 t0 := by
      rw [← hR]
      cases f with
      | zero => rfl
      | succ f => unfold addS; rw [if_pos rfl]
    subst e
    simp -implicitDefEqProofs only [pkA]
    refine hexit _ _ ?_
    simp -implicitDefEqProofs only [pkA, ptA, ↓reduceIte, Nat.reduceEqDiff, Nat.reduceAdd, Nat.reduceMul, Nat.reduceLT, decide_true, isMb_stV]
    refine st_all hs (by decide) ?_
    simp -implicitDefEqProofs only [pkA, ptA, ↓reduceIte, Nat.reduceEqDiff, Nat.reduceAdd, Nat.reduceMul, Nat.reduceLT, Nat.zero_add, decide_true, isMb_stV]
    have hset : setV (stV z0) 0 (List.map V.c (stC (addB s0 t0))) = stV (addB s0 t0) := by
      unfold setV
      rw [List.take_zero, List.length_map, stC_len hs, List.drop_eq_nil_of_le (by rw [stV_len z0_ok]; decide)]
      simp [stV]
    rw [hset]
    exact ⟨⟨stC_len hs, by rw [stV_len z0_ok]; exact Nat.le_refl _⟩, isMb_stV, st_all hs (by decide) rfl⟩
end Go.Proofs.YtidlohfkfdeaiaaDoor

/- Layer 2: the hash of a stream. -/
namespace Go.Proofs.YtidlohfkfdeaiaaDoor
open Go Go.Vl

theorem stV_fold (s : Str) : (stC s).map V.c = stV s := rfl
theorem b_iv {K : V → Prop} : vbuild Tryd.prog 102 [(0, V.c (C.lit (Value.int IntKind.u32 1779033703))), (1, V.c (C.lit (Value.int IntKind.u32 3144134277))), (2, V.c (C.lit (Value.int IntKind.u32 1013904242))), (3, V.c (C.lit (Value.int IntKind.u32 2773480762))), (4, V.c (C.lit (Value.int IntKind.u32 1359893119))), (5, V.c (C.lit (Value.int IntKind.u32 2600822924))), (6, V.c (C.lit (Value.int IntKind.u32 528734635))), (7, V.c (C.lit (Value.int IntKind.u32 1541459225)))] K = K (.agg (iv.map wc)) := by
  unfold vbuild; rw [ti_102]; simp only [ti_99]; rfl
theorem bld_of {f : List (Nat × Nat × Bool)} {z cs : List C} {p : List (Nat × V)} {K : V → Prop} {o : Option (List C)} (h : o = some cs) (hK : K (.agg cs)) : bldK f z p K o := by subst h; exact hK
theorem setV_st {l : List V} {s : Str} (h : s.ok) (hl : l.length = 73) : setV l 0 ((stC s).map .c) = stV s := by
  rw [setV_all (by rw [List.length_map, stC_len h, hl])]; rfl
theorem setV_stV {l : List V} {s : Str} (h : s.ok) (hl : l.length = 73) : setV l 0 (stV s) = stV s := setV_st h hl
theorem flat_st (s : Str) : (stv s).isFlat = true := by
  simp only [V.isFlat, stC, List.all_append, List.all_map, Bool.and_eq_true, List.all_eq_true]
  exact ⟨fun x _ => rfl, fun x _ => rfl, fun x hx => by simp at hx; subst hx; rfl⟩
theorem setV_zb {n : Nat} {z : C} {o : B} (h : o.length = n) : setV (zbox n (.c z)) 0 ((o.map bc).map .c) = cl bc o := by
  rw [setV_all (by simp [zbox_len, h]), ← cl_eq]
theorem flat_bb (l : B) : (V.agg (l.map bc)).isFlat = true := by
  simp only [V.isFlat, List.all_map, List.all_eq_true]; intro x _; rfl

set_option maxRecDepth 100000 in
theorem Begin_ok : FnOK Tryd.prog gl 83 [] (stv begin0) := by
  refine FnOK_by (rs := [.cell 0 106]) false [] mixed Tryd.func83 rfl rfl rfl rfl (by kernel_rfl) (by simp) rfl rfl ?_
  simp -implicitDefEqProofs only [pkA, ptA, ↓reduceIte, Nat.reduceAdd, Nat.reduceLeDiff, Nat.zero_add, b_iv, zb73]
  refine bld_of (cs := stC begin0) rfl ?_
  simp -implicitDefEqProofs only [pkA, ptA, ↓reduceIte, Nat.reduceEqDiff, Nat.reduceAdd, Nat.reduceMul, Nat.reduceLT, Nat.zero_add, decide_true, isMb_stV, setV_st begin_ok (stV_len z0_ok)]
  exact ⟨⟨stC_len begin_ok, by rw [stV_len z0_ok]; exact Nat.le_refl _⟩, st_all begin_ok (by decide) rfl⟩

theorem c_bs {l : B} {K : V → Prop} : vconv Tryd.prog 71 9 (bv l) K = K (sv l) := conv_bs ti_71 rfl ti_9 rfl ti_5 rfl
theorem c_sb {l : B} {K : V → Prop} : vconv Tryd.prog 9 71 (sv l) K = K (bv l) := conv_sb ti_9 rfl ti_71 rfl ti_5 rfl
abbrev EB : Option (TypeId × Nat) := some (5, 1)
set_option maxRecDepth 100000 in
theorem ap1 {E : Option (TypeId × Nat)} {l : B} {x : UInt8} {K : V → Prop} (h0 : E = none ∨ E = EB) (hl : l.length + 1 ≤ 140737488355328) (hK : K (.ow EB (bC (l ++ [x])))) : vappend Tryd.prog 71 (.ow E (bC l)) (.c (.sl [[bc x]])) K :=
  app_bC (m := [x]) ti_71 rfl ti_5 rfl rfl rfl h0 (by rw [List.length_singleton]; exact hl) (by rw [List.isEmpty_cons]; exact hK)
set_option maxRecDepth 100000 in
set_option maxHeartbeats 1500000 in
theorem Sum_ok (s : Str) (hs : s.ok) (hn : s.n ≤ 4611686018427387904) : FnOK Tryd.prog gl 85 [stv s] (.agg ((sumS s).map bc)) := by
  refine FnOK_by (rs := [.cell 2 109]) false [20, 26] mixed Tryd.func85 rfl rfl rfl rfl (by kernel_rfl) (by simp) rfl rfl ?_
  have hz : (119 - s.n % 64) % 64 < 64 := Nat.mod_lt _ (by decide)
  have hzz : sumS s = outL (addB s (128 :: (List.replicate ((119 - s.n % 64) % 64) 0 ++ u64be (8 * s.n % 18446744073709551616)))).state := rfl
  have hzm : (s.n + 1 + (119 - s.n % 64) % 64) % 64 = 56 := by omega
  have hzk : ∀ k, k < (119 - s.n % 64) % 64 → (s.n + 1 + k) % 64 ≠ 56 := by intro k hk; omega
  rw [hzz]
  generalize (119 - s.n % 64) % 64 = z at hz hzm hzk
  have hN : IntKind.u64.wrap (8 * (s.n : Int)) = ((8 * s.n % 18446744073709551616 : Nat) : Int) := by rw [IntKind.wrap_u64]; omega
  generalize 8 * s.n % 18446744073709551616 = N at hN
  have hwn : IntKind.i64.wrap (s.n : Int) = (s.n : Int) := wrap_of rfl (by omega)
  have hcn : ∀ K, vconv Tryd.prog 104 3 (.c (.lit (.int .u64 (s.n : Int)))) K = K (i64 (s.n : Nat)) := fun K => by
    simp only [vconv, ti_104, ti_3]; rw [hwn]
  simp -implicitDefEqProofs only [pkA, ptA, ↓reduceIte, Nat.reduceEqDiff, Nat.reduceAdd, Nat.reduceBEq, Nat.reduceMul, Nat.reduceLT, Nat.zero_add, decide_true, stV_fold, isMb_stV]
  refine st_n hs (by decide) ?_
  simp -implicitDefEqProofs only [pkA, ptA, ↓reduceIte, Nat.reduceEqDiff, Nat.reduceAdd, Nat.reduceBEq, Nat.reduceMul, Nat.reduceLeDiff, Nat.zero_add, hN]
  refine run_loop (fun k : Nat => hdS [(1, .bp 0 0), (2, .bp 1 0), (3, .c (.lit (.int .u64 (N : Int)))), (4, .ow EB (bC (128 :: List.replicate k 0)))] [stV s, zbox 32 (.c (.lit (.int .u8 0)))]) (fun k => z - k) (fun k => k ≤ z) 0 (Nat.zero_le _) ?_ ?_
  · refine le_hd (by simp only [leOk, List.all_cons, List.all_nil, stV_ltB, zbox_cl (f := bc) (x := (0 : UInt8)), List.length_cons, List.length_nil]; rfl) (Nat.zero_le _) (by simp) (by simp [FL, up_apply]; rfl) (by simp [BL, up_apply])
  rintro k hk R hnorm hexit hret
  have hw1 := wrap_of (n := (s.n : Int) + ((k + 1 : Nat) : Int)) (k := s.n + (k + 1)) (by omega) (by omega)
  have hrem : ∀ K, vint .rem .i64 ((s.n + (k + 1) : Nat) : Int) 64 K = K (i64 (((s.n + (k + 1)) % 64 : Nat) : Int)) := fun K => by
    have hmod : (((s.n + (k + 1) : Nat) : Int)).tmod 64 = (((s.n + (k + 1)) % 64 : Nat) : Int) := by rw [Int.tmod_eq_emod_of_nonneg (by omega)]; omega
    have hw := wrap_of (n := (((s.n + (k + 1)) % 64 : Nat) : Int)) (k := (s.n + (k + 1)) % 64) rfl (by omega)
    simp only [vint, hmod]
    exact propext ⟨fun h => h.2, fun h => ⟨by decide, h⟩⟩
  simp -implicitDefEqProofs only [pkA, ptA, ↓reduceIte, Nat.reduceAdd, Nat.reduceBEq, Nat.reduceMul, Nat.reduceLT, Nat.zero_add, decide_true, isMb_stV]
  refine st_n hs (by decide) ?_
  simp -implicitDefEqProofs only [pkA, ptA, ↓reduceIte, Nat.reduceEqDiff, Nat.reduceAdd, Nat.reduceBEq, hcn, bC_len, List.length_replicate, hw1, hrem]
  refine vcond_of (fun hne => ?_) (fun heq => ?_)
  · have hlt : k < z := by
      have hne : ((((s.n + (k + 1)) % 64 : Nat) : Int)) ≠ 56 := by simpa using hne
      have : k ≠ z := by rintro rfl; exact hne (by omega)
      omega
    simp -implicitDefEqProofs only [pkA, ptA, ↓reduceIte, Nat.reduceEqDiff, Nat.reduceAdd, Nat.reduceBEq, Nat.reduceMul, Nat.reduceLeDiff, Nat.zero_add]
    refine ap1 (x := 0) (Or.inr rfl) (by rw [List.length_cons, List.length_replicate]; omega) ?_
    simp -implicitDefEqProofs only [pkA, ↓reduceIte, Nat.reduceEqDiff]
    refine hnorm (k + 1) _ hlt (by omega) (le_hd (by simp only [leOk, List.all_cons, List.all_nil, stV_ltB, zbox_cl (f := bc) (x := (0 : UInt8)), List.length_cons, List.length_nil]; rfl) (Nat.zero_le _) (by simp) ?_ (by simp [BL, bxs]))
    have e : (128 :: List.replicate k 0 ++ [0] : B) = 128 :: List.replicate (k + 1) 0 := by rw [List.cons_append, ← List.replicate_succ']
    simp [FL, up_apply, ← e]
  · have hkz : k = z := by
      have heq : ((((s.n + (k + 1)) % 64 : Nat) : Int)) = 56 := by simpa using heq
      have : ¬ k < z := fun h => hzk k h (by omega)
      omega
    subst hkz
    simp -implicitDefEqProofs only [pkA]
    refine hexit _ _ ?_
    simp -implicitDefEqProofs only [pkA, ↓reduceIte, Nat.reduceAdd, Nat.reduceBEq]
    clear hexit hnorm hret heq hzk hzm hk hzz hrem hw1 R
    have h8 := u64be_len N
    have hu8 := fun i hi => u64be_at N (i := i) hi
    generalize u64be N = u at h8 hu8
    refine run_loop (fun i : Nat => hdS [(1, .bp 0 0), (2, .bp 1 0), (3, .c (.lit (.int .u64 (N : Int)))), (4, .ow EB (bC (128 :: List.replicate k 0 ++ u.take i))), (23, i64 i)] [stV s, zbox 32 (.c (.lit (.int .u8 0)))]) (fun i => 8 - i) (fun i => i ≤ 8) 0 (Nat.zero_le _) ?_ ?_
    · refine le_hd (by simp only [leOk, List.all_cons, List.all_nil, stV_ltB, zbox_cl (f := bc) (x := (0 : UInt8)), List.length_cons, List.length_nil]; rfl) (Nat.zero_le _) (by simp) (by simp [FL, up_apply]) (by simp [BL, bxs])
    rintro i hi R hnorm hexit hret
    have hwi := wrap_of (n := (i : Int) + 1) (k := i + 1) (by omega) (by omega)
    have hwm := wrap_of (n := 8 * (i : Int)) (k := 8 * i) (by omega) (by omega)
    simp -implicitDefEqProofs only [pkA, ↓reduceIte, Nat.reduceEqDiff, Nat.reduceAdd, Nat.reduceBEq, Nat.zero_add]
    refine vcond_of (fun hlt => ?_) (fun hge => ?_)
    · have hlt : i < 8 := by have := dlt hlt; omega
      have hws := wrap_of (n := 56 - ((8 * i : Nat) : Int)) (k := 56 - 8 * i) (by omega) (by omega)
      have hsh := fun K => q_shr (K := K) (a := N) (n := 56 - 8 * i) (by omega)
      have hcv : ∀ (n : Nat) K, vconv Tryd.prog 104 5 (.c (.lit (.int .u64 (n : Int)))) K = K (.c (bc (UInt8.ofNat n))) := fun n K => conv_q8 ti_104 ti_5 rfl
      simp -implicitDefEqProofs only [pkA, ptA, ↓reduceIte, Nat.reduceEqDiff, Nat.reduceAdd, Nat.reduceBEq, Nat.reduceMul, Nat.reduceLeDiff, Nat.zero_add, vbin_shr, hwm, hws, hsh, hcv]
      refine ap1 (Or.inr rfl) (by simp only [List.length_append, List.length_cons, List.length_replicate, List.length_take]; omega) ?_
      simp -implicitDefEqProofs only [pkA, ↓reduceIte, Nat.reduceEqDiff, Nat.reduceAdd, Nat.reduceBEq, hwi]
      refine hnorm (i + 1) _ hlt (by omega) (le_hd (by simp only [leOk, List.all_cons, List.all_nil, stV_ltB, zbox_cl (f := bc) (x := (0 : UInt8)), List.length_cons, List.length_nil]; rfl) (Nat.zero_le _) (by simp) ?_ (by simp [BL, bxs]))
      rw [take_snoc (hu8 i hlt)]
      simp [FL, up_apply]
    have hi8 : i = 8 := by have := dge hge; omega
    subst hi8
    simp -implicitDefEqProofs only [pkA]
    refine hexit _ _ ?_
    clear hexit hnorm hret hge hwi hwm hi hu8 R
    rw [List.take_of_length_le (by omega)]
    simp -implicitDefEqProofs only [pkA, ptA, ↓reduceIte, Nat.reduceEqDiff, Nat.reduceAdd, Nat.reduceBEq, Nat.reduceMul, Nat.reduceLT, decide_true, isMb_stV]
    generalize ht : (128 :: (List.replicate k 0 ++ u) : B) = t
    have htl : t.length ≤ 73 := by rw [← ht]; simp only [List.length_cons, List.length_append, List.length_replicate]; omega
    refine st_all hs (by decide) ?_
    simp -implicitDefEqProofs only [pkA, ↓reduceIte, Nat.reduceEqDiff, Nat.reduceAdd, Nat.reduceBEq, c_bs]
    refine call_fn rfl (Add_ok s t hs (by omega)) (fun _ => flat_st _) ?_
    have hS := addB_ok hs t
    generalize addB s t = S at hS
    simp -implicitDefEqProofs only [pkA, ptA, ↓reduceIte, Nat.reduceEqDiff, Nat.reduceAdd, Nat.reduceBEq, Nat.reduceMul, Nat.reduceLT, Nat.zero_add, decide_true, stV_fold, isMb_stV, setV_stV hS (stV_len hs)]
    refine ⟨⟨stC_len hS, by rw [stV_len hs]; exact Nat.le_refl _⟩, ?_⟩
    have hzb : zbox 32 (.c (.lit (.int .u8 0))) = cl bc (List.replicate 32 0) := zbox_cl (f := bc) (x := (0 : UInt8))
    have hol := outL_len S.state
    rw [hS.1] at hol
    have hoa := outL_at S.state
    generalize ho : outL S.state = o at hol hoa
    refine run_loop (fun i : Nat => hdS [(1, .bp 0 0), (2, .bp 1 0), (6, .bp 2 0), (40, i64 i)] [stV S, zbox 32 (.c (.lit (.int .u8 0))), cl bc (fill 0 32 o i)]) (fun i => 32 - i) (fun i => i ≤ 32) 0 (Nat.zero_le _) ?_ ?_
    · refine le_hd (by simp only [leOk, List.all_cons, List.all_nil, stV_ltB, hzb, cl_ltB, List.length_cons, List.length_nil]; rfl) (Nat.zero_le _) (by simp) (by simp [FL, up_apply]) (by simp only [BL, up_apply, bxs, hzb, fill_zero]; exact ⟨rfl, rfl, rfl, trivial⟩)
    rintro i hi R hnorm hexit hret
    have hwi := wrap_of (n := (i : Int) + 1) (k := i + 1) (by omega) (by omega)
    simp -implicitDefEqProofs only [pkA, ↓reduceIte, Nat.reduceEqDiff, Nat.reduceAdd, Nat.reduceBEq, Nat.zero_add]
    refine vcond_of (fun hlt => ?_) (fun hge => ?_)
    · have hlt : i < 32 := by have := dlt hlt; omega
      obtain ⟨w, hw⟩ : ∃ w, S.state[i / 4]? = some w := ⟨S.state[i / 4]'(by rw [hS.1]; omega), List.getElem?_eq_getElem _⟩
      have hx := hoa (i / 4) (i % 4) w hw (by omega)
      rw [show 4 * (i / 4) + i % 4 = i by omega] at hx
      have hq : ∀ K, vint .quo .i64 (i : Int) 4 K = K (i64 ((i / 4 : Nat) : Int)) := fun K => by
        have hd : ((i : Int)).tdiv 4 = ((i / 4 : Nat) : Int) := by rw [Int.tdiv_eq_ediv_of_nonneg (by omega)]; omega
        have hw := wrap_of (n := ((i / 4 : Nat) : Int)) (k := i / 4) rfl (by omega)
        simp only [vint, hd, hw]
        exact propext ⟨fun h => h.2, fun h => ⟨by decide, h⟩⟩
      have hr : ∀ K, vint .rem .i64 (i : Int) 4 K = K (i64 ((i % 4 : Nat) : Int)) := fun K => by
        have hd : ((i : Int)).tmod 4 = ((i % 4 : Nat) : Int) := by rw [Int.tmod_eq_emod_of_nonneg (by omega)]; omega
        have hw := wrap_of (n := ((i % 4 : Nat) : Int)) (k := i % 4) rfl (by omega)
        simp only [vint, hd]
        exact propext ⟨fun h => h.2, fun h => ⟨by decide, h⟩⟩
      have hwm := wrap_of (n := 8 * ((i % 4 : Nat) : Int)) (k := 8 * (i % 4)) (by omega) (by omega)
      have hws := wrap_of (n := 24 - ((8 * (i % 4) : Nat) : Int)) (k := 24 - 8 * (i % 4)) (by omega) (by omega)
      have hsh := fun K => w_shr (K := K) (a := w) (n := 24 - 8 * (i % 4)) (by omega)
      simp -implicitDefEqProofs only [pkA, ptA, ↓reduceIte, Nat.reduceEqDiff, Nat.reduceAdd, Nat.reduceBEq, Nat.zero_add, hq]
      refine ia_cl ti_102 rfl ti_99 rfl rfl (by omega) ?_
      simp -implicitDefEqProofs only [pkA, ptA, ↓reduceIte, Nat.reduceAdd, Nat.reduceBEq, Nat.reduceMul, Nat.reduceLT, Nat.zero_add, decide_true, isMb_stV]
      refine st_word hS (by decide) hw ?_
      simp -implicitDefEqProofs only [pkA, ↓reduceIte, Nat.reduceEqDiff, Nat.reduceAdd, Nat.reduceBEq, c_lo8, vbin_shr, hr, hwm, hws, hsh]
      refine ia_cl ti_109 rfl ti_5 rfl rfl hlt ?_
      simp -implicitDefEqProofs only [pkA, ptA, ↓reduceIte, Nat.reduceEqDiff, Nat.reduceAdd, Nat.reduceBEq, Nat.reduceMul, Nat.reduceLT, Nat.zero_add, decide_true, isMb_cl, cl_len, hwi]
      rw [setV_fill hx hlt]
      refine ⟨by rw [fill_len (by omega) (by omega)]; omega, ?_⟩
      exact hnorm (i + 1) _ hlt (by omega) (le_hd (by simp only [leOk, List.all_cons, List.all_nil, stV_ltB, hzb, cl_ltB, List.length_cons, List.length_nil]; rfl) (Nat.zero_le _) (by simp) (by simp [FL, up_apply]) (by simp [BL, up_apply, bxs]))
    have hi8 : i = 32 := by have := dge hge; omega
    subst hi8
    simp -implicitDefEqProofs only [pkA]
    refine hexit _ _ ?_
    clear hexit hnorm hret hge hwi hi R
    rw [fill_all hol]
    simp -implicitDefEqProofs only [pkA, ptA, ↓reduceIte, Nat.reduceEqDiff, Nat.reduceAdd, Nat.reduceBEq, Nat.reduceMul, Nat.reduceLT, decide_true, isMb_cl]
    refine ldA_cl (by decide) hol ?_
    simp -implicitDefEqProofs only [pkA, ptA, ↓reduceIte, Nat.reduceEqDiff, Nat.reduceAdd, Nat.reduceBEq, Nat.reduceMul, Nat.reduceLT, Nat.reduceLeDiff, Nat.zero_add, decide_true, isMb_zbox, zbox_len]
    rw [setV_zb hol]
    exact ⟨by rw [List.length_map, hol], isMb_cl, ldA_cl (by decide) hol rfl⟩
end Go.Proofs.YtidlohfkfdeaiaaDoor
