/- The statement of KeysIdsOnce. -/
import Derived.Test.YtidlohfkfdeaiaaDoorVlLawF
import Derived.Test.YtidlohfkfdeaiaaDoorVlIp
set_option linter.unusedSimpArgs false
set_option linter.unusedVariables false
namespace Go.Proofs.YtidlohfkfdeaiaaDoor
open Go Go.Vl

/-- An operation on a table. -/
structure Opk where
  kd : Int
  id : Int
  key : Ky
def opC (o : Opk) : List C := ic o.kd :: ic o.id :: kC o.key
def Opk.ok (o : Opk) : Prop := I64 o.kd ∧ I64 o.id ∧ o.key.ok
theorem opC_len (o : Opk) : (opC o).length = 11 := rfl
theorem os_at {os : List Opk} {i : Nat} {o : Opk} (h : os[i]? = some o) : (os.map opC)[i]? = some (opC o) := by rw [List.getElem?_map, h]; rfl
set_option maxRecDepth 100000 in
theorem ia_os {os : List Opk} {kd : IntKind} {n : Int} {i : Nat} {o : Opk} {K : V → Prop} (h : os[i]? = some o) (hn : n = (i : Nat)) (hK : K (.c (.rp (opC o) 0))) : vindexAddr Tryd.prog 65 (.c (.sl (os.map opC))) (.c (.lit (.int kd n))) K := by
  subst hn
  refine ia_of (c := opC o) ti_65 rfl ti_67 (by decide) (Int.natCast_nonneg i) ?_ (by simp [opC_len]) hK
  rw [Int.toNat_natCast]; exact os_at h
set_option maxRecDepth 100000 in
set_option maxHeartbeats 4000000 in
theorem lawIds_ok (os : List Opk) (ho : ∀ o ∈ os, o.ok) : FnOK Tryd.prog gl 9 [.c (.sl (os.map opC))] (bo true) := by
  refine FnOK_by (rs := [.tmp 2]) false [200039, 303900, 200044, 200006, 300601, 200096, 309601, 200098, 309800, 200102, 200011, 301102] mixed Tryd.func9 rfl rfl rfl rfl (by kernel_rfl) (by simp) rfl rfl ?_
  have hset2 : ∀ (Z L : List V), Z.length = 2 → L.length = 2 → setV Z 0 L = L := fun Z L h1 h2 => setV_all (by rw [h1, h2])
  have hset : ∀ (k : Ky) (l : List V), l.length = 9 → setV l 0 ((kC k).map V.c) = (kC k).map V.c := fun k l h => setV_all (by rw [h]; rfl)
  simp -implicitDefEqProofs only [pkA, ptA, ↓reduceIte, Nat.reduceEqDiff, Nat.reduceAdd, Nat.reduceBEq, Nat.reduceMul, Nat.reduceLT, Nat.reduceLeDiff, Nat.zero_add, decide_true, Nat.reduceSub, isMb_cl, isMb_zbox, cl_len, zbox_len, c_w8, c_lo8, wr_add, w_xor, w_and, w_or, w_not, vbin_shl, vbin_shr, vint_mul, List.length_map]
  refine vcond_of (fun hp => ?_) (fun hz => ?_)
  · simp -implicitDefEqProofs only [pkA, ptA, ↓reduceIte, Nat.reduceEqDiff, Nat.reduceAdd, Nat.reduceBEq, Nat.reduceMul, Nat.reduceLT, Nat.reduceLeDiff, Nat.zero_add, decide_true, Nat.reduceSub, isMb_cl, isMb_zbox, cl_len, zbox_len, c_w8, c_lo8, wr_add, w_xor, w_and, w_or, w_not, vbin_shl, vbin_shr, vint_mul]
    refine call_fn rfl sanity_ok (fun _ => rfl) ?_
    simp -implicitDefEqProofs only [pkA, ptA, ↓reduceIte, Nat.reduceEqDiff, Nat.reduceAdd, Nat.reduceBEq, Nat.reduceMul, Nat.reduceLT, Nat.reduceLeDiff, Nat.zero_add, decide_true, Nat.reduceSub, isMb_cl, isMb_zbox, cl_len, zbox_len, c_w8, c_lo8, wr_add, w_xor, w_and, w_or, w_not, vbin_shl, vbin_shr, vint_mul]
  have h40 : os.length ≤ 40 := by have := of_decide_eq_false hz; omega
  simp -implicitDefEqProofs only [pkA, ptA, ↓reduceIte, Nat.reduceEqDiff, Nat.reduceAdd, Nat.reduceBEq, Nat.reduceMul, Nat.reduceLT, Nat.reduceLeDiff, Nat.zero_add, decide_true, Nat.reduceSub, isMb_cl, isMb_zbox, cl_len, zbox_len, c_w8, c_lo8, wr_add, w_xor, w_and, w_or, w_not, vbin_shl, vbin_shr, vint_mul]
  refine call_fn rfl New_ok (fun h => by cases h) ?_
  simp -implicitDefEqProofs only [pkA, ptA, ↓reduceIte, Nat.reduceEqDiff, Nat.reduceAdd, Nat.reduceBEq, Nat.reduceMul, Nat.reduceLT, Nat.reduceLeDiff, Nat.zero_add, decide_true, Nat.reduceSub, isMb_cl, isMb_zbox, cl_len, zbox_len, c_w8, c_lo8, wr_add, w_xor, w_and, w_or, w_not, vbin_shl, vbin_shr, vint_mul, tv, tC, List.map_nil]
  refine run_loop (fun y : Tb × Int × Nat => hdS [(0, .c (.sl (os.map opC))), (3, .bp 0 0), (4, i64 y.2.1), (5, i64 (y.2.2 : Nat))] [[V.c (ic y.1.nx), V.c (.sl (y.1.ks.map kC))]])
    (fun y => os.length - y.2.2) (fun y => validTR y.1 = true ∧ y.1.ok ∧ y.2.1 < y.1.nx ∧ y.1.ks.length ≤ y.2.2 ∧ y.2.2 ≤ os.length) (⟨1, []⟩, 0, 0) ⟨rfl, ⟨⟨by decide, by decide⟩, by simp⟩, by decide, Nat.zero_le _, Nat.zero_le _⟩ ?_ ?_
  · exact le_hd rfl (Nat.zero_le _) (by simp) (by simp [FL, up_apply]) (by simp [BL, up_apply, setV])
  rintro ⟨t, last, i⟩ ⟨hv, ht, hlt, hti, hi⟩ R hnorm hexit hret
  simp only at hv ht hlt hti hi
  have hwi := wrap_of (n := (i : Int) + 1) (k := i + 1) (by omega) (by omega)
  simp -implicitDefEqProofs only [pkA, ptA, ↓reduceIte, Nat.reduceEqDiff, Nat.reduceAdd, Nat.reduceBEq, Nat.reduceMul, Nat.reduceLT, Nat.reduceLeDiff, Nat.zero_add, decide_true, Nat.reduceSub, isMb_cl, isMb_zbox, cl_len, zbox_len, c_w8, c_lo8, wr_add, w_xor, w_and, w_or, w_not, vbin_shl, vbin_shr, vint_mul, List.length_map]
  refine vcond_of (fun hp => ?_) (fun hz => ?_)
  rotate_left
  · have hz : i = os.length := by have := dge hz; omega
    simp -implicitDefEqProofs only [pkA, ptA, ↓reduceIte, Nat.reduceEqDiff, Nat.reduceAdd, Nat.reduceBEq, Nat.reduceMul, Nat.reduceLT, Nat.reduceLeDiff, Nat.zero_add, decide_true, Nat.reduceSub, isMb_cl, isMb_zbox, cl_len, zbox_len, c_w8, c_lo8, wr_add, w_xor, w_and, w_or, w_not, vbin_shl, vbin_shr, vint_mul]
    refine hexit _ _ ?_
    simp -implicitDefEqProofs only [pkA, ptA, ↓reduceIte, Nat.reduceEqDiff, Nat.reduceAdd, Nat.reduceBEq, Nat.reduceMul, Nat.reduceLT, Nat.reduceLeDiff, Nat.zero_add, decide_true, Nat.reduceSub, isMb_cl, isMb_zbox, cl_len, zbox_len, c_w8, c_lo8, wr_add, w_xor, w_and, w_or, w_not, vbin_shl, vbin_shr, vint_mul]
    refine call_fn rfl sanity_ok (fun _ => rfl) ?_
    simp -implicitDefEqProofs only [pkA, ptA, ↓reduceIte, Nat.reduceEqDiff, Nat.reduceAdd, Nat.reduceBEq, Nat.reduceMul, Nat.reduceLT, Nat.reduceLeDiff, Nat.zero_add, decide_true, Nat.reduceSub, isMb_cl, isMb_zbox, cl_len, zbox_len, c_w8, c_lo8, wr_add, w_xor, w_and, w_or, w_not, vbin_shl, vbin_shr, vint_mul]
  have hp : i < os.length := by have := dlt hp; omega
  obtain ⟨o, hoi⟩ : ∃ o, os[i]? = some o := ⟨os[i], List.getElem?_eq_getElem hp⟩
  have hok := ho o (List.mem_of_getElem? hoi)
  have q0 : ∀ K, partV false 1 0 (opC o) K = K (i64 o.kd) := fun K => rfl
  have q1 : ∀ K, partV false 1 (0 + 1) (opC o) K = K (i64 o.id) := fun K => rfl
  have pk : ∀ s K, vload Tryd.prog 26 s (.c (.rp (opC o) (0 + 2))) K = K (kv o.key) := fun s K => ld_part ti_26 rfl (by show 0 + 2 + 9 ≤ 11; decide)
  have hs := sorted_of hv
  have hl6 : t.ks.length ≤ 1000000 := by omega
  simp -implicitDefEqProofs only [pkA, ptA, ↓reduceIte, Nat.reduceEqDiff, Nat.reduceAdd, Nat.reduceBEq, Nat.reduceMul, Nat.reduceLT, Nat.reduceLeDiff, Nat.zero_add, decide_true, Nat.reduceSub, isMb_cl, isMb_zbox, cl_len, zbox_len, c_w8, c_lo8, wr_add, w_xor, w_and, w_or, w_not, vbin_shl, vbin_shr, vint_mul]
  refine ia_os hoi rfl ?_
  simp -implicitDefEqProofs only [pkA, ptA, ↓reduceIte, Nat.reduceEqDiff, Nat.reduceAdd, Nat.reduceBEq, Nat.reduceMul, Nat.reduceLT, Nat.reduceLeDiff, Nat.zero_add, decide_true, Nat.reduceSub, isMb_cl, isMb_zbox, cl_len, zbox_len, c_w8, c_lo8, wr_add, w_xor, w_and, w_or, w_not, vbin_shl, vbin_shr, vint_mul, q1]
  refine ia_os hoi rfl ?_
  simp -implicitDefEqProofs only [pkA, ptA, ↓reduceIte, Nat.reduceEqDiff, Nat.reduceAdd, Nat.reduceBEq, Nat.reduceMul, Nat.reduceLT, Nat.reduceLeDiff, Nat.zero_add, decide_true, Nat.reduceSub, isMb_cl, isMb_zbox, cl_len, zbox_len, c_w8, c_lo8, wr_add, w_xor, w_and, w_or, w_not, vbin_shl, vbin_shr, vint_mul, q0]
  have hfin : ∀ s', S.Le (extK [200039, 303900, 200044, 200006, 300601, 200096, 309601, 200098, 309800, 200102, 200011, 301102]) (hdS [(0, .c (.sl (os.map opC))), (3, .bp 0 0), (4, i64 last), (5, i64 ((i + 1 : Nat) : Int))] [[V.c (ic t.nx), V.c (.sl (t.ks.map kC))]]) s' → R .normal s' := fun s' h => hnorm (t, last, i + 1) s' ⟨hv, ht, hlt, by simp only; omega, hp⟩ (show os.length - (i + 1) < os.length - i by omega) h
  cases d1 : decide (o.kd = 1)
  case true =>
    simp -implicitDefEqProofs only [pkA, ptA, ↓reduceIte, Nat.reduceEqDiff, Nat.reduceAdd, Nat.reduceBEq, Nat.reduceMul, Nat.reduceLT, Nat.reduceLeDiff, Nat.zero_add, decide_true, Nat.reduceSub, isMb_cl, isMb_zbox, cl_len, zbox_len, c_w8, c_lo8, wr_add, w_xor, w_and, w_or, w_not, vbin_shl, vbin_shr, vint_mul]
    refine ia_os hoi rfl ?_
    simp -implicitDefEqProofs only [pkA, ptA, ↓reduceIte, Nat.reduceEqDiff, Nat.reduceAdd, Nat.reduceBEq, Nat.reduceMul, Nat.reduceLT, Nat.reduceLeDiff, Nat.zero_add, decide_true, Nat.reduceSub, isMb_cl, isMb_zbox, cl_len, zbox_len, c_w8, c_lo8, wr_add, w_xor, w_and, w_or, w_not, vbin_shl, vbin_shr, vint_mul, pk]
    refine call_fn («as» := [tv t, kv o.key]) rfl (Add_ok27 (G := gl) t o.key hl6 ht.1) (fun h => by cases h) ?_
    have hA := add_after hv ht hok.2.2 (by omega : t.ks.length ≤ 4095)
    generalize addT t o.key = ad at *
    simp -implicitDefEqProofs only [pkA, ptA, ↓reduceIte, Nat.reduceEqDiff, Nat.reduceAdd, Nat.reduceBEq, Nat.reduceMul, Nat.reduceLT, Nat.reduceLeDiff, Nat.zero_add, decide_true, Nat.reduceSub, isMb_cl, isMb_zbox, cl_len, zbox_len, c_w8, c_lo8, wr_add, w_xor, w_and, w_or, w_not, vbin_shl, vbin_shr, vint_mul]
    rw [hset2 _ _ rfl rfl]
    cases e0 : decide (ad.2.2 = 0)
    · simp -implicitDefEqProofs only [pkA, ptA, ↓reduceIte, Nat.reduceEqDiff, Nat.reduceAdd, Nat.reduceBEq, Nat.reduceMul, Nat.reduceLT, Nat.reduceLeDiff, Nat.zero_add, decide_true, Nat.reduceSub, isMb_cl, isMb_zbox, cl_len, zbox_len, c_w8, c_lo8, wr_add, w_xor, w_and, w_or, w_not, vbin_shl, vbin_shr, vint_mul, hwi, e0]
      exact hfin _ (le_hd rfl (Nat.zero_le _) (by simp) (by simp [FL, up_apply]) (by simp [BL, up_apply, bxs]))
    obtain ⟨aft, hid, hnx⟩ := hA (of_decide_eq_true e0)
    have dl : decide (ad.2.1 ≤ last) = false := decide_eq_false (by omega)
    simp -implicitDefEqProofs only [pkA, ptA, ↓reduceIte, Nat.reduceEqDiff, Nat.reduceAdd, Nat.reduceBEq, Nat.reduceMul, Nat.reduceLT, Nat.reduceLeDiff, Nat.zero_add, decide_true, Nat.reduceSub, isMb_cl, isMb_zbox, cl_len, zbox_len, c_w8, c_lo8, wr_add, w_xor, w_and, w_or, w_not, vbin_shl, vbin_shr, vint_mul, dl, e0]
    refine ia_os hoi rfl ?_
    simp -implicitDefEqProofs only [pkA, ptA, ↓reduceIte, Nat.reduceEqDiff, Nat.reduceAdd, Nat.reduceBEq, Nat.reduceMul, Nat.reduceLT, Nat.reduceLeDiff, Nat.zero_add, decide_true, Nat.reduceSub, isMb_cl, isMb_zbox, cl_len, zbox_len, c_w8, c_lo8, wr_add, w_xor, w_and, w_or, w_not, vbin_shl, vbin_shr, vint_mul, q0, d1]
    obtain ⟨la, hla⟩ : ∃ la, la = ad.2.1 := ⟨_, rfl⟩
    have hln : la < ad.1.nx := by omega
    have hlam : i64 ad.2.1 = i64 la := by rw [hla]
    generalize ad.1 = u at *
    generalize ad.2.1 = x at *
    clear e0 hid hnx hA
    have hul : u.ks.length ≤ 1000000 := by have := aft.len; omega
    refine run_loop (fun k : Nat => hdS [(0, .c (.sl (os.map opC))), (3, .bp 0 0), (4, i64 la), (5, i64 (i : Nat)), (6, .bp 1 0), (8, i64 x), (10, i64 (k : Nat))] [[V.c (ic t.nx), V.c (.sl (t.ks.map kC))], [V.c (ic u.nx), V.c (.sl (u.ks.map kC))]])
      (fun k => t.ks.length - k) (fun k => k ≤ t.ks.length) 0 (Nat.zero_le _) ?_ ?_
    · exact le_hd rfl (Nat.zero_le _) (by simp) (by simp [FL, up_apply, hlam]) (by simp [BL, up_apply, bxs, setV])
    rintro k hk R2 hnorm2 hexit2 hret2
    have hwk := wrap_of (n := (k : Int) + 1) (k := k + 1) (by omega) (by omega)
    simp -implicitDefEqProofs only [pkA, ptA, ↓reduceIte, Nat.reduceEqDiff, Nat.reduceAdd, Nat.reduceBEq, Nat.reduceMul, Nat.reduceLT, Nat.reduceLeDiff, Nat.zero_add, decide_true, Nat.reduceSub, isMb_cl, isMb_zbox, cl_len, zbox_len, c_w8, c_lo8, wr_add, w_xor, w_and, w_or, w_not, vbin_shl, vbin_shr, vint_mul, List.length_map]
    refine vcond_of (fun hp2 => ?_) (fun hz2 => ?_)
    · have hp2 : k < t.ks.length := by have := dlt hp2; omega
      obtain ⟨a, ha⟩ : ∃ a, t.ks[k]? = some a := ⟨t.ks[k], List.getElem?_eq_getElem hp2⟩
      have pa : ∀ s K, vload Tryd.prog 26 s (.c (.rp (kC a) 0)) K = K (kv a) := fun s K => ld_all ti_26 rfl (kC_len a)
      have p0 : ∀ K, partV false 1 0 (kC a) K = K (i64 a.id) := fun K => rfl
      simp -implicitDefEqProofs only [pkA, ptA, ↓reduceIte, Nat.reduceEqDiff, Nat.reduceAdd, Nat.reduceBEq, Nat.reduceMul, Nat.reduceLT, Nat.reduceLeDiff, Nat.zero_add, decide_true, Nat.reduceSub, isMb_cl, isMb_zbox, cl_len, zbox_len, c_w8, c_lo8, wr_add, w_xor, w_and, w_or, w_not, vbin_shl, vbin_shr, vint_mul]
      refine ia_ks ha rfl ?_
      simp -implicitDefEqProofs only [pkA, ptA, ↓reduceIte, Nat.reduceEqDiff, Nat.reduceAdd, Nat.reduceBEq, Nat.reduceMul, Nat.reduceLT, Nat.reduceLeDiff, Nat.zero_add, decide_true, Nat.reduceSub, isMb_cl, isMb_zbox, cl_len, zbox_len, c_w8, c_lo8, wr_add, w_xor, w_and, w_or, w_not, vbin_shl, vbin_shr, vint_mul, p0]
      refine call_fn («as» := [tv u, i64 a.id]) rfl (Get_ok (G := gl) u a.id (sorted_of aft.val) hul) (fun h => by cases h) ?_
      simp -implicitDefEqProofs only [pkA, ptA, ↓reduceIte, Nat.reduceEqDiff, Nat.reduceAdd, Nat.reduceBEq, Nat.reduceMul, Nat.reduceLT, Nat.reduceLeDiff, Nat.zero_add, decide_true, Nat.reduceSub, isMb_cl, isMb_zbox, cl_len, zbox_len, c_w8, c_lo8, wr_add, w_xor, w_and, w_or, w_not, vbin_shl, vbin_shr, vint_mul]
      refine ⟨kC_len _, ?_⟩
      rw [hset _ _ rfl]
      refine ia_ks ha rfl ?_
      simp -implicitDefEqProofs only [pkA, ptA, ↓reduceIte, Nat.reduceEqDiff, Nat.reduceAdd, Nat.reduceBEq, Nat.reduceMul, Nat.reduceLT, Nat.reduceLeDiff, Nat.zero_add, decide_true, Nat.reduceSub, isMb_cl, isMb_zbox, cl_len, zbox_len, c_w8, c_lo8, wr_add, w_xor, w_and, w_or, w_not, vbin_shl, vbin_shr, vint_mul, p0]
      cases dx : decide (a.id = x)
      case true =>
        simp -implicitDefEqProofs only [pkA, ptA, ↓reduceIte, Nat.reduceEqDiff, Nat.reduceAdd, Nat.reduceBEq, Nat.reduceMul, Nat.reduceLT, Nat.reduceLeDiff, Nat.zero_add, decide_true, Nat.reduceSub, isMb_cl, isMb_zbox, cl_len, zbox_len, c_w8, c_lo8, wr_add, w_xor, w_and, w_or, w_not, vbin_shl, vbin_shr, vint_mul, hwk]
        exact hnorm2 (k + 1) _ hp2 (show t.ks.length - (k + 1) < t.ks.length - k by omega) (le_hd rfl (Nat.zero_le _) (by simp) (by simp [FL, up_apply]) (by simp [BL, up_apply, bxs]))
      have hg := aft.get a (List.mem_of_getElem? ha) (of_decide_eq_false dx)
      have d00 : (!decide ((0 : Int) = 0)) = false := rfl
      rw [hg]
      simp -implicitDefEqProofs only [pkA, ptA, ↓reduceIte, Nat.reduceEqDiff, Nat.reduceAdd, Nat.reduceBEq, Nat.reduceMul, Nat.reduceLT, Nat.reduceLeDiff, Nat.zero_add, decide_true, Nat.reduceSub, isMb_cl, isMb_zbox, cl_len, zbox_len, c_w8, c_lo8, wr_add, w_xor, w_and, w_or, w_not, vbin_shl, vbin_shr, vint_mul, d00]
      refine lda_kv (show 2 < 3 by decide) ?_
      simp -implicitDefEqProofs only [pkA, ptA, ↓reduceIte, Nat.reduceEqDiff, Nat.reduceAdd, Nat.reduceBEq, Nat.reduceMul, Nat.reduceLT, Nat.reduceLeDiff, Nat.zero_add, decide_true, Nat.reduceSub, isMb_cl, isMb_zbox, cl_len, zbox_len, c_w8, c_lo8, wr_add, w_xor, w_and, w_or, w_not, vbin_shl, vbin_shr, vint_mul]
      refine ia_ks ha rfl ?_
      simp -implicitDefEqProofs only [pkA, ptA, ↓reduceIte, Nat.reduceEqDiff, Nat.reduceAdd, Nat.reduceBEq, Nat.reduceMul, Nat.reduceLT, Nat.reduceLeDiff, Nat.zero_add, decide_true, Nat.reduceSub, isMb_cl, isMb_zbox, cl_len, zbox_len, c_w8, c_lo8, wr_add, w_xor, w_and, w_or, w_not, vbin_shl, vbin_shr, vint_mul, pa]
      rw [b_ne]
      simp -implicitDefEqProofs only [pkA, ptA, ↓reduceIte, Nat.reduceEqDiff, Nat.reduceAdd, Nat.reduceBEq, Nat.reduceMul, Nat.reduceLT, Nat.reduceLeDiff, Nat.zero_add, decide_true, Nat.reduceSub, isMb_cl, isMb_zbox, cl_len, zbox_len, c_w8, c_lo8, wr_add, w_xor, w_and, w_or, w_not, vbin_shl, vbin_shr, vint_mul, hwk]
      exact hnorm2 (k + 1) _ hp2 (show t.ks.length - (k + 1) < t.ks.length - k by omega) (le_hd rfl (Nat.zero_le _) (by simp) (by simp [FL, up_apply]) (by simp [BL, up_apply, bxs]))
    simp -implicitDefEqProofs only [pkA, ptA, ↓reduceIte, Nat.reduceEqDiff, Nat.reduceAdd, Nat.reduceBEq, Nat.reduceMul, Nat.reduceLT, Nat.reduceLeDiff, Nat.zero_add, decide_true, Nat.reduceSub, isMb_cl, isMb_zbox, cl_len, zbox_len, c_w8, c_lo8, wr_add, w_xor, w_and, w_or, w_not, vbin_shl, vbin_shr, vint_mul]
    refine hexit2 _ _ ?_
    simp -implicitDefEqProofs only [pkA, ptA, ↓reduceIte, Nat.reduceEqDiff, Nat.reduceAdd, Nat.reduceBEq, Nat.reduceMul, Nat.reduceLT, Nat.reduceLeDiff, Nat.zero_add, decide_true, Nat.reduceSub, isMb_cl, isMb_zbox, cl_len, zbox_len, c_w8, c_lo8, wr_add, w_xor, w_and, w_or, w_not, vbin_shl, vbin_shr, vint_mul]
    refine call_fn («as» := [tv u]) rfl (rValidT_ok (G := gl) u (by omega) aft.ok) (fun _ => rfl) ?_
    rw [aft.val]
    have dn : decide (u.nx ≤ la) = false := decide_eq_false (by omega)
    simp -implicitDefEqProofs only [pkA, ptA, ↓reduceIte, Nat.reduceEqDiff, Nat.reduceAdd, Nat.reduceBEq, Nat.reduceMul, Nat.reduceLT, Nat.reduceLeDiff, Nat.zero_add, decide_true, Nat.reduceSub, isMb_cl, isMb_zbox, cl_len, zbox_len, c_w8, c_lo8, wr_add, w_xor, w_and, w_or, w_not, vbin_shl, vbin_shr, vint_mul, dn, hwi]
    exact hnorm (u, la, i + 1) _ ⟨aft.val, aft.ok, hln, by have := aft.len; simp only; omega, hp⟩ (show os.length - (i + 1) < os.length - i by omega) (le_hd rfl (Nat.zero_le _) (by simp) (by simp [FL, up_apply]) (by simp [BL, up_apply, bxs, setV]))
  cases d2 : decide (o.kd = 2)
  case true =>
    simp -implicitDefEqProofs only [pkA, ptA, ↓reduceIte, Nat.reduceEqDiff, Nat.reduceAdd, Nat.reduceBEq, Nat.reduceMul, Nat.reduceLT, Nat.reduceLeDiff, Nat.zero_add, decide_true, Nat.reduceSub, isMb_cl, isMb_zbox, cl_len, zbox_len, c_w8, c_lo8, wr_add, w_xor, w_and, w_or, w_not, vbin_shl, vbin_shr, vint_mul, d2]
    refine call_fn («as» := [tv t, i64 o.id]) rfl (Remove_ok (G := gl) t o.id hs hl6) (fun h => by cases h) ?_
    have hA := rem_after (x := o.id) hv ht
    generalize remT t o.id = ad at *
    simp -implicitDefEqProofs only [pkA, ptA, ↓reduceIte, Nat.reduceEqDiff, Nat.reduceAdd, Nat.reduceBEq, Nat.reduceMul, Nat.reduceLT, Nat.reduceLeDiff, Nat.zero_add, decide_true, Nat.reduceSub, isMb_cl, isMb_zbox, cl_len, zbox_len, c_w8, c_lo8, wr_add, w_xor, w_and, w_or, w_not, vbin_shl, vbin_shr, vint_mul]
    rw [hset2 _ _ rfl rfl]
    cases e0 : decide (ad.2 = 0)
    · simp -implicitDefEqProofs only [pkA, ptA, ↓reduceIte, Nat.reduceEqDiff, Nat.reduceAdd, Nat.reduceBEq, Nat.reduceMul, Nat.reduceLT, Nat.reduceLeDiff, Nat.zero_add, decide_true, Nat.reduceSub, isMb_cl, isMb_zbox, cl_len, zbox_len, c_w8, c_lo8, wr_add, w_xor, w_and, w_or, w_not, vbin_shl, vbin_shr, vint_mul, hwi, e0]
      exact hfin _ (le_hd rfl (Nat.zero_le _) (by simp) (by simp [FL, up_apply]) (by simp [BL, up_apply, bxs]))
    obtain ⟨aft, hnx⟩ := hA (of_decide_eq_true e0)
    simp -implicitDefEqProofs only [pkA, ptA, ↓reduceIte, Nat.reduceEqDiff, Nat.reduceAdd, Nat.reduceBEq, Nat.reduceMul, Nat.reduceLT, Nat.reduceLeDiff, Nat.zero_add, decide_true, Nat.reduceSub, isMb_cl, isMb_zbox, cl_len, zbox_len, c_w8, c_lo8, wr_add, w_xor, w_and, w_or, w_not, vbin_shl, vbin_shr, vint_mul, e0]
    refine ia_os hoi rfl ?_
    simp -implicitDefEqProofs only [pkA, ptA, ↓reduceIte, Nat.reduceEqDiff, Nat.reduceAdd, Nat.reduceBEq, Nat.reduceMul, Nat.reduceLT, Nat.reduceLeDiff, Nat.zero_add, decide_true, Nat.reduceSub, isMb_cl, isMb_zbox, cl_len, zbox_len, c_w8, c_lo8, wr_add, w_xor, w_and, w_or, w_not, vbin_shl, vbin_shr, vint_mul, q0, d1]
    obtain ⟨la, hla⟩ : ∃ la, la = last := ⟨_, rfl⟩
    have hln : la < ad.1.nx := by omega
    have hlam : i64 last = i64 la := by rw [hla]
    generalize ad.1 = u at *
    generalize o.id = x at *
    clear e0 hnx hA
    have hul : u.ks.length ≤ 1000000 := by have := aft.len; omega
    refine run_loop (fun k : Nat => hdS [(0, .c (.sl (os.map opC))), (3, .bp 0 0), (4, i64 la), (5, i64 (i : Nat)), (6, .bp 1 0), (8, i64 x), (10, i64 (k : Nat))] [[V.c (ic t.nx), V.c (.sl (t.ks.map kC))], [V.c (ic u.nx), V.c (.sl (u.ks.map kC))]])
      (fun k => t.ks.length - k) (fun k => k ≤ t.ks.length) 0 (Nat.zero_le _) ?_ ?_
    · exact le_hd rfl (Nat.zero_le _) (by simp) (by simp [FL, up_apply, hlam]) (by simp [BL, up_apply, bxs, setV])
    rintro k hk R2 hnorm2 hexit2 hret2
    have hwk := wrap_of (n := (k : Int) + 1) (k := k + 1) (by omega) (by omega)
    simp -implicitDefEqProofs only [pkA, ptA, ↓reduceIte, Nat.reduceEqDiff, Nat.reduceAdd, Nat.reduceBEq, Nat.reduceMul, Nat.reduceLT, Nat.reduceLeDiff, Nat.zero_add, decide_true, Nat.reduceSub, isMb_cl, isMb_zbox, cl_len, zbox_len, c_w8, c_lo8, wr_add, w_xor, w_and, w_or, w_not, vbin_shl, vbin_shr, vint_mul, List.length_map]
    refine vcond_of (fun hp2 => ?_) (fun hz2 => ?_)
    · have hp2 : k < t.ks.length := by have := dlt hp2; omega
      obtain ⟨a, ha⟩ : ∃ a, t.ks[k]? = some a := ⟨t.ks[k], List.getElem?_eq_getElem hp2⟩
      have pa : ∀ s K, vload Tryd.prog 26 s (.c (.rp (kC a) 0)) K = K (kv a) := fun s K => ld_all ti_26 rfl (kC_len a)
      have p0 : ∀ K, partV false 1 0 (kC a) K = K (i64 a.id) := fun K => rfl
      simp -implicitDefEqProofs only [pkA, ptA, ↓reduceIte, Nat.reduceEqDiff, Nat.reduceAdd, Nat.reduceBEq, Nat.reduceMul, Nat.reduceLT, Nat.reduceLeDiff, Nat.zero_add, decide_true, Nat.reduceSub, isMb_cl, isMb_zbox, cl_len, zbox_len, c_w8, c_lo8, wr_add, w_xor, w_and, w_or, w_not, vbin_shl, vbin_shr, vint_mul]
      refine ia_ks ha rfl ?_
      simp -implicitDefEqProofs only [pkA, ptA, ↓reduceIte, Nat.reduceEqDiff, Nat.reduceAdd, Nat.reduceBEq, Nat.reduceMul, Nat.reduceLT, Nat.reduceLeDiff, Nat.zero_add, decide_true, Nat.reduceSub, isMb_cl, isMb_zbox, cl_len, zbox_len, c_w8, c_lo8, wr_add, w_xor, w_and, w_or, w_not, vbin_shl, vbin_shr, vint_mul, p0]
      refine call_fn («as» := [tv u, i64 a.id]) rfl (Get_ok (G := gl) u a.id (sorted_of aft.val) hul) (fun h => by cases h) ?_
      simp -implicitDefEqProofs only [pkA, ptA, ↓reduceIte, Nat.reduceEqDiff, Nat.reduceAdd, Nat.reduceBEq, Nat.reduceMul, Nat.reduceLT, Nat.reduceLeDiff, Nat.zero_add, decide_true, Nat.reduceSub, isMb_cl, isMb_zbox, cl_len, zbox_len, c_w8, c_lo8, wr_add, w_xor, w_and, w_or, w_not, vbin_shl, vbin_shr, vint_mul]
      refine ⟨kC_len _, ?_⟩
      rw [hset _ _ rfl]
      refine ia_ks ha rfl ?_
      simp -implicitDefEqProofs only [pkA, ptA, ↓reduceIte, Nat.reduceEqDiff, Nat.reduceAdd, Nat.reduceBEq, Nat.reduceMul, Nat.reduceLT, Nat.reduceLeDiff, Nat.zero_add, decide_true, Nat.reduceSub, isMb_cl, isMb_zbox, cl_len, zbox_len, c_w8, c_lo8, wr_add, w_xor, w_and, w_or, w_not, vbin_shl, vbin_shr, vint_mul, p0]
      cases dx : decide (a.id = x)
      case true =>
        simp -implicitDefEqProofs only [pkA, ptA, ↓reduceIte, Nat.reduceEqDiff, Nat.reduceAdd, Nat.reduceBEq, Nat.reduceMul, Nat.reduceLT, Nat.reduceLeDiff, Nat.zero_add, decide_true, Nat.reduceSub, isMb_cl, isMb_zbox, cl_len, zbox_len, c_w8, c_lo8, wr_add, w_xor, w_and, w_or, w_not, vbin_shl, vbin_shr, vint_mul, hwk]
        exact hnorm2 (k + 1) _ hp2 (show t.ks.length - (k + 1) < t.ks.length - k by omega) (le_hd rfl (Nat.zero_le _) (by simp) (by simp [FL, up_apply]) (by simp [BL, up_apply, bxs]))
      have hg := aft.get a (List.mem_of_getElem? ha) (of_decide_eq_false dx)
      have d00 : (!decide ((0 : Int) = 0)) = false := rfl
      rw [hg]
      simp -implicitDefEqProofs only [pkA, ptA, ↓reduceIte, Nat.reduceEqDiff, Nat.reduceAdd, Nat.reduceBEq, Nat.reduceMul, Nat.reduceLT, Nat.reduceLeDiff, Nat.zero_add, decide_true, Nat.reduceSub, isMb_cl, isMb_zbox, cl_len, zbox_len, c_w8, c_lo8, wr_add, w_xor, w_and, w_or, w_not, vbin_shl, vbin_shr, vint_mul, d00]
      refine lda_kv (show 2 < 3 by decide) ?_
      simp -implicitDefEqProofs only [pkA, ptA, ↓reduceIte, Nat.reduceEqDiff, Nat.reduceAdd, Nat.reduceBEq, Nat.reduceMul, Nat.reduceLT, Nat.reduceLeDiff, Nat.zero_add, decide_true, Nat.reduceSub, isMb_cl, isMb_zbox, cl_len, zbox_len, c_w8, c_lo8, wr_add, w_xor, w_and, w_or, w_not, vbin_shl, vbin_shr, vint_mul]
      refine ia_ks ha rfl ?_
      simp -implicitDefEqProofs only [pkA, ptA, ↓reduceIte, Nat.reduceEqDiff, Nat.reduceAdd, Nat.reduceBEq, Nat.reduceMul, Nat.reduceLT, Nat.reduceLeDiff, Nat.zero_add, decide_true, Nat.reduceSub, isMb_cl, isMb_zbox, cl_len, zbox_len, c_w8, c_lo8, wr_add, w_xor, w_and, w_or, w_not, vbin_shl, vbin_shr, vint_mul, pa]
      rw [b_ne]
      simp -implicitDefEqProofs only [pkA, ptA, ↓reduceIte, Nat.reduceEqDiff, Nat.reduceAdd, Nat.reduceBEq, Nat.reduceMul, Nat.reduceLT, Nat.reduceLeDiff, Nat.zero_add, decide_true, Nat.reduceSub, isMb_cl, isMb_zbox, cl_len, zbox_len, c_w8, c_lo8, wr_add, w_xor, w_and, w_or, w_not, vbin_shl, vbin_shr, vint_mul, hwk]
      exact hnorm2 (k + 1) _ hp2 (show t.ks.length - (k + 1) < t.ks.length - k by omega) (le_hd rfl (Nat.zero_le _) (by simp) (by simp [FL, up_apply]) (by simp [BL, up_apply, bxs]))
    simp -implicitDefEqProofs only [pkA, ptA, ↓reduceIte, Nat.reduceEqDiff, Nat.reduceAdd, Nat.reduceBEq, Nat.reduceMul, Nat.reduceLT, Nat.reduceLeDiff, Nat.zero_add, decide_true, Nat.reduceSub, isMb_cl, isMb_zbox, cl_len, zbox_len, c_w8, c_lo8, wr_add, w_xor, w_and, w_or, w_not, vbin_shl, vbin_shr, vint_mul]
    refine hexit2 _ _ ?_
    simp -implicitDefEqProofs only [pkA, ptA, ↓reduceIte, Nat.reduceEqDiff, Nat.reduceAdd, Nat.reduceBEq, Nat.reduceMul, Nat.reduceLT, Nat.reduceLeDiff, Nat.zero_add, decide_true, Nat.reduceSub, isMb_cl, isMb_zbox, cl_len, zbox_len, c_w8, c_lo8, wr_add, w_xor, w_and, w_or, w_not, vbin_shl, vbin_shr, vint_mul]
    refine call_fn («as» := [tv u]) rfl (rValidT_ok (G := gl) u (by omega) aft.ok) (fun _ => rfl) ?_
    rw [aft.val]
    have dn : decide (u.nx ≤ la) = false := decide_eq_false (by omega)
    simp -implicitDefEqProofs only [pkA, ptA, ↓reduceIte, Nat.reduceEqDiff, Nat.reduceAdd, Nat.reduceBEq, Nat.reduceMul, Nat.reduceLT, Nat.reduceLeDiff, Nat.zero_add, decide_true, Nat.reduceSub, isMb_cl, isMb_zbox, cl_len, zbox_len, c_w8, c_lo8, wr_add, w_xor, w_and, w_or, w_not, vbin_shl, vbin_shr, vint_mul, dn, hwi]
    exact hnorm (u, la, i + 1) _ ⟨aft.val, aft.ok, hln, by have := aft.len; simp only; omega, hp⟩ (show os.length - (i + 1) < os.length - i by omega) (le_hd rfl (Nat.zero_le _) (by simp) (by simp [FL, up_apply]) (by simp [BL, up_apply, bxs, setV]))
  cases d3 : decide (o.kd = 3)
  case true =>
    simp -implicitDefEqProofs only [pkA, ptA, ↓reduceIte, Nat.reduceEqDiff, Nat.reduceAdd, Nat.reduceBEq, Nat.reduceMul, Nat.reduceLT, Nat.reduceLeDiff, Nat.zero_add, decide_true, Nat.reduceSub, isMb_cl, isMb_zbox, cl_len, zbox_len, c_w8, c_lo8, wr_add, w_xor, w_and, w_or, w_not, vbin_shl, vbin_shr, vint_mul, d2, d3]
    refine ia_os hoi rfl ?_
    simp -implicitDefEqProofs only [pkA, ptA, ↓reduceIte, Nat.reduceEqDiff, Nat.reduceAdd, Nat.reduceBEq, Nat.reduceMul, Nat.reduceLT, Nat.reduceLeDiff, Nat.zero_add, decide_true, Nat.reduceSub, isMb_cl, isMb_zbox, cl_len, zbox_len, c_w8, c_lo8, wr_add, w_xor, w_and, w_or, w_not, vbin_shl, vbin_shr, vint_mul, pk]
    refine ⟨kC_len o.key, ?_⟩
    rw [hset _ _ rfl]
    have s0 : setV ((kC o.key).map V.c) 0 [V.c (ic o.id)] = (kC { o.key with id := o.id }).map V.c := rfl
    simp -implicitDefEqProofs only [pkA, ptA, ↓reduceIte, Nat.reduceEqDiff, Nat.reduceAdd, Nat.reduceBEq, Nat.reduceMul, Nat.reduceLT, Nat.reduceLeDiff, Nat.zero_add, decide_true, Nat.reduceSub, isMb_cl, isMb_zbox, cl_len, zbox_len, c_w8, c_lo8, wr_add, w_xor, w_and, w_or, w_not, vbin_shl, vbin_shr, vint_mul, isMb_kv, s0]
    refine ⟨by rw [List.length_map, kC_len]; decide, ?_⟩
    have hok' : ({ o.key with id := o.id } : Ky).ok := ⟨hok.2.1, hok.2.2.2⟩
    have hid' : ({ o.key with id := o.id } : Ky).id = o.id := rfl
    generalize ({ o.key with id := o.id } : Ky) = kk at *
    refine lda_kv (show 2 < 3 by decide) ?_
    simp -implicitDefEqProofs only [pkA, ptA, ↓reduceIte, Nat.reduceEqDiff, Nat.reduceAdd, Nat.reduceBEq, Nat.reduceMul, Nat.reduceLT, Nat.reduceLeDiff, Nat.zero_add, decide_true, Nat.reduceSub, isMb_cl, isMb_zbox, cl_len, zbox_len, c_w8, c_lo8, wr_add, w_xor, w_and, w_or, w_not, vbin_shl, vbin_shr, vint_mul, isMb_kv]
    refine call_fn («as» := [tv t, kv kk]) rfl (Put_ok (G := gl) t kk hs hl6) (fun h => by cases h) ?_
    have hA := put_after (k := kk) hv ht hok'
    rw [hid'] at hA
    generalize putT t kk = ad at *
    simp -implicitDefEqProofs only [pkA, ptA, ↓reduceIte, Nat.reduceEqDiff, Nat.reduceAdd, Nat.reduceBEq, Nat.reduceMul, Nat.reduceLT, Nat.reduceLeDiff, Nat.zero_add, decide_true, Nat.reduceSub, isMb_cl, isMb_zbox, cl_len, zbox_len, c_w8, c_lo8, wr_add, w_xor, w_and, w_or, w_not, vbin_shl, vbin_shr, vint_mul]
    rw [hset2 _ _ rfl rfl]
    cases e0 : decide (ad.2 = 0)
    · simp -implicitDefEqProofs only [pkA, ptA, ↓reduceIte, Nat.reduceEqDiff, Nat.reduceAdd, Nat.reduceBEq, Nat.reduceMul, Nat.reduceLT, Nat.reduceLeDiff, Nat.zero_add, decide_true, Nat.reduceSub, isMb_cl, isMb_zbox, cl_len, zbox_len, c_w8, c_lo8, wr_add, w_xor, w_and, w_or, w_not, vbin_shl, vbin_shr, vint_mul, hwi, e0]
      exact hfin _ (le_hd rfl (Nat.zero_le _) (by simp) (by simp [FL, up_apply]) (by simp [BL, up_apply, bxs]))
    obtain ⟨aft, hnx⟩ := hA (of_decide_eq_true e0)
    simp -implicitDefEqProofs only [pkA, ptA, ↓reduceIte, Nat.reduceEqDiff, Nat.reduceAdd, Nat.reduceBEq, Nat.reduceMul, Nat.reduceLT, Nat.reduceLeDiff, Nat.zero_add, decide_true, Nat.reduceSub, isMb_cl, isMb_zbox, cl_len, zbox_len, c_w8, c_lo8, wr_add, w_xor, w_and, w_or, w_not, vbin_shl, vbin_shr, vint_mul, e0]
    refine ia_os hoi rfl ?_
    simp -implicitDefEqProofs only [pkA, ptA, ↓reduceIte, Nat.reduceEqDiff, Nat.reduceAdd, Nat.reduceBEq, Nat.reduceMul, Nat.reduceLT, Nat.reduceLeDiff, Nat.zero_add, decide_true, Nat.reduceSub, isMb_cl, isMb_zbox, cl_len, zbox_len, c_w8, c_lo8, wr_add, w_xor, w_and, w_or, w_not, vbin_shl, vbin_shr, vint_mul, q0, d1]
    obtain ⟨la, hla⟩ : ∃ la, la = last := ⟨_, rfl⟩
    have hln : la < ad.1.nx := by omega
    have hlam : i64 last = i64 la := by rw [hla]
    generalize ad.1 = u at *
    generalize o.id = x at *
    clear e0 hnx hA
    have hul : u.ks.length ≤ 1000000 := by have := aft.len; omega
    refine run_loop (fun k : Nat => hdS [(0, .c (.sl (os.map opC))), (3, .bp 0 0), (4, i64 la), (5, i64 (i : Nat)), (6, .bp 1 0), (8, i64 x), (10, i64 (k : Nat))] [[V.c (ic t.nx), V.c (.sl (t.ks.map kC))], [V.c (ic u.nx), V.c (.sl (u.ks.map kC))]])
      (fun k => t.ks.length - k) (fun k => k ≤ t.ks.length) 0 (Nat.zero_le _) ?_ ?_
    · exact le_hd rfl (Nat.zero_le _) (by simp) (by simp [FL, up_apply, hlam]) (by simp [BL, up_apply, bxs, setV])
    rintro k hk R2 hnorm2 hexit2 hret2
    have hwk := wrap_of (n := (k : Int) + 1) (k := k + 1) (by omega) (by omega)
    simp -implicitDefEqProofs only [pkA, ptA, ↓reduceIte, Nat.reduceEqDiff, Nat.reduceAdd, Nat.reduceBEq, Nat.reduceMul, Nat.reduceLT, Nat.reduceLeDiff, Nat.zero_add, decide_true, Nat.reduceSub, isMb_cl, isMb_zbox, cl_len, zbox_len, c_w8, c_lo8, wr_add, w_xor, w_and, w_or, w_not, vbin_shl, vbin_shr, vint_mul, List.length_map]
    refine vcond_of (fun hp2 => ?_) (fun hz2 => ?_)
    · have hp2 : k < t.ks.length := by have := dlt hp2; omega
      obtain ⟨a, ha⟩ : ∃ a, t.ks[k]? = some a := ⟨t.ks[k], List.getElem?_eq_getElem hp2⟩
      have pa : ∀ s K, vload Tryd.prog 26 s (.c (.rp (kC a) 0)) K = K (kv a) := fun s K => ld_all ti_26 rfl (kC_len a)
      have p0 : ∀ K, partV false 1 0 (kC a) K = K (i64 a.id) := fun K => rfl
      simp -implicitDefEqProofs only [pkA, ptA, ↓reduceIte, Nat.reduceEqDiff, Nat.reduceAdd, Nat.reduceBEq, Nat.reduceMul, Nat.reduceLT, Nat.reduceLeDiff, Nat.zero_add, decide_true, Nat.reduceSub, isMb_cl, isMb_zbox, cl_len, zbox_len, c_w8, c_lo8, wr_add, w_xor, w_and, w_or, w_not, vbin_shl, vbin_shr, vint_mul]
      refine ia_ks ha rfl ?_
      simp -implicitDefEqProofs only [pkA, ptA, ↓reduceIte, Nat.reduceEqDiff, Nat.reduceAdd, Nat.reduceBEq, Nat.reduceMul, Nat.reduceLT, Nat.reduceLeDiff, Nat.zero_add, decide_true, Nat.reduceSub, isMb_cl, isMb_zbox, cl_len, zbox_len, c_w8, c_lo8, wr_add, w_xor, w_and, w_or, w_not, vbin_shl, vbin_shr, vint_mul, p0]
      refine call_fn («as» := [tv u, i64 a.id]) rfl (Get_ok (G := gl) u a.id (sorted_of aft.val) hul) (fun h => by cases h) ?_
      simp -implicitDefEqProofs only [pkA, ptA, ↓reduceIte, Nat.reduceEqDiff, Nat.reduceAdd, Nat.reduceBEq, Nat.reduceMul, Nat.reduceLT, Nat.reduceLeDiff, Nat.zero_add, decide_true, Nat.reduceSub, isMb_cl, isMb_zbox, cl_len, zbox_len, c_w8, c_lo8, wr_add, w_xor, w_and, w_or, w_not, vbin_shl, vbin_shr, vint_mul]
      refine ⟨kC_len _, ?_⟩
      rw [hset _ _ rfl]
      refine ia_ks ha rfl ?_
      simp -implicitDefEqProofs only [pkA, ptA, ↓reduceIte, Nat.reduceEqDiff, Nat.reduceAdd, Nat.reduceBEq, Nat.reduceMul, Nat.reduceLT, Nat.reduceLeDiff, Nat.zero_add, decide_true, Nat.reduceSub, isMb_cl, isMb_zbox, cl_len, zbox_len, c_w8, c_lo8, wr_add, w_xor, w_and, w_or, w_not, vbin_shl, vbin_shr, vint_mul, p0]
      cases dx : decide (a.id = x)
      case true =>
        simp -implicitDefEqProofs only [pkA, ptA, ↓reduceIte, Nat.reduceEqDiff, Nat.reduceAdd, Nat.reduceBEq, Nat.reduceMul, Nat.reduceLT, Nat.reduceLeDiff, Nat.zero_add, decide_true, Nat.reduceSub, isMb_cl, isMb_zbox, cl_len, zbox_len, c_w8, c_lo8, wr_add, w_xor, w_and, w_or, w_not, vbin_shl, vbin_shr, vint_mul, hwk]
        exact hnorm2 (k + 1) _ hp2 (show t.ks.length - (k + 1) < t.ks.length - k by omega) (le_hd rfl (Nat.zero_le _) (by simp) (by simp [FL, up_apply]) (by simp [BL, up_apply, bxs]))
      have hg := aft.get a (List.mem_of_getElem? ha) (of_decide_eq_false dx)
      have d00 : (!decide ((0 : Int) = 0)) = false := rfl
      rw [hg]
      simp -implicitDefEqProofs only [pkA, ptA, ↓reduceIte, Nat.reduceEqDiff, Nat.reduceAdd, Nat.reduceBEq, Nat.reduceMul, Nat.reduceLT, Nat.reduceLeDiff, Nat.zero_add, decide_true, Nat.reduceSub, isMb_cl, isMb_zbox, cl_len, zbox_len, c_w8, c_lo8, wr_add, w_xor, w_and, w_or, w_not, vbin_shl, vbin_shr, vint_mul, d00]
      refine lda_kv (show 2 < 3 by decide) ?_
      simp -implicitDefEqProofs only [pkA, ptA, ↓reduceIte, Nat.reduceEqDiff, Nat.reduceAdd, Nat.reduceBEq, Nat.reduceMul, Nat.reduceLT, Nat.reduceLeDiff, Nat.zero_add, decide_true, Nat.reduceSub, isMb_cl, isMb_zbox, cl_len, zbox_len, c_w8, c_lo8, wr_add, w_xor, w_and, w_or, w_not, vbin_shl, vbin_shr, vint_mul]
      refine ia_ks ha rfl ?_
      simp -implicitDefEqProofs only [pkA, ptA, ↓reduceIte, Nat.reduceEqDiff, Nat.reduceAdd, Nat.reduceBEq, Nat.reduceMul, Nat.reduceLT, Nat.reduceLeDiff, Nat.zero_add, decide_true, Nat.reduceSub, isMb_cl, isMb_zbox, cl_len, zbox_len, c_w8, c_lo8, wr_add, w_xor, w_and, w_or, w_not, vbin_shl, vbin_shr, vint_mul, pa]
      rw [b_ne]
      simp -implicitDefEqProofs only [pkA, ptA, ↓reduceIte, Nat.reduceEqDiff, Nat.reduceAdd, Nat.reduceBEq, Nat.reduceMul, Nat.reduceLT, Nat.reduceLeDiff, Nat.zero_add, decide_true, Nat.reduceSub, isMb_cl, isMb_zbox, cl_len, zbox_len, c_w8, c_lo8, wr_add, w_xor, w_and, w_or, w_not, vbin_shl, vbin_shr, vint_mul, hwk]
      exact hnorm2 (k + 1) _ hp2 (show t.ks.length - (k + 1) < t.ks.length - k by omega) (le_hd rfl (Nat.zero_le _) (by simp) (by simp [FL, up_apply]) (by simp [BL, up_apply, bxs]))
    simp -implicitDefEqProofs only [pkA, ptA, ↓reduceIte, Nat.reduceEqDiff, Nat.reduceAdd, Nat.reduceBEq, Nat.reduceMul, Nat.reduceLT, Nat.reduceLeDiff, Nat.zero_add, decide_true, Nat.reduceSub, isMb_cl, isMb_zbox, cl_len, zbox_len, c_w8, c_lo8, wr_add, w_xor, w_and, w_or, w_not, vbin_shl, vbin_shr, vint_mul]
    refine hexit2 _ _ ?_
    simp -implicitDefEqProofs only [pkA, ptA, ↓reduceIte, Nat.reduceEqDiff, Nat.reduceAdd, Nat.reduceBEq, Nat.reduceMul, Nat.reduceLT, Nat.reduceLeDiff, Nat.zero_add, decide_true, Nat.reduceSub, isMb_cl, isMb_zbox, cl_len, zbox_len, c_w8, c_lo8, wr_add, w_xor, w_and, w_or, w_not, vbin_shl, vbin_shr, vint_mul]
    refine call_fn («as» := [tv u]) rfl (rValidT_ok (G := gl) u (by omega) aft.ok) (fun _ => rfl) ?_
    rw [aft.val]
    have dn : decide (u.nx ≤ la) = false := decide_eq_false (by omega)
    simp -implicitDefEqProofs only [pkA, ptA, ↓reduceIte, Nat.reduceEqDiff, Nat.reduceAdd, Nat.reduceBEq, Nat.reduceMul, Nat.reduceLT, Nat.reduceLeDiff, Nat.zero_add, decide_true, Nat.reduceSub, isMb_cl, isMb_zbox, cl_len, zbox_len, c_w8, c_lo8, wr_add, w_xor, w_and, w_or, w_not, vbin_shl, vbin_shr, vint_mul, dn, hwi]
    exact hnorm (u, la, i + 1) _ ⟨aft.val, aft.ok, hln, by have := aft.len; simp only; omega, hp⟩ (show os.length - (i + 1) < os.length - i by omega) (le_hd rfl (Nat.zero_le _) (by simp) (by simp [FL, up_apply]) (by simp [BL, up_apply, bxs, setV]))
  have d11 : (!decide ((11 : Int) = 0)) = true := rfl
  simp -implicitDefEqProofs only [pkA, ptA, ↓reduceIte, Nat.reduceEqDiff, Nat.reduceAdd, Nat.reduceBEq, Nat.reduceMul, Nat.reduceLT, Nat.reduceLeDiff, Nat.zero_add, decide_true, Nat.reduceSub, isMb_cl, isMb_zbox, cl_len, zbox_len, c_w8, c_lo8, wr_add, w_xor, w_and, w_or, w_not, vbin_shl, vbin_shr, vint_mul, hwi, d2, d3, d11]
  exact hfin _ (le_hd rfl (Nat.zero_le _) (by simp) (by simp [FL, up_apply]) (by simp [BL, up_apply, bxs, setV]))
end Go.Proofs.YtidlohfkfdeaiaaDoor
