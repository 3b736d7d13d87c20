/- Layer 27: keys as values; which are valid. -/
import Derived.Test.YtidlohfkfdeaiaaDoorVlS3
set_option linter.unusedSimpArgs false
set_option linter.unusedVariables false
namespace Go.Proofs.YtidlohfkfdeaiaaDoor
open Go Go.Vl

variable {G : Gl}
structure Ky where
  id : Int
  ty : Int
  val : B
  uses : Int
  st : Int
  en : Int
  ver : Int
  par : Int
  raw : Bool
deriving DecidableEq
abbrev bC1 (b : Bool) : C := .lit (.bool b)
def kC (k : Ky) : List C := [ic k.id, ic k.ty, sc k.val, ic k.uses, ic k.st, ic k.en, ic k.ver, ic k.par, bC1 k.raw]
abbrev kv (k : Ky) : V := .agg (kC k)
def wi (n lo hi : Int) : Bool := decide (lo ≤ n) && decide (n ≤ hi)
def usesOk (u : Int) : Bool := decide (bits .andNot .i64 u 956 = 0)
def validK (k : Ky) : Bool := wi k.ty 0 31 && decide (k.val.length = 32) && usesOk k.uses && wi k.st 0 k.en && wi k.en 0 1099511627776 && wi k.ver 1 2147483647 && wi k.par 0 2147483647
set_option maxRecDepth 100000 in
theorem within_ok (n lo hi : Int) : FnOK Tryd.prog G 63 [i64 n, i64 lo, i64 hi] (bo (wi n lo hi)) := by
  refine FnOK_by (rs := [.tmp 6]) false [] mixed Tryd.func63 rfl rfl rfl rfl (by kernel_rfl) (by simp) rfl rfl ?_
  simp -implicitDefEqProofs only [pkA, ↓reduceIte, Nat.reduceEqDiff, Nat.reduceAdd, Nat.zero_add]
  unfold wi
  refine vgd_of (fun h => ?_) (fun h => ?_)
  · rw [h]
    simp -implicitDefEqProofs only [pkA, ↓reduceIte, Nat.reduceEqDiff]
  · have h : decide (lo ≤ n) = false := h
    rw [h]
    simp -implicitDefEqProofs only [pkA, ↓reduceIte, Nat.reduceEqDiff]
theorem kC_len (k : Ky) : (kC k).length = 9 := rfl
set_option maxRecDepth 100000 in
set_option maxHeartbeats 1500000 in
theorem Valid_ok (k : Ky) : FnOK Tryd.prog G 34 [kv k] (bo (validK k)) := by
  refine FnOK_by (rs := [.tmp 2]) false [] mixed Tryd.func34 rfl rfl rfl rfl (by kernel_rfl) (by simp) rfl rfl ?_
  obtain ⟨id, ty, val, us, st, en, ver, par, raw⟩ := k
  simp -implicitDefEqProofs only [pkA, ptA, ↓reduceIte, Nat.reduceEqDiff, Nat.reduceAdd, Nat.reduceMul, Nat.reduceLT, Nat.zero_add, decide_true, kv, kC]
  refine call_fn rfl (within_ok ty 0 31) (fun _ => rfl) ?_
  cases h1 : wi ty 0 31
  · simp -implicitDefEqProofs only [pkA, ↓reduceIte, Nat.reduceEqDiff, validK, h1]
  simp -implicitDefEqProofs only [pkA, ptA, ↓reduceIte, Nat.reduceEqDiff, Nat.reduceAdd, Nat.reduceMul, Nat.reduceLT, Nat.zero_add, decide_true, bs8_size]
  have e2 : decide (((val.length : Nat) : Int) = 32) = decide (val.length = 32) := decide_eq_decide.2 (by omega)
  rw [e2]
  cases h2 : decide (val.length = 32)
  · simp -implicitDefEqProofs only [pkA, ↓reduceIte, Nat.reduceEqDiff, validK, h1, h2]
  have ea : ∀ K, vint .andNot .i64 us 956 K = K (.c (.lit (.int .i64 (bits .andNot .i64 us 956)))) := fun _ => rfl
  simp -implicitDefEqProofs only [pkA, ptA, ↓reduceIte, Nat.reduceEqDiff, Nat.reduceAdd, Nat.reduceMul, Nat.reduceLT, Nat.zero_add, decide_true, ea]
  have e3 : decide (bits .andNot .i64 us 956 = 0) = usesOk us := rfl
  rw [e3]
  cases h3 : usesOk us
  · simp -implicitDefEqProofs only [pkA, ↓reduceIte, Nat.reduceEqDiff, validK, h1, h2, h3]
  simp -implicitDefEqProofs only [pkA, ptA, ↓reduceIte, Nat.reduceEqDiff, Nat.reduceAdd, Nat.reduceMul, Nat.reduceLT, Nat.zero_add, decide_true]
  refine call_fn rfl (within_ok st 0 en) (fun _ => rfl) ?_
  cases h4 : wi st 0 en
  · simp -implicitDefEqProofs only [pkA, ↓reduceIte, Nat.reduceEqDiff, validK, h1, h2, h3, h4]
  simp -implicitDefEqProofs only [pkA, ptA, ↓reduceIte, Nat.reduceEqDiff, Nat.reduceAdd, Nat.reduceMul, Nat.reduceLT, Nat.zero_add, decide_true]
  refine call_fn rfl (within_ok en 0 1099511627776) (fun _ => rfl) ?_
  cases h5 : wi en 0 1099511627776
  · simp -implicitDefEqProofs only [pkA, ↓reduceIte, Nat.reduceEqDiff, validK, h1, h2, h3, h4, h5]
  simp -implicitDefEqProofs only [pkA, ptA, ↓reduceIte, Nat.reduceEqDiff, Nat.reduceAdd, Nat.reduceMul, Nat.reduceLT, Nat.zero_add, decide_true]
  refine call_fn rfl (within_ok ver 1 2147483647) (fun _ => rfl) ?_
  cases h6 : wi ver 1 2147483647
  · simp -implicitDefEqProofs only [pkA, ↓reduceIte, Nat.reduceEqDiff, validK, h1, h2, h3, h4, h5, h6]
  simp -implicitDefEqProofs only [pkA, ptA, ↓reduceIte, Nat.reduceEqDiff, Nat.reduceAdd, Nat.reduceMul, Nat.reduceLT, Nat.zero_add, decide_true]
  refine call_fn rfl (within_ok par 0 2147483647) (fun _ => rfl) ?_
  simp -implicitDefEqProofs only [pkA, ↓reduceIte, Nat.reduceEqDiff, validK, h1, h2, h3, h4, h5, h6]
end Go.Proofs.YtidlohfkfdeaiaaDoor

/- Layer 27: headers, boxes, descriptions. -/
namespace Go.Proofs.YtidlohfkfdeaiaaDoor
open Go Go.Vl

variable {G : Gl}
/-- Keys whose numbers are integers of the machine. -/
def Ky.ok (k : Ky) : Prop := I64 k.id ∧ I64 k.ty ∧ I64 k.uses ∧ I64 k.st ∧ I64 k.en ∧ I64 k.ver ∧ I64 k.par
def headB (k : Ky) : B := encIs [k.ty, k.uses, k.st, k.en, k.ver]
def liveK (k : Ky) (now : Int) : Bool := decide (k.st ≤ now) && decide (now < k.en)
set_option maxRecDepth 100000 in
theorem Live_ok (k : Ky) (now : Int) : FnOK Tryd.prog G 14 [kv k, i64 now] (bo (liveK k now)) := by
  refine FnOK_by (rs := [.tmp 4]) false [] mixed Tryd.func14 rfl rfl rfl rfl (by kernel_rfl) (by simp) rfl rfl ?_
  obtain ⟨id, ty, val, us, st, en, ver, par, raw⟩ := k
  simp -implicitDefEqProofs only [pkA, ptA, ↓reduceIte, Nat.reduceEqDiff, Nat.reduceAdd, Nat.reduceMul, Nat.reduceLT, Nat.zero_add, decide_true, kv, kC]
  cases h1 : decide (st ≤ now)
  · simp -implicitDefEqProofs only [pkA, ↓reduceIte, Nat.reduceEqDiff, liveK, h1]
  · simp -implicitDefEqProofs only [pkA, ptA, ↓reduceIte, Nat.reduceEqDiff, Nat.reduceAdd, Nat.reduceMul, Nat.reduceLT, Nat.zero_add, decide_true, liveK, h1]
set_option maxRecDepth 100000 in
set_option maxHeartbeats 1500000 in
theorem Header_ok (k : Ky) (h : k.ok) : FnOK Tryd.prog G 21 [kv k] (sv (headB k)) := by
  refine FnOK_by (rs := [.tmp 2]) false [] mixed Tryd.func21 rfl rfl rfl rfl (by kernel_rfl) (by simp) rfl rfl ?_
  obtain ⟨id, ty, val, us, st, en, ver, par, raw⟩ := k
  obtain ⟨h1, h2, h3, h4, h5, h6, h7⟩ := h
  simp only at h1 h2 h3 h4 h5 h6 h7
  simp -implicitDefEqProofs only [pkA, ptA, ↓reduceIte, Nat.reduceEqDiff, Nat.reduceAdd, Nat.reduceMul, Nat.reduceLT, Nat.reduceLeDiff, Nat.zero_add, decide_true, kv, kC]
  refine call_fn («as» := [.c (.sl (mC ic [ty, us, st, en, ver]))]) rfl (Ints_ok [ty, us, st, en, ver] (by simp) (by simp [h2, h3, h4, h5, h6])) (fun h => by cases h) ?_
  simp -implicitDefEqProofs only [pkA, ↓reduceIte, Nat.reduceAdd, c_bs]
  rfl
theorem lda_kv {k : Ky} {nb b : Nat} {K : V → Prop} (hb : b < nb) (hK : K (kv k)) : ldA nb b ((kC k).map .c) 0 9 K := by
  have e : (kC k).map V.c = cl id (kC k) := by simp [cl]
  rw [e]
  refine ldA_cl hb (kC_len k) ?_
  rw [List.map_id]; exact hK
theorem isMb_kv {k : Ky} : isMb ((kC k).map .c) = false := rfl
theorem encIs_len : ∀ (l : List Int), (l.map encI).flatten.length ≤ 9 * l.length
  | [] => by simp
  | x :: l => by
    have h1 := encI_len x
    have h2 := encIs_len l
    simp only [List.map_cons, List.flatten_cons, List.length_append, List.length_cons]; omega
theorem headB_len (k : Ky) : (headB k).length ≤ 54 := by
  have h1 := encI_len ((([k.ty, k.uses, k.st, k.en, k.ver] : List Int).length : Nat) : Int)
  have h2 := encIs_len [k.ty, k.uses, k.st, k.en, k.ver]
  unfold headB encIs
  rw [List.length_append]
  simp only [List.length_cons, List.length_nil] at h1 h2 ⊢
  omega
def boxB (key : B) (k : Ky) : B × Int := if validK k then (if (sealB key (headB k) k.val).2 = 0 then (encB (headB k) ++ (sealB key (headB k) k.val).1, 0) else ([], (sealB key (headB k) k.val).2)) else ([], 1)
theorem valid_len {k : Ky} (h : validK k = true) : k.val.length = 32 := by
  unfold validK at h
  simp only [Bool.and_eq_true, decide_eq_true_eq] at h
  exact h.1.1.1.1.1.2
theorem sealB_len {key ad text : B} : (sealB key ad text).1.length ≤ 28 + text.length := by
  unfold sealB
  split
  · simp
  · simp only [List.length_append, xorB_len]
    rw [codeB_len (by decide), codeB_len (by decide)]; omega
set_option maxRecDepth 100000 in
set_option maxHeartbeats 1500000 in
theorem Box_ok (key : B) (k : Ky) (hk : key.length ≤ 1000000) (h : k.ok) : FnOK Tryd.prog gl 19 [sv key, kv k] (.tup [sv (boxB key k).1, i64 (boxB key k).2]) := by
  refine FnOK_by (rs := [.tmp 4, .tmp 5]) false [] mixed Tryd.func19 rfl rfl rfl rfl (by kernel_rfl) (by simp) rfl rfl ?_
  simp -implicitDefEqProofs only [pkA, ptA, ↓reduceIte, Nat.reduceEqDiff, Nat.reduceAdd, Nat.reduceMul, Nat.reduceLT, Nat.zero_add, decide_true]
  refine lda_kv (by decide) ?_
  simp -implicitDefEqProofs only [pkA, ↓reduceIte, Nat.reduceAdd]
  refine call_fn rfl (Valid_ok k) (fun h => by cases h) ?_
  unfold boxB
  cases hv : validK k
  · simp -implicitDefEqProofs only [pkA, ↓reduceIte, Nat.reduceAdd]
    refine retV_two ?_ ?_ <;> rfl
  have hvl := valid_len hv
  simp -implicitDefEqProofs only [pkA, ptA, ↓reduceIte, Nat.reduceEqDiff, Nat.reduceAdd, Nat.reduceMul, Nat.reduceLT, decide_true]
  refine lda_kv (by decide) ?_
  simp -implicitDefEqProofs only [pkA, ↓reduceIte, Nat.reduceAdd]
  refine call_fn rfl (Header_ok k h) (fun h => by cases h) ?_
  have hhl := headB_len k
  generalize headB k = hd at *
  have pv : ∀ K, partV false 1 2 (kC k) K = K (sv k.val) := fun K => rfl
  simp -implicitDefEqProofs only [pkA, ptA, ↓reduceIte, Nat.reduceEqDiff, Nat.reduceAdd, Nat.reduceMul, Nat.reduceLT, Nat.zero_add, decide_true, pv]
  refine call_fn rfl (Seal_ok key hd k.val hk (by omega) (by omega)) (fun h => by cases h) ?_
  have hsl := sealB_len (key := key) (ad := hd) (text := k.val)
  generalize hse : sealB key hd k.val = se at *
  obtain ⟨x, e⟩ := se
  simp only at hsl
  simp -implicitDefEqProofs only [pkA, ↓reduceIte, Nat.reduceEqDiff, Nat.reduceAdd]
  refine vcond_of (fun he => ?_) (fun he => ?_)
  · have he : e ≠ 0 := by simpa using he
    rw [if_neg he]
    simp -implicitDefEqProofs only [pkA, ↓reduceIte, Nat.reduceEqDiff, Nat.reduceAdd]
    refine retV_two ?_ ?_ <;> rfl
  have he : e = 0 := by simpa using he
  rw [if_pos he]
  have hel := enc_len hd (by omega)
  simp -implicitDefEqProofs only [pkA, ↓reduceIte, Nat.reduceEqDiff, Nat.reduceAdd]
  refine call_fn rfl (Bytes_ok hd (by omega)) (fun h => by cases h) ?_
  generalize encB hd = eh at *
  simp -implicitDefEqProofs only [pkA, ↓reduceIte, Nat.reduceEqDiff, Nat.reduceAdd, c_bs]
  refine s_add (by omega) ?_
  simp -implicitDefEqProofs only [pkA, ↓reduceIte]
  refine retV_two ?_ ?_ <;> rfl
theorem ofB_len (t : Nat) (ps : List B) : (ofB t ps).length = 16 := by
  unfold ofB
  rw [List.length_take, sumS_len (ofS_ok _ _ (addB_ok begin_ok _))]; rfl
def descB (k : Ky) : List C := [ic k.id, ic k.ty, ic k.uses, ic k.st, ic k.en, ic k.ver, ic k.par, bC1 k.raw] ++ (ofB 10 [k.val]).map bc
set_option maxRecDepth 100000 in
set_option maxHeartbeats 1500000 in
theorem Describe_ok (k : Ky) (hl : k.val.length ≤ 1000000) : FnOK Tryd.prog gl 23 [kv k] (.agg (descB k)) := by
  refine FnOK_by (rs := [.cell 2 43]) false [] mixed Tryd.func23 rfl rfl rfl rfl (by kernel_rfl) (by simp) rfl rfl ?_
  obtain ⟨id, ty, val, us, st, en, ver, par, raw⟩ := k
  simp only at hl
  simp -implicitDefEqProofs only [pkA, ptA, ↓reduceIte, Nat.reduceEqDiff, Nat.reduceAdd, Nat.reduceMul, Nat.reduceLT, Nat.reduceLeDiff, Nat.zero_add, decide_true, kv, kC]
  refine call_fn («as» := [i64 ((10 : Nat) : Int), .c (.sl (mC sc [val]))]) rfl (Of_ok 10 [val] (by simp) (by have := enc_len val (by omega); simp [tot]; omega)) (fun h => by cases h) ?_
  have hd : descB ⟨id, ty, val, us, st, en, ver, par, raw⟩ = [ic id, ic ty, ic us, ic st, ic en, ic ver, ic par, bC1 raw] ++ (ofB 10 [val]).map bc := rfl
  rw [hd]
  have hl := ofB_len 10 [val]
  generalize ofB 10 [val] = o at *
  simp -implicitDefEqProofs only [pkA, ptA, ↓reduceIte, Nat.reduceEqDiff, Nat.reduceAdd, Nat.reduceMul, Nat.reduceLT, Nat.reduceLeDiff, Nat.zero_add, decide_true, List.length_map, hl, List.append_nil]
  have hall : ∀ ds : List V, ds.length = 24 → setV (zbox 7 (V.c (.lit (.int .i64 0))) ++ [V.c (.lit (.bool false))] ++ zbox 16 (V.c (.lit (.int .u8 0)))) 0 ds = ds := fun ds h => setV_all (by simp [zbox_len, h])
  rw [hall _ (by simp [hl])]
  refine ⟨rfl, by simp [zbox_len], rfl, ?_⟩
  have e : V.c (ic id) :: V.c (ic ty) :: V.c (ic us) :: V.c (ic st) :: V.c (ic en) :: V.c (ic ver) :: V.c (ic par) :: V.c (bC1 raw) :: List.map V.c (List.map bc o) = cl _root_.id ([ic id, ic ty, ic us, ic st, ic en, ic ver, ic par, bC1 raw] ++ o.map bc) := by simp [cl]
  rw [e]
  exact ldA_cl (by decide) (by simp [hl]) (by rw [List.map_id]; rfl)
end Go.Proofs.YtidlohfkfdeaiaaDoor
