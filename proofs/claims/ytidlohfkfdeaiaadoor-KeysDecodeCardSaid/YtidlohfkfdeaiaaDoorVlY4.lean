/- Layer 27: tables: which are valid, how they are encoded. -/
import Derived.Test.YtidlohfkfdeaiaaDoorVlY2
set_option linter.unusedSimpArgs false
set_option linter.unusedVariables false
namespace Go.Proofs.YtidlohfkfdeaiaaDoor
open Go Go.Vl

variable {G : Gl}
structure Tb where
  nx : Int
  ks : List Ky
abbrev tC (t : Tb) : List C := [ic t.nx, .sl (t.ks.map kC)]
abbrev tv (t : Tb) : V := .agg (tC t)
def okNext (nx last : Int) (k : Ky) : Bool := validK k && (!decide (k.id ≤ last) && (!decide (nx ≤ k.id) && !decide (nx ≤ k.par)))
def valL (nx : Int) : Int → List Ky → Bool
  | _, [] => true
  | last, k :: r => okNext nx last k && valL nx k.id r
def validT (t : Tb) : Bool := valL t.nx 0 t.ks && (wi t.nx 1 2147483647 && decide (t.ks.length ≤ 4096))
def rawI (b : Bool) : Int := if b then 1 else 0
def encK (k : Ky) : B := encIs [k.id, k.ty, k.uses, k.st, k.en, k.ver, k.par, rawI k.raw] ++ encB k.val
def encT (t : Tb) : B := encI t.nx ++ encI (t.ks.length : Int) ++ (t.ks.map encK).flatten
theorem ks_at {ks : List Ky} {i : Nat} {k : Ky} (h : ks[i]? = some k) : (ks.map kC)[i]? = some (kC k) := by rw [List.getElem?_map, h]; rfl
theorem drop_at {α : Type} {l : List α} {i : Nat} {x : α} (h : l[i]? = some x) : l.drop i = x :: l.drop (i + 1) := by
  obtain ⟨h1, h2⟩ := List.getElem?_eq_some_iff.1 h
  rw [List.drop_eq_getElem_cons h1, h2]
set_option maxRecDepth 100000 in
theorem ia_ks {ks : List Ky} {kd : IntKind} {n : Int} {i : Nat} {k : Ky} {K : V → Prop} (h : ks[i]? = some k) (hn : n = (i : Nat)) (hK : K (.c (.rp (kC k) 0))) : vindexAddr Tryd.prog 22 (.c (.sl (ks.map kC))) (.c (.lit (.int kd n))) K := by
  subst hn
  refine ia_of (c := kC k) ti_22 rfl ti_26 (by decide) (Int.natCast_nonneg i) ?_ (by simp [kC_len]) hK
  rw [Int.toNat_natCast]; exact ks_at h
set_option maxRecDepth 100000 in
set_option maxHeartbeats 1500000 in
theorem valid_ok (t : Tb) (hl : t.ks.length ≤ 1000000) : FnOK Tryd.prog G 66 [tv t] (bo (validT t)) := by
  refine FnOK_by (rs := [.tmp 2]) false [] mixed Tryd.func66 rfl rfl rfl rfl (by kernel_rfl) (by simp) rfl rfl ?_
  obtain ⟨nx, ks⟩ := t
  simp only at hl
  have hvt : validT ⟨nx, ks⟩ = (valL nx 0 ks && (wi nx 1 2147483647 && decide (ks.length ≤ 4096))) := rfl
  rw [hvt]
  simp -implicitDefEqProofs only [pkA, ptA, ↓reduceIte, Nat.reduceEqDiff, Nat.reduceAdd, Nat.reduceMul, Nat.reduceLT, Nat.zero_add, decide_true, tv, tC, List.length_map]
  refine run_loop (fun x : Nat × Int => hdS [(1, .bp 0 0), (3, i64 x.2), (7, .c (.sl (ks.map kC))), (8, i64 (ks.length : Nat)), (9, i64 (x.1 : Nat))] [[V.c (ic nx), V.c (.sl (ks.map kC))]]) (fun x => ks.length - x.1) (fun x => x.1 ≤ ks.length ∧ valL nx 0 ks = valL nx x.2 (ks.drop x.1)) (0, 0) ⟨Nat.zero_le _, rfl⟩ ?_ ?_
  · exact le_hd rfl (Nat.zero_le _) (by simp) (by simp [FL, up_apply]) (by simp [BL])
  rintro ⟨i, last⟩ ⟨hi, hv⟩ R hnorm hexit hret
  simp only at hi hv
  have hwi := wrap_of (n := (i : Int) + 1) (k := i + 1) (by omega) (by omega)
  simp -implicitDefEqProofs only [pkA, ↓reduceIte, Nat.reduceEqDiff, Nat.reduceAdd, Nat.zero_add]
  refine vcond_of (fun hp => ?_) (fun hz => ?_)
  · have hp : i < ks.length := by have := dlt hp; omega
    obtain ⟨k, hk⟩ : ∃ k, ks[i]? = some k := ⟨ks[i], List.getElem?_eq_getElem hp⟩
    have p0 : ∀ K, partV false 1 0 (kC k) K = K (i64 k.id) := fun K => rfl
    have p7 : ∀ K, partV false 1 7 (kC k) K = K (i64 k.par) := fun K => rfl
    have pa : ∀ s K, vload Tryd.prog 26 s (.c (.rp (kC k) 0)) K = K (kv k) := fun s K => ld_all ti_26 rfl (kC_len k)
    have hset : ∀ l : List V, l.length = 9 → setV l 0 ((kC k).map V.c) = (kC k).map V.c := fun l h => setV_all (by rw [h]; rfl)
    rw [drop_at hk] at hv
    have hv : valL nx 0 ks = (okNext nx last k && valL nx k.id (ks.drop (i + 1))) := hv
    simp -implicitDefEqProofs only [pkA, ↓reduceIte, Nat.reduceEqDiff, Nat.reduceAdd]
    refine ia_ks hk rfl ?_
    simp -implicitDefEqProofs only [pkA, ptA, ↓reduceIte, Nat.reduceEqDiff, Nat.reduceAdd, Nat.reduceMul, Nat.reduceLT, Nat.reduceLeDiff, Nat.zero_add, decide_true, pa, kv]
    rw [hset _ rfl]
    refine ⟨rfl, ?_⟩
    simp -implicitDefEqProofs only [pkA]
    refine lda_kv (Nat.lt_succ_self 1) ?_
    simp -implicitDefEqProofs only [pkA, ↓reduceIte, Nat.reduceAdd]
    refine call_fn rfl (Valid_ok k) (fun h => by cases h) ?_
    unfold okNext at hv
    cases h1 : validK k
    · rw [h1, Bool.false_and, Bool.false_and] at hv
      simp -implicitDefEqProofs only [pkA, ↓reduceIte, Nat.reduceEqDiff, Nat.reduceAdd]
      refine hret _ ?_
      rw [hv, Bool.false_and]
      simp -implicitDefEqProofs only [pkA, ↓reduceIte]
    rw [h1, Bool.true_and] at hv
    simp -implicitDefEqProofs only [pkA, ptA, ↓reduceIte, Nat.reduceEqDiff, Nat.reduceAdd, Nat.reduceMul, Nat.reduceLT, Nat.zero_add, decide_true, p0]
    cases h2 : decide (k.id ≤ last)
    case true =>
      rw [h2, Bool.not_true, Bool.false_and, Bool.false_and] at hv
      simp -implicitDefEqProofs only [pkA, ↓reduceIte, Nat.reduceEqDiff, Nat.reduceAdd]
      refine hret _ ?_
      rw [hv, Bool.false_and]
      simp -implicitDefEqProofs only [pkA, ↓reduceIte]
    rw [h2, Bool.not_false, Bool.true_and] at hv
    simp -implicitDefEqProofs only [pkA, ptA, ↓reduceIte, Nat.reduceEqDiff, Nat.reduceAdd, Nat.reduceMul, Nat.reduceLT, Nat.zero_add, decide_true, p0]
    cases h3 : decide (nx ≤ k.id)
    case true =>
      rw [h3, Bool.not_true, Bool.false_and, Bool.false_and] at hv
      simp -implicitDefEqProofs only [pkA, ↓reduceIte, Nat.reduceEqDiff, Nat.reduceAdd]
      refine hret _ ?_
      rw [hv, Bool.false_and]
      simp -implicitDefEqProofs only [pkA, ↓reduceIte]
    rw [h3, Bool.not_false, Bool.true_and] at hv
    simp -implicitDefEqProofs only [pkA, ptA, ↓reduceIte, Nat.reduceEqDiff, Nat.reduceAdd, Nat.reduceMul, Nat.reduceLT, Nat.zero_add, decide_true, p7]
    cases h4 : decide (nx ≤ k.par)
    case true =>
      rw [h4, Bool.not_true, Bool.false_and] at hv
      simp -implicitDefEqProofs only [pkA, ↓reduceIte, Nat.reduceAdd]
      refine hret _ ?_
      rw [hv, Bool.false_and]
      simp -implicitDefEqProofs only [pkA, ↓reduceIte]
    rw [h4, Bool.not_false, Bool.true_and] at hv
    simp -implicitDefEqProofs only [pkA, ptA, ↓reduceIte, Nat.reduceEqDiff, Nat.reduceAdd, Nat.reduceMul, Nat.reduceLT, Nat.zero_add, decide_true, p0, hwi]
    exact hnorm (i + 1, k.id) _ ⟨hp, hv⟩ (show ks.length - (i + 1) < ks.length - i by omega) (le_hd rfl (Nat.zero_le _) (by simp) (by simp [FL, up_apply]) (by simp [BL, up_apply, bxs]))
  have hz : i = ks.length := by have := dge hz; omega
  subst hz
  rw [List.drop_length] at hv
  have hv : valL nx 0 ks = true := hv
  simp -implicitDefEqProofs only [pkA]
  refine hexit _ _ ?_
  rw [hv, Bool.true_and]
  simp -implicitDefEqProofs only [pkA, ptA, ↓reduceIte, Nat.reduceEqDiff, Nat.reduceAdd, Nat.reduceMul, Nat.reduceLT, Nat.zero_add, decide_true]
  refine call_fn rfl (within_ok nx 1 2147483647) (fun _ => rfl) ?_
  cases h1 : wi nx 1 2147483647
  · simp -implicitDefEqProofs only [pkA, ↓reduceIte, Nat.reduceEqDiff]
  have e2 : decide (((ks.length : Nat) : Int) ≤ 4096) = decide (ks.length ≤ 4096) := decide_eq_decide.2 (by omega)
  simp -implicitDefEqProofs only [pkA, ptA, ↓reduceIte, Nat.reduceEqDiff, Nat.reduceAdd, Nat.reduceMul, Nat.reduceLT, Nat.zero_add, decide_true, List.length_map, e2]
theorem encK_len {k : Ky} (h : k.val.length ≤ 1000000) : (encK k).length ≤ k.val.length + 99 := by
  have h1 := encI_len ((([k.id, k.ty, k.uses, k.st, k.en, k.ver, k.par, rawI k.raw] : List Int).length : Nat) : Int)
  have h2 := encIs_len [k.id, k.ty, k.uses, k.st, k.en, k.ver, k.par, rawI k.raw]
  have h3 := enc_len k.val (by omega)
  unfold encK encIs
  rw [List.length_append, List.length_append]
  simp only [List.length_cons, List.length_nil] at h1 h2 ⊢
  omega
theorem encKs_len : ∀ ks : List Ky, (∀ k ∈ ks, k.val.length ≤ 1000) → (ks.map encK).flatten.length ≤ 1099 * ks.length
  | [], _ => by simp
  | k :: r, h => by
    have h1 := encK_len (k := k) (by have := h k (by simp); omega)
    have h2 := encKs_len r fun x hx => h x (by simp [hx])
    have h3 := h k (by simp)
    simp only [List.map_cons, List.flatten_cons, List.length_append, List.length_cons]; omega
set_option maxRecDepth 100000 in
set_option maxHeartbeats 1500000 in
theorem Encode_ok (t : Tb) (hn : I64 t.nx) (hl : t.ks.length ≤ 100000) (hk : ∀ k ∈ t.ks, k.ok ∧ k.val.length ≤ 1000) : FnOK Tryd.prog G 30 [tv t] (sv (encT t)) := by
  refine FnOK_by (rs := [.tmp 2]) false [24, 43] mixed Tryd.func30 rfl rfl rfl rfl (by kernel_rfl) (by simp) rfl rfl ?_
  obtain ⟨nx, ks⟩ := t
  simp only at hl hn hk
  have het : encT ⟨nx, ks⟩ = encI nx ++ encI (ks.length : Int) ++ (ks.map encK).flatten := rfl
  rw [het]
  have hel := encI_len nx
  have hel2 := encI_len (ks.length : Int)
  simp -implicitDefEqProofs only [pkA, ptA, ↓reduceIte, Nat.reduceEqDiff, Nat.reduceAdd, Nat.reduceBEq, Nat.reduceMul, Nat.reduceLT, Nat.zero_add, decide_true, tv, tC]
  refine call_fn rfl (Int_ok nx hn) (fun h => by cases h) ?_
  simp -implicitDefEqProofs only [pkA, ptA, ↓reduceIte, Nat.reduceEqDiff, Nat.reduceAdd, Nat.reduceBEq, Nat.reduceMul, Nat.reduceLT, Nat.zero_add, decide_true, List.length_map]
  refine call_fn rfl (Int_ok (ks.length : Int) (I64_nat (by omega))) (fun h => by cases h) ?_
  simp -implicitDefEqProofs only [pkA, ↓reduceIte, Nat.reduceEqDiff, Nat.reduceAdd, Nat.reduceBEq]
  refine apEB (by omega) ?_
  simp -implicitDefEqProofs only [pkA, ptA, ↓reduceIte, Nat.reduceEqDiff, Nat.reduceAdd, Nat.reduceBEq, Nat.reduceMul, Nat.reduceLT, Nat.zero_add, decide_true, List.length_map]
  refine run_loop (fun i : Nat => hdS [(3, .ow EB (bC (encI nx ++ encI (ks.length : Int) ++ ((ks.take i).map encK).flatten))), (16, .c (.sl (ks.map kC))), (17, i64 (ks.length : Nat)), (18, i64 (i : Nat))] []) (fun i => ks.length - i) (fun i => i ≤ ks.length) 0 (Nat.zero_le _) ?_ ?_
  · refine le_hd rfl (Nat.zero_le _) (by simp) (by simp [FL, up_apply]) trivial
  rintro i hi R hnorm hexit hret
  have hwi := wrap_of (n := (i : Int) + 1) (k := i + 1) (by omega) (by omega)
  simp -implicitDefEqProofs only [pkA, ↓reduceIte, Nat.reduceEqDiff, Nat.reduceAdd, Nat.reduceBEq]
  refine vcond_of (fun hp => ?_) (fun hz => ?_)
  · have hp : i < ks.length := by have := dlt hp; omega
    obtain ⟨k, hk1⟩ : ∃ k, ks[i]? = some k := ⟨ks[i], List.getElem?_eq_getElem hp⟩
    obtain ⟨⟨g1, g2, g3, g4, g5, g6, g7⟩, g8⟩ := hk k (List.mem_of_getElem? hk1)
    have hset : ∀ l : List V, l.length = 9 → setV l 0 ((kC k).map V.c) = (kC k).map V.c := fun l h => setV_all (by rw [h]; rfl)
    have pa : ∀ s K, vload Tryd.prog 26 s (.c (.rp (kC k) 0)) K = K (kv k) := fun s K => ld_all ti_26 rfl (kC_len k)
    have hkl := encKs_len (ks.take i) fun x hx => (hk x (List.mem_of_mem_take hx)).2
    rw [List.length_take, Nat.min_eq_left hi] at hkl
    simp -implicitDefEqProofs only [pkA, ↓reduceIte, Nat.reduceEqDiff, Nat.reduceAdd, Nat.reduceBEq]
    refine ia_ks hk1 rfl ?_
    simp -implicitDefEqProofs only [pkA, ptA, ↓reduceIte, Nat.reduceEqDiff, Nat.reduceAdd, Nat.reduceBEq, Nat.reduceMul, Nat.reduceLT, Nat.reduceLeDiff, Nat.zero_add, decide_true, pa, kv]
    rw [hset _ rfl]
    refine ⟨rfl, ?_⟩
    have hnext : ((ks.take (i + 1)).map encK).flatten = ((ks.take i).map encK).flatten ++ (encIs [k.id, k.ty, k.uses, k.st, k.en, k.ver, k.par, rawI k.raw] ++ encB k.val) := by
      rw [take_snoc hk1, List.map_append, List.flatten_append]; simp [encK]
    have h1 := encI_len ((([k.id, k.ty, k.uses, k.st, k.en, k.ver, k.par, rawI k.raw] : List Int).length : Nat) : Int)
    have h2 := encIs_len [k.id, k.ty, k.uses, k.st, k.en, k.ver, k.par, rawI k.raw]
    have h3 := enc_len k.val (by omega)
    have h4 : (encIs [k.id, k.ty, k.uses, k.st, k.en, k.ver, k.par, rawI k.raw]).length ≤ 81 := by
      unfold encIs; rw [List.length_append]; simp only [List.length_cons, List.length_nil] at h1 h2 ⊢; omega
    have gr : I64 (rawI k.raw) := by unfold rawI; split <;> exact ⟨by decide, by decide⟩
    have hints := Ints_ok (G := G) [k.id, k.ty, k.uses, k.st, k.en, k.ver, k.par, rawI k.raw] (by simp) (by simp [g1, g2, g3, g4, g5, g6, g7, gr])
    generalize encIs [k.id, k.ty, k.uses, k.st, k.en, k.ver, k.par, rawI k.raw] = e1 at *
    simp -implicitDefEqProofs only [pkA]
    obtain ⟨id, ty, val, us, st, en, ver, par, raw⟩ := k
    simp only at g1 g2 g3 g4 g5 g6 g7 g8 h3 hnext hints
    simp -implicitDefEqProofs only [pkA, ↓reduceIte, kC]
    cases raw
    all_goals
      simp -implicitDefEqProofs only [pkA, ptA, ↓reduceIte, Nat.reduceEqDiff, Nat.reduceAdd, Nat.reduceBEq, Nat.reduceMul, Nat.reduceLT, Nat.reduceLeDiff, Nat.zero_add, decide_true]
      refine call_fn rfl hints (fun h => by cases h) ?_
      simp -implicitDefEqProofs only [pkA, ↓reduceIte, Nat.reduceEqDiff, Nat.reduceAdd, Nat.reduceBEq]
      refine apEB (by simp only [List.length_append]; omega) ?_
      simp -implicitDefEqProofs only [pkA, ptA, ↓reduceIte, Nat.reduceEqDiff, Nat.reduceAdd, Nat.reduceBEq, Nat.reduceMul, Nat.reduceLT, Nat.zero_add, decide_true]
      refine call_fn rfl (Bytes_ok val (by omega)) (fun h => by cases h) ?_
      simp -implicitDefEqProofs only [pkA, ↓reduceIte, Nat.reduceEqDiff, Nat.reduceAdd, Nat.reduceBEq]
      refine apEB (by simp only [List.length_append]; omega) ?_
      simp -implicitDefEqProofs only [pkA, ↓reduceIte, Nat.reduceEqDiff, Nat.reduceAdd, Nat.reduceBEq, hwi]
      refine hnorm (i + 1) _ hp (by omega) (le_hd rfl (Nat.zero_le _) (by simp) ?_ trivial)
      rw [hnext]
      simp [FL, up_apply]
  have hz : i = ks.length := by have := dge hz; omega
  subst hz
  simp -implicitDefEqProofs only [pkA]
  refine hexit _ _ ?_
  rw [List.take_length]
  simp -implicitDefEqProofs only [pkA, ↓reduceIte, Nat.reduceEqDiff, Nat.reduceAdd, Nat.reduceBEq, c_bs]
end Go.Proofs.YtidlohfkfdeaiaaDoor
