/- Layer 27: the specification computes the same. -/
import Derived.Test.YtidlohfkfdeaiaaDoorVlY6
set_option linter.unusedSimpArgs false
set_option linter.unusedVariables false
namespace Go.Proofs.YtidlohfkfdeaiaaDoor
open Go Go.Vl

variable {G : Gl}
set_option maxRecDepth 100000 in
theorem rwithin_ok (n lo hi : Int) : FnOK Tryd.prog G 72 [i64 n, i64 lo, i64 hi] (bo (wi n lo hi)) := by
  refine FnOK_by (rs := [.tmp 6]) false [] mixed Tryd.func72 rfl rfl rfl rfl (by kernel_rfl) (by simp) rfl rfl ?_
  simp -implicitDefEqProofs only [pkA, ↓reduceIte, Nat.reduceEqDiff, Nat.reduceAdd, Nat.zero_add]
  unfold wi
  refine vgd_of (fun h => ?_) (fun h => ?_)
  · rw [h]
    simp -implicitDefEqProofs only [pkA, ↓reduceIte, Nat.reduceEqDiff]
  · have h : decide (lo ≤ n) = false := h
    rw [h]
    simp -implicitDefEqProofs only [pkA, ↓reduceIte, Nat.reduceEqDiff]
def usesR (u : Int) : Bool := decide (bits .and .i64 u 956 = u)
def validR (k : Ky) : Bool := wi k.ty 0 31 && decide (k.val.length = 32) && usesR k.uses && wi k.st 0 1099511627776 && wi k.en k.st 1099511627776 && wi k.ver 1 2147483647 && wi k.par 0 2147483647
set_option maxRecDepth 100000 in
set_option maxHeartbeats 1500000 in
theorem rValid_ok0 (k : Ky) : FnOK Tryd.prog G 35 [kv k] (bo (validR k)) := by
  refine FnOK_by (rs := [.tmp 2]) false [] mixed Tryd.func35 rfl rfl rfl rfl (by kernel_rfl) (by simp) rfl rfl ?_
  obtain ⟨id, ty, val, us, st, en, ver, par, raw⟩ := k
  simp -implicitDefEqProofs only [pkA, ptA, ↓reduceIte, Nat.reduceEqDiff, Nat.reduceAdd, Nat.reduceMul, Nat.reduceLT, Nat.zero_add, decide_true, kv, kC]
  refine call_fn rfl (rwithin_ok ty 0 31) (fun _ => rfl) ?_
  cases h1 : wi ty 0 31
  · simp -implicitDefEqProofs only [pkA, ↓reduceIte, Nat.reduceEqDiff, validR, h1]
  simp -implicitDefEqProofs only [pkA, ptA, ↓reduceIte, Nat.reduceEqDiff, Nat.reduceAdd, Nat.reduceMul, Nat.reduceLT, Nat.zero_add, decide_true, bs8_size]
  have e2 : decide (((val.length : Nat) : Int) = 32) = decide (val.length = 32) := decide_eq_decide.2 (by omega)
  rw [e2]
  cases h2 : decide (val.length = 32)
  · simp -implicitDefEqProofs only [pkA, ↓reduceIte, Nat.reduceEqDiff, validR, h1, h2]
  have ea : ∀ K, vint .and .i64 us 956 K = K (.c (.lit (.int .i64 (bits .and .i64 us 956)))) := fun _ => rfl
  simp -implicitDefEqProofs only [pkA, ptA, ↓reduceIte, Nat.reduceEqDiff, Nat.reduceAdd, Nat.reduceMul, Nat.reduceLT, Nat.zero_add, decide_true, ea]
  have e3 : decide (bits .and .i64 us 956 = us) = usesR us := rfl
  rw [e3]
  cases h3 : usesR us
  · simp -implicitDefEqProofs only [pkA, ↓reduceIte, Nat.reduceEqDiff, validR, h1, h2, h3]
  simp -implicitDefEqProofs only [pkA, ptA, ↓reduceIte, Nat.reduceEqDiff, Nat.reduceAdd, Nat.reduceMul, Nat.reduceLT, Nat.zero_add, decide_true]
  refine call_fn rfl (rwithin_ok st 0 1099511627776) (fun _ => rfl) ?_
  cases h4 : wi st 0 1099511627776
  · simp -implicitDefEqProofs only [pkA, ↓reduceIte, Nat.reduceEqDiff, validR, h1, h2, h3, h4]
  simp -implicitDefEqProofs only [pkA, ptA, ↓reduceIte, Nat.reduceEqDiff, Nat.reduceAdd, Nat.reduceMul, Nat.reduceLT, Nat.zero_add, decide_true]
  refine call_fn rfl (rwithin_ok en st 1099511627776) (fun _ => rfl) ?_
  cases h5 : wi en st 1099511627776
  · simp -implicitDefEqProofs only [pkA, ↓reduceIte, Nat.reduceEqDiff, validR, h1, h2, h3, h4, h5]
  simp -implicitDefEqProofs only [pkA, ptA, ↓reduceIte, Nat.reduceEqDiff, Nat.reduceAdd, Nat.reduceMul, Nat.reduceLT, Nat.zero_add, decide_true]
  refine call_fn rfl (rwithin_ok ver 1 2147483647) (fun _ => rfl) ?_
  cases h6 : wi ver 1 2147483647
  · simp -implicitDefEqProofs only [pkA, ↓reduceIte, Nat.reduceEqDiff, validR, h1, h2, h3, h4, h5, h6]
  simp -implicitDefEqProofs only [pkA, ptA, ↓reduceIte, Nat.reduceEqDiff, Nat.reduceAdd, Nat.reduceMul, Nat.reduceLT, Nat.zero_add, decide_true]
  refine call_fn rfl (rwithin_ok par 0 2147483647) (fun _ => rfl) ?_
  simp -implicitDefEqProofs only [pkA, ↓reduceIte, Nat.reduceEqDiff, validR, h1, h2, h3, h4, h5, h6]
/-- Bits without those of another number, and with them. -/
theorem wrap_toInt (z : BitVec 64) : IntKind.i64.wrap (z.toNat : Int) = z.toInt := by
  have h := z.isLt
  rw [BitVec.toInt_eq_toNat_cond]
  have hb : IntKind.i64.bits = 64 := rfl
  have hs : IntKind.i64.signed = true := rfl
  have e : ((z.toNat : Int) % 2 ^ 64) = z.toNat := by omega
  unfold IntKind.wrap
  simp only [hb, hs, Bool.true_and, decide_eq_true_eq, e]
  by_cases c : 2 * z.toNat < 2 ^ 64
  · rw [if_pos c, if_neg (by omega)]
  · rw [if_neg c, if_pos (by omega)]; rfl
theorem and_bits (a b : Int) : bits .and .i64 a b = (BitVec.ofInt 64 a &&& BitVec.ofInt 64 b).toInt := wrap_toInt _
theorem andNot_bits (a b : Int) : bits .andNot .i64 a b = (BitVec.ofInt 64 a &&& ~~~BitVec.ofInt 64 b).toInt := wrap_toInt _
theorem bv_toInt {a : Int} (h : I64 a) : (BitVec.ofInt 64 a).toInt = a := by
  obtain ⟨h1, h2⟩ := h
  rw [BitVec.toInt_ofInt]
  rw [Int.bmod_def]; simp; omega
theorem bv_andNot (x y : BitVec 64) : x &&& ~~~y = 0 ↔ x &&& y = x := by
  constructor
  · intro h
    apply BitVec.eq_of_getLsbD_eq
    intro i hi
    have := congrArg (fun z => z.getLsbD i) h
    simp at this ⊢
    cases hx : x.getLsbD i <;> cases hy : y.getLsbD i <;> simp_all
  · intro h
    apply BitVec.eq_of_getLsbD_eq
    intro i hi
    have := congrArg (fun z => z.getLsbD i) h
    simp at this ⊢
    cases hx : x.getLsbD i <;> cases hy : y.getLsbD i <;> simp_all
theorem andNot_and {a b : Int} (ha : I64 a) : (bits .andNot .i64 a b = 0) ↔ (bits .and .i64 a b = a) := by
  rw [andNot_bits, and_bits]
  constructor
  · intro h
    have h0 : BitVec.ofInt 64 a &&& ~~~BitVec.ofInt 64 b = 0 := BitVec.eq_of_toInt_eq (by rw [h]; rfl)
    rw [(bv_andNot _ _).1 h0, bv_toInt ha]
  · intro h
    have h0 : BitVec.ofInt 64 a &&& BitVec.ofInt 64 b = BitVec.ofInt 64 a := BitVec.eq_of_toInt_eq (by rw [h, bv_toInt ha])
    rw [(bv_andNot _ _).2 h0]; rfl
theorem validR_eq {k : Ky} (h : k.ok) : validR k = validK k := by
  have hu : usesR k.uses = usesOk k.uses := decide_eq_decide.2 (andNot_and h.2.2.1).symm
  unfold validR validK
  rw [hu]
  refine Bool.eq_iff_iff.2 ?_
  simp only [Bool.and_eq_true, wi, decide_eq_true_eq]
  constructor
  · rintro ⟨⟨⟨⟨⟨⟨a1, a2⟩, a3⟩, a4⟩, a5⟩, a6⟩, a7⟩
    exact ⟨⟨⟨⟨⟨⟨a1, a2⟩, a3⟩, by omega⟩, by omega⟩, a6⟩, a7⟩
  · rintro ⟨⟨⟨⟨⟨⟨a1, a2⟩, a3⟩, a4⟩, a5⟩, a6⟩, a7⟩
    exact ⟨⟨⟨⟨⟨⟨a1, a2⟩, a3⟩, by omega⟩, by omega⟩, a6⟩, a7⟩
theorem rValid_ok (k : Ky) (h : k.ok) : FnOK Tryd.prog G 35 [kv k] (bo (validK k)) := by
  rw [← validR_eq h]; exact rValid_ok0 k
def Tb.ok (t : Tb) : Prop := I64 t.nx ∧ ∀ k ∈ t.ks, k.ok
def validTR (t : Tb) : Bool := decide (t.ks.length ≤ 4096) && (wi t.nx 1 2147483647 && valL t.nx 0 t.ks)
set_option maxRecDepth 100000 in
set_option maxHeartbeats 1500000 in
theorem rValidT_ok (t : Tb) (hl : t.ks.length ≤ 9223372036854775807) (ht : t.ok) : FnOK Tryd.prog G 44 [tv t] (bo (validTR t)) := by
  refine FnOK_by (rs := [.tmp 2]) false [] mixed Tryd.func44 rfl rfl rfl rfl (by kernel_rfl) (by simp) rfl rfl ?_
  obtain ⟨nx, ks⟩ := t
  obtain ⟨_, hko⟩ := ht
  simp only at hl hko
  have hvt : validTR ⟨nx, ks⟩ = (decide (ks.length ≤ 4096) && (wi nx 1 2147483647 && valL nx 0 ks)) := rfl
  rw [hvt]
  simp -implicitDefEqProofs only [pkA, ptA, ↓reduceIte, Nat.reduceEqDiff, Nat.reduceAdd, Nat.reduceMul, Nat.reduceLT, Nat.zero_add, decide_true, tv, tC, List.length_map]
  by_cases h40 : ks.length ≤ 4096
  case neg =>
    have d1 : decide ((4096 : Int) < (ks.length : Nat)) = true := decide_eq_true (by omega)
    rw [decide_eq_false h40, Bool.false_and]
    simp -implicitDefEqProofs only [pkA, ↓reduceIte, Nat.reduceEqDiff, Nat.reduceAdd, d1]
  have d1 : decide ((4096 : Int) < (ks.length : Nat)) = false := decide_eq_false (by omega)
  rw [decide_eq_true h40, Bool.true_and]
  simp -implicitDefEqProofs only [pkA, ptA, ↓reduceIte, Nat.reduceEqDiff, Nat.reduceAdd, Nat.reduceMul, Nat.reduceLT, Nat.zero_add, decide_true, d1]
  refine call_fn rfl (rwithin_ok nx 1 2147483647) (fun _ => rfl) ?_
  cases hwn : wi nx 1 2147483647
  · simp -implicitDefEqProofs only [pkA, ↓reduceIte, Nat.reduceEqDiff, Nat.reduceAdd]
  rw [Bool.true_and]
  simp -implicitDefEqProofs only [pkA, ↓reduceIte, Nat.reduceEqDiff, Nat.reduceAdd]
  refine run_loop (fun x : Nat × Int => hdS [(1, .bp 0 0), (3, i64 x.2), (4, i64 (x.1 : Nat))] [[V.c (ic nx), V.c (.sl (ks.map kC))]]) (fun x => ks.length - x.1) (fun x => x.1 ≤ ks.length ∧ valL nx 0 ks = valL nx x.2 (ks.drop x.1)) (0, 0) ⟨Nat.zero_le _, rfl⟩ ?_ ?_
  · exact le_hd rfl (Nat.zero_le _) (by simp) (by simp [FL, up_apply]) (by simp [BL])
  rintro ⟨i, last⟩ ⟨hi, hv⟩ R hnorm hexit hret
  simp only at hi hv
  have hwi := wrap_of (n := (i : Int) + 1) (k := i + 1) (by omega) (by omega)
  simp -implicitDefEqProofs only [pkA, ptA, ↓reduceIte, Nat.reduceEqDiff, Nat.reduceAdd, Nat.reduceMul, Nat.reduceLT, Nat.zero_add, decide_true, List.length_map]
  refine vcond_of (fun hp => ?_) (fun hz => ?_)
  · have hp : i < ks.length := by have := dlt hp; omega
    obtain ⟨k, hk⟩ : ∃ k, ks[i]? = some k := ⟨ks[i], List.getElem?_eq_getElem hp⟩
    have hk0 := hko k (List.mem_of_getElem? hk)
    have p0 : ∀ K, partV false 1 0 (kC k) K = K (i64 k.id) := fun K => rfl
    have p7 : ∀ K, partV false 1 7 (kC k) K = K (i64 k.par) := fun K => rfl
    have pa : ∀ s K, vload Tryd.prog 26 s (.c (.rp (kC k) 0)) K = K (kv k) := fun s K => ld_all ti_26 rfl (kC_len k)
    have hset : ∀ l : List V, l.length = 9 → setV l 0 ((kC k).map V.c) = (kC k).map V.c := fun l h => setV_all (by rw [h]; rfl)
    rw [drop_at hk] at hv
    have hv : valL nx 0 ks = (okNext nx last k && valL nx k.id (ks.drop (i + 1))) := hv
    simp -implicitDefEqProofs only [pkA, ptA, ↓reduceIte, Nat.reduceEqDiff, Nat.reduceAdd, Nat.reduceMul, Nat.reduceLT, Nat.zero_add, decide_true]
    refine ia_ks hk rfl ?_
    simp -implicitDefEqProofs only [pkA, ptA, ↓reduceIte, Nat.reduceEqDiff, Nat.reduceAdd, Nat.reduceMul, Nat.reduceLT, Nat.reduceLeDiff, Nat.zero_add, decide_true, pa, kv]
    rw [hset _ rfl]
    refine ⟨rfl, ?_⟩
    simp -implicitDefEqProofs only [pkA]
    refine lda_kv (Nat.lt_succ_self 1) ?_
    simp -implicitDefEqProofs only [pkA, ↓reduceIte, Nat.reduceAdd]
    refine call_fn rfl (rValid_ok k hk0) (fun h => by cases h) ?_
    unfold okNext at hv
    cases h1 : validK k
    · rw [h1, Bool.false_and, Bool.false_and] at hv
      simp -implicitDefEqProofs only [pkA, ↓reduceIte, Nat.reduceEqDiff, Nat.reduceAdd]
      refine hret _ ?_
      rw [hv]
      simp -implicitDefEqProofs only [pkA, ↓reduceIte]
    rw [h1, Bool.true_and] at hv
    simp -implicitDefEqProofs only [pkA, ptA, ↓reduceIte, Nat.reduceEqDiff, Nat.reduceAdd, Nat.reduceMul, Nat.reduceLT, Nat.zero_add, decide_true, p0]
    cases h2 : decide (k.id ≤ last)
    case true =>
      rw [h2, Bool.not_true, Bool.false_and, Bool.false_and] at hv
      simp -implicitDefEqProofs only [pkA, ↓reduceIte, Nat.reduceEqDiff, Nat.reduceAdd]
      refine hret _ ?_
      rw [hv]
      simp -implicitDefEqProofs only [pkA, ↓reduceIte]
    rw [h2, Bool.not_false, Bool.true_and] at hv
    simp -implicitDefEqProofs only [pkA, ptA, ↓reduceIte, Nat.reduceEqDiff, Nat.reduceAdd, Nat.reduceMul, Nat.reduceLT, Nat.zero_add, decide_true, p0]
    cases h3 : decide (nx ≤ k.id)
    case true =>
      rw [h3, Bool.not_true, Bool.false_and, Bool.false_and] at hv
      simp -implicitDefEqProofs only [pkA, ↓reduceIte, Nat.reduceEqDiff, Nat.reduceAdd]
      refine hret _ ?_
      rw [hv]
      simp -implicitDefEqProofs only [pkA, ↓reduceIte]
    rw [h3, Bool.not_false, Bool.true_and] at hv
    simp -implicitDefEqProofs only [pkA, ptA, ↓reduceIte, Nat.reduceEqDiff, Nat.reduceAdd, Nat.reduceMul, Nat.reduceLT, Nat.zero_add, decide_true, p7]
    cases h4 : decide (nx ≤ k.par)
    case true =>
      rw [h4, Bool.not_true, Bool.false_and] at hv
      simp -implicitDefEqProofs only [pkA, ↓reduceIte, Nat.reduceAdd]
      refine hret _ ?_
      rw [hv]
      simp -implicitDefEqProofs only [pkA, ↓reduceIte]
    rw [h4, Bool.not_false, Bool.true_and] at hv
    simp -implicitDefEqProofs only [pkA, ptA, ↓reduceIte, Nat.reduceEqDiff, Nat.reduceAdd, Nat.reduceMul, Nat.reduceLT, Nat.zero_add, decide_true, p0, hwi]
    exact hnorm (i + 1, k.id) _ ⟨hp, hv⟩ (show ks.length - (i + 1) < ks.length - i by omega) (le_hd rfl (Nat.zero_le _) (by simp) (by simp [FL, up_apply]) (by simp [BL, up_apply, bxs]))
  have hz : i = ks.length := by have := dge hz; omega
  subst hz
  rw [List.drop_length] at hv
  have hv : valL nx 0 ks = true := hv
  simp -implicitDefEqProofs only [pkA]
  refine hexit _ _ ?_
  rw [hv]
  simp -implicitDefEqProofs only [pkA, ↓reduceIte, Nat.reduceAdd]
end Go.Proofs.YtidlohfkfdeaiaaDoor

/- Layer 27: the specification looks keys up alike. -/
namespace Go.Proofs.YtidlohfkfdeaiaaDoor
open Go Go.Vl

variable {G : Gl}
end Go.Proofs.YtidlohfkfdeaiaaDoor
