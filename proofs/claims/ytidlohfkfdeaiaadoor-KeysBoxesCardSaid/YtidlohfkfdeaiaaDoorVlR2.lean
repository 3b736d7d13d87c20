/- Layer 27: the specification computes the same. -/
import Derived.Test.YtidlohfkfdeaiaaDoorVlY6
set_option linter.unusedSimpArgs false
set_option linter.unusedVariables false
namespace Go.Proofs.YtidlohfkfdeaiaaDoor
open Go Go.Vl

variable {G : Gl}
set_option maxRecDepth 100000 in
theorem rwithin_ok (n lo hi : Int) : FnOK Tryd.prog G 72 [i64 n, i64 lo, i64 hi] (bo (wi n lo hi)) := by
  refine FnOK_by (rs := [.tmp 6]) false [] mixed Tryd.func72 rfl rfl rfl rfl (by kernel_rfl) (by simp) rfl rfl ?_
  simp -implicitDefEqProofs only [pkA, ↓reduceIte, Nat.reduceEqDiff, Nat.reduceAdd, Nat.zero_add]
  unfold wi
  refine vgd_of (fun h => ?_) (fun h => ?_)
  · rw [h]
    simp -implicitDefEqProofs only [pkA, ↓reduceIte, Nat.reduceEqDiff]
  · have h : decide (lo ≤ n) = false := h
    rw [h]
    simp -implicitDefEqProofs only [pkA, ↓reduceIte, Nat.reduceEqDiff]
def usesR (u : Int) : Bool := decide (bits .and .i64 u 956 = u)
def validR (k : Ky) : Bool := wi k.ty 0 31 && decide (k.val.length = 32) && usesR k.uses && wi k.st 0 1099511627776 && wi k.en k.st 1099511627776 && wi k.ver 1 2147483647 && wi k.par 0 2147483647
set_option maxRecDepth 100000 in
set_option maxHeartbeats 1500000 in
theorem rValid_ok0 (k : Ky) : FnOK Tryd.prog G 35 [kv k] (bo (validR k)) := by
  refine FnOK_by (rs := [.tmp 2]) false [] mixed Tryd.func35 rfl rfl rfl rfl (by kernel_rfl) (by simp) rfl rfl ?_
  obtain ⟨id, ty, val, us, st, en, ver, par, raw⟩ := k
  simp -implicitDefEqProofs only [pkA, ptA, ↓reduceIte, Nat.reduceEqDiff, Nat.reduceAdd, Nat.reduceMul, Nat.reduceLT, Nat.zero_add, decide_true, kv, kC]
  refine call_fn rfl (rwithin_ok ty 0 31) (fun _ => rfl) ?_
  cases h1 : wi ty 0 31
  · simp -implicitDefEqProofs only [pkA, ↓reduceIte, Nat.reduceEqDiff, validR, h1]
  simp -implicitDefEqProofs only [pkA, ptA, ↓reduceIte, Nat.reduceEqDiff, Nat.reduceAdd, Nat.reduceMul, Nat.reduceLT, Nat.zero_add, decide_true, bs8_size]
  have e2 : decide (((val.length : Nat) : Int) = 32) = decide (val.length = 32) := decide_eq_decide.2 (by omega)
  rw [e2]
  cases h2 : decide (val.length = 32)
  · simp -implicitDefEqProofs only [pkA, ↓reduceIte, Nat.reduceEqDiff, validR, h1, h2]
  have ea : ∀ K, vint .and .i64 us 956 K = K (.c (.lit (.int .i64 (bits .and .i64 us 956)))) := fun _ => rfl
  simp -implicitDefEqProofs only [pkA, ptA, ↓reduceIte, Nat.reduceEqDiff, Nat.reduceAdd, Nat.reduceMul, Nat.reduceLT, Nat.zero_add, decide_true, ea]
  have e3 : decide (bits .and .i64 us 956 = us) = usesR us := rfl
  rw [e3]
  cases h3 : usesR us
  · simp -implicitDefEqProofs only [pkA, ↓reduceIte, Nat.reduceEqDiff, validR, h1, h2, h3]
  simp -implicitDefEqProofs only [pkA, ptA, ↓reduceIte, Nat.reduceEqDiff, Nat.reduceAdd, Nat.reduceMul, Nat.reduceLT, Nat.zero_add, decide_true]
  refine call_fn rfl (rwithin_ok st 0 1099511627776) (fun _ => rfl) ?_
  cases h4 : wi st 0 1099511627776
  · simp -implicitDefEqProofs only [pkA, ↓reduceIte, Nat.reduceEqDiff, validR, h1, h2, h3, h4]
  simp -implicitDefEqProofs only [pkA, ptA, ↓reduceIte, Nat.reduceEqDiff, Nat.reduceAdd, Nat.reduceMul, Nat.reduceLT, Nat.zero_add, decide_true]
  refine call_fn rfl (rwithin_ok en st 1099511627776) (fun _ => rfl) ?_
  cases h5 : wi en st 1099511627776
  · simp -implicitDefEqProofs only [pkA, ↓reduceIte, Nat.reduceEqDiff, validR, h1, h2, h3, h4, h5]
  simp -implicitDefEqProofs only [pkA, ptA, ↓reduceIte, Nat.reduceEqDiff, Nat.reduceAdd, Nat.reduceMul, Nat.reduceLT, Nat.zero_add, decide_true]
  refine call_fn rfl (rwithin_ok ver 1 2147483647) (fun _ => rfl) ?_
  cases h6 : wi ver 1 2147483647
  · simp -implicitDefEqProofs only [pkA, ↓reduceIte, Nat.reduceEqDiff, validR, h1, h2, h3, h4, h5, h6]
  simp -implicitDefEqProofs only [pkA, ptA, ↓reduceIte, Nat.reduceEqDiff, Nat.reduceAdd, Nat.reduceMul, Nat.reduceLT, Nat.zero_add, decide_true]
  refine call_fn rfl (rwithin_ok par 0 2147483647) (fun _ => rfl) ?_
  simp -implicitDefEqProofs only [pkA, ↓reduceIte, Nat.reduceEqDiff, validR, h1, h2, h3, h4, h5, h6]
/-- Bits without those of another number, and with them. -/
theorem wrap_toInt (z : BitVec 64) : IntKind.i64.wrap (z.toNat : Int) = z.toInt := by
  have h := z.isLt
  rw [BitVec.toInt_eq_toNat_cond]
  have hb : IntKind.i64.bits = 64 := rfl
  have hs : IntKind.i64.signed = true := rfl
  have e : ((z.toNat : Int) % 2 ^ 64) = z.toNat := by omega
  unfold IntKind.wrap
  simp only [hb, hs, Bool.true_and, decide_eq_true_eq, e]
  by_cases c : 2 * z.toNat < 2 ^ 64
  · rw [if_pos c, if_neg (by omega)]
  · rw [if_neg c, if_pos (by omega)]; rfl
theorem and_bits (a b : Int) : bits .and .i64 a b = (BitVec.ofInt 64 a &&& BitVec.ofInt 64 b).toInt := wrap_toInt _
theorem andNot_bits (a b : Int) : bits .andNot .i64 a b = (BitVec.ofInt 64 a &&& ~~~BitVec.ofInt 64 b).toInt := wrap_toInt _
theorem bv_toInt {a : Int} (h : I64 a) : (BitVec.ofInt 64 a).toInt = a := by
  obtain ⟨h1, h2⟩ := h
  rw [BitVec.toInt_ofInt]
  rw [Int.bmod_def]; simp; omega
theorem bv_andNot (x y : BitVec 64) : x &&& ~~~y = 0 ↔ x &&& y = x := by
  constructor
  · intro h
    apply BitVec.eq_of_getLsbD_eq
    intro i hi
    have := congrArg (fun z => z.getLsbD i) h
    simp at this ⊢
    cases hx : x.getLsbD i <;> cases hy : y.getLsbD i <;> simp_all
  · intro h
    apply BitVec.eq_of_getLsbD_eq
    intro i hi
    have := congrArg (fun z => z.getLsbD i) h
    simp at this ⊢
    cases hx : x.getLsbD i <;> cases hy : y.getLsbD i <;> simp_all
theorem andNot_and {a b : Int} (ha : I64 a) : (bits .andNot .i64 a b = 0) ↔ (bits .and .i64 a b = a) := by
  rw [andNot_bits, and_bits]
  constructor
  · intro h
    have h0 : BitVec.ofInt 64 a &&& ~~~BitVec.ofInt 64 b = 0 := BitVec.eq_of_toInt_eq (by rw [h]; rfl)
    rw [(bv_andNot _ _).1 h0, bv_toInt ha]
  · intro h
    have h0 : BitVec.ofInt 64 a &&& BitVec.ofInt 64 b = BitVec.ofInt 64 a := BitVec.eq_of_toInt_eq (by rw [h, bv_toInt ha])
    rw [(bv_andNot _ _).2 h0]; rfl
theorem validR_eq {k : Ky} (h : k.ok) : validR k = validK k := by
  have hu : usesR k.uses = usesOk k.uses := decide_eq_decide.2 (andNot_and h.2.2.1).symm
  unfold validR validK
  rw [hu]
  refine Bool.eq_iff_iff.2 ?_
  simp only [Bool.and_eq_true, wi, decide_eq_true_eq]
  constructor
  · rintro ⟨⟨⟨⟨⟨⟨a1, a2⟩, a3⟩, a4⟩, a5⟩, a6⟩, a7⟩
    exact ⟨⟨⟨⟨⟨⟨a1, a2⟩, a3⟩, by omega⟩, by omega⟩, a6⟩, a7⟩
  · rintro ⟨⟨⟨⟨⟨⟨a1, a2⟩, a3⟩, a4⟩, a5⟩, a6⟩, a7⟩
    exact ⟨⟨⟨⟨⟨⟨a1, a2⟩, a3⟩, by omega⟩, by omega⟩, a6⟩, a7⟩
theorem rValid_ok (k : Ky) (h : k.ok) : FnOK Tryd.prog G 35 [kv k] (bo (validK k)) := by
  rw [← validR_eq h]; exact rValid_ok0 k
def Tb.ok (t : Tb) : Prop := I64 t.nx ∧ ∀ k ∈ t.ks, k.ok
end Go.Proofs.YtidlohfkfdeaiaaDoor

/- Layer 27: the specification looks keys up alike. -/
namespace Go.Proofs.YtidlohfkfdeaiaaDoor
open Go Go.Vl

variable {G : Gl}
end Go.Proofs.YtidlohfkfdeaiaaDoor
