/- Layer 27: the specification's Add, Put and Remove. -/
import Derived.Test.YtidlohfkfdeaiaaDoorVlZ2
import Derived.Test.YtidlohfkfdeaiaaDoorVlR2
set_option linter.unusedSimpArgs false
set_option linter.unusedVariables false
namespace Go.Proofs.YtidlohfkfdeaiaaDoor
open Go Go.Vl

variable {G : Gl}
set_option maxRecDepth 100000 in
theorem apKs {E : Option (TypeId × Nat)} {ks ms : List Ky} {K : V → Prop} (h0 : E = none ∨ E = EK) (hl : ks.length + ms.length ≤ 10000000) (hK : ∀ E', (E' = none ∨ E' = EK) → K (.ow E' ((ks ++ ms).map kC))) : vappend Tryd.prog 22 (.ow E (ks.map kC)) (.c (.sl (ms.map kC))) K := by
  have hs : ∀ l : List Ky, ∀ x ∈ l.map kC, x.length = 9 := fun l x hx => by obtain ⟨q, _, rfl⟩ := List.mem_map.1 hx; rfl
  rw [app_22, ← List.map_append]
  refine ⟨⟨h0, hs ks⟩, ⟨?_, ?_, hs ms⟩, hK _ ?_⟩
  · rw [List.length_map, List.length_map]; omega
  · rw [List.length_map, List.length_map]; omega
  · split
    · exact h0
    · exact Or.inr rfl
set_option maxRecDepth 100000 in
theorem slK {ks : List Ky} {lo hi : Option V} {l h : Nat} {K : V → Prop} (h1 : optInt 0 lo = some (l : Nat)) (h2 : optInt (ks.length : Nat) hi = some (h : Nat)) (hlh : l ≤ h) (hh : h ≤ ks.length) (hK : K (.c (.sl (((ks.take h).drop l).map kC)))) :
    vslice Tryd.prog 22 (.c (.sl (ks.map kC))) lo hi none K := by
  simp only [vslice, ti_22, ti_26, List.length_map, h1, h2, Int.toNat_natCast]
  refine ⟨⟨by omega, by omega, by omega, fun x hx => by obtain ⟨q, _, rfl⟩ := List.mem_map.1 hx; rfl⟩, ?_⟩
  rw [← List.map_take, ← List.map_drop]; exact hK
theorem at_low {ks : List Ky} {x : Int} (hs : sortedK ks) : atK ks x = if hasK ks x then (lowK ks x : Int) else -1 := by
  have e := hasK_get (x := x) hs
  rcases atK_cases ks x with ⟨h1, h2⟩ | ⟨i, k, h1, h2, h3⟩
  · rw [h2] at e
    cases hh : hasK ks x
    · rw [h1]; rfl
    · obtain ⟨a, ha⟩ := hasK_at hh
      rw [hh, if_pos rfl, ha] at e; cases e
  · rw [h3] at e
    cases hh : hasK ks x
    · rw [hh] at e; simp at e
    · rw [hh, if_pos rfl] at e
      rw [h1, if_pos rfl]
      rcases Nat.lt_trichotomy i (lowK ks x) with h | h | h
      · have := hs _ _ _ _ h h2 e.symm; omega
      · rw [h]
      · have := hs _ _ _ _ h e.symm h2; omega
theorem lda_cs {cs : List C} {nb b n : Nat} {K : V → Prop} (hb : b < nb) (hn : cs.length = n) (hK : K (.agg cs)) : ldA nb b (cs.map V.c) 0 n K := by
  have e : cs.map V.c = cl id cs := rfl
  rw [e]
  refine ldA_cl hb hn ?_
  rw [List.map_id]; exact hK
/-- What Add answers, as the specification keeps it. -/
def addC (t : Tb) (k : Ky) : List C := [ic (addT t k).1.nx, .sl ((addT t k).1.ks.map kC), ic (addT t k).2.1, ic (addT t k).2.2]
set_option maxRecDepth 100000 in
set_option maxHeartbeats 1500000 in
theorem rAdd_ok (t : Tb) (k : Ky) (hk : k.ok) (hl : t.ks.length ≤ 1000000) (hn : I64 t.nx) : FnOK Tryd.prog G 39 [tv t, kv k] (.agg (addC t k)) := by
  refine FnOK_by (rs := [.cell 4 61]) false [32, 39, 200037, 303700, 200040, 304001, 200045, 304501, 200004, 300402] mixed Tryd.func39 rfl rfl rfl rfl (by kernel_rfl) (by simp) rfl rfl ?_
  obtain ⟨nx, ks⟩ := t
  simp only at hl hn
  have hat : addC ⟨nx, ks⟩ k = [ic (addT ⟨nx, ks⟩ k).1.nx, .sl ((addT ⟨nx, ks⟩ k).1.ks.map kC), ic (addT ⟨nx, ks⟩ k).2.1, ic (addT ⟨nx, ks⟩ k).2.2] := rfl
  have hat2 : addT ⟨nx, ks⟩ k = if !validK k || decide (nx ≤ k.par) then (⟨0, []⟩, 0, 1) else
    if 4096 ≤ ks.length ∨ 2147483647 ≤ nx then (⟨0, []⟩, 0, 2) else (⟨nx + 1, ks ++ [{ k with id := nx }]⟩, nx, 0) := rfl
  rw [hat, hat2]
  have p7 : ∀ K, partV false 1 7 (kC k) K = K (i64 k.par) := fun K => rfl
  simp -implicitDefEqProofs only [pkA, ptA, ↓reduceIte, Nat.reduceEqDiff, Nat.reduceAdd, Nat.reduceBEq, Nat.reduceMul, Nat.reduceLT, Nat.reduceLeDiff, isMb_flb, Nat.zero_add, decide_true, Nat.reduceSub, isMb_cl, isMb_zbox, cl_len, zbox_len, c_w8, c_lo8, wr_add, w_xor, w_and, w_or, w_not, vbin_shl, vbin_shr, vint_mul, tC, List.map_cons, List.map_nil]
  refine lda_kv (show 1 < 3 by decide) ?_
  simp -implicitDefEqProofs only [pkA, ptA, ↓reduceIte, Nat.reduceEqDiff, Nat.reduceAdd, Nat.reduceBEq, Nat.reduceMul, Nat.reduceLT, Nat.reduceLeDiff, isMb_flb, Nat.zero_add, decide_true, Nat.reduceSub, isMb_cl, isMb_zbox, cl_len, zbox_len, c_w8, c_lo8, wr_add, w_xor, w_and, w_or, w_not, vbin_shl, vbin_shr, vint_mul, isMb_kv]
  refine call_fn rfl (rValid_ok k hk) (fun _ => rfl) ?_
  cases h1 : validK k
  · simp -implicitDefEqProofs only [pkA, ptA, ↓reduceIte, Nat.reduceEqDiff, Nat.reduceAdd, Nat.reduceBEq, Nat.reduceMul, Nat.reduceLT, Nat.reduceLeDiff, isMb_flb, Nat.zero_add, decide_true, Nat.reduceSub, isMb_cl, isMb_zbox, cl_len, zbox_len, c_w8, c_lo8, wr_add, w_xor, w_and, w_or, w_not, vbin_shl, vbin_shr, vint_mul, isMb_kv, Bool.not_false, Bool.true_or]
    exact ⟨rfl, lda_cs (cs := [ic 0, .sl [], ic 0, ic 1]) (by decide) rfl rfl⟩
  simp -implicitDefEqProofs only [pkA, ptA, ↓reduceIte, Nat.reduceEqDiff, Nat.reduceAdd, Nat.reduceBEq, Nat.reduceMul, Nat.reduceLT, Nat.reduceLeDiff, isMb_flb, Nat.zero_add, decide_true, Nat.reduceSub, isMb_cl, isMb_zbox, cl_len, zbox_len, c_w8, c_lo8, wr_add, w_xor, w_and, w_or, w_not, vbin_shl, vbin_shr, vint_mul, isMb_kv, p7]
  cases h2 : decide (nx ≤ k.par)
  case true =>
    simp -implicitDefEqProofs only [pkA, ptA, ↓reduceIte, Nat.reduceEqDiff, Nat.reduceAdd, Nat.reduceBEq, Nat.reduceMul, Nat.reduceLT, Nat.reduceLeDiff, isMb_flb, Nat.zero_add, decide_true, Nat.reduceSub, isMb_cl, isMb_zbox, cl_len, zbox_len, c_w8, c_lo8, wr_add, w_xor, w_and, w_or, w_not, vbin_shl, vbin_shr, vint_mul, isMb_kv, p7, Bool.or_true]
    exact ⟨rfl, lda_cs (cs := [ic 0, .sl [], ic 0, ic 1]) (by decide) rfl rfl⟩
  simp -implicitDefEqProofs only [pkA, ptA, ↓reduceIte, Nat.reduceEqDiff, Nat.reduceAdd, Nat.reduceBEq, Nat.reduceMul, Nat.reduceLT, Nat.reduceLeDiff, isMb_flb, Nat.zero_add, decide_true, Nat.reduceSub, isMb_cl, isMb_zbox, cl_len, zbox_len, c_w8, c_lo8, wr_add, w_xor, w_and, w_or, w_not, vbin_shl, vbin_shr, vint_mul, isMb_kv, p7, List.length_map, Bool.not_true, Bool.false_or]
  by_cases hb : 4096 ≤ ks.length
  · have d1 : decide ((4096 : Int) ≤ (ks.length : Nat)) = true := decide_eq_true (by omega)
    rw [if_pos (Or.inl hb)]
    simp -implicitDefEqProofs only [pkA, ptA, ↓reduceIte, Nat.reduceEqDiff, Nat.reduceAdd, Nat.reduceBEq, Nat.reduceMul, Nat.reduceLT, Nat.reduceLeDiff, isMb_flb, Nat.zero_add, decide_true, Nat.reduceSub, isMb_cl, isMb_zbox, cl_len, zbox_len, c_w8, c_lo8, wr_add, w_xor, w_and, w_or, w_not, vbin_shl, vbin_shr, vint_mul, d1]
    exact ⟨rfl, lda_cs (cs := [ic 0, .sl [], ic 0, ic 2]) (by decide) rfl rfl⟩
  have d1 : decide ((4096 : Int) ≤ (ks.length : Nat)) = false := decide_eq_false (by omega)
  simp -implicitDefEqProofs only [pkA, ptA, ↓reduceIte, Nat.reduceEqDiff, Nat.reduceAdd, Nat.reduceBEq, Nat.reduceMul, Nat.reduceLT, Nat.reduceLeDiff, isMb_flb, Nat.zero_add, decide_true, Nat.reduceSub, isMb_cl, isMb_zbox, cl_len, zbox_len, c_w8, c_lo8, wr_add, w_xor, w_and, w_or, w_not, vbin_shl, vbin_shr, vint_mul, d1]
  by_cases hn2 : 2147483647 ≤ nx
  · have d2 : decide ((2147483647 : Int) ≤ nx) = true := decide_eq_true hn2
    rw [if_pos (Or.inr hn2)]
    simp -implicitDefEqProofs only [pkA, ptA, ↓reduceIte, Nat.reduceEqDiff, Nat.reduceAdd, Nat.reduceBEq, Nat.reduceMul, Nat.reduceLT, Nat.reduceLeDiff, isMb_flb, Nat.zero_add, decide_true, Nat.reduceSub, isMb_cl, isMb_zbox, cl_len, zbox_len, c_w8, c_lo8, wr_add, w_xor, w_and, w_or, w_not, vbin_shl, vbin_shr, vint_mul, d2]
    exact ⟨rfl, lda_cs (cs := [ic 0, .sl [], ic 0, ic 2]) (by decide) rfl rfl⟩
  have d2 : decide ((2147483647 : Int) ≤ nx) = false := decide_eq_false hn2
  have hno : ¬ (4096 ≤ ks.length ∨ 2147483647 ≤ nx) := fun h => h.elim hb hn2
  rw [if_neg hno]
  have hw : IntKind.i64.wrap (nx + 1) = nx + 1 := wrapI ⟨by have := hn.1; omega, by omega⟩
  simp -implicitDefEqProofs only [pkA, ptA, ↓reduceIte, Nat.reduceEqDiff, Nat.reduceAdd, Nat.reduceBEq, Nat.reduceMul, Nat.reduceLT, Nat.reduceLeDiff, isMb_flb, Nat.zero_add, decide_true, Nat.reduceSub, isMb_cl, isMb_zbox, cl_len, zbox_len, c_w8, c_lo8, wr_add, w_xor, w_and, w_or, w_not, vbin_shl, vbin_shr, vint_mul, d2, hw]
  have hs1 : setV ((kC k).map V.c) 0 [V.c (ic nx)] = (kC { k with id := nx }).map V.c := rfl
  rw [hs1]
  have p0 : ∀ k K, partV false 1 0 (kC k) K = K (i64 k.id) := fun k K => rfl
  have hkid : ({ k with id := nx } : Ky).id = nx := rfl
  generalize ({ k with id := nx } : Ky) = k' at *
  refine ⟨by simp [kC_len], ?_⟩
  refine apKs (ks := []) (ms := ks) (Or.inl rfl) (by simp only [List.length_nil]; omega) (fun E hE => ?_)
  rw [List.nil_append]
  simp -implicitDefEqProofs only [pkA, ptA, ↓reduceIte, Nat.reduceEqDiff, Nat.reduceAdd, Nat.reduceBEq, Nat.reduceMul, Nat.reduceLT, Nat.reduceLeDiff, isMb_flb, Nat.zero_add, decide_true, Nat.reduceSub, isMb_cl, isMb_zbox, cl_len, zbox_len, c_w8, c_lo8, wr_add, w_xor, w_and, w_or, w_not, vbin_shl, vbin_shr, vint_mul, d2, hw]
  refine lda_kv (Nat.lt_succ_of_lt (Nat.lt_succ_self 1)) ?_
  simp -implicitDefEqProofs only [pkA, ptA, ↓reduceIte, Nat.reduceEqDiff, Nat.reduceAdd, Nat.reduceBEq, Nat.reduceMul, Nat.reduceLT, Nat.reduceLeDiff, isMb_flb, Nat.zero_add, decide_true, Nat.reduceSub, isMb_cl, isMb_zbox, cl_len, zbox_len, c_w8, c_lo8, wr_add, w_xor, w_and, w_or, w_not, vbin_shl, vbin_shr, vint_mul, isMb_kv, kv]
  refine apK hE (by rw [List.length_map]; omega) (fun x hx => by obtain ⟨q, _, rfl⟩ := List.mem_map.1 hx; rfl) ?_
  simp -implicitDefEqProofs only [pkA, ptA, ↓reduceIte, Nat.reduceEqDiff, Nat.reduceAdd, Nat.reduceBEq, Nat.reduceMul, Nat.reduceLT, Nat.reduceLeDiff, isMb_flb, Nat.zero_add, decide_true, Nat.reduceSub, isMb_cl, isMb_zbox, cl_len, zbox_len, c_w8, c_lo8, wr_add, w_xor, w_and, w_or, w_not, vbin_shl, vbin_shr, vint_mul, isMb_kv, p0, hkid]
  exact ⟨rfl, lda_cs (cs := [ic (nx + 1), .sl (ks.map kC ++ [kC k']), ic nx, ic 0]) (by decide) rfl (by rw [List.map_append]; rfl)⟩
set_option maxRecDepth 100000 in
set_option maxHeartbeats 1500000 in
theorem rPut_ok (t : Tb) (k : Ky) (hk : k.ok) (hs : sortedK t.ks) (hl : t.ks.length ≤ 1000000) : FnOK Tryd.prog G 41 [tv t, kv k] (.tup [tv (putT t k).1, i64 (putT t k).2]) := by
  refine FnOK_by (rs := [.cell 4 24, .tmp 5]) true [28, 2000031, 2500039] mixed Tryd.func41 rfl rfl rfl rfl (by kernel_rfl) (by simp) rfl rfl ?_
  have hf := at_ok (G := G) t k.id hl
  rw [at_low hs] at hf
  obtain ⟨nx, ks⟩ := t
  simp only at hs hl hf
  have hat : putT ⟨nx, ks⟩ k = if !validK k || decide (nx ≤ k.par) then (⟨0, []⟩, 1) else if hasK ks k.id then (⟨nx, ks.set (lowK ks k.id) k⟩, 0) else (⟨0, []⟩, 11) := rfl
  rw [hat]
  have p7 : ∀ K, partV false 1 7 (kC k) K = K (i64 k.par) := fun K => rfl
  have p0 : ∀ K, partV false 1 0 (kC k) K = K (i64 k.id) := fun K => rfl
  simp -implicitDefEqProofs only [pkA, ptA, ↓reduceIte, Nat.reduceEqDiff, Nat.reduceAdd, Nat.reduceBEq, Nat.reduceMul, Nat.reduceLT, Nat.reduceLeDiff, isMb_flb, Nat.zero_add, decide_true, Nat.reduceSub, isMb_cl, isMb_zbox, cl_len, zbox_len, c_w8, c_lo8, wr_add, w_xor, w_and, w_or, w_not, vbin_shl, vbin_shr, vint_mul, tC, List.map_cons, List.map_nil]
  refine lda_kv (show 1 < 3 by decide) ?_
  simp -implicitDefEqProofs only [pkA, ptA, ↓reduceIte, Nat.reduceEqDiff, Nat.reduceAdd, Nat.reduceBEq, Nat.reduceMul, Nat.reduceLT, Nat.reduceLeDiff, isMb_flb, Nat.zero_add, decide_true, Nat.reduceSub, isMb_cl, isMb_zbox, cl_len, zbox_len, c_w8, c_lo8, wr_add, w_xor, w_and, w_or, w_not, vbin_shl, vbin_shr, vint_mul, isMb_kv]
  refine call_fn rfl (rValid_ok k hk) (fun _ => rfl) ?_
  cases h1 : validK k
  · simp -implicitDefEqProofs only [pkA, ptA, ↓reduceIte, Nat.reduceEqDiff, Nat.reduceAdd, Nat.reduceBEq, Nat.reduceMul, Nat.reduceLT, Nat.reduceLeDiff, isMb_flb, Nat.zero_add, decide_true, Nat.reduceSub, isMb_cl, isMb_zbox, cl_len, zbox_len, c_w8, c_lo8, wr_add, w_xor, w_and, w_or, w_not, vbin_shl, vbin_shr, vint_mul, isMb_kv, Bool.not_false, Bool.true_or]
    exact retTz (t := ⟨0, []⟩) rfl (Nat.lt_succ_self 2) rfl rfl
  simp -implicitDefEqProofs only [pkA, ptA, ↓reduceIte, Nat.reduceEqDiff, Nat.reduceAdd, Nat.reduceBEq, Nat.reduceMul, Nat.reduceLT, Nat.reduceLeDiff, isMb_flb, Nat.zero_add, decide_true, Nat.reduceSub, isMb_cl, isMb_zbox, cl_len, zbox_len, c_w8, c_lo8, wr_add, w_xor, w_and, w_or, w_not, vbin_shl, vbin_shr, vint_mul, isMb_kv, p7]
  cases h2 : decide (nx ≤ k.par)
  case true =>
    simp -implicitDefEqProofs only [pkA, ptA, ↓reduceIte, Nat.reduceEqDiff, Nat.reduceAdd, Nat.reduceBEq, Nat.reduceMul, Nat.reduceLT, Nat.reduceLeDiff, isMb_flb, Nat.zero_add, decide_true, Nat.reduceSub, isMb_cl, isMb_zbox, cl_len, zbox_len, c_w8, c_lo8, wr_add, w_xor, w_and, w_or, w_not, vbin_shl, vbin_shr, vint_mul, isMb_kv, p7, Bool.or_true]
    exact retTz (t := ⟨0, []⟩) rfl (Nat.lt_succ_self 2) rfl rfl
  simp -implicitDefEqProofs only [pkA, ptA, ↓reduceIte, Nat.reduceEqDiff, Nat.reduceAdd, Nat.reduceBEq, Nat.reduceMul, Nat.reduceLT, Nat.reduceLeDiff, isMb_flb, Nat.zero_add, decide_true, Nat.reduceSub, isMb_cl, isMb_zbox, cl_len, zbox_len, c_w8, c_lo8, wr_add, w_xor, w_and, w_or, w_not, vbin_shl, vbin_shr, vint_mul, isMb_kv, p7, p0, Bool.not_true, Bool.false_or]
  refine call_fn («as» := [tv ⟨nx, ks⟩, i64 k.id]) rfl hf (fun _ => rfl) ?_
  cases hh : hasK ks k.id
  · have d1 : decide ((-1 : Int) < 0) = true := rfl
    simp -implicitDefEqProofs only [pkA, ptA, ↓reduceIte, Nat.reduceEqDiff, Nat.reduceAdd, Nat.reduceBEq, Nat.reduceMul, Nat.reduceLT, Nat.reduceLeDiff, isMb_flb, Nat.zero_add, decide_true, Nat.reduceSub, isMb_cl, isMb_zbox, cl_len, zbox_len, c_w8, c_lo8, wr_add, w_xor, w_and, w_or, w_not, vbin_shl, vbin_shr, vint_mul, d1]
    exact retTz (t := ⟨0, []⟩) rfl (Nat.lt_succ_self 2) rfl rfl
  obtain ⟨a, ha⟩ := hasK_at hh
  have hlt : lowK ks k.id < ks.length := (List.getElem?_eq_some_iff.1 ha).1
  generalize lowK ks k.id = i at *
  have d1 : decide ((i : Int) < 0) = false := decide_eq_false (by omega)
  simp -implicitDefEqProofs only [pkA, ptA, ↓reduceIte, Nat.reduceEqDiff, Nat.reduceAdd, Nat.reduceBEq, Nat.reduceMul, Nat.reduceLT, Nat.reduceLeDiff, isMb_flb, Nat.zero_add, decide_true, Nat.reduceSub, isMb_cl, isMb_zbox, cl_len, zbox_len, c_w8, c_lo8, wr_add, w_xor, w_and, w_or, w_not, vbin_shl, vbin_shr, vint_mul, d1]
  have hie : (ks.map kC).isEmpty = false := by cases ks with | nil => simp at hlt | cons x r => rfl
  have hke : ∀ e ∈ ks.map kC, e.length = 9 := fun e he => by obtain ⟨q, _, rfl⟩ := List.mem_map.1 he; rfl
  have hfl : List.map V.c (ks.map kC).flatten = flb kC ks := rfl
  rw [app_22]
  refine ⟨⟨.inl rfl, by simp⟩, ⟨by simp only [List.length_nil, Nat.zero_add, List.length_map]; omega, by simp only [List.length_nil, Nat.zero_add, List.length_map]; omega, hke⟩, ?_⟩
  simp -implicitDefEqProofs only [pkA, ptA, ↓reduceIte, Nat.reduceEqDiff, Nat.reduceAdd, Nat.reduceBEq, Nat.reduceMul, Nat.reduceLT, Nat.reduceLeDiff, isMb_flb, Nat.zero_add, decide_true, Nat.reduceSub, isMb_cl, isMb_zbox, cl_len, zbox_len, c_w8, c_lo8, wr_add, w_xor, w_and, w_or, w_not, vbin_shl, vbin_shr, vint_mul, hie, hfl, List.length_map]
  refine lda_kv (show 1 < 4 by decide) ?_
  simp -implicitDefEqProofs only [pkA, ptA, ↓reduceIte, Nat.reduceEqDiff, Nat.reduceAdd, Nat.reduceBEq, Nat.reduceMul, Nat.reduceLT, Nat.reduceLeDiff, isMb_flb, Nat.zero_add, decide_true, Nat.reduceSub, isMb_cl, isMb_zbox, cl_len, zbox_len, c_w8, c_lo8, wr_add, w_xor, w_and, w_or, w_not, vbin_shl, vbin_shr, vint_mul, isMb_kv]
  refine ix_flb ti_22 rfl ti_26 rfl (by decide) rfl hlt ?_
  obtain ⟨q1, q2⟩ := stq (c := kC) kC_len (y := k) hlt rfl
  simp -implicitDefEqProofs only [pkA, ptA, ↓reduceIte, Nat.reduceEqDiff, Nat.reduceAdd, Nat.reduceBEq, Nat.reduceMul, Nat.reduceLT, Nat.reduceLeDiff, isMb_flb, Nat.zero_add, decide_true, Nat.reduceSub, isMb_cl, isMb_zbox, cl_len, zbox_len, c_w8, c_lo8, wr_add, w_xor, w_and, w_or, w_not, vbin_shl, vbin_shr, vint_mul, isMb_kv, isMb_flb, q1, q2]
  refine ⟨kC_len k, ?_⟩
  exact @retMz 2 3 ks.length _ _ 0 nx (ks.set i k) 4 5 4 rfl (by decide) (by decide) rfl rfl (List.length_set ..).symm rfl
set_option maxRecDepth 100000 in
set_option maxHeartbeats 1500000 in
theorem rRemove_ok (t : Tb) (x : Int) (hs : sortedK t.ks) (hl : t.ks.length ≤ 1000000) : FnOK Tryd.prog G 43 [tv t, i64 x] (.tup [tv (remT t x).1, i64 (remT t x).2]) := by
  refine FnOK_by (rs := [.cell 4 24, .tmp 5]) true [14, 22, 200021, 302100, 200024, 302400, 200004, 300401] mixed Tryd.func43 rfl rfl rfl rfl (by kernel_rfl) (by simp) rfl rfl ?_
  have hf := at_ok (G := G) t x hl
  rw [at_low hs] at hf
  obtain ⟨nx, ks⟩ := t
  simp only at hs hl hf
  have hat : remT ⟨nx, ks⟩ x = if hasK ks x then (⟨nx, ks.eraseIdx (lowK ks x)⟩, 0) else (⟨0, []⟩, 11) := rfl
  rw [hat]
  simp -implicitDefEqProofs only [pkA, ptA, ↓reduceIte, Nat.reduceEqDiff, Nat.reduceAdd, Nat.reduceBEq, Nat.reduceMul, Nat.reduceLT, Nat.reduceLeDiff, isMb_flb, Nat.zero_add, decide_true, Nat.reduceSub, isMb_cl, isMb_zbox, cl_len, zbox_len, c_w8, c_lo8, wr_add, w_xor, w_and, w_or, w_not, vbin_shl, vbin_shr, vint_mul, tC, List.map_cons, List.map_nil]
  refine call_fn («as» := [tv ⟨nx, ks⟩, i64 x]) rfl hf (fun _ => rfl) ?_
  cases hh : hasK ks x
  · have d1 : decide ((-1 : Int) < 0) = true := rfl
    simp -implicitDefEqProofs only [pkA, ptA, ↓reduceIte, Nat.reduceEqDiff, Nat.reduceAdd, Nat.reduceBEq, Nat.reduceMul, Nat.reduceLT, Nat.reduceLeDiff, isMb_flb, Nat.zero_add, decide_true, Nat.reduceSub, isMb_cl, isMb_zbox, cl_len, zbox_len, c_w8, c_lo8, wr_add, w_xor, w_and, w_or, w_not, vbin_shl, vbin_shr, vint_mul, d1]
    exact retTz (t := ⟨0, []⟩) rfl (Nat.lt_succ_self 1) rfl rfl
  obtain ⟨a, ha⟩ := hasK_at hh
  have hlt : lowK ks x < ks.length := (List.getElem?_eq_some_iff.1 ha).1
  generalize lowK ks x = i at *
  have d1 : decide ((i : Int) < 0) = false := decide_eq_false (by omega)
  simp -implicitDefEqProofs only [pkA, ptA, ↓reduceIte, Nat.reduceEqDiff, Nat.reduceAdd, Nat.reduceBEq, Nat.reduceMul, Nat.reduceLT, Nat.reduceLeDiff, isMb_flb, Nat.zero_add, decide_true, Nat.reduceSub, isMb_cl, isMb_zbox, cl_len, zbox_len, c_w8, c_lo8, wr_add, w_xor, w_and, w_or, w_not, vbin_shl, vbin_shr, vint_mul, d1]
  refine slK (l := 0) (h := i) rfl rfl (Nat.zero_le _) (by omega) ?_
  simp -implicitDefEqProofs only [pkA, ptA, ↓reduceIte, Nat.reduceEqDiff, Nat.reduceAdd, Nat.reduceBEq, Nat.reduceMul, Nat.reduceLT, Nat.reduceLeDiff, isMb_flb, Nat.zero_add, decide_true, Nat.reduceSub, isMb_cl, isMb_zbox, cl_len, zbox_len, c_w8, c_lo8, wr_add, w_xor, w_and, w_or, w_not, vbin_shl, vbin_shr, vint_mul]
  refine apKs (ks := []) (ms := ks.take i) (Or.inl rfl) (by simp only [List.length_nil, List.length_take]; omega) (fun E hE => ?_)
  rw [List.nil_append]
  have hw := wrap_of (n := (i : Int) + 1) (k := i + 1) (by omega) (by omega)
  simp -implicitDefEqProofs only [pkA, ptA, ↓reduceIte, Nat.reduceEqDiff, Nat.reduceAdd, Nat.reduceBEq, Nat.reduceMul, Nat.reduceLT, Nat.reduceLeDiff, isMb_flb, Nat.zero_add, decide_true, Nat.reduceSub, isMb_cl, isMb_zbox, cl_len, zbox_len, c_w8, c_lo8, wr_add, w_xor, w_and, w_or, w_not, vbin_shl, vbin_shr, vint_mul, hw]
  refine slK (l := i + 1) (h := ks.length) rfl rfl (by omega) (Nat.le_refl _) ?_
  simp -implicitDefEqProofs only [pkA, ptA, ↓reduceIte, Nat.reduceEqDiff, Nat.reduceAdd, Nat.reduceBEq, Nat.reduceMul, Nat.reduceLT, Nat.reduceLeDiff, isMb_flb, Nat.zero_add, decide_true, Nat.reduceSub, isMb_cl, isMb_zbox, cl_len, zbox_len, c_w8, c_lo8, wr_add, w_xor, w_and, w_or, w_not, vbin_shl, vbin_shr, vint_mul, hw]
  rw [List.take_length]
  refine apKs (ms := ks.drop (i + 1)) hE (by simp only [List.length_drop, List.length_take]; omega) (fun E' hE' => ?_)
  rw [← List.eraseIdx_eq_take_drop_succ]
  simp -implicitDefEqProofs only [pkA, ptA, ↓reduceIte, Nat.reduceEqDiff, Nat.reduceAdd, Nat.reduceBEq, Nat.reduceMul, Nat.reduceLT, Nat.reduceLeDiff, isMb_flb, Nat.zero_add, decide_true, Nat.reduceSub, isMb_cl, isMb_zbox, cl_len, zbox_len, c_w8, c_lo8, wr_add, w_xor, w_and, w_or, w_not, vbin_shl, vbin_shr, vint_mul, hw]
  exact retTz (t := ⟨nx, ks.eraseIdx i⟩) rfl (Nat.lt_succ_self 1) rfl rfl
set_option maxRecDepth 100000 in
theorem rNew_ok : FnOK Tryd.prog G 37 [] (tv ⟨1, []⟩) := by
  refine FnOK_by (rs := [.cell 0 24]) false [] mixed Tryd.func37 rfl rfl rfl rfl (by kernel_rfl) (by simp) rfl rfl ?_
  simp -implicitDefEqProofs only [pkA, ptA, ↓reduceIte, Nat.reduceEqDiff, Nat.reduceAdd, Nat.reduceBEq, Nat.reduceMul, Nat.reduceLT, Nat.reduceLeDiff, isMb_flb, Nat.zero_add, decide_true, Nat.reduceSub, isMb_cl, isMb_zbox, cl_len, zbox_len, c_w8, c_lo8, wr_add, w_xor, w_and, w_or, w_not, vbin_shl, vbin_shr, vint_mul]
  exact ⟨rfl, lda_tv (t := ⟨1, []⟩) (Nat.lt_succ_self 0) rfl⟩
end Go.Proofs.YtidlohfkfdeaiaaDoor
