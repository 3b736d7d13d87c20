/- Layer 27: a box is opened. -/
import Derived.Test.YtidlohfkfdeaiaaDoorVlY2
set_option linter.unusedSimpArgs false
set_option linter.unusedVariables false
namespace Go.Proofs.YtidlohfkfdeaiaaDoor
open Go Go.Vl

def k0 : Ky := ⟨0, 0, [], 0, 0, 0, 0, 0, false⟩
def keyOf (l : List Int) (v : B) : Ky := ⟨0, l.getD 0 0, v, l.getD 1 0, l.getD 2 0, l.getD 3 0, l.getD 4 0, 0, false⟩
def unboxB (key box : B) : Ky × Int :=
  if (getB box).2.2 ≠ 0 then (k0, (getB box).2.2) else
  if (getIs (getB box).1).2.2 ≠ 0 then (k0, (getIs (getB box).1).2.2) else
  if (getIs (getB box).1).2.1 ≠ (getB box).1.length ∨ (getIs (getB box).1).1.length ≠ 5 then (k0, 6) else
  if (openB key (getB box).1 (box.drop (getB box).2.1)).2 ≠ 0 then (k0, (openB key (getB box).1 (box.drop (getB box).2.1)).2) else
  if validK (keyOf (getIs (getB box).1).1 (openB key (getB box).1 (box.drop (getB box).2.1)).1) then (keyOf (getIs (getB box).1).1 (openB key (getB box).1 (box.drop (getB box).2.1)).1, 0) else (k0, 6)
theorem getB_ok {b x : B} {u : Nat} (h : getB b = (x, u, 0)) : u ≤ b.length ∧ x.length ≤ b.length := by
  unfold getB at h
  generalize hg : cnt b 1 = g at h
  obtain ⟨n, v, e⟩ := g
  simp only at h
  split at h
  · rename_i he
    simp only [Prod.mk.injEq] at h
    exact absurd h.2.2 he
  · rename_i he
    have he : e = 0 := by simpa using he
    subst he
    obtain ⟨k, rfl, hk, _, _⟩ := cnt_ok hg
    simp only [Int.toNat_natCast, Prod.mk.injEq] at h
    obtain ⟨rfl, rfl, _⟩ := h
    refine ⟨hk, ?_⟩
    rw [List.length_take, List.length_drop]; omega
theorem ret0 {fr : Nat → V} {bx : Nat → List V} {e : Int} {k : Ky} (h1 : fr 4 = .bp 0 0) (h2 : bx 0 = (kC k).map .c) (h3 : (fr 5).fz = i64 e) : retV Tryd.prog false ⟨fr, bx, 1⟩ (.tup [kv k, i64 e]) [.cell 4 26, .tmp 5] := by
  refine retV_ct ?_ h3
  simp -implicitDefEqProofs only [resV, pkA, ptA, h1, h2]
  exact lda_kv (by decide) rfl
theorem ret0' {fr : Nat → V} {bx : Nat → List V} {e : Int} {k : Ky} {nb : Nat} (h1 : fr 4 = .bp 0 0) (hb : 0 < nb) (h2 : bx 0 = (kC k).map .c) (h3 : (fr 5).fz = i64 e) : retV Tryd.prog false ⟨fr, bx, nb⟩ (.tup [kv k, i64 e]) [.cell 4 26, .tmp 5] := by
  refine retV_ct ?_ h3
  simp -implicitDefEqProofs only [resV, pkA, ptA, h1, h2]
  exact lda_kv hb rfl
set_option maxRecDepth 100000 in
set_option maxHeartbeats 1500000 in
theorem Unbox_ok (key box : B) (hk : key.length ≤ 1000000) (hb : box.length ≤ 1000000) : FnOK Tryd.prog gl 25 [sv key, sv box] (.tup [kv (unboxB key box).1, i64 (unboxB key box).2]) := by
  refine FnOK_by (rs := [.cell 4 26, .tmp 5]) false [200060, 200064, 200067, 200070, 200073, 200012, 301201] mixed Tryd.func25 rfl rfl rfl rfl (by kernel_rfl) (by simp) rfl rfl ?_
  unfold unboxB
  simp -implicitDefEqProofs only [pkA, ptA, ↓reduceIte, Nat.reduceEqDiff, Nat.reduceAdd, Nat.reduceBEq, Nat.zero_add, c_sb]
  refine call_fn rfl (GetBytes_ok box (by omega)) (fun _ => rfl) ?_
  generalize hg : getB box = g
  obtain ⟨hd, u, e⟩ := g
  simp -implicitDefEqProofs only [pkA, ↓reduceIte, Nat.reduceEqDiff, Nat.reduceAdd, Nat.reduceBEq]
  refine vcond_of (fun he => ?_) (fun he => ?_)
  · have he : e ≠ 0 := by simpa using he
    rw [if_pos he]
    simp -implicitDefEqProofs only [pkA, ptA, ↓reduceIte, Nat.reduceEqDiff, Nat.reduceAdd, Nat.reduceBEq, Nat.reduceMul, Nat.reduceLT, Nat.reduceLeDiff, Nat.zero_add, decide_true]
    exact ret0 rfl rfl rfl
  have he : e = 0 := by simpa using he
  subst he
  rw [if_neg (by simp)]
  obtain ⟨hu, hhd⟩ := getB_ok hg
  simp -implicitDefEqProofs only [pkA, ↓reduceIte, Nat.reduceEqDiff, Nat.reduceAdd, Nat.reduceBEq, decide_true, c_sb]
  refine call_fn rfl (GetInts_ok hd (by omega)) (fun h => by cases h) ?_
  generalize hg2 : getIs hd = g
  obtain ⟨l, m, e⟩ := g
  simp -implicitDefEqProofs only [pkA, ↓reduceIte, Nat.reduceEqDiff, Nat.reduceAdd, Nat.reduceBEq]
  refine vcond_of (fun he => ?_) (fun he => ?_)
  · have he : e ≠ 0 := by simpa using he
    rw [if_pos he]
    simp -implicitDefEqProofs only [pkA, ptA, ↓reduceIte, Nat.reduceEqDiff, Nat.reduceAdd, Nat.reduceBEq, Nat.reduceMul, Nat.reduceLT, Nat.reduceLeDiff, Nat.zero_add, decide_true]
    exact ret0 rfl rfl rfl
  have he : e = 0 := by simpa using he
  subst he
  rw [if_neg (by simp)]
  simp -implicitDefEqProofs only [pkA, ptA, ↓reduceIte, Nat.reduceEqDiff, Nat.reduceAdd, Nat.reduceBEq, decide_true, bs8_size]
  refine vgd_of (fun h1 => ?_) (fun h1 => ?_)
  case refine_2 =>
    have h1 : m ≠ hd.length := by intro e; rw [e] at h1; simp at h1
    rw [if_pos (Or.inl h1)]
    simp -implicitDefEqProofs only [pkA, ptA, ↓reduceIte, Nat.reduceEqDiff, Nat.reduceAdd, Nat.reduceBEq, Nat.reduceMul, Nat.reduceLT, Nat.reduceLeDiff, Nat.zero_add, decide_true]
    exact ret0 rfl rfl rfl
  have h1 : m = hd.length := by
    have : ((m : Nat) : Int) = hd.length := by simpa using h1
    omega
  simp -implicitDefEqProofs only [pkA, ptA, ↓reduceIte, Nat.reduceEqDiff, Nat.reduceBEq, mC_len]
  refine vcond_of (fun h2 => ?_) (fun h2 => ?_)
  · have h2 : l.length ≠ 5 := by
      intro e; rw [e] at h2; cases h2
    rw [if_pos (Or.inr h2)]
    simp -implicitDefEqProofs only [pkA, ptA, ↓reduceIte, Nat.reduceEqDiff, Nat.reduceAdd, Nat.reduceBEq, Nat.reduceMul, Nat.reduceLT, Nat.reduceLeDiff, Nat.zero_add, decide_true]
    exact ret0 rfl rfl rfl
  have h2 : l.length = 5 := by
    have : ((l.length : Nat) : Int) = 5 := by simpa using h2
    omega
  rw [if_neg (by simp [h1, h2])]
  simp -implicitDefEqProofs only [pkA, ↓reduceIte, Nat.reduceEqDiff, Nat.reduceAdd, Nat.reduceBEq]
  refine sl_sv ti_9 rfl (a := u) (b := box.length) rfl rfl hu (Nat.le_refl _) ?_
  rw [List.take_length]
  simp -implicitDefEqProofs only [pkA, ↓reduceIte, Nat.reduceEqDiff, Nat.reduceAdd, Nat.reduceBEq]
  refine call_fn rfl (Open_ok key hd (box.drop u) hk (by omega) (by rw [List.length_drop]; omega)) (fun _ => rfl) ?_
  generalize hg3 : openB key hd (box.drop u) = g
  obtain ⟨v, e⟩ := g
  simp -implicitDefEqProofs only [pkA, ↓reduceIte, Nat.reduceEqDiff, Nat.reduceAdd, Nat.reduceBEq]
  refine vcond_of (fun he => ?_) (fun he => ?_)
  · have he : e ≠ 0 := by simpa using he
    rw [if_pos he]
    simp -implicitDefEqProofs only [pkA, ptA, ↓reduceIte, Nat.reduceEqDiff, Nat.reduceAdd, Nat.reduceBEq, Nat.reduceMul, Nat.reduceLT, Nat.reduceLeDiff, Nat.zero_add, decide_true]
    exact ret0 rfl rfl rfl
  have he : e = 0 := by simpa using he
  subst he
  rw [if_neg (by simp)]
  match l, h2 with
  | [a0, a1, a2, a3, a4], _ =>
  have hko : keyOf [a0, a1, a2, a3, a4] v = ⟨0, a0, v, a1, a2, a3, a4, 0, false⟩ := rfl
  rw [hko]
  simp -implicitDefEqProofs only [pkA, ↓reduceIte, Nat.reduceEqDiff, Nat.reduceAdd, Nat.reduceBEq, Nat.zero_add, decide_true]
  refine ia_mC ti_34 rfl ti_3 rfl (k := 0) rfl rfl ?_
  simp -implicitDefEqProofs only [pkA, ptA, ↓reduceIte, Nat.reduceEqDiff, Nat.reduceAdd, Nat.reduceBEq]
  refine ia_mC ti_34 rfl ti_3 rfl (k := 1) rfl rfl ?_
  simp -implicitDefEqProofs only [pkA, ptA, ↓reduceIte, Nat.reduceEqDiff, Nat.reduceAdd, Nat.reduceBEq]
  refine ia_mC ti_34 rfl ti_3 rfl (k := 2) rfl rfl ?_
  simp -implicitDefEqProofs only [pkA, ptA, ↓reduceIte, Nat.reduceEqDiff, Nat.reduceAdd, Nat.reduceBEq]
  refine ia_mC ti_34 rfl ti_3 rfl (k := 3) rfl rfl ?_
  simp -implicitDefEqProofs only [pkA, ptA, ↓reduceIte, Nat.reduceEqDiff, Nat.reduceAdd, Nat.reduceBEq]
  refine ia_mC ti_34 rfl ti_3 rfl (k := 4) rfl rfl ?_
  simp -implicitDefEqProofs only [pkA, ptA, ↓reduceIte, Nat.reduceEqDiff, Nat.reduceAdd, Nat.reduceBEq, Nat.reduceMul, Nat.reduceLT, Nat.reduceLeDiff, Nat.zero_add, decide_true]
  have hset : ∀ Z : List V, Z.length = 9 → setV Z 0 [V.c (.lit (.int .i64 0)), V.c (ic a0), V.c (.lit (.string (bs8 v))), V.c (ic a1), V.c (ic a2), V.c (ic a3), V.c (ic a4), V.c (.lit (.int .i64 0)), V.c (.lit (.bool false))] = (kC ⟨0, a0, v, a1, a2, a3, a4, 0, false⟩).map V.c := fun Z h => setV_all (by rw [h]; rfl)
  rw [hset _ rfl]
  generalize (⟨0, a0, v, a1, a2, a3, a4, 0, false⟩ : Ky) = ky at *
  refine ⟨rfl, lda_kv (Nat.lt_succ_self 1) ?_⟩
  simp -implicitDefEqProofs only [pkA, ↓reduceIte, Nat.reduceAdd, Nat.reduceBEq]
  refine call_fn rfl (Valid_ok ky) (fun _ => rfl) ?_
  have hs2 : ∀ Z : List V, Z.length = 9 → setV Z 0 ((kC ky).map V.c) = (kC ky).map V.c := fun Z h => setV_all (by rw [h]; rfl)
  cases hv : validK ky
  · simp -implicitDefEqProofs only [pkA, ptA, ↓reduceIte, Nat.reduceEqDiff, Nat.reduceAdd, Nat.reduceBEq, Nat.reduceMul, Nat.reduceLT, Nat.reduceLeDiff, Nat.zero_add, decide_true]
    exact ret0' rfl (Nat.zero_lt_succ _) rfl rfl
  · simp -implicitDefEqProofs only [pkA, ptA, ↓reduceIte, Nat.reduceEqDiff, Nat.reduceAdd, Nat.reduceBEq, Nat.reduceMul, Nat.reduceLT, decide_true]
    refine lda_kv (Nat.lt_succ_self 1) ?_
    simp -implicitDefEqProofs only [pkA, ptA, ↓reduceIte, Nat.reduceEqDiff, Nat.reduceAdd, Nat.reduceBEq, Nat.reduceMul, Nat.reduceLT, Nat.reduceLeDiff, Nat.zero_add, decide_true, kv]
    rw [hs2 _ rfl]
    exact ⟨rfl, ret0' rfl (Nat.zero_lt_succ _) rfl rfl⟩
end Go.Proofs.YtidlohfkfdeaiaaDoor
