/- Layer 27: a key is put in the place of another one. -/
import Derived.Test.YtidlohfkfdeaiaaDoorVlY6
import Derived.Test.YtidlohfkfdeaiaaDoorVlY5
import Derived.Test.YtidlohfkfdeaiaaDoorVlSortB
set_option linter.unusedSimpArgs false
set_option linter.unusedVariables false
namespace Go.Proofs.YtidlohfkfdeaiaaDoor
open Go Go.Vl

variable {G : Gl}
section
variable {α : Type} {c : α → List C} {sz : Nat}
theorem flb_ren (ρ : Nat → Nat) (l : List α) : (flb c l).map (V.ren ρ) = flb c l := by
  unfold flb; rw [List.map_map]; exact List.map_congr_left fun x _ => rfl
theorem chunks_flat (hc : ∀ x, (c x).length = sz) : ∀ l : List α, chunks sz l.length (l.map c).flatten = l.map c
  | [] => rfl
  | x :: l => by
    simp only [List.length_cons, List.map_cons, List.flatten_cons, chunks]
    rw [List.take_left' (hc x), List.drop_left' (hc x), chunks_flat hc l]
theorem box_flb {fr : Nat → V} {bx : Nat → List V} {nb b : Nat} {l : List α} (hb : b < nb) (h : bx b = flb c l) : boxC ⟨fr, bx, nb⟩ b = some (l.map c).flatten := by
  unfold boxC; simp only [hb, if_true, h, flb]
  generalize (l.map c).flatten = cs
  induction cs with
  | nil => rfl
  | cons x cs ih => simp only [List.map_cons, List.mapM_cons, ih]; rfl
theorem view_flb (hc : ∀ x, (c x).length = sz) {fr : Nat → V} {bx : Nat → List V} {nb b n : Nat} {l : List α} (hb : b < nb) (h : bx b = flb c l) (hn : n = l.length) : viewC ⟨fr, bx, nb⟩ b 0 n sz = some (.sl (l.map c)) := by
  subst hn
  unfold viewC; rw [box_flb hb h]
  have : (l.map c).flatten.length = l.length * sz := by have := flb_len hc l; unfold flb at this; rwa [List.length_map] at this
  simp only [this, Nat.zero_add, Nat.le_refl, if_true, List.drop_zero, chunks_flat hc]
end
set_option maxHeartbeats 1000000 in
theorem CloneB_k (ks : List Ky) (hne : ks ≠ []) (hm : ks.length < 1000000000) :
    FnB Tryd.prog G 71 [.c (.sl (ks.map kC))] [] (.ms 0 0 ks.length ks.length 9) [flb kC ks] := by
  have hl : ∀ e ∈ ks.map kC, e.length = 9 := fun e he => by obtain ⟨q, _, rfl⟩ := List.mem_map.1 he; rfl
  have hne' : ks.map kC ≠ [] := fun h => hne (List.map_eq_nil_iff.1 h)
  have hm' : (ks.map kC).length < 1000000000 := by rw [List.length_map]; exact hm
  have hfl : flb kC ks = (ks.map kC).flatten.map V.c := rfl
  have hln : ks.length = (ks.map kC).length := (List.length_map _).symm
  rw [hfl, hln]
  generalize ks.map kC = es at *
  refine FnB_by (rs := [.tmp 2]) (k := 0) [2000007] mixed Tryd.func71 rfl rfl rfl rfl (by kernel_rfl) (by simp) rfl rfl rfl rfl (by simp) ?_
  have hie : es.isEmpty = false := by simpa using hne'
  simp -implicitDefEqProofs only [pkA, ptA, ↓reduceIte, Nat.reduceEqDiff, Nat.reduceAdd, Nat.reduceBEq, Nat.reduceMul, Nat.reduceLT, Nat.reduceLeDiff, isMb_flb, Nat.zero_add, decide_true, Nat.reduceSub, isMb_cl, isMb_zbox, cl_len, zbox_len, c_w8, c_lo8, wr_add, w_xor, w_and, w_or, w_not, vbin_shl, vbin_shr, vint_mul, vnil_ne ti_22 rfl hne']
  rw [app_22]
  refine ⟨⟨.inl rfl, by simp⟩, ⟨by simp only [List.length_nil, Nat.zero_add]; omega, by simp only [List.length_nil, Nat.zero_add]; omega, hl⟩, ?_⟩
  simp -implicitDefEqProofs only [pkA, ptA, ↓reduceIte, Nat.reduceEqDiff, Nat.reduceAdd, Nat.reduceBEq, Nat.reduceMul, Nat.reduceLT, Nat.reduceLeDiff, isMb_flb, Nat.zero_add, decide_true, Nat.reduceSub, isMb_cl, isMb_zbox, cl_len, zbox_len, c_w8, c_lo8, wr_add, w_xor, w_and, w_or, w_not, vbin_shl, vbin_shr, vint_mul, hie]
  refine end_B [(2, .ms 0 0 es.length es.length 9)] rfl ?_ (by simp) (by simp) (by simp [FL, up_apply]) (by simp [BL, up_apply]) rfl
  simp only [leOk, List.all_cons, List.all_nil, all_ltB_c, List.length_cons, List.length_nil]; rfl
theorem retV_ctz {P : Program} {fr : Nat → V} {bx : Nat → List V} {nb : Nat} {d e : V} {p u : Tmp} {T : TypeId} (h1 : resV P ⟨fr, bx, nb⟩ (.cell p T) fun v => imm ⟨fr, bx, nb⟩ v = some d) (h2 : imm ⟨fr, bx, nb⟩ (fr u) = some e) : retV P true ⟨fr, bx, nb⟩ (.tup [d, e]) [.cell p T, .tmp u] := by
  refine ⟨_, rfl, rfl, fun i R x hR hx => ?_⟩
  match i with
  | 0 => simp only [List.getElem?_cons_zero, Option.some.injEq] at hR hx; subst hR; subst hx; simpa [endR1] using h1
  | 1 => simp only [List.getElem?_cons_succ, List.getElem?_cons_zero, Option.some.injEq] at hR hx; subst hR; subst hx; simpa [resV, endR1] using h2
  | n + 2 => simp at hR
set_option maxRecDepth 100000 in
/-- A table that holds a list for good, and one whose list is a view. -/
theorem retTz {b : Nat} {fr : Nat → V} {bx : Nat → List V} {e : Int} {t : Tb} {c u nb : Nat} (h1 : fr c = .bp b 0) (hb : b < nb) (h2 : bx b = [V.c (ic t.nx), V.c (.sl (t.ks.map kC))]) (h3 : fr u = i64 e) : retV Tryd.prog true ⟨fr, bx, nb⟩ (.tup [tv t, i64 e]) [.cell c 24, .tmp u] := by
  refine retV_ctz ?_ (by rw [h3]; rfl)
  have hm : isMb [V.c (ic t.nx), V.c (.sl (t.ks.map kC))] = false := rfl
  show vload Tryd.prog 24 ⟨fr, bx, nb⟩ (fr c) _
  rw [h1, ldA_of ti_24 rfl rfl, h2]
  exact ⟨hm, lda_tv hb rfl⟩
set_option maxRecDepth 100000 in
theorem retMz {b d n : Nat} {fr : Nat → V} {bx : Nat → List V} {e nx : Int} {ks : List Ky} {c u nb : Nat} (h1 : fr c = .bp b 0) (hb : b < nb) (hd : d < nb) (h2 : bx b = [V.c (ic nx), .ms d 0 n n 9]) (h4 : bx d = flb kC ks) (hn : n = ks.length) (h3 : fr u = i64 e) : retV Tryd.prog true ⟨fr, bx, nb⟩ (.tup [tv ⟨nx, ks⟩, i64 e]) [.cell c 24, .tmp u] := by
  refine retV_ctz ?_ (by rw [h3]; rfl)
  have hm : isMb [V.c (ic nx), .ms d 0 n n 9] = false := rfl
  show vload Tryd.prog 24 ⟨fr, bx, nb⟩ (fr c) _
  rw [h1, ldA_of ti_24 rfl rfl, h2]
  refine ⟨hm, hb, ⟨rfl, rfl⟩, ?_⟩
  show imm ⟨fr, bx, nb⟩ (.mag [V.c (ic nx), .ms d 0 n n 9]) = _
  simp only [imm, List.mapM_cons, List.mapM_nil, immC, view_flb kC_len hd h4 hn]
  rfl
def putT (t : Tb) (k : Ky) : Tb × Int :=
  if !validK k || decide (t.nx ≤ k.par) then (⟨0, []⟩, 1) else if hasK t.ks k.id then (⟨t.nx, t.ks.set (lowK t.ks k.id) k⟩, 0) else (⟨0, []⟩, 11)
set_option maxRecDepth 100000 in
set_option maxHeartbeats 1500000 in
theorem Put_ok (t : Tb) (k : Ky) (hs : sortedK t.ks) (hl : t.ks.length ≤ 1000000) : FnOK Tryd.prog G 33 [tv t, kv k] (.tup [tv (putT t k).1, i64 (putT t k).2]) := by
  refine FnOK_by (rs := [.cell 4 24, .tmp 5]) true [1000032] mixed Tryd.func33 rfl rfl rfl rfl (by kernel_rfl) (by simp) rfl rfl ?_
  have hf := find_ok (G := G) t k.id hs hl
  obtain ⟨nx, ks⟩ := t
  simp only at hs hl hf
  have hat : putT ⟨nx, ks⟩ k = if !validK k || decide (nx ≤ k.par) then (⟨0, []⟩, 1) else if hasK ks k.id then (⟨nx, ks.set (lowK ks k.id) k⟩, 0) else (⟨0, []⟩, 11) := rfl
  rw [hat]
  have p7 : ∀ K, partV false 1 7 (kC k) K = K (i64 k.par) := fun K => rfl
  have p0 : ∀ K, partV false 1 0 (kC k) K = K (i64 k.id) := fun K => rfl
  simp -implicitDefEqProofs only [pkA, ptA, ↓reduceIte, Nat.reduceEqDiff, Nat.reduceAdd, Nat.reduceBEq, Nat.reduceMul, Nat.reduceLT, Nat.reduceLeDiff, isMb_flb, Nat.zero_add, decide_true, Nat.reduceSub, isMb_cl, isMb_zbox, cl_len, zbox_len, c_w8, c_lo8, wr_add, w_xor, w_and, w_or, w_not, vbin_shl, vbin_shr, vint_mul, tC, List.map_cons, List.map_nil]
  refine lda_kv (show 1 < 3 by decide) ?_
  simp -implicitDefEqProofs only [pkA, ptA, ↓reduceIte, Nat.reduceEqDiff, Nat.reduceAdd, Nat.reduceBEq, Nat.reduceMul, Nat.reduceLT, Nat.reduceLeDiff, isMb_flb, Nat.zero_add, decide_true, Nat.reduceSub, isMb_cl, isMb_zbox, cl_len, zbox_len, c_w8, c_lo8, wr_add, w_xor, w_and, w_or, w_not, vbin_shl, vbin_shr, vint_mul, isMb_kv]
  refine call_fn rfl (Valid_ok k) (fun _ => rfl) ?_
  cases h1 : validK k
  · simp -implicitDefEqProofs only [pkA, ptA, ↓reduceIte, Nat.reduceEqDiff, Nat.reduceAdd, Nat.reduceBEq, Nat.reduceMul, Nat.reduceLT, Nat.reduceLeDiff, isMb_flb, Nat.zero_add, decide_true, Nat.reduceSub, isMb_cl, isMb_zbox, cl_len, zbox_len, c_w8, c_lo8, wr_add, w_xor, w_and, w_or, w_not, vbin_shl, vbin_shr, vint_mul, isMb_kv, Bool.not_false, Bool.true_or]
    exact retTz (t := ⟨0, []⟩) rfl (Nat.lt_succ_self 2) rfl rfl
  simp -implicitDefEqProofs only [pkA, ptA, ↓reduceIte, Nat.reduceEqDiff, Nat.reduceAdd, Nat.reduceBEq, Nat.reduceMul, Nat.reduceLT, Nat.reduceLeDiff, isMb_flb, Nat.zero_add, decide_true, Nat.reduceSub, isMb_cl, isMb_zbox, cl_len, zbox_len, c_w8, c_lo8, wr_add, w_xor, w_and, w_or, w_not, vbin_shl, vbin_shr, vint_mul, isMb_kv, p7]
  cases h2 : decide (nx ≤ k.par)
  case true =>
    simp -implicitDefEqProofs only [pkA, ptA, ↓reduceIte, Nat.reduceEqDiff, Nat.reduceAdd, Nat.reduceBEq, Nat.reduceMul, Nat.reduceLT, Nat.reduceLeDiff, isMb_flb, Nat.zero_add, decide_true, Nat.reduceSub, isMb_cl, isMb_zbox, cl_len, zbox_len, c_w8, c_lo8, wr_add, w_xor, w_and, w_or, w_not, vbin_shl, vbin_shr, vint_mul, isMb_kv, p7, Bool.or_true]
    exact retTz (t := ⟨0, []⟩) rfl (Nat.lt_succ_self 2) rfl rfl
  simp -implicitDefEqProofs only [pkA, ptA, ↓reduceIte, Nat.reduceEqDiff, Nat.reduceAdd, Nat.reduceBEq, Nat.reduceMul, Nat.reduceLT, Nat.reduceLeDiff, isMb_flb, Nat.zero_add, decide_true, Nat.reduceSub, isMb_cl, isMb_zbox, cl_len, zbox_len, c_w8, c_lo8, wr_add, w_xor, w_and, w_or, w_not, vbin_shl, vbin_shr, vint_mul, isMb_kv, p7, p0, Bool.not_true, Bool.false_or]
  refine call_fn («as» := [tv ⟨nx, ks⟩, i64 k.id]) rfl hf (fun _ => rfl) ?_
  have d11 : (!decide ((11 : Int) = 0)) = true := rfl
  have d00 : (!decide ((0 : Int) = 0)) = false := rfl
  cases hh : hasK ks k.id
  · simp -implicitDefEqProofs only [pkA, ptA, ↓reduceIte, Nat.reduceEqDiff, Nat.reduceAdd, Nat.reduceBEq, Nat.reduceMul, Nat.reduceLT, Nat.reduceLeDiff, isMb_flb, Nat.zero_add, decide_true, Nat.reduceSub, isMb_cl, isMb_zbox, cl_len, zbox_len, c_w8, c_lo8, wr_add, w_xor, w_and, w_or, w_not, vbin_shl, vbin_shr, vint_mul, d11]
    exact retTz (t := ⟨0, []⟩) rfl (Nat.lt_succ_self 2) rfl rfl
  obtain ⟨a, ha⟩ := hasK_at hh
  have hlt : lowK ks k.id < ks.length := (List.getElem?_eq_some_iff.1 ha).1
  have hne : ks ≠ [] := fun h => by subst h; simp at hlt
  generalize lowK ks k.id = i at *
  simp -implicitDefEqProofs only [pkA, ptA, ↓reduceIte, Nat.reduceEqDiff, Nat.reduceAdd, Nat.reduceBEq, Nat.reduceMul, Nat.reduceLT, Nat.reduceLeDiff, isMb_flb, Nat.zero_add, decide_true, Nat.reduceSub, isMb_cl, isMb_zbox, cl_len, zbox_len, c_w8, c_lo8, wr_add, w_xor, w_and, w_or, w_not, vbin_shl, vbin_shr, vint_mul, d00]
  refine callB_new rfl (CloneB_k ks hne (by omega)) rfl ?_
  simp -implicitDefEqProofs only [pkA, ptA, ↓reduceIte, Nat.reduceEqDiff, Nat.reduceAdd, Nat.reduceBEq, Nat.reduceMul, Nat.reduceLT, Nat.reduceLeDiff, isMb_flb, Nat.zero_add, decide_true, Nat.reduceSub, isMb_cl, isMb_zbox, cl_len, zbox_len, c_w8, c_lo8, wr_add, w_xor, w_and, w_or, w_not, vbin_shl, vbin_shr, vint_mul, setBx, V.ren, flb_ren]
  refine lda_kv (show 1 < 4 by decide) ?_
  simp -implicitDefEqProofs only [pkA, ptA, ↓reduceIte, Nat.reduceEqDiff, Nat.reduceAdd, Nat.reduceBEq, Nat.reduceMul, Nat.reduceLT, Nat.reduceLeDiff, isMb_flb, Nat.zero_add, decide_true, Nat.reduceSub, isMb_cl, isMb_zbox, cl_len, zbox_len, c_w8, c_lo8, wr_add, w_xor, w_and, w_or, w_not, vbin_shl, vbin_shr, vint_mul, isMb_kv]
  refine ix_flb ti_22 rfl ti_26 rfl (by decide) rfl hlt ?_
  obtain ⟨q1, q2⟩ := stq (c := kC) kC_len (y := k) hlt rfl
  simp -implicitDefEqProofs only [pkA, ptA, ↓reduceIte, Nat.reduceEqDiff, Nat.reduceAdd, Nat.reduceBEq, Nat.reduceMul, Nat.reduceLT, Nat.reduceLeDiff, isMb_flb, Nat.zero_add, decide_true, Nat.reduceSub, isMb_cl, isMb_zbox, cl_len, zbox_len, c_w8, c_lo8, wr_add, w_xor, w_and, w_or, w_not, vbin_shl, vbin_shr, vint_mul, isMb_kv, isMb_flb, q1, q2]
  refine ⟨kC_len k, ?_⟩
  exact @retMz 2 3 ks.length _ _ 0 nx (ks.set i k) 4 5 4 rfl (by decide) (by decide) rfl rfl (List.length_set ..).symm rfl
end Go.Proofs.YtidlohfkfdeaiaaDoor
