/- Layer 27: a key is removed: slices.Delete, Remove. -/
import Derived.Test.YtidlohfkfdeaiaaDoorVlZ1
set_option linter.unusedSimpArgs false
set_option linter.unusedVariables false
namespace Go.Proofs.YtidlohfkfdeaiaaDoor
open Go Go.Vl

variable {G : Gl}
section
variable {α : Type} {c : α → List C} {sz : Nat}
theorem flb_take (hc : ∀ x, (c x).length = sz) {l : List α} {i : Nat} (h : i ≤ l.length) : (flb c l).take (i * sz) = flb c (l.take i) := by
  have e : flb c l = flb c (l.take i) ++ flb c (l.drop i) := by rw [← flb_append, List.take_append_drop]
  rw [e]
  exact List.take_left' (by rw [flb_len hc, List.length_take, Nat.min_eq_left h])
theorem flb_drop2 (hc : ∀ x, (c x).length = sz) {l : List α} {i : Nat} (h : i ≤ l.length) : (flb c l).drop (i * sz) = flb c (l.drop i) := by
  have e : flb c l = flb c (l.take i) ++ flb c (l.drop i) := by rw [← flb_append, List.take_append_drop]
  rw [e]
  exact List.drop_left' (by rw [flb_len hc, List.length_take, Nat.min_eq_left h])
/-- A piece of a box is written over. -/
theorem flb_put (hc : ∀ x, (c x).length = sz) {l m : List α} {i : Nat} (h : i + m.length ≤ l.length) : setV (flb c l) (i * sz) (flb c m) = flb c (l.take i ++ m ++ l.drop (i + m.length)) := by
  unfold setV
  have e : i * sz + (flb c m).length = (i + m.length) * sz := by rw [flb_len hc, Nat.add_mul]
  rw [e, flb_take hc (by omega), flb_drop2 hc (by omega), ← flb_append, ← flb_append]
theorem flat_drop (hc : ∀ x, (c x).length = sz) {l : List α} {a : Nat} (h : a ≤ l.length) : (l.map c).flatten.drop (a * sz) = ((l.drop a).map c).flatten := by
  have e : (l.map c).flatten = ((l.take a).map c).flatten ++ ((l.drop a).map c).flatten := by rw [← List.flatten_append, ← List.map_append, List.take_append_drop]
  have hl : ∀ m : List α, (m.map c).flatten.length = m.length * sz := fun m => by have := flb_len hc m; unfold flb at this; rwa [List.length_map] at this
  rw [e]
  exact List.drop_left' (by rw [hl, List.length_take, Nat.min_eq_left h])
theorem chunks_flatT (hc : ∀ x, (c x).length = sz) : ∀ (n : Nat) (l : List α), n ≤ l.length → chunks sz n (l.map c).flatten = (l.take n).map c
  | 0, _, _ => rfl
  | n + 1, [], h => by simp at h
  | n + 1, x :: l, h => by
    simp only [List.map_cons, List.flatten_cons, chunks, List.take_succ_cons]
    rw [List.take_left' (hc x), List.drop_left' (hc x), chunks_flatT hc n l (by simpa using h)]
/-- What a view of a box holds. -/
theorem view_flbT (hc : ∀ x, (c x).length = sz) {fr : Nat → V} {bx : Nat → List V} {nb b o a n : Nat} {l : List α} (hb : b < nb) (h : bx b = flb c l) (ho : o = a * sz) (hn : a + n ≤ l.length) : viewC ⟨fr, bx, nb⟩ b o n sz = some (.sl (((l.drop a).take n).map c)) := by
  subst ho
  unfold viewC; rw [box_flb hb h]
  have hl : (l.map c).flatten.length = l.length * sz := by have := flb_len hc l; unfold flb at this; rwa [List.length_map] at this
  have hm : a * sz + n * sz ≤ l.length * sz := by rw [← Nat.add_mul]; exact Nat.mul_le_mul_right _ hn
  simp only [hl, hm, if_true]
  rw [flat_drop hc (by omega), chunks_flatT hc n _ (by rw [List.length_drop]; omega)]
end
theorem sl_ms {P : Program} {T e : TypeId} {i j : TI} {b off len cap sz l h m : Nat} {lo hi mx : Option V} {K : V → Prop} (hT : ti P T = some i) (hk : i.kd = .slice e) (hE : ti P e = some j) (hs : j.size = sz) (h1 : optInt 0 lo = some (l : Nat)) (h2 : optInt len hi = some (h : Nat)) (h3 : optInt cap mx = some (m : Nat))
    (hlh : l ≤ h) (hhm : h ≤ m) (hmc : m ≤ cap) (hx : mx.isSome = true → hi.isSome = true) (hK : K (.ms b (off + l * sz) (h - l) (m - l) sz)) : vslice P T (.ms b off len cap sz) lo hi mx K := by
  obtain ⟨kd, a, b', c, d, f, g⟩ := i; simp only at hk; subst hk
  simp only [vslice, hT, hE, h1, h2, h3, Int.toNat_natCast]
  exact ⟨⟨hs, by omega, by omega, by omega, by omega, hx⟩, hK⟩
set_option maxRecDepth 100000 in
set_option maxHeartbeats 1500000 in
theorem Delete_ok (ks : List Ky) (i n : Nat) (hi : i < ks.length) (hn : n = ks.length) (hl : ks.length ≤ 1000000) :
    FnB Tryd.prog G 75 [.ms 0 0 n n 9, i64 (i : Nat), i64 ((i + 1 : Nat) : Int)] [flb kC ks] (.ms 0 0 (n - 1) n 9) [flb kC (ks.eraseIdx i ++ [k0])] := by
  subst hn
  refine FnB_by (rs := [.tmp 6]) (k := 1) [3000001, 2700026] mixed Tryd.func75 rfl rfl rfl rfl (by kernel_rfl) (by simp) rfl rfl rfl (argsB_ok rfl) (by simp) ?_
  simp -implicitDefEqProofs only [pkA, ptA, ↓reduceIte, Nat.reduceEqDiff, Nat.reduceAdd, Nat.reduceBEq, Nat.reduceMul, Nat.reduceLT, Nat.reduceLeDiff, isMb_flb, Nat.zero_add, decide_true, Nat.reduceSub, isMb_cl, isMb_zbox, cl_len, zbox_len, c_w8, c_lo8, wr_add, w_xor, w_and, w_or, w_not, vbin_shl, vbin_shr, vint_mul]
  refine sl_ms ti_22 rfl ti_26 rfl (l := i) (h := i + 1) (m := ks.length) rfl rfl rfl (by omega) (by omega) (Nat.le_refl _) (fun _ => rfl) ?_
  have dne : decide ((i : Int) = ((i + 1 : Nat) : Int)) = false := decide_eq_false (by omega)
  simp -implicitDefEqProofs only [pkA, ptA, ↓reduceIte, Nat.reduceEqDiff, Nat.reduceAdd, Nat.reduceBEq, Nat.reduceMul, Nat.reduceLT, Nat.reduceLeDiff, isMb_flb, Nat.zero_add, decide_true, Nat.reduceSub, isMb_cl, isMb_zbox, cl_len, zbox_len, c_w8, c_lo8, wr_add, w_xor, w_and, w_or, w_not, vbin_shl, vbin_shr, vint_mul, dne]
  refine sl_ms ti_22 rfl ti_26 rfl (l := 0) (h := i) (m := ks.length) rfl rfl rfl (by omega) (by omega) (Nat.le_refl _) (fun h => by cases h) ?_
  simp -implicitDefEqProofs only [pkA, ptA, ↓reduceIte, Nat.reduceEqDiff, Nat.reduceAdd, Nat.reduceBEq, Nat.reduceMul, Nat.reduceLT, Nat.reduceLeDiff, isMb_flb, Nat.zero_add, decide_true, Nat.reduceSub, isMb_cl, isMb_zbox, cl_len, zbox_len, c_w8, c_lo8, wr_add, w_xor, w_and, w_or, w_not, vbin_shl, vbin_shr, vint_mul]
  refine sl_ms ti_22 rfl ti_26 rfl (l := i + 1) (h := ks.length) (m := ks.length) rfl rfl rfl (by omega) (by omega) (Nat.le_refl _) (fun h => by cases h) ?_
  simp -implicitDefEqProofs only [pkA, ptA, ↓reduceIte, Nat.reduceEqDiff, Nat.reduceAdd, Nat.reduceBEq, Nat.reduceMul, Nat.reduceLT, Nat.reduceLeDiff, isMb_flb, Nat.zero_add, decide_true, Nat.reduceSub, isMb_cl, isMb_zbox, cl_len, zbox_len, c_w8, c_lo8, wr_add, w_xor, w_and, w_or, w_not, vbin_shl, vbin_shr, vint_mul]
  have hsub : ((ks.drop (i + 1)).take (ks.length - (i + 1))) = ks.drop (i + 1) := List.take_of_length_le (by rw [List.length_drop]; exact Nat.le_refl _)
  have hvw : ∀ fr1, immC (⟨fr1, bxs [flb kC ks], 1⟩ : S) (.ms 0 ((i + 1) * 9) (ks.length - (i + 1)) (ks.length - (i + 1)) 9) = some (.sl ((ks.drop (i + 1)).map kC)) := fun fr1 => by
    show viewC _ 0 ((i + 1) * 9) (ks.length - (i + 1)) 9 = _
    rw [view_flbT kC_len (Nat.lt_succ_self 0) rfl rfl (by omega), hsub]
  refine room_of ti_22 rfl ti_26 rfl (by decide) (hvw _) (by decide) isMb_flb (by show 0 + (ks.length - 0) * 9 ≤ (flb kC ks).length; rw [flb_len kC_len]; omega) (by rw [List.length_map, List.length_drop]; omega) (fun x hx => by obtain ⟨q, _, rfl⟩ := List.mem_map.1 hx; rfl) ?_
  have hput : setV (flb kC ks) (i * 9) (flb kC (ks.drop (i + 1))) = flb kC (ks.eraseIdx i ++ ks.drop (ks.length - 1)) := by
    rw [flb_put kC_len (by rw [List.length_drop]; omega), List.eraseIdx_eq_take_drop_succ, List.length_drop]
    have : i + (ks.length - (i + 1)) = ks.length - 1 := by omega
    rw [this]
  have e1 : 0 + (i - 0) * 9 = i * 9 := by omega
  have e2 : i - 0 + ((ks.drop (i + 1)).map kC).length = ks.length - 1 := by rw [List.length_map, List.length_drop]; omega
  have e3 : ks.length - 0 = ks.length := rfl
  rw [e1, e2, e3]
  show mutK _ _ ⟨_, up _ 0 (setV (flb kC ks) (i * 9) (flb kC (ks.drop (i + 1)))), _⟩ _
  rw [hput]
  have hL1 : (ks.eraseIdx i ++ ks.drop (ks.length - 1)).length = ks.length := by rw [List.length_append, List.length_eraseIdx_of_lt hi, List.length_drop]; omega
  simp -implicitDefEqProofs only [pkA, ptA, ↓reduceIte, Nat.reduceEqDiff, Nat.reduceAdd, Nat.reduceBEq, Nat.reduceMul, Nat.reduceLT, Nat.reduceLeDiff, isMb_flb, Nat.zero_add, decide_true, Nat.reduceSub, isMb_cl, isMb_zbox, cl_len, zbox_len, c_w8, c_lo8, wr_add, w_xor, w_and, w_or, w_not, vbin_shl, vbin_shr, vint_mul]
  refine sl_ms ti_22 rfl ti_26 rfl (l := ks.length - 1) (h := ks.length) (m := ks.length) rfl rfl rfl (by omega) (by omega) (Nat.le_refl _) (fun h => by cases h) ?_
  simp -implicitDefEqProofs only [pkA, ptA, ↓reduceIte, Nat.reduceEqDiff, Nat.reduceAdd, Nat.reduceBEq, Nat.reduceMul, Nat.reduceLT, Nat.reduceLeDiff, isMb_flb, Nat.zero_add, decide_true, Nat.reduceSub, isMb_cl, isMb_zbox, cl_len, zbox_len, c_w8, c_lo8, wr_add, w_xor, w_and, w_or, w_not, vbin_shl, vbin_shr, vint_mul]
  refine clear_of ti_22 rfl ti_26 rfl (z := kC k0) rfl (by decide) rfl (Nat.lt_succ_self 0) isMb_flb (by show (ks.length - 1) * 9 + (ks.length - (ks.length - 1)) * 9 ≤ (flb kC (ks.eraseIdx i ++ ks.drop (ks.length - 1))).length; rw [flb_len kC_len, hL1]; omega) ?_
  have hz : setV (flb kC (ks.eraseIdx i ++ ks.drop (ks.length - 1))) ((ks.length - 1) * 9) (flb kC [k0]) = flb kC (ks.eraseIdx i ++ [k0]) := by
    have hel : (ks.eraseIdx i).length = ks.length - 1 := List.length_eraseIdx_of_lt hi
    rw [flb_put kC_len (by rw [hL1]; simp; omega)]
    have h1 : (ks.eraseIdx i ++ ks.drop (ks.length - 1)).take (ks.length - 1) = ks.eraseIdx i := List.take_left' hel
    have h2 : (ks.eraseIdx i ++ ks.drop (ks.length - 1)).drop (ks.length - 1 + [k0].length) = [] := List.drop_eq_nil_of_le (by rw [hL1]; simp; omega)
    rw [h1, h2, List.append_nil]
  have e4 : ks.length - (ks.length - 1) = 1 := by omega
  rw [e4]
  have hz2 : setV (flb kC (ks.eraseIdx i ++ ks.drop (ks.length - 1))) ((ks.length - 1) * 9) (List.map V.c (List.replicate 1 (kC k0)).flatten) = flb kC (ks.eraseIdx i ++ [k0]) := hz
  simp only [up_same, Nat.zero_add, hz2, put_none]
  simp -implicitDefEqProofs only [pkA, ptA, ↓reduceIte, Nat.reduceEqDiff, Nat.reduceAdd, Nat.reduceBEq, Nat.reduceMul, Nat.reduceLT, Nat.reduceLeDiff, isMb_flb, Nat.zero_add, decide_true, Nat.reduceSub, isMb_cl, isMb_zbox, cl_len, zbox_len, c_w8, c_lo8, wr_add, w_xor, w_and, w_or, w_not, vbin_shl, vbin_shr, vint_mul]
  exact end_B [(6, .ms 0 0 (ks.length - 1) ks.length 9)] rfl (by simp only [leOk, List.all_cons, List.all_nil, flb, all_ltB_c]; rfl) (by simp) (by simp) (by simp [FL, up_apply]) (by simp [BL, up_apply]) rfl
set_option maxRecDepth 100000 in
/-- A table whose list is the first part of a box. -/
theorem retMt {b d n m : Nat} {fr : Nat → V} {bx : Nat → List V} {e nx : Int} {ks L : List Ky} {c u nb : Nat} (h1 : fr c = .bp b 0) (hb : b < nb) (hd : d < nb) (h2 : bx b = [V.c (ic nx), .ms d 0 n m 9]) (h4 : bx d = flb kC L) (hn : n ≤ L.length) (hk : L.take n = ks) (h3 : fr u = i64 e) : retV Tryd.prog true ⟨fr, bx, nb⟩ (.tup [tv ⟨nx, ks⟩, i64 e]) [.cell c 24, .tmp u] := by
  refine retV_ctz ?_ (by rw [h3]; rfl)
  have hm : isMb [V.c (ic nx), .ms d 0 n m 9] = false := rfl
  show vload Tryd.prog 24 ⟨fr, bx, nb⟩ (fr c) _
  rw [h1, ldA_of ti_24 rfl rfl, h2]
  refine ⟨hm, hb, ⟨rfl, rfl⟩, ?_⟩
  show imm ⟨fr, bx, nb⟩ (.mag [V.c (ic nx), .ms d 0 n m 9]) = _
  have hv : viewC ⟨fr, bx, nb⟩ d 0 n 9 = some (.sl (ks.map kC)) := by
    rw [view_flbT (fr := fr) (bx := bx) (nb := nb) (a := 0) (n := n) (o := 0) kC_len hd h4 (by omega) (by omega), List.drop_zero, hk]
  simp only [imm, List.mapM_cons, List.mapM_nil, immC, hv]
  rfl
def remT (t : Tb) (x : Int) : Tb × Int := if hasK t.ks x then (⟨t.nx, t.ks.eraseIdx (lowK t.ks x)⟩, 0) else (⟨0, []⟩, 11)
set_option maxRecDepth 100000 in
set_option maxHeartbeats 1500000 in
theorem Remove_ok (t : Tb) (x : Int) (hs : sortedK t.ks) (hl : t.ks.length ≤ 1000000) : FnOK Tryd.prog G 42 [tv t, i64 x] (.tup [tv (remT t x).1, i64 (remT t x).2]) := by
  refine FnOK_by (rs := [.cell 4 24, .tmp 5]) true [1000020, 1000024] mixed Tryd.func42 rfl rfl rfl rfl (by kernel_rfl) (by simp) rfl rfl ?_
  have hf := find_ok (G := G) t x hs hl
  obtain ⟨nx, ks⟩ := t
  simp only at hs hl hf
  have hat : remT ⟨nx, ks⟩ x = if hasK ks x then (⟨nx, ks.eraseIdx (lowK ks x)⟩, 0) else (⟨0, []⟩, 11) := rfl
  rw [hat]
  simp -implicitDefEqProofs only [pkA, ptA, ↓reduceIte, Nat.reduceEqDiff, Nat.reduceAdd, Nat.reduceBEq, Nat.reduceMul, Nat.reduceLT, Nat.reduceLeDiff, isMb_flb, Nat.zero_add, decide_true, Nat.reduceSub, isMb_cl, isMb_zbox, cl_len, zbox_len, c_w8, c_lo8, wr_add, w_xor, w_and, w_or, w_not, vbin_shl, vbin_shr, vint_mul, tC, List.map_cons, List.map_nil]
  refine call_fn («as» := [tv ⟨nx, ks⟩, i64 x]) rfl hf (fun _ => rfl) ?_
  have d11 : (!decide ((11 : Int) = 0)) = true := rfl
  have d00 : (!decide ((0 : Int) = 0)) = false := rfl
  cases hh : hasK ks x
  · simp -implicitDefEqProofs only [pkA, ptA, ↓reduceIte, Nat.reduceEqDiff, Nat.reduceAdd, Nat.reduceBEq, Nat.reduceMul, Nat.reduceLT, Nat.reduceLeDiff, isMb_flb, Nat.zero_add, decide_true, Nat.reduceSub, isMb_cl, isMb_zbox, cl_len, zbox_len, c_w8, c_lo8, wr_add, w_xor, w_and, w_or, w_not, vbin_shl, vbin_shr, vint_mul, d11]
    exact retTz (t := ⟨0, []⟩) rfl (Nat.lt_succ_self 1) rfl rfl
  obtain ⟨a, ha⟩ := hasK_at hh
  have hlt : lowK ks x < ks.length := (List.getElem?_eq_some_iff.1 ha).1
  have hne : ks ≠ [] := fun h => by subst h; simp at hlt
  generalize lowK ks x = i at *
  have hw := wrap_of (n := (i : Int) + 1) (k := i + 1) (by omega) (by omega)
  simp -implicitDefEqProofs only [pkA, ptA, ↓reduceIte, Nat.reduceEqDiff, Nat.reduceAdd, Nat.reduceBEq, Nat.reduceMul, Nat.reduceLT, Nat.reduceLeDiff, isMb_flb, Nat.zero_add, decide_true, Nat.reduceSub, isMb_cl, isMb_zbox, cl_len, zbox_len, c_w8, c_lo8, wr_add, w_xor, w_and, w_or, w_not, vbin_shl, vbin_shr, vint_mul, d00]
  refine callB_new rfl (CloneB_k ks hne (by omega)) rfl ?_
  simp -implicitDefEqProofs only [pkA, ptA, ↓reduceIte, Nat.reduceEqDiff, Nat.reduceAdd, Nat.reduceBEq, Nat.reduceMul, Nat.reduceLT, Nat.reduceLeDiff, isMb_flb, Nat.zero_add, decide_true, Nat.reduceSub, isMb_cl, isMb_zbox, cl_len, zbox_len, c_w8, c_lo8, wr_add, w_xor, w_and, w_or, w_not, vbin_shl, vbin_shr, vint_mul, setBx, V.ren, flb_ren, hw]
  refine callB_oneR (c0 := (ks.map kC).flatten) (c1 := ((ks.eraseIdx i ++ [k0]).map kC).flatten) (r' := .ms 2 0 (ks.length - 1) ks.length 9) 2 rfl (Delete_ok ks i ks.length hlt rfl hl) rfl (Nat.lt_succ_self 2) rfl rfl ?_
  simp -implicitDefEqProofs only [pkA, ptA, ↓reduceIte, Nat.reduceEqDiff, Nat.reduceAdd, Nat.reduceBEq, Nat.reduceMul, Nat.reduceLT, Nat.reduceLeDiff, isMb_flb, Nat.zero_add, decide_true, Nat.reduceSub, isMb_cl, isMb_zbox, cl_len, zbox_len, c_w8, c_lo8, wr_add, w_xor, w_and, w_or, w_not, vbin_shl, vbin_shr, vint_mul]
  refine retMt (b := 1) (d := 2) (n := ks.length - 1) (m := ks.length) (L := ks.eraseIdx i ++ [k0]) rfl (by decide) (by decide) rfl rfl (by rw [List.length_append, List.length_eraseIdx_of_lt hlt]; simp) ?_ rfl
  exact List.take_left' (List.length_eraseIdx_of_lt hlt)
end Go.Proofs.YtidlohfkfdeaiaaDoor
