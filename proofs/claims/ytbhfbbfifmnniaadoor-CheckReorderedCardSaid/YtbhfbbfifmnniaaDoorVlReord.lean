/- The law CheckReordered of layer 13, as a contract. -/
import Derived.Test.YtbhfbbfifmnniaaDoorVlPerm
import Derived.Test.YtbhfbbfifmnniaaDoorVlMatch
set_option linter.unusedSimpArgs false
set_option linter.unusedVariables false
namespace Go.Proofs.YtbhfbbfifmnniaaDoor
open Go Go.Vl

theorem rem_nat {a b : Nat} {K : V → Prop} (hb : 0 < b) : vint .rem .i64 (a : Int) (b : Int) K = K (.c (.lit (.int .i64 ((a % b : Nat) : Int)))) := by
  have h : (b : Int) ≠ 0 := by omega
  have e : (a : Int).tmod b = ((a % b : Nat) : Int) := by rw [Int.tmod_eq_emod_of_nonneg (by omega)]; simp
  simp only [vint, e, h, ne_eq, not_false_eq_true, true_and]
theorem setV_po2 {p : Pol} {x : V} : setV (List.map V.c (poC p)) 2 [x] = [.c (.lit (.string p.name)), .c (.sl (p.types.map tyC)), x, .c (.sl (p.quorums.map quC))] := rfl
theorem LZ_refl {s : Vl.S} {m : Nat} : ∀ l : List V, LZ s m l l
  | [] => trivial
  | _ :: l => ⟨.inl rfl, LZ_refl l⟩
theorem PolIn.perm {p : Pol} (h : PolIn p) {R : List Ru} {Q : List Qu} (hR : R.Perm p.rules) (hQ : Q.Perm p.quorums) : PolIn ⟨p.name, p.types, R, Q⟩ where
  name := h.name
  lt := h.lt
  lr := by simp only; rw [hR.length_eq]; exact h.lr
  lq := by simp only; rw [hQ.length_eq]; exact h.lq
  types := h.types
  rules := fun t ht => h.rules t (hR.mem_iff.1 ht)
  quorums := fun t ht => h.quorums t (hQ.mem_iff.1 ht)

theorem swap_perm {α : Type} {l : List α} {i j : Nat} {x y : α} (hi : l[i]? = some x) (hj : l[j]? = some y) : ((l.set i y).set j x).Perm l := by
  obtain ⟨hi', rfl⟩ := List.getElem?_eq_some_iff.1 hi
  obtain ⟨hj', rfl⟩ := List.getElem?_eq_some_iff.1 hj
  exact List.set_set_perm hi' hj'

/-- What the law asks at its end. -/
theorem reord_end {p : Pol} (hp : PolIn p) (hf : fewB p = true) (hv : validB p = true) {R : List Ru} {Q : List Qu} (hR : R.Perm p.rules) (hQ : Q.Perm p.quorums) :
    FnOK Tryd.prog gl 13 [.agg (poC ⟨p.name, p.types, R, Q⟩)] (bo true) ∧ FnOK Tryd.prog gl 18 [.agg (poC p)] (.agg (poC (normP p))) ∧
    FnOK Tryd.prog gl 18 [.agg (poC ⟨p.name, p.types, R, Q⟩)] (.agg (poC (normP p))) ∧ FnOK Tryd.prog gl 20 [.agg (poC (normP p)), .agg (poC (normP p))] (bo true) := by
  have h1 := few_sm hf
  have h2 := few_it hf
  have h3 := normP_ok hp.ok
  refine ⟨?_, Normal_ok p h1, ?_, ?_⟩
  · have := Valid_ok (G := gl) rfl ⟨p.name, p.types, R, Q⟩ (hp.perm hR hQ) (by unfold items at *; simp only; rw [hR.length_eq, hQ.length_eq]; exact h2)
    rwa [valid_perm hR hQ hv] at this
  · have := Normal_ok (G := gl) ⟨p.name, p.types, R, Q⟩ (by unfold PolSm at *; simp only; rw [hR.length_eq, hQ.length_eq]; exact h1)
    rwa [norm_perm hR hQ hv] at this
  · have := Same_ok (G := gl) (normP p) (normP p) h3 h3
    rwa [decide_eq_true rfl] at this

set_option maxRecDepth 100000 in
set_option maxHeartbeats 8000000 in
theorem reord_11 (p : Pol) (i j k l : Nat) (hi : i ≤ 255) (hj : j ≤ 255) (hk : k ≤ 255) (hl : l ≤ 255) (hp : PolIn p) (hf : fewB p = true) (hv : validB p = true) (hr : p.rules ≠ []) (hq : p.quorums ≠ []) :
    FnOK Tryd.prog gl 7 [.agg (poC p), .c (.lit (.int .u8 i)), .c (.lit (.int .u8 j)), .c (.lit (.int .u8 k)), .c (.lit (.int .u8 l))] (bo true) := by
  refine FnOK_by (rs := [.tmp 10]) false [200052, 305201, 200055, 305501, 200058, 305801, 200063, 306301, 200067, 306702, 200068, 306802, 200083, 308301, 200086, 308601, 200089, 308901, 200094, 309401, 200098, 309803, 200099, 309903, 2000031, 2000036, 2600014] mixed Tryd.func7 rfl rfl rfl rfl (by kernel_rfl) (by simp) rfl rfl ?_
  have hs := few_sm hf
  unfold PolSm at hs
  obtain ⟨o1, o2, o3⟩ := hs
  have cv : ∀ (n : Nat) (K : V → Prop), n ≤ 255 → vconv Tryd.prog 5 3 (.c (.lit (.int .u8 n))) K = K (i64 n) := fun n K h => conv_i64 ti_5 ti_3 rfl (by omega)
  have cvi := fun K => cv i K hi
  have cvj := fun K => cv j K hj
  have cvk := fun K => cv k K hk
  have cvl := fun K => cv l K hl
  simp -implicitDefEqProofs only [pkA, ptA, ↓reduceIte, Nat.reduceEqDiff, Nat.reduceAdd, Nat.reduceBEq, Nat.reduceMul, Nat.reduceLT, Nat.reduceLeDiff, pkP, List.length_map, setV_all, setV_po2, decide_true]
  refine call_fn rfl (few_ok _) (fun _ => rfl) ?_
  simp -implicitDefEqProofs only [pkA, ptA, ↓reduceIte, Nat.reduceEqDiff, Nat.reduceAdd, Nat.reduceBEq, Nat.reduceMul, Nat.reduceLT, Nat.reduceLeDiff, pkP, List.length_map, setV_all, setV_po2, decide_true, hf]
  refine call_fn rfl (Valid_ok rfl p hp (few_it hf)) (fun _ => rfl) ?_
  have er : (List.map ruC p.rules).isEmpty = false := by simpa using hr
  have flr : List.map V.c (List.map ruC p.rules).flatten = flb ruC p.rules := rfl
  have eq : (List.map quC p.quorums).isEmpty = false := by simpa using hq
  have flq : List.map V.c (List.map quC p.quorums).flatten = flb quC p.quorums := rfl
  simp -implicitDefEqProofs only [pkA, ptA, ↓reduceIte, Nat.reduceEqDiff, Nat.reduceAdd, Nat.reduceBEq, Nat.reduceMul, Nat.reduceLT, Nat.reduceLeDiff, pkP, List.length_map, setV_all, setV_po2, decide_true, hv, er, flr, eq, flq]
  rw [app_23]
  refine ⟨⟨.inl rfl, by simp⟩, ⟨by simp <;> omega, by simp <;> omega, len_map ruC_len _⟩, ?_⟩
  simp -implicitDefEqProofs only [pkA, ptA, ↓reduceIte, Nat.reduceEqDiff, Nat.reduceAdd, Nat.reduceBEq, Nat.reduceMul, Nat.reduceLT, Nat.reduceLeDiff, pkP, List.length_map, setV_all, setV_po2, decide_true, hv, er, flr, eq, flq]
  rw [app_24]
  refine ⟨⟨.inl rfl, by simp⟩, ⟨by simp <;> omega, by simp <;> omega, len_map quC_len _⟩, ?_⟩
  simp -implicitDefEqProofs only [pkA, ptA, ↓reduceIte, Nat.reduceEqDiff, Nat.reduceAdd, Nat.reduceBEq, Nat.reduceMul, Nat.reduceLT, Nat.reduceLeDiff, pkP, List.length_map, setV_all, setV_po2, decide_true, hv, er, flr, eq, flq]
  have nr : 0 < p.rules.length := List.length_pos_iff.2 hr
  have dr : decide ((0 : Int) < (p.rules.length : Nat)) = true := decide_eq_true (by omega)
  have mi : i % p.rules.length < p.rules.length := Nat.mod_lt _ nr
  have mj : j % p.rules.length < p.rules.length := Nat.mod_lt _ nr
  have ri := fun K => rem_nat (a := i) (K := K) nr
  have rj := fun K => rem_nat (a := j) (K := K) nr
  obtain ⟨xr, hxr⟩ : ∃ x, p.rules[i % p.rules.length]? = some x := ⟨_, List.getElem?_eq_getElem mi⟩
  obtain ⟨yr, hyr⟩ : ∃ y, p.rules[j % p.rules.length]? = some y := ⟨_, List.getElem?_eq_getElem mj⟩
  obtain ⟨c1r, s1r⟩ := stq (i := i % p.rules.length) (y := yr) ruC_len mi (Eq.refl (p.rules.set (i % p.rules.length) yr))
  obtain ⟨c2r, s2r⟩ := stq (i := j % p.rules.length) (y := xr) ruC_len (by rw [List.length_set]; exact mj) (Eq.refl ((p.rules.set (i % p.rules.length) yr).set (j % p.rules.length) xr))
  simp -implicitDefEqProofs only [pkA, ptA, ↓reduceIte, Nat.reduceEqDiff, Nat.reduceAdd, Nat.reduceBEq, Nat.reduceMul, Nat.reduceLT, Nat.reduceLeDiff, pkP, List.length_map, setV_all, setV_po2, decide_true, hv, er, flr, eq, flq, dr, cvi, cvj, ri, rj]
  refine ix_flb ti_23 rfl ti_40 rfl (by decide) rfl mj ?_
  simp -implicitDefEqProofs only [pkA, ptA, ↓reduceIte, Nat.reduceEqDiff, Nat.reduceAdd, Nat.reduceBEq, Nat.reduceMul, Nat.reduceLT, Nat.reduceLeDiff, pkP, List.length_map, setV_all, setV_po2, decide_true, hv, er, flr, eq, flq, dr, cvi, cvj, ri, rj]
  refine ld_flb ruC_len rfl (by decide) hyr ?_
  simp -implicitDefEqProofs only [pkA, ptA, ↓reduceIte, Nat.reduceEqDiff, Nat.reduceAdd, Nat.reduceBEq, Nat.reduceMul, Nat.reduceLT, Nat.reduceLeDiff, pkP, List.length_map, setV_all, setV_po2, decide_true, hv, er, flr, eq, flq, dr, cvi, cvj, ri, rj]
  refine ix_flb ti_23 rfl ti_40 rfl (by decide) rfl mi ?_
  simp -implicitDefEqProofs only [pkA, ptA, ↓reduceIte, Nat.reduceEqDiff, Nat.reduceAdd, Nat.reduceBEq, Nat.reduceMul, Nat.reduceLT, Nat.reduceLeDiff, pkP, List.length_map, setV_all, setV_po2, decide_true, hv, er, flr, eq, flq, dr, cvi, cvj, ri, rj]
  refine ld_flb ruC_len rfl (by decide) hxr ?_
  simp -implicitDefEqProofs only [pkA, ptA, ↓reduceIte, Nat.reduceEqDiff, Nat.reduceAdd, Nat.reduceBEq, Nat.reduceMul, Nat.reduceLT, Nat.reduceLeDiff, pkP, List.length_map, setV_all, setV_po2, decide_true, hv, er, flr, eq, flq, dr, cvi, cvj, ri, rj]
  refine ix_flb ti_23 rfl ti_40 rfl (by decide) rfl mi ?_
  simp -implicitDefEqProofs only [pkA, ptA, ↓reduceIte, Nat.reduceEqDiff, Nat.reduceAdd, Nat.reduceBEq, Nat.reduceMul, Nat.reduceLT, Nat.reduceLeDiff, pkP, List.length_map, setV_all, setV_po2, decide_true, hv, er, flr, eq, flq, dr, cvi, cvj, ri, rj, c1r, s1r]
  refine ix_flb ti_23 rfl ti_40 rfl (by decide) rfl mj ?_
  simp -implicitDefEqProofs only [pkA, ptA, ↓reduceIte, Nat.reduceEqDiff, Nat.reduceAdd, Nat.reduceBEq, Nat.reduceMul, Nat.reduceLT, Nat.reduceLeDiff, pkP, List.length_map, setV_all, setV_po2, decide_true, hv, er, flr, eq, flq, dr, cvi, cvj, ri, rj, c2r, s2r]
  have nq : 0 < p.quorums.length := List.length_pos_iff.2 hq
  have dq : decide ((0 : Int) < (p.quorums.length : Nat)) = true := decide_eq_true (by omega)
  have mk : k % p.quorums.length < p.quorums.length := Nat.mod_lt _ nq
  have ml : l % p.quorums.length < p.quorums.length := Nat.mod_lt _ nq
  have rk := fun K => rem_nat (a := k) (K := K) nq
  have rl := fun K => rem_nat (a := l) (K := K) nq
  obtain ⟨xq, hxq⟩ : ∃ x, p.quorums[k % p.quorums.length]? = some x := ⟨_, List.getElem?_eq_getElem mk⟩
  obtain ⟨yq, hyq⟩ : ∃ y, p.quorums[l % p.quorums.length]? = some y := ⟨_, List.getElem?_eq_getElem ml⟩
  obtain ⟨c1q, s1q⟩ := stq (i := k % p.quorums.length) (y := yq) quC_len mk (Eq.refl (p.quorums.set (k % p.quorums.length) yq))
  obtain ⟨c2q, s2q⟩ := stq (i := l % p.quorums.length) (y := xq) quC_len (by rw [List.length_set]; exact ml) (Eq.refl ((p.quorums.set (k % p.quorums.length) yq).set (l % p.quorums.length) xq))
  simp -implicitDefEqProofs only [pkA, ptA, ↓reduceIte, Nat.reduceEqDiff, Nat.reduceAdd, Nat.reduceBEq, Nat.reduceMul, Nat.reduceLT, Nat.reduceLeDiff, pkP, List.length_map, setV_all, setV_po2, decide_true, hv, er, flr, eq, flq, dq, cvk, cvl, rk, rl]
  refine ix_flb ti_24 rfl ti_42 rfl (by decide) rfl ml ?_
  simp -implicitDefEqProofs only [pkA, ptA, ↓reduceIte, Nat.reduceEqDiff, Nat.reduceAdd, Nat.reduceBEq, Nat.reduceMul, Nat.reduceLT, Nat.reduceLeDiff, pkP, List.length_map, setV_all, setV_po2, decide_true, hv, er, flr, eq, flq, dq, cvk, cvl, rk, rl]
  refine ld_flb quC_len rfl (by decide) hyq ?_
  simp -implicitDefEqProofs only [pkA, ptA, ↓reduceIte, Nat.reduceEqDiff, Nat.reduceAdd, Nat.reduceBEq, Nat.reduceMul, Nat.reduceLT, Nat.reduceLeDiff, pkP, List.length_map, setV_all, setV_po2, decide_true, hv, er, flr, eq, flq, dq, cvk, cvl, rk, rl]
  refine ix_flb ti_24 rfl ti_42 rfl (by decide) rfl mk ?_
  simp -implicitDefEqProofs only [pkA, ptA, ↓reduceIte, Nat.reduceEqDiff, Nat.reduceAdd, Nat.reduceBEq, Nat.reduceMul, Nat.reduceLT, Nat.reduceLeDiff, pkP, List.length_map, setV_all, setV_po2, decide_true, hv, er, flr, eq, flq, dq, cvk, cvl, rk, rl]
  refine ld_flb quC_len rfl (by decide) hxq ?_
  simp -implicitDefEqProofs only [pkA, ptA, ↓reduceIte, Nat.reduceEqDiff, Nat.reduceAdd, Nat.reduceBEq, Nat.reduceMul, Nat.reduceLT, Nat.reduceLeDiff, pkP, List.length_map, setV_all, setV_po2, decide_true, hv, er, flr, eq, flq, dq, cvk, cvl, rk, rl]
  refine ix_flb ti_24 rfl ti_42 rfl (by decide) rfl mk ?_
  simp -implicitDefEqProofs only [pkA, ptA, ↓reduceIte, Nat.reduceEqDiff, Nat.reduceAdd, Nat.reduceBEq, Nat.reduceMul, Nat.reduceLT, Nat.reduceLeDiff, pkP, List.length_map, setV_all, setV_po2, decide_true, hv, er, flr, eq, flq, dq, cvk, cvl, rk, rl, c1q, s1q]
  refine ix_flb ti_24 rfl ti_42 rfl (by decide) rfl ml ?_
  simp -implicitDefEqProofs only [pkA, ptA, ↓reduceIte, Nat.reduceEqDiff, Nat.reduceAdd, Nat.reduceBEq, Nat.reduceMul, Nat.reduceLT, Nat.reduceLeDiff, pkP, List.length_map, setV_all, setV_po2, decide_true, hv, er, flr, eq, flq, dq, cvk, cvl, rk, rl, c2q, s2q]
  obtain ⟨hE1, hE2, hE3, hE4⟩ := reord_end hp hf hv (R := ((p.rules.set (i % p.rules.length) yr).set (j % p.rules.length) xr)) (Q := ((p.quorums.set (k % p.quorums.length) yq).set (l % p.quorums.length) xq)) (swap_perm hxr hyr) (swap_perm hxq hyq)
  refine fz_hd (l := [(5, .bp 0 0), (11, .bp 1 0)]) (bl := [(poC p).map .c, [.c (.lit (.string p.name)), .c (.sl (p.types.map tyC)), .c (.sl (((p.rules.set (i % p.rules.length) yr).set (j % p.rules.length) xr).map ruC)), .c (.sl (((p.quorums.set (k % p.quorums.length) yq).set (l % p.quorums.length) xq).map quC))]]) (by simp only [leOk, List.all_cons, List.all_nil, all_ltB_c, List.length_cons, List.length_nil]; rfl) (Nat.le_trans (Nat.le_of_eq (by decide : extK [200052, 305201, 200055, 305501, 200058, 305801, 200063, 306301, 200067, 306702, 200068, 306802, 200083, 308301, 200086, 308601, 200089, 308901, 200094, 309401, 200098, 309803, 200099, 309903, 2000031, 2000036, 2600014] = 0)) (Nat.zero_le _)) (by simp) (by simp [FZL, up_apply]) ?_ ?_
  · refine ⟨?_, ?_, trivial⟩
    · simp -implicitDefEqProofs only [up_apply, ↓reduceIte, Nat.reduceEqDiff, Nat.reduceAdd]
      exact LZ_refl _
    · simp -implicitDefEqProofs only [up_apply, ↓reduceIte, Nat.reduceEqDiff, Nat.reduceAdd]
      exact ⟨.inl rfl, .inl rfl, .inr ⟨2, 0, _, _, 3, _, rfl, by simp, view_flb (l := ((p.rules.set (i % p.rules.length) yr).set (j % p.rules.length) xr)) ruC_len (by decide) (by simp [up_apply]) (by simp), rfl⟩, .inr ⟨3, 0, _, _, 5, _, rfl, by simp, view_flb (l := ((p.quorums.set (k % p.quorums.length) yq).set (l % p.quorums.length) xq)) quC_len (by decide) (by simp [up_apply]) (by simp), rfl⟩, trivial⟩
  repeat' first
    | (simp -implicitDefEqProofs only [pkA, ptA, ↓reduceIte, Nat.reduceEqDiff, Nat.reduceAdd, Nat.reduceBEq, Nat.reduceMul, Nat.reduceLT, Nat.reduceLeDiff, pkP, List.length_map, setV_all, setV_po2, decide_true])
    | refine call_fn rfl sanity_ok (fun _ => rfl) ?_
    | refine call_fn rfl hE1 (fun _ => rfl) ?_
    | refine call_fn rfl hE2 (fun h => by cases h) ?_
    | refine call_fn rfl hE3 (fun h => by cases h) ?_
    | refine call_fn rfl hE4 (fun _ => rfl) ?_

set_option maxRecDepth 100000 in
set_option maxHeartbeats 8000000 in
theorem reord_10 (p : Pol) (i j k l : Nat) (hi : i ≤ 255) (hj : j ≤ 255) (hk : k ≤ 255) (hl : l ≤ 255) (hp : PolIn p) (hf : fewB p = true) (hv : validB p = true) (hr : p.rules ≠ []) (hq : p.quorums = []) :
    FnOK Tryd.prog gl 7 [.agg (poC p), .c (.lit (.int .u8 i)), .c (.lit (.int .u8 j)), .c (.lit (.int .u8 k)), .c (.lit (.int .u8 l))] (bo true) := by
  refine FnOK_by (rs := [.tmp 10]) false [200052, 305201, 200055, 305501, 200058, 305801, 200063, 306301, 200067, 306702, 200068, 306802, 200083, 308301, 200086, 308601, 200089, 308901, 200094, 309401, 200098, 309803, 200099, 309903, 2000031, 2600014] mixed Tryd.func7 rfl rfl rfl rfl (by kernel_rfl) (by simp) rfl rfl ?_
  have hs := few_sm hf
  unfold PolSm at hs
  obtain ⟨o1, o2, o3⟩ := hs
  have cv : ∀ (n : Nat) (K : V → Prop), n ≤ 255 → vconv Tryd.prog 5 3 (.c (.lit (.int .u8 n))) K = K (i64 n) := fun n K h => conv_i64 ti_5 ti_3 rfl (by omega)
  have cvi := fun K => cv i K hi
  have cvj := fun K => cv j K hj
  have cvk := fun K => cv k K hk
  have cvl := fun K => cv l K hl
  simp -implicitDefEqProofs only [pkA, ptA, ↓reduceIte, Nat.reduceEqDiff, Nat.reduceAdd, Nat.reduceBEq, Nat.reduceMul, Nat.reduceLT, Nat.reduceLeDiff, pkP, List.length_map, setV_all, setV_po2, decide_true]
  refine call_fn rfl (few_ok _) (fun _ => rfl) ?_
  simp -implicitDefEqProofs only [pkA, ptA, ↓reduceIte, Nat.reduceEqDiff, Nat.reduceAdd, Nat.reduceBEq, Nat.reduceMul, Nat.reduceLT, Nat.reduceLeDiff, pkP, List.length_map, setV_all, setV_po2, decide_true, hf]
  refine call_fn rfl (Valid_ok rfl p hp (few_it hf)) (fun _ => rfl) ?_
  have er : (List.map ruC p.rules).isEmpty = false := by simpa using hr
  have flr : List.map V.c (List.map ruC p.rules).flatten = flb ruC p.rules := rfl
  simp -implicitDefEqProofs only [pkA, ptA, ↓reduceIte, Nat.reduceEqDiff, Nat.reduceAdd, Nat.reduceBEq, Nat.reduceMul, Nat.reduceLT, Nat.reduceLeDiff, pkP, List.length_map, setV_all, setV_po2, decide_true, hv, er, flr, hq]
  rw [app_23]
  refine ⟨⟨.inl rfl, by simp⟩, ⟨by simp <;> omega, by simp <;> omega, len_map ruC_len _⟩, ?_⟩
  simp -implicitDefEqProofs only [pkA, ptA, ↓reduceIte, Nat.reduceEqDiff, Nat.reduceAdd, Nat.reduceBEq, Nat.reduceMul, Nat.reduceLT, Nat.reduceLeDiff, pkP, List.length_map, setV_all, setV_po2, decide_true, hv, er, flr, hq]
  rw [app_24]
  refine ⟨⟨.inl rfl, by simp⟩, ⟨by simp <;> omega, by simp <;> omega, by simp⟩, ?_⟩
  simp -implicitDefEqProofs only [pkA, ptA, ↓reduceIte, Nat.reduceEqDiff, Nat.reduceAdd, Nat.reduceBEq, Nat.reduceMul, Nat.reduceLT, Nat.reduceLeDiff, pkP, List.length_map, setV_all, setV_po2, decide_true, hv, er, flr, hq]
  have nr : 0 < p.rules.length := List.length_pos_iff.2 hr
  have dr : decide ((0 : Int) < (p.rules.length : Nat)) = true := decide_eq_true (by omega)
  have mi : i % p.rules.length < p.rules.length := Nat.mod_lt _ nr
  have mj : j % p.rules.length < p.rules.length := Nat.mod_lt _ nr
  have ri := fun K => rem_nat (a := i) (K := K) nr
  have rj := fun K => rem_nat (a := j) (K := K) nr
  obtain ⟨xr, hxr⟩ : ∃ x, p.rules[i % p.rules.length]? = some x := ⟨_, List.getElem?_eq_getElem mi⟩
  obtain ⟨yr, hyr⟩ : ∃ y, p.rules[j % p.rules.length]? = some y := ⟨_, List.getElem?_eq_getElem mj⟩
  obtain ⟨c1r, s1r⟩ := stq (i := i % p.rules.length) (y := yr) ruC_len mi (Eq.refl (p.rules.set (i % p.rules.length) yr))
  obtain ⟨c2r, s2r⟩ := stq (i := j % p.rules.length) (y := xr) ruC_len (by rw [List.length_set]; exact mj) (Eq.refl ((p.rules.set (i % p.rules.length) yr).set (j % p.rules.length) xr))
  simp -implicitDefEqProofs only [pkA, ptA, ↓reduceIte, Nat.reduceEqDiff, Nat.reduceAdd, Nat.reduceBEq, Nat.reduceMul, Nat.reduceLT, Nat.reduceLeDiff, pkP, List.length_map, setV_all, setV_po2, decide_true, hv, er, flr, hq, dr, cvi, cvj, ri, rj]
  refine ix_flb ti_23 rfl ti_40 rfl (by decide) rfl mj ?_
  simp -implicitDefEqProofs only [pkA, ptA, ↓reduceIte, Nat.reduceEqDiff, Nat.reduceAdd, Nat.reduceBEq, Nat.reduceMul, Nat.reduceLT, Nat.reduceLeDiff, pkP, List.length_map, setV_all, setV_po2, decide_true, hv, er, flr, hq, dr, cvi, cvj, ri, rj]
  refine ld_flb ruC_len rfl (by decide) hyr ?_
  simp -implicitDefEqProofs only [pkA, ptA, ↓reduceIte, Nat.reduceEqDiff, Nat.reduceAdd, Nat.reduceBEq, Nat.reduceMul, Nat.reduceLT, Nat.reduceLeDiff, pkP, List.length_map, setV_all, setV_po2, decide_true, hv, er, flr, hq, dr, cvi, cvj, ri, rj]
  refine ix_flb ti_23 rfl ti_40 rfl (by decide) rfl mi ?_
  simp -implicitDefEqProofs only [pkA, ptA, ↓reduceIte, Nat.reduceEqDiff, Nat.reduceAdd, Nat.reduceBEq, Nat.reduceMul, Nat.reduceLT, Nat.reduceLeDiff, pkP, List.length_map, setV_all, setV_po2, decide_true, hv, er, flr, hq, dr, cvi, cvj, ri, rj]
  refine ld_flb ruC_len rfl (by decide) hxr ?_
  simp -implicitDefEqProofs only [pkA, ptA, ↓reduceIte, Nat.reduceEqDiff, Nat.reduceAdd, Nat.reduceBEq, Nat.reduceMul, Nat.reduceLT, Nat.reduceLeDiff, pkP, List.length_map, setV_all, setV_po2, decide_true, hv, er, flr, hq, dr, cvi, cvj, ri, rj]
  refine ix_flb ti_23 rfl ti_40 rfl (by decide) rfl mi ?_
  simp -implicitDefEqProofs only [pkA, ptA, ↓reduceIte, Nat.reduceEqDiff, Nat.reduceAdd, Nat.reduceBEq, Nat.reduceMul, Nat.reduceLT, Nat.reduceLeDiff, pkP, List.length_map, setV_all, setV_po2, decide_true, hv, er, flr, hq, dr, cvi, cvj, ri, rj, c1r, s1r]
  refine ix_flb ti_23 rfl ti_40 rfl (by decide) rfl mj ?_
  simp -implicitDefEqProofs only [pkA, ptA, ↓reduceIte, Nat.reduceEqDiff, Nat.reduceAdd, Nat.reduceBEq, Nat.reduceMul, Nat.reduceLT, Nat.reduceLeDiff, pkP, List.length_map, setV_all, setV_po2, decide_true, hv, er, flr, hq, dr, cvi, cvj, ri, rj, c2r, s2r]
  have dq : decide ((0 : Int) < ((0 : Nat) : Int)) = false := rfl
  try simp -implicitDefEqProofs only [pkA, ptA, ↓reduceIte, Nat.reduceEqDiff, Nat.reduceAdd, Nat.reduceBEq, Nat.reduceMul, Nat.reduceLT, Nat.reduceLeDiff, pkP, List.length_map, setV_all, setV_po2, decide_true, hv, er, flr, hq, dq]
  obtain ⟨hE1, hE2, hE3, hE4⟩ := reord_end hp hf hv (R := ((p.rules.set (i % p.rules.length) yr).set (j % p.rules.length) xr)) (Q := ([] : List Qu)) (swap_perm hxr hyr) ((by rw [hq]))
  refine fz_hd (l := [(5, .bp 0 0), (11, .bp 1 0)]) (bl := [(poC p).map .c, [.c (.lit (.string p.name)), .c (.sl (p.types.map tyC)), .c (.sl (((p.rules.set (i % p.rules.length) yr).set (j % p.rules.length) xr).map ruC)), .ow none []]]) (by simp only [leOk, List.all_cons, List.all_nil, all_ltB_c, List.length_cons, List.length_nil]; rfl) (Nat.le_trans (Nat.le_of_eq (by decide : extK [200052, 305201, 200055, 305501, 200058, 305801, 200063, 306301, 200067, 306702, 200068, 306802, 200083, 308301, 200086, 308601, 200089, 308901, 200094, 309401, 200098, 309803, 200099, 309903, 2000031, 2600014] = 0)) (Nat.zero_le _)) (by simp) (by simp [FZL, up_apply]) ?_ ?_
  · refine ⟨?_, ?_, trivial⟩
    · simp -implicitDefEqProofs only [up_apply, ↓reduceIte, Nat.reduceEqDiff, Nat.reduceAdd]
      exact LZ_refl _
    · simp -implicitDefEqProofs only [up_apply, ↓reduceIte, Nat.reduceEqDiff, Nat.reduceAdd]
      exact ⟨.inl rfl, .inl rfl, .inr ⟨2, 0, _, _, 3, _, rfl, by simp, view_flb (l := ((p.rules.set (i % p.rules.length) yr).set (j % p.rules.length) xr)) ruC_len (by decide) (by simp [up_apply]) (by simp), rfl⟩, .inl rfl, trivial⟩
  repeat' first
    | (simp -implicitDefEqProofs only [pkA, ptA, ↓reduceIte, Nat.reduceEqDiff, Nat.reduceAdd, Nat.reduceBEq, Nat.reduceMul, Nat.reduceLT, Nat.reduceLeDiff, pkP, List.length_map, setV_all, setV_po2, decide_true])
    | refine call_fn rfl sanity_ok (fun _ => rfl) ?_
    | refine call_fn rfl hE1 (fun _ => rfl) ?_
    | refine call_fn rfl hE2 (fun h => by cases h) ?_
    | refine call_fn rfl hE3 (fun h => by cases h) ?_
    | refine call_fn rfl hE4 (fun _ => rfl) ?_

set_option maxRecDepth 100000 in
set_option maxHeartbeats 8000000 in
theorem reord_01 (p : Pol) (i j k l : Nat) (hi : i ≤ 255) (hj : j ≤ 255) (hk : k ≤ 255) (hl : l ≤ 255) (hp : PolIn p) (hf : fewB p = true) (hv : validB p = true) (hr : p.rules = []) (hq : p.quorums ≠ []) :
    FnOK Tryd.prog gl 7 [.agg (poC p), .c (.lit (.int .u8 i)), .c (.lit (.int .u8 j)), .c (.lit (.int .u8 k)), .c (.lit (.int .u8 l))] (bo true) := by
  refine FnOK_by (rs := [.tmp 10]) false [200052, 305201, 200055, 305501, 200058, 305801, 200063, 306301, 200067, 306702, 200068, 306802, 200083, 308301, 200086, 308601, 200089, 308901, 200094, 309401, 200098, 309802, 200099, 309902, 2000036, 2600014] mixed Tryd.func7 rfl rfl rfl rfl (by kernel_rfl) (by simp) rfl rfl ?_
  have hs := few_sm hf
  unfold PolSm at hs
  obtain ⟨o1, o2, o3⟩ := hs
  have cv : ∀ (n : Nat) (K : V → Prop), n ≤ 255 → vconv Tryd.prog 5 3 (.c (.lit (.int .u8 n))) K = K (i64 n) := fun n K h => conv_i64 ti_5 ti_3 rfl (by omega)
  have cvi := fun K => cv i K hi
  have cvj := fun K => cv j K hj
  have cvk := fun K => cv k K hk
  have cvl := fun K => cv l K hl
  simp -implicitDefEqProofs only [pkA, ptA, ↓reduceIte, Nat.reduceEqDiff, Nat.reduceAdd, Nat.reduceBEq, Nat.reduceMul, Nat.reduceLT, Nat.reduceLeDiff, pkP, List.length_map, setV_all, setV_po2, decide_true]
  refine call_fn rfl (few_ok _) (fun _ => rfl) ?_
  simp -implicitDefEqProofs only [pkA, ptA, ↓reduceIte, Nat.reduceEqDiff, Nat.reduceAdd, Nat.reduceBEq, Nat.reduceMul, Nat.reduceLT, Nat.reduceLeDiff, pkP, List.length_map, setV_all, setV_po2, decide_true, hf]
  refine call_fn rfl (Valid_ok rfl p hp (few_it hf)) (fun _ => rfl) ?_
  have eq : (List.map quC p.quorums).isEmpty = false := by simpa using hq
  have flq : List.map V.c (List.map quC p.quorums).flatten = flb quC p.quorums := rfl
  simp -implicitDefEqProofs only [pkA, ptA, ↓reduceIte, Nat.reduceEqDiff, Nat.reduceAdd, Nat.reduceBEq, Nat.reduceMul, Nat.reduceLT, Nat.reduceLeDiff, pkP, List.length_map, setV_all, setV_po2, decide_true, hv, hr, eq, flq]
  rw [app_23]
  refine ⟨⟨.inl rfl, by simp⟩, ⟨by simp <;> omega, by simp <;> omega, by simp⟩, ?_⟩
  simp -implicitDefEqProofs only [pkA, ptA, ↓reduceIte, Nat.reduceEqDiff, Nat.reduceAdd, Nat.reduceBEq, Nat.reduceMul, Nat.reduceLT, Nat.reduceLeDiff, pkP, List.length_map, setV_all, setV_po2, decide_true, hv, hr, eq, flq]
  rw [app_24]
  refine ⟨⟨.inl rfl, by simp⟩, ⟨by simp <;> omega, by simp <;> omega, len_map quC_len _⟩, ?_⟩
  simp -implicitDefEqProofs only [pkA, ptA, ↓reduceIte, Nat.reduceEqDiff, Nat.reduceAdd, Nat.reduceBEq, Nat.reduceMul, Nat.reduceLT, Nat.reduceLeDiff, pkP, List.length_map, setV_all, setV_po2, decide_true, hv, hr, eq, flq]
  have dr : decide ((0 : Int) < ((0 : Nat) : Int)) = false := rfl
  try simp -implicitDefEqProofs only [pkA, ptA, ↓reduceIte, Nat.reduceEqDiff, Nat.reduceAdd, Nat.reduceBEq, Nat.reduceMul, Nat.reduceLT, Nat.reduceLeDiff, pkP, List.length_map, setV_all, setV_po2, decide_true, hv, hr, eq, flq, dr]
  have nq : 0 < p.quorums.length := List.length_pos_iff.2 hq
  have dq : decide ((0 : Int) < (p.quorums.length : Nat)) = true := decide_eq_true (by omega)
  have mk : k % p.quorums.length < p.quorums.length := Nat.mod_lt _ nq
  have ml : l % p.quorums.length < p.quorums.length := Nat.mod_lt _ nq
  have rk := fun K => rem_nat (a := k) (K := K) nq
  have rl := fun K => rem_nat (a := l) (K := K) nq
  obtain ⟨xq, hxq⟩ : ∃ x, p.quorums[k % p.quorums.length]? = some x := ⟨_, List.getElem?_eq_getElem mk⟩
  obtain ⟨yq, hyq⟩ : ∃ y, p.quorums[l % p.quorums.length]? = some y := ⟨_, List.getElem?_eq_getElem ml⟩
  obtain ⟨c1q, s1q⟩ := stq (i := k % p.quorums.length) (y := yq) quC_len mk (Eq.refl (p.quorums.set (k % p.quorums.length) yq))
  obtain ⟨c2q, s2q⟩ := stq (i := l % p.quorums.length) (y := xq) quC_len (by rw [List.length_set]; exact ml) (Eq.refl ((p.quorums.set (k % p.quorums.length) yq).set (l % p.quorums.length) xq))
  simp -implicitDefEqProofs only [pkA, ptA, ↓reduceIte, Nat.reduceEqDiff, Nat.reduceAdd, Nat.reduceBEq, Nat.reduceMul, Nat.reduceLT, Nat.reduceLeDiff, pkP, List.length_map, setV_all, setV_po2, decide_true, hv, hr, eq, flq, dq, cvk, cvl, rk, rl]
  refine ix_flb ti_24 rfl ti_42 rfl (by decide) rfl ml ?_
  simp -implicitDefEqProofs only [pkA, ptA, ↓reduceIte, Nat.reduceEqDiff, Nat.reduceAdd, Nat.reduceBEq, Nat.reduceMul, Nat.reduceLT, Nat.reduceLeDiff, pkP, List.length_map, setV_all, setV_po2, decide_true, hv, hr, eq, flq, dq, cvk, cvl, rk, rl]
  refine ld_flb quC_len rfl (by decide) hyq ?_
  simp -implicitDefEqProofs only [pkA, ptA, ↓reduceIte, Nat.reduceEqDiff, Nat.reduceAdd, Nat.reduceBEq, Nat.reduceMul, Nat.reduceLT, Nat.reduceLeDiff, pkP, List.length_map, setV_all, setV_po2, decide_true, hv, hr, eq, flq, dq, cvk, cvl, rk, rl]
  refine ix_flb ti_24 rfl ti_42 rfl (by decide) rfl mk ?_
  simp -implicitDefEqProofs only [pkA, ptA, ↓reduceIte, Nat.reduceEqDiff, Nat.reduceAdd, Nat.reduceBEq, Nat.reduceMul, Nat.reduceLT, Nat.reduceLeDiff, pkP, List.length_map, setV_all, setV_po2, decide_true, hv, hr, eq, flq, dq, cvk, cvl, rk, rl]
  refine ld_flb quC_len rfl (by decide) hxq ?_
  simp -implicitDefEqProofs only [pkA, ptA, ↓reduceIte, Nat.reduceEqDiff, Nat.reduceAdd, Nat.reduceBEq, Nat.reduceMul, Nat.reduceLT, Nat.reduceLeDiff, pkP, List.length_map, setV_all, setV_po2, decide_true, hv, hr, eq, flq, dq, cvk, cvl, rk, rl]
  refine ix_flb ti_24 rfl ti_42 rfl (by decide) rfl mk ?_
  simp -implicitDefEqProofs only [pkA, ptA, ↓reduceIte, Nat.reduceEqDiff, Nat.reduceAdd, Nat.reduceBEq, Nat.reduceMul, Nat.reduceLT, Nat.reduceLeDiff, pkP, List.length_map, setV_all, setV_po2, decide_true, hv, hr, eq, flq, dq, cvk, cvl, rk, rl, c1q, s1q]
  refine ix_flb ti_24 rfl ti_42 rfl (by decide) rfl ml ?_
  simp -implicitDefEqProofs only [pkA, ptA, ↓reduceIte, Nat.reduceEqDiff, Nat.reduceAdd, Nat.reduceBEq, Nat.reduceMul, Nat.reduceLT, Nat.reduceLeDiff, pkP, List.length_map, setV_all, setV_po2, decide_true, hv, hr, eq, flq, dq, cvk, cvl, rk, rl, c2q, s2q]
  obtain ⟨hE1, hE2, hE3, hE4⟩ := reord_end hp hf hv (R := ([] : List Ru)) (Q := ((p.quorums.set (k % p.quorums.length) yq).set (l % p.quorums.length) xq)) ((by rw [hr])) (swap_perm hxq hyq)
  refine fz_hd (l := [(5, .bp 0 0), (11, .bp 1 0)]) (bl := [(poC p).map .c, [.c (.lit (.string p.name)), .c (.sl (p.types.map tyC)), .ow none [], .c (.sl (((p.quorums.set (k % p.quorums.length) yq).set (l % p.quorums.length) xq).map quC))]]) (by simp only [leOk, List.all_cons, List.all_nil, all_ltB_c, List.length_cons, List.length_nil]; rfl) (Nat.le_trans (Nat.le_of_eq (by decide : extK [200052, 305201, 200055, 305501, 200058, 305801, 200063, 306301, 200067, 306702, 200068, 306802, 200083, 308301, 200086, 308601, 200089, 308901, 200094, 309401, 200098, 309802, 200099, 309902, 2000036, 2600014] = 0)) (Nat.zero_le _)) (by simp) (by simp [FZL, up_apply]) ?_ ?_
  · refine ⟨?_, ?_, trivial⟩
    · simp -implicitDefEqProofs only [up_apply, ↓reduceIte, Nat.reduceEqDiff, Nat.reduceAdd]
      exact LZ_refl _
    · simp -implicitDefEqProofs only [up_apply, ↓reduceIte, Nat.reduceEqDiff, Nat.reduceAdd]
      exact ⟨.inl rfl, .inl rfl, .inl rfl, .inr ⟨2, 0, _, _, 5, _, rfl, by simp, view_flb (l := ((p.quorums.set (k % p.quorums.length) yq).set (l % p.quorums.length) xq)) quC_len (by decide) (by simp [up_apply]) (by simp), rfl⟩, trivial⟩
  repeat' first
    | (simp -implicitDefEqProofs only [pkA, ptA, ↓reduceIte, Nat.reduceEqDiff, Nat.reduceAdd, Nat.reduceBEq, Nat.reduceMul, Nat.reduceLT, Nat.reduceLeDiff, pkP, List.length_map, setV_all, setV_po2, decide_true])
    | refine call_fn rfl sanity_ok (fun _ => rfl) ?_
    | refine call_fn rfl hE1 (fun _ => rfl) ?_
    | refine call_fn rfl hE2 (fun h => by cases h) ?_
    | refine call_fn rfl hE3 (fun h => by cases h) ?_
    | refine call_fn rfl hE4 (fun _ => rfl) ?_

set_option maxRecDepth 100000 in
set_option maxHeartbeats 8000000 in
theorem reord_00 (p : Pol) (i j k l : Nat) (hi : i ≤ 255) (hj : j ≤ 255) (hk : k ≤ 255) (hl : l ≤ 255) (hp : PolIn p) (hf : fewB p = true) (hv : validB p = true) (hr : p.rules = []) (hq : p.quorums = []) :
    FnOK Tryd.prog gl 7 [.agg (poC p), .c (.lit (.int .u8 i)), .c (.lit (.int .u8 j)), .c (.lit (.int .u8 k)), .c (.lit (.int .u8 l))] (bo true) := by
  refine FnOK_by (rs := [.tmp 10]) false [200052, 305201, 200055, 305501, 200058, 305801, 200063, 306301, 200067, 306702, 200068, 306802, 200083, 308301, 200086, 308601, 200089, 308901, 200094, 309401, 200098, 309803, 200099, 309903] mixed Tryd.func7 rfl rfl rfl rfl (by kernel_rfl) (by simp) rfl rfl ?_
  have hs := few_sm hf
  unfold PolSm at hs
  obtain ⟨o1, o2, o3⟩ := hs
  have cv : ∀ (n : Nat) (K : V → Prop), n ≤ 255 → vconv Tryd.prog 5 3 (.c (.lit (.int .u8 n))) K = K (i64 n) := fun n K h => conv_i64 ti_5 ti_3 rfl (by omega)
  have cvi := fun K => cv i K hi
  have cvj := fun K => cv j K hj
  have cvk := fun K => cv k K hk
  have cvl := fun K => cv l K hl
  simp -implicitDefEqProofs only [pkA, ptA, ↓reduceIte, Nat.reduceEqDiff, Nat.reduceAdd, Nat.reduceBEq, Nat.reduceMul, Nat.reduceLT, Nat.reduceLeDiff, pkP, List.length_map, setV_all, setV_po2, decide_true]
  refine call_fn rfl (few_ok _) (fun _ => rfl) ?_
  simp -implicitDefEqProofs only [pkA, ptA, ↓reduceIte, Nat.reduceEqDiff, Nat.reduceAdd, Nat.reduceBEq, Nat.reduceMul, Nat.reduceLT, Nat.reduceLeDiff, pkP, List.length_map, setV_all, setV_po2, decide_true, hf]
  refine call_fn rfl (Valid_ok rfl p hp (few_it hf)) (fun _ => rfl) ?_
  simp -implicitDefEqProofs only [pkA, ptA, ↓reduceIte, Nat.reduceEqDiff, Nat.reduceAdd, Nat.reduceBEq, Nat.reduceMul, Nat.reduceLT, Nat.reduceLeDiff, pkP, List.length_map, setV_all, setV_po2, decide_true, hv, hr, hq]
  rw [app_23]
  refine ⟨⟨.inl rfl, by simp⟩, ⟨by simp <;> omega, by simp <;> omega, by simp⟩, ?_⟩
  simp -implicitDefEqProofs only [pkA, ptA, ↓reduceIte, Nat.reduceEqDiff, Nat.reduceAdd, Nat.reduceBEq, Nat.reduceMul, Nat.reduceLT, Nat.reduceLeDiff, pkP, List.length_map, setV_all, setV_po2, decide_true, hv, hr, hq]
  rw [app_24]
  refine ⟨⟨.inl rfl, by simp⟩, ⟨by simp <;> omega, by simp <;> omega, by simp⟩, ?_⟩
  simp -implicitDefEqProofs only [pkA, ptA, ↓reduceIte, Nat.reduceEqDiff, Nat.reduceAdd, Nat.reduceBEq, Nat.reduceMul, Nat.reduceLT, Nat.reduceLeDiff, pkP, List.length_map, setV_all, setV_po2, decide_true, hv, hr, hq]
  have dr : decide ((0 : Int) < ((0 : Nat) : Int)) = false := rfl
  try simp -implicitDefEqProofs only [pkA, ptA, ↓reduceIte, Nat.reduceEqDiff, Nat.reduceAdd, Nat.reduceBEq, Nat.reduceMul, Nat.reduceLT, Nat.reduceLeDiff, pkP, List.length_map, setV_all, setV_po2, decide_true, hv, hr, hq, dr]
  have dq : decide ((0 : Int) < ((0 : Nat) : Int)) = false := rfl
  try simp -implicitDefEqProofs only [pkA, ptA, ↓reduceIte, Nat.reduceEqDiff, Nat.reduceAdd, Nat.reduceBEq, Nat.reduceMul, Nat.reduceLT, Nat.reduceLeDiff, pkP, List.length_map, setV_all, setV_po2, decide_true, hv, hr, hq, dq]
  obtain ⟨hE1, hE2, hE3, hE4⟩ := reord_end hp hf hv (R := ([] : List Ru)) (Q := ([] : List Qu)) ((by rw [hr])) ((by rw [hq]))
  repeat' first
    | (simp -implicitDefEqProofs only [pkA, ptA, ↓reduceIte, Nat.reduceEqDiff, Nat.reduceAdd, Nat.reduceBEq, Nat.reduceMul, Nat.reduceLT, Nat.reduceLeDiff, pkP, List.length_map, setV_all, setV_po2, decide_true])
    | refine call_fn rfl sanity_ok (fun _ => rfl) ?_
    | refine call_fn rfl hE1 (fun _ => rfl) ?_
    | refine call_fn rfl hE2 (fun h => by cases h) ?_
    | refine call_fn rfl hE3 (fun h => by cases h) ?_
    | refine call_fn rfl hE4 (fun _ => rfl) ?_

set_option maxRecDepth 100000 in
set_option maxHeartbeats 2000000 in
theorem lawReord (p : Pol) (i j k l : Int) (hp : PolIn p) (hi : 0 ≤ i ∧ i ≤ 255) (hj : 0 ≤ j ∧ j ≤ 255) (hk : 0 ≤ k ∧ k ≤ 255) (hl : 0 ≤ l ∧ l ≤ 255) :
    FnOK Tryd.prog gl 7 [.agg (poC p), .c (.lit (.int .u8 i)), .c (.lit (.int .u8 j)), .c (.lit (.int .u8 k)), .c (.lit (.int .u8 l))] (bo true) := by
  obtain ⟨i, rfl⟩ : ∃ m : Nat, i = m := ⟨i.toNat, by omega⟩
  obtain ⟨j, rfl⟩ : ∃ m : Nat, j = m := ⟨j.toNat, by omega⟩
  obtain ⟨k, rfl⟩ : ∃ m : Nat, k = m := ⟨k.toNat, by omega⟩
  obtain ⟨l, rfl⟩ : ∃ m : Nat, l = m := ⟨l.toNat, by omega⟩
  cases hf : fewB p with
  | false =>
    refine FnOK_by (rs := [.tmp 10]) false [200052, 305201, 200055, 305501, 200058, 305801, 200063, 306301, 200067, 306702, 200068, 306802, 200083, 308301, 200086, 308601, 200089, 308901, 200094, 309401, 200098, 309803, 200099, 309903] mixed Tryd.func7 rfl rfl rfl rfl (by kernel_rfl) (by simp) rfl rfl ?_
    repeat' first
      | (simp -implicitDefEqProofs only [pkA, ptA, ↓reduceIte, Nat.reduceEqDiff, Nat.reduceAdd, Nat.reduceBEq, Nat.reduceMul, Nat.reduceLT, Nat.reduceLeDiff, pkP, List.length_map, hf])
      | refine call_fn rfl (few_ok _) (fun _ => rfl) ?_
      | refine call_fn rfl sanity_ok (fun _ => rfl) ?_
  | true =>
    cases hv : validB p with
    | false =>
      refine FnOK_by (rs := [.tmp 10]) false [200052, 305201, 200055, 305501, 200058, 305801, 200063, 306301, 200067, 306702, 200068, 306802, 200083, 308301, 200086, 308601, 200089, 308901, 200094, 309401, 200098, 309803, 200099, 309903] mixed Tryd.func7 rfl rfl rfl rfl (by kernel_rfl) (by simp) rfl rfl ?_
      repeat' first
        | (simp -implicitDefEqProofs only [pkA, ptA, ↓reduceIte, Nat.reduceEqDiff, Nat.reduceAdd, Nat.reduceBEq, Nat.reduceMul, Nat.reduceLT, Nat.reduceLeDiff, pkP, List.length_map, hf, hv])
        | refine call_fn rfl (few_ok _) (fun _ => rfl) ?_
        | refine call_fn rfl (Valid_ok rfl p hp (few_it hf)) (fun _ => rfl) ?_
        | refine call_fn rfl sanity_ok (fun _ => rfl) ?_
    | true =>
      by_cases hr : p.rules = [] <;> by_cases hq : p.quorums = []
      · exact reord_00 p i j k l (by omega) (by omega) (by omega) (by omega) hp hf hv hr hq
      · exact reord_01 p i j k l (by omega) (by omega) (by omega) (by omega) hp hf hv hr hq
      · exact reord_10 p i j k l (by omega) (by omega) (by omega) (by omega) hp hf hv hr hq
      · exact reord_11 p i j k l (by omega) (by omega) (by omega) (by omega) hp hf hv hr hq
end Go.Proofs.YtbhfbbfifmnniaaDoor

