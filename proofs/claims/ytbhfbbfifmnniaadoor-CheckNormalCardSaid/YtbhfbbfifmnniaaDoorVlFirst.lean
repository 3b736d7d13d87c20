/- The law CheckFirst of layer 13, as a contract: the beginnings of a policy. -/
import Derived.Test.YtbhfbbfifmnniaaDoorVlChk
import Derived.Test.YtbhfbbfifmnniaaDoorVlSan
set_option linter.unusedSimpArgs false
set_option linter.unusedVariables false
namespace Go.Proofs.YtbhfbbfifmnniaaDoor
open Go Go.Vl

/-- The first n items of a policy. -/
def cutP (p : Pol) (n : Nat) : Pol := ⟨p.name, p.types.take n, p.rules.take (n - p.types.length), p.quorums.take (n - p.types.length - p.rules.length)⟩

theorem min_cast (a b : Nat) : (if (b : Int) < (a : Int) then (b : Int) else (a : Int)) = ((min a b : Nat) : Int) := by
  split <;> omega

theorem take_min {α : Type} (l : List α) (n : Nat) : l.take (min n l.length) = l.take n := by
  rcases Nat.le_total n l.length with h | h
  · rw [Nat.min_eq_left h]
  · rw [Nat.min_eq_right h, List.take_length, List.take_of_length_le h]

set_option maxHeartbeats 4000000 in
theorem cut_ok {G : Gl} (p : Pol) (n : Nat) (hp : PolOk p) (hn : n ≤ 4611686018427387904) : FnOK Tryd.prog G 21 [.agg (poC p), i64 n] (.agg (poC (cutP p n))) := by
  refine FnOK_by (rs := [.cell 4 26]) false [] mixed Tryd.func21 rfl rfl rfl rfl (by kernel_rfl) (by simp) rfl rfl ?_
  unfold PolOk at hp
  obtain ⟨o1, o2, o3⟩ := hp
  have w1 := wrap_of (n := (n : Int) - ((min n p.types.length : Nat) : Int)) (k := n - p.types.length) (by omega) (by omega)
  have w2 := wrap_of (n := ((n - p.types.length : Nat) : Int) - ((min (n - p.types.length) p.rules.length : Nat) : Int)) (k := n - p.types.length - p.rules.length) (by omega) (by omega)
  repeat' first
    | (simp -implicitDefEqProofs only [pkA, ptA, ↓reduceIte, Nat.reduceEqDiff, Nat.reduceAdd, Nat.reduceBEq, Nat.reduceMul, Nat.reduceLT, Nat.reduceLeDiff, pkP, List.length_map, vmin, min_cast, w1, w2, setV_all, Option.map_none, Option.map_some])
    | (refine slice_pre ti_22 rfl ti_46 (by simp; omega) (by simp [tyC_len]) ?_; rw [take_map, take_min])
    | (refine slice_pre ti_23 rfl ti_40 (by simp; omega) (by simp [ruC_len]) ?_; rw [take_map, take_min])
    | (refine slice_pre ti_24 rfl ti_42 (by simp; omega) (by simp [quC_len]) ?_; rw [take_map, take_min])
  rfl


theorem chk_cases (p : Pol) : (nameB p.name = false ∧ chk p = (-1, 4)) ∨ (nameB p.name = true ∧ ∃ k, k < items p ∧ itE p k ≠ 0 ∧ (∀ j, j < k → itE p j = 0) ∧ chk p = ((k : Int), itE p k)) ∨
    (nameB p.name = true ∧ (∀ j, j < items p → itE p j = 0) ∧ chk p = (0, 0)) := by
  cases hn : nameB p.name with
  | false => exact .inl ⟨rfl, chk_name hn⟩
  | true =>
    right
    cases hf : (List.range (items p)).find? (fun k => !decide (itE p k = 0)) with
    | some k =>
      obtain ⟨h1, h2, h3⟩ := List.find?_range_eq_some.1 hf
      have hk : k < items p := by simpa using h2
      have he : itE p k ≠ 0 := by simpa using h1
      have hno : ∀ j, j < k → itE p j = 0 := fun j hj => by simpa using h3 j hj
      exact .inl ⟨rfl, k, hk, he, hno, chk_at hn hk he hno⟩
    | none =>
      have hno : ∀ j, j < items p → itE p j = 0 := fun j hj => by
        have := List.find?_eq_none.1 hf j (by simpa using hj)
        simpa using this
      exact .inr ⟨rfl, hno, chk_none hn hno⟩

theorem valid_iff (p : Pol) : validB p = true ↔ nameB p.name = true ∧ ∀ j, j < items p → itE p j = 0 := by
  rcases chk_cases p with ⟨hn, hc⟩ | ⟨hn, k, hk, he, hno, hc⟩ | ⟨hn, hno, hc⟩
  · simp [validB, hc, hn]
  · simp only [validB, hc, hn, true_and, decide_eq_true_eq]
    exact ⟨fun h => absurd h he, fun h => h k hk⟩
  · simp only [validB, hc, hn, true_and, decide_true]
    exact ⟨fun _ => hno, fun _ => trivial⟩

theorem items_cut {p : Pol} {n : Nat} (h : n ≤ items p) : items (cutP p n) = n := by
  unfold items at *; simp only [cutP, List.length_take]; omega
theorem tyErr_take {l : List Ty} {k n : Nat} {t : Ty} (h : k ≤ n) : tyErr (l.take n) k t = tyErr l k t := by
  unfold tyErr; rw [List.take_take, Nat.min_eq_left h]
theorem ruErr_take {l : List Ru} {k n : Nat} {t : Ru} {nt : Int} (h : k ≤ n) : ruErr (l.take n) k nt t = ruErr l k nt t := by
  unfold ruErr; rw [List.take_take, Nat.min_eq_left h]
theorem quErr_take {l : List Qu} {k n : Nat} {t : Qu} (h : k ≤ n) : quErr (l.take n) k t = quErr l k t := by
  unfold quErr; rw [List.take_take, Nat.min_eq_left h]
theorem itE_cut {p : Pol} {n j : Nat} (h : n ≤ items p) (hj : j < n) : itE (cutP p n) j = itE p j := by
  unfold itE cutP
  simp only [List.length_take]
  by_cases h1 : j < p.types.length
  · rw [if_pos (by omega), if_pos h1]
    unfold tyE; rw [List.getElem?_take_of_lt hj]
    split
    · exact tyErr_take (by omega)
    · rfl
  · have ht : min n p.types.length = p.types.length := by omega
    rw [ht, if_neg h1, if_neg h1]
    by_cases h2 : j < p.types.length + p.rules.length
    · rw [if_pos (by omega), if_pos h2]
      unfold ruE; rw [List.getElem?_take_of_lt (by omega)]
      split
      · exact ruErr_take (by omega)
      · rfl
    · have hr : min (n - p.types.length) p.rules.length = p.rules.length := by omega
      rw [hr, if_neg (by omega), if_neg h2]
      unfold quE; rw [List.getElem?_take_of_lt (by omega)]
      split
      · exact quErr_take (by omega)
      · rfl
theorem valid_cut {p : Pol} {n : Nat} (h : n ≤ items p) : validB (cutP p n) = true ↔ nameB p.name = true ∧ ∀ j, j < n → itE p j = 0 := by
  rw [valid_iff, items_cut h]
  have e : (cutP p n).name = p.name := rfl
  rw [e]
  exact ⟨fun ⟨a, b⟩ => ⟨a, fun j hj => by rw [← itE_cut h hj]; exact b j hj⟩, fun ⟨a, b⟩ => ⟨a, fun j hj => by rw [itE_cut h hj]; exact b j hj⟩⟩

theorem PolIn.cut {p : Pol} (h : PolIn p) (n : Nat) : PolIn (cutP p n) where
  name := h.name
  lt := Nat.le_trans (by simp [cutP]; omega) h.lt
  lr := Nat.le_trans (by simp [cutP]; omega) h.lr
  lq := Nat.le_trans (by simp [cutP]; omega) h.lq
  types := fun t ht => h.types t (List.mem_of_mem_take ht)
  rules := fun t ht => h.rules t (List.mem_of_mem_take ht)
  quorums := fun t ht => h.quorums t (List.mem_of_mem_take ht)
theorem PolIn.bare {s : ByteArray} (h : s.size ≤ maxLen) : PolIn ⟨s, [], [], []⟩ where
  name := h
  lt := Nat.zero_le _
  lr := Nat.zero_le _
  lq := Nat.zero_le _
  types := fun _ h => by cases h
  rules := fun _ h => by cases h
  quorums := fun _ h => by cases h

theorem few_items {p : Pol} (h : fewB p = true) : items p ≤ 380 := by
  simp only [fewB, Bool.and_eq_true, decide_eq_true_eq] at h; unfold items; omega

set_option maxRecDepth 100000 in
set_option maxHeartbeats 4000000 in
theorem lawFirst_ok (p : Pol) (n : Int) (hp : PolIn p) : FnOK Tryd.prog gl 5 [.agg (poC p), i64 n] (bo true) := by
  refine FnOK_by (rs := [.tmp 4]) false [] mixed Tryd.func5 rfl rfl rfl rfl (by kernel_rfl) (by simp) rfl rfl ?_
  have ho := hp.ok
  simp -implicitDefEqProofs only [pkA, ptA, ↓reduceIte, Nat.reduceEqDiff, Nat.reduceAdd, Nat.reduceBEq, Nat.reduceMul, Nat.reduceLT, Nat.reduceLeDiff, pkP, List.length_map]
  refine call_fn rfl (few_ok _) (fun _ => rfl) ?_
  simp -implicitDefEqProofs only [pkA, ptA, ↓reduceIte, Nat.reduceEqDiff, Nat.reduceAdd, Nat.reduceBEq, Nat.reduceMul, Nat.reduceLT, Nat.reduceLeDiff, pkP, List.length_map]
  refine vcond_of (fun hf => ?_) (fun hf => ?_)
  · simp -implicitDefEqProofs only [pkA, ptA, ↓reduceIte, Nat.reduceEqDiff, Nat.reduceAdd, Nat.reduceBEq, Nat.reduceMul, Nat.reduceLT, Nat.reduceLeDiff, pkP, List.length_map]
    refine call_fn rfl sanity_ok (fun _ => rfl) ?_
    simp -implicitDefEqProofs only [pkA, ptA, ↓reduceIte, Nat.reduceEqDiff, Nat.reduceAdd, Nat.reduceBEq, Nat.reduceMul, Nat.reduceLT, Nat.reduceLeDiff, pkP, List.length_map]
  have hf : fewB p = true := by simpa using hf
  have hs := few_items hf
  have w1 := wrap_of (n := (p.types.length : Int) + p.rules.length) (k := p.types.length + p.rules.length) (by omega) (by unfold items at hs; omega)
  have w2 := wrap_of (n := ((p.types.length + p.rules.length : Nat) : Int) + p.quorums.length) (k := items p) (by unfold items; omega) (by omega)
  have hC := Check_ok (G := gl) rfl p hp (by omega)
  simp -implicitDefEqProofs only [pkA, ptA, ↓reduceIte, Nat.reduceEqDiff, Nat.reduceAdd, Nat.reduceBEq, Nat.reduceMul, Nat.reduceLT, Nat.reduceLeDiff, pkP, List.length_map]
  refine call_fn rfl hC (fun h => by cases h) ?_
  rcases chk_cases p with ⟨hn, hc⟩ | ⟨hn, k, hk, he, hno, hc⟩ | ⟨hn, hno, hc⟩
  · have d1 : decide ((4 : Int) = 0) = false := rfl
    have d2 : decide ((-1 : Int) < 0) = true := rfl
    have hv : validB ⟨p.name, [], [], []⟩ = false := by
      rw [Bool.eq_false_iff]; intro h; have := ((valid_iff _).1 h).1; simp only at this; rw [hn] at this; cases this
    have hV := Valid_ok (G := gl) rfl ⟨p.name, [], [], []⟩ (PolIn.bare hp.name) (by simp [items])
    rw [hv] at hV
    rw [hc]
    repeat' first
      | (simp -implicitDefEqProofs only [pkA, ptA, ↓reduceIte, Nat.reduceEqDiff, Nat.reduceAdd, Nat.reduceBEq, Nat.reduceMul, Nat.reduceLT, Nat.reduceLeDiff, pkP, List.length_map, w1, w2, d1, d2, decide_true, hn])
      | refine call_fn rfl sanity_ok (fun _ => rfl) ?_
      | refine call_fn rfl (refName_ok _ hp.nm) (fun _ => rfl) ?_
      | refine call_fn rfl hV (fun _ => rfl) ?_
  · have d1 : decide (itE p k = 0) = false := decide_eq_false he
    have d2 : decide ((k : Int) < 0) = false := decide_eq_false (by omega)
    have d3 : decide ((k : Int) < (items p : Nat)) = true := decide_eq_true (by omega)
    have w3 := wrap_of (n := (k : Int) + 1) (k := k + 1) (by omega) (by omega)
    have hv1 : validB (cutP p k) = true := (valid_cut (by omega)).2 ⟨hn, hno⟩
    have hv2 : validB (cutP p (k + 1)) = false := by
      rw [Bool.eq_false_iff]; intro h; exact he (((valid_cut (by omega)).1 h).2 k (by omega))
    have hV1 := Valid_ok (G := gl) rfl (cutP p k) (hp.cut k) (by rw [items_cut (by omega)]; omega)
    have hV2 := Valid_ok (G := gl) rfl (cutP p (k + 1)) (hp.cut (k + 1)) (by rw [items_cut (by omega)]; omega)
    rw [hv1] at hV1
    rw [hv2] at hV2
    rw [hc]
    repeat' first
      | (simp -implicitDefEqProofs only [pkA, ptA, ↓reduceIte, Nat.reduceEqDiff, Nat.reduceAdd, Nat.reduceBEq, Nat.reduceMul, Nat.reduceLT, Nat.reduceLeDiff, pkP, List.length_map, w1, w2, w3, d1, d2, d3, hn])
      | refine call_fn rfl sanity_ok (fun _ => rfl) ?_
      | refine call_fn rfl (cut_ok p k ho (by omega)) (fun h => by cases h) ?_
      | refine call_fn rfl (cut_ok p (k + 1) ho (by omega)) (fun h => by cases h) ?_
      | refine call_fn rfl hV1 (fun _ => rfl) ?_
      | refine call_fn rfl hV2 (fun _ => rfl) ?_
  · rw [hc]
    rcases Int.lt_or_le n 0 with h1 | h1
    · have d1 : decide (n < 0) = true := decide_eq_true h1
      repeat' first
        | (simp -implicitDefEqProofs only [pkA, ptA, ↓reduceIte, Nat.reduceEqDiff, Nat.reduceAdd, Nat.reduceBEq, Nat.reduceMul, Nat.reduceLT, Nat.reduceLeDiff, pkP, List.length_map, w1, w2, d1, decide_true])
        | refine call_fn rfl sanity_ok (fun _ => rfl) ?_
    · have d1 : decide (n < 0) = false := decide_eq_false (by omega)
      obtain ⟨m, rfl⟩ : ∃ m : Nat, n = m := ⟨n.toNat, by omega⟩
      rcases Nat.lt_or_ge (items p) m with h2 | h2
      · have d2 : decide (((items p : Nat) : Int) < (m : Int)) = true := decide_eq_true (by omega)
        repeat' first
          | (simp -implicitDefEqProofs only [pkA, ptA, ↓reduceIte, Nat.reduceEqDiff, Nat.reduceAdd, Nat.reduceBEq, Nat.reduceMul, Nat.reduceLT, Nat.reduceLeDiff, pkP, List.length_map, w1, w2, d1, d2, decide_true])
          | refine call_fn rfl sanity_ok (fun _ => rfl) ?_
      · have d2 : decide (((items p : Nat) : Int) < (m : Int)) = false := decide_eq_false (by omega)
        have hv1 : validB (cutP p m) = true := (valid_cut h2).2 ⟨hn, fun j hj => hno j (by omega)⟩
        have hV1 := Valid_ok (G := gl) rfl (cutP p m) (hp.cut m) (by rw [items_cut h2]; omega)
        rw [hv1] at hV1
        repeat' first
          | (simp -implicitDefEqProofs only [pkA, ptA, ↓reduceIte, Nat.reduceEqDiff, Nat.reduceAdd, Nat.reduceBEq, Nat.reduceMul, Nat.reduceLT, Nat.reduceLeDiff, pkP, List.length_map, w1, w2, d1, d2, decide_true])
          | refine call_fn rfl sanity_ok (fun _ => rfl) ?_
          | refine call_fn rfl (cut_ok p m ho (by omega)) (fun h => by cases h) ?_
          | refine call_fn rfl hV1 (fun _ => rfl) ?_
theorem lawFirst (p : Pol) (n : Int) (hp : PolIn p) (_ : I64 n) : FnOK Tryd.prog gl 5 [.agg (poC p), i64 n] (bo true) := lawFirst_ok p n hp
end Go.Proofs.YtbhfbbfifmnniaaDoor
