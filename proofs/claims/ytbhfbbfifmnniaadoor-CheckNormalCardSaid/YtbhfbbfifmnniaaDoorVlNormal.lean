/- The law CheckNormal of layer 13, as a contract. -/
import Derived.Test.YtbhfbbfifmnniaaDoorVlPerm
import Derived.Test.YtbhfbbfifmnniaaDoorVlMatch
import Derived.Test.YtbhfbbfifmnniaaDoorVlMset
set_option linter.unusedSimpArgs false
set_option linter.unusedVariables false
namespace Go.Proofs.YtbhfbbfifmnniaaDoor
open Go Go.Vl

theorem ins_perm {α : Type} {cm : α → α → Int} (x : α) : ∀ l : List α, (ins cm x l).Perm (x :: l)
  | [] => .refl _
  | y :: l => by
    unfold ins
    split
    · exact .refl _
    · exact ((ins_perm x l).cons y).trans (.swap ..)
theorem ssort_permL {α : Type} {cm : α → α → Int} : ∀ l : List α, (ssort cm l).Perm l
  | [] => .refl _
  | x :: l => (ins_perm x _).trans ((ssort_permL l).cons x)
theorem norm_norm (p : Pol) : normP (normP p) = normP p := by
  unfold normP; simp only [ssort_of_srt cmRu_ok (ssort_srt cmRu_ok _), ssort_of_srt cmQu_ok (ssort_srt cmQu_ok _)]
theorem valid_norm (p : Pol) : validB (normP p) = validB p := by
  rw [Bool.eq_iff_iff]
  constructor
  · intro h; exact valid_perm (p := normP p) (R := p.rules) (Q := p.quorums) (ssort_permL _).symm (ssort_permL _).symm h
  · intro h; exact valid_perm (p := p) (ssort_permL _) (ssort_permL _) h

theorem PolIn.norm {p : Pol} (h : PolIn p) : PolIn (normP p) where
  name := h.name
  lt := h.lt
  lr := by unfold normP; simp only [ssort_len]; exact h.lr
  lq := by unfold normP; simp only [ssort_len]; exact h.lq
  types := h.types
  rules := fun t ht => h.rules t ((ssort_mem cmRu_ok).1 ht)
  quorums := fun t ht => h.quorums t ((ssort_mem cmQu_ok).1 ht)

def cnt (l : List Ru) (i : Nat) (r : Ru) : Int := ((l.take i).count r : Nat)
def cn2 (l m : List Ru) (i : Nat) (r : Ru) : Int := (l.count r : Nat) - ((m.take i).count r : Nat)
theorem take_count {l : List Ru} {i : Nat} (h : i < l.length) (r : Ru) : (l.take (i + 1)).count r = (l.take i).count r + if r = l[i] then 1 else 0 := by
  rw [List.take_succ_eq_append_getElem h, List.count_append, List.count_singleton]
  by_cases e : r = l[i]
  · subst e; simp
  · have : (l[i] == r) = false := by simpa using fun h => e h.symm
    simp [this, e]
theorem cnt_le (l : List Ru) (i : Nat) (r : Ru) : 0 ≤ cnt l i r ∧ cnt l i r ≤ l.length := by
  have := (l.take i).count_le_length (a := r)
  have := l.length_take_le i
  unfold cnt; rw [List.length_take] at *; omega
theorem cnt_upd {l : List Ru} {i : Nat} (h : i < l.length) : upA (cnt l i) l[i] (cnt l i l[i] + 1) = cnt l (i + 1) := by
  funext r
  unfold upA cnt
  rw [take_count h]
  by_cases e : r = l[i]
  · subst e; simp
  · simp [e]
theorem cn2_le (l m : List Ru) (i : Nat) (r : Ru) : -(m.length : Int) ≤ cn2 l m i r ∧ cn2 l m i r ≤ l.length := by
  have h1 := (m.take i).count_le_length (a := r)
  have h2 := l.count_le_length (a := r)
  unfold cn2; rw [List.length_take] at h1; omega
theorem cn2_upd {l m : List Ru} {i : Nat} (h : i < m.length) : upA (cn2 l m i) m[i] (cn2 l m i m[i] - 1) = cn2 l m (i + 1) := by
  funext r
  unfold upA cn2
  rw [take_count h]
  by_cases e : r = m[i]
  · subst e; simp; omega
  · simp [e]
theorem cnt_all {l m : List Ru} : cnt l l.length = cn2 l m 0 := by
  funext r; simp [cnt, cn2]
theorem cn2_all {l m : List Ru} (h : l.Perm m) : cn2 l m m.length = fun _ => 0 := by
  funext r; simp [cn2, h.count_eq]
theorem cnt_zero {l : List Ru} {i : Nat} (h : i < l.length) {kl : List Ru} (h0 : ∀ r, r ∉ kl → cnt l i r = 0) (r : Ru) (hr : r ∉ insM kl l[i]) : cnt l (i + 1) r = 0 := by
  rw [mem_insM] at hr
  rw [← cnt_upd h]
  unfold upA
  rw [if_neg (fun e => hr (.inr e))]; exact h0 r fun e => hr (.inl e)
theorem cn2_zero {l m : List Ru} {i : Nat} (h : i < m.length) {kl : List Ru} (h0 : ∀ r, r ∉ kl → cn2 l m i r = 0) (r : Ru) (hr : r ∉ insM kl m[i]) : cn2 l m (i + 1) r = 0 := by
  rw [mem_insM] at hr
  rw [← cn2_upd h]
  unfold upA
  rw [if_neg (fun e => hr (.inr e))]; exact h0 r fun e => hr (.inl e)

theorem mcnt_ltB {f : Ru → Int} {bs : List Nat} {cl m : Nat} {kl : List Ru} : (mfun ruC i64 bs cl kl f).all (fun x => x.ltB m) = true := mfun_ltB (h := i64) (fun _ _ => rfl)
theorem cnt_nil (l : List Ru) (bs : List Nat) (c : Nat) : mfun ruC i64 bs c [] (cnt l 0) = [.mk bs c] := rfl

set_option maxRecDepth 100000 in
set_option maxHeartbeats 16000000 in
theorem lawNormal (p : Pol) (hp : PolIn p) : FnOK Tryd.prog gl 6 [.agg (poC p)] (bo true) := by
  refine FnOK_by (rs := [.tmp 2]) false [] mixed Tryd.func6 rfl rfl rfl rfl (by kernel_rfl) (by simp) rfl rfl ?_
  cases hf : fewB p with
  | false =>
    repeat' first
      | (simp -implicitDefEqProofs only [pkA, ptA, ↓reduceIte, Nat.reduceEqDiff, Nat.reduceAdd, Nat.reduceBEq, Nat.reduceMul, Nat.reduceLT, Nat.reduceLeDiff, pkP, List.length_map, decide_true, setV_all, hf])
      | refine call_fn rfl (few_ok _) (fun _ => rfl) ?_
      | refine call_fn rfl sanity_ok (fun _ => rfl) ?_
  | true =>
  have hq : PolIn (normP p) := hp.norm
  have hs := few_sm hf
  have hfq : items (normP p) ≤ 4611686018427387904 := by have := few_it hf; unfold items normP at *; simpa only [ssort_len] using this
  unfold PolSm at hs
  obtain ⟨o1, o2, o3⟩ := hs
  have hN := Normal_ok (G := gl) p (few_sm hf)
  have hM := Normal_ok (G := gl) (normP p) (by unfold PolSm normP; simp only [ssort_len]; omega)
  rw [norm_norm] at hM
  have hS := Same_ok (G := gl) (normP p) (normP p) hq.ok hq.ok
  rw [decide_eq_true rfl] at hS
  have hV := Valid_ok (G := gl) rfl p hp (few_it hf)
  have hW := Valid_ok (G := gl) rfl (normP p) hq hfq
  rw [valid_norm] at hW
  have l1 : (normP p).types = p.types := rfl
  have l2 : (normP p).rules.length = p.rules.length := ssort_len _
  have l3 : (normP p).quorums.length = p.quorums.length := ssort_len _
  have hsr : Srt cmRu (normP p).rules := ssort_srt cmRu_ok _
  have hsq : Srt cmQu (normP p).quorums := ssort_srt cmQu_ok _
  have hpr : (normP p).rules.Perm p.rules := ssort_permL _
  have hnm : (normP p).name = p.name := rfl
  generalize normP p = q at *
  have d1 : decide ((q.rules.length : Int) = (p.rules.length : Nat)) = true := decide_eq_true (by rw [l2])
  have d2 : decide ((q.quorums.length : Int) = (p.quorums.length : Nat)) = true := decide_eq_true (by rw [l3])
  have d3 : decide ((p.types.length : Int) = (p.types.length : Nat)) = true := decide_eq_true rfl
  have d4 : decide (p.name = p.name) = true := decide_eq_true rfl
  repeat' first
    | (simp -implicitDefEqProofs only [pkA, ptA, ↓reduceIte, Nat.reduceEqDiff, Nat.reduceAdd, Nat.reduceBEq, Nat.reduceMul, Nat.reduceLT, Nat.reduceLeDiff, pkP, List.length_map, decide_true, setV_all, hf, d1, d2, d3, d4, l1, hnm, mkm_38])
    | refine call_fn rfl (few_ok _) (fun _ => rfl) ?_
    | refine call_fn rfl hN (fun h => by cases h) ?_
  refine run_loop (fun x : Nat × List Nat × Nat × List Ru => match x with | (i, bs, cl, kl) => hdS [(1, .bp 0 0), (3, .bp 1 0), (4, .mr 2), (53, .c (.sl (q.rules.map ruC))), (54, i64 q.rules.length), (55, i64 i)] [(poC p).map .c, (poC q).map .c, mfun ruC i64 bs cl kl (cnt q.rules i)])
    (fun x => q.rules.length - x.1) (fun x => x.1 ≤ q.rules.length ∧ MOk x.2.1 x.2.2.1 x.2.2.2 ∧ ∀ r, r ∉ x.2.2.2 → cnt q.rules x.1 r = 0) (0, [], 0, []) ⟨Nat.zero_le _, MOk.nil, fun _ _ => by simp [cnt]⟩ ?_ ?_
  · refine le_hd (by simp only [leOk, List.all_cons, List.all_nil, all_ltB_c, mcnt_ltB, List.length_cons, List.length_nil]; rfl) (Nat.zero_le _) (by simp) (by simp [FL, up_apply]) (by simp [BL, up_apply, bxs, cnt_nil])
  rintro ⟨i, bs, cl, kl⟩ ⟨hi, hok, h0⟩ R hnorm hexit hret
  simp only at hi hok h0
  simp -implicitDefEqProofs only [pkA, ptA, ↓reduceIte, Nat.reduceEqDiff, Nat.reduceAdd, Nat.reduceBEq, Nat.reduceMul, Nat.reduceLT, Nat.reduceLeDiff, pkP, List.length_map]
  refine vcond_of (fun hlt => ?_) (fun hge => ?_)
  · have hlt : i < q.rules.length := by simpa using hlt
    have hw := wrap_of (n := (i : Int) + 1) (k := i + 1) (by omega) (by omega)
    have hcb := cnt_le q.rules i q.rules[i]
    have hw1 := wrap_i64 (cnt q.rules i q.rules[i] + 1) (by omega)
    have hu := cnt_upd hlt
    have hz := cnt_zero hlt h0
    generalize hr : q.rules[i] = r at *
    have ha : q.rules[i]? = some r := by rw [List.getElem?_eq_getElem hlt, hr]
    simp -implicitDefEqProofs only [pkA, ptA, ↓reduceIte, Nat.reduceEqDiff, Nat.reduceAdd, Nat.reduceBEq, Nat.reduceMul, Nat.reduceLT, Nat.reduceLeDiff, pkP, List.length_map, decide_true, setV_all]
    refine ia_of ti_23 rfl ti_40 (by decide) (Int.natCast_nonneg i) (c := ruC r) (by simp [ha]) rfl ?_
    by_cases hi0 : i = 0
    · have e0 : decide ((0 : Int) < i) = false := by simp; omega
      simp -implicitDefEqProofs only [pkA, ptA, ↓reduceIte, Nat.reduceEqDiff, Nat.reduceAdd, Nat.reduceBEq, Nat.reduceMul, Nat.reduceLT, Nat.reduceLeDiff, pkP, List.length_map, decide_true, setV_all, e0]
      refine mfun_look (h := i64) (z := 0) ti_38 rfl ti_40 rfl rfl ti_3 rfl za_3 (fun _ => rfl) eq_ru (fun _ => rfl) h0 (by rfl) (by simp) ?_
      simp -implicitDefEqProofs only [pkA, ptA, ↓reduceIte, Nat.reduceEqDiff, Nat.reduceAdd, Nat.reduceBEq, Nat.reduceMul, Nat.reduceLT, Nat.reduceLeDiff, pkP, List.length_map, decide_true, setV_all, hw1]
      refine mfun_entry (h := i64) (z := 0) ti_38 rfl ti_40 rfl rfl ti_3 rfl za_3 (fun _ => rfl) eq_ru h0 hok (by rfl) (by simp) (fun bs' cl' j hok' hj => ?_)
      simp -implicitDefEqProofs only [pkA, ptA, ↓reduceIte, Nat.reduceEqDiff, Nat.reduceAdd, Nat.reduceBEq, Nat.reduceMul, Nat.reduceLT, Nat.reduceLeDiff, pkP, List.length_map, decide_true, setV_all]
      refine mfun_store (h := i64) (n := cnt q.rules i r + 1) hok' (fun _ => rfl) hj (by rfl) (by simp) ?_
      simp -implicitDefEqProofs only [pkA, ptA, ↓reduceIte, Nat.reduceEqDiff, Nat.reduceAdd, Nat.reduceBEq, Nat.reduceMul, Nat.reduceLT, Nat.reduceLeDiff, pkP, List.length_map, decide_true, setV_all, hw, hu]
      exact hnorm (i + 1, bs', cl', insM kl r) _ ⟨hlt, hok', hz⟩ (by simp only; omega) (le_hd (by simp only [leOk, List.all_cons, List.all_nil, all_ltB_c, mcnt_ltB, List.length_cons, List.length_nil]; rfl) (Nat.zero_le _) (by simp) (by simp [FL, up_apply]) (by simp [BL, up_apply, bxs]))
    · have e0 : decide ((0 : Int) < i) = true := by simp; omega
      have hlt1 : i - 1 < q.rules.length := by omega
      have hcm := List.pairwise_iff_getElem.1 hsr (i - 1) i hlt1 hlt (by omega)
      rw [hr] at hcm
      have hcm' : ¬ 0 < cmRu q.rules[i - 1] r := by omega
      rw [cmRu_gt] at hcm'
      have hwm := wrap_of (n := (i : Int) - 1) (k := i - 1) (by omega) (by omega)
      generalize ho : q.rules[i - 1] = o at *
      have ha1 : q.rules[i - 1]? = some o := by rw [List.getElem?_eq_getElem hlt1, ho]
      have hcase : (decide (r.kind < o.kind) = false ∧ decide (o.kind = r.kind) = false) ∨ (decide (r.kind < o.kind) = false ∧ decide (o.kind = r.kind) = true ∧ decide (r.a < o.a) = false ∧ decide (o.a = r.a) = false) ∨
          (decide (r.kind < o.kind) = false ∧ decide (o.kind = r.kind) = true ∧ decide (r.a < o.a) = false ∧ decide (o.a = r.a) = true ∧ decide (r.b < o.b) = false) := by
        simp only [decide_eq_true_eq, decide_eq_false_iff_not]; omega
      simp -implicitDefEqProofs only [pkA, ptA, ↓reduceIte, Nat.reduceEqDiff, Nat.reduceAdd, Nat.reduceBEq, Nat.reduceMul, Nat.reduceLT, Nat.reduceLeDiff, pkP, List.length_map, decide_true, setV_all, e0, hwm]
      refine ia_of ti_23 rfl ti_40 (by decide) (Int.natCast_nonneg (i - 1)) (c := ruC o) (by simp [ha1]) rfl ?_
      rcases hcase with ⟨c1, c2⟩ | ⟨c1, c2, c3, c4⟩ | ⟨c1, c2, c3, c4, c5⟩
      · simp -implicitDefEqProofs only [pkA, ptA, ↓reduceIte, Nat.reduceEqDiff, Nat.reduceAdd, Nat.reduceBEq, Nat.reduceMul, Nat.reduceLT, Nat.reduceLeDiff, pkP, List.length_map, decide_true, setV_all, c1, c2]
        refine mfun_look (h := i64) (z := 0) ti_38 rfl ti_40 rfl rfl ti_3 rfl za_3 (fun _ => rfl) eq_ru (fun _ => rfl) h0 (by rfl) (by simp) ?_
        simp -implicitDefEqProofs only [pkA, ptA, ↓reduceIte, Nat.reduceEqDiff, Nat.reduceAdd, Nat.reduceBEq, Nat.reduceMul, Nat.reduceLT, Nat.reduceLeDiff, pkP, List.length_map, decide_true, setV_all, hw1]
        refine mfun_entry (h := i64) (z := 0) ti_38 rfl ti_40 rfl rfl ti_3 rfl za_3 (fun _ => rfl) eq_ru h0 hok (by rfl) (by simp) (fun bs' cl' j hok' hj => ?_)
        simp -implicitDefEqProofs only [pkA, ptA, ↓reduceIte, Nat.reduceEqDiff, Nat.reduceAdd, Nat.reduceBEq, Nat.reduceMul, Nat.reduceLT, Nat.reduceLeDiff, pkP, List.length_map, decide_true, setV_all]
        refine mfun_store (h := i64) (n := cnt q.rules i r + 1) hok' (fun _ => rfl) hj (by rfl) (by simp) ?_
        simp -implicitDefEqProofs only [pkA, ptA, ↓reduceIte, Nat.reduceEqDiff, Nat.reduceAdd, Nat.reduceBEq, Nat.reduceMul, Nat.reduceLT, Nat.reduceLeDiff, pkP, List.length_map, decide_true, setV_all, hw, hu]
        exact hnorm (i + 1, bs', cl', insM kl r) _ ⟨hlt, hok', hz⟩ (by simp only; omega) (le_hd (by simp only [leOk, List.all_cons, List.all_nil, all_ltB_c, mcnt_ltB, List.length_cons, List.length_nil]; rfl) (Nat.zero_le _) (by simp) (by simp [FL, up_apply]) (by simp [BL, up_apply, bxs]))
      · simp -implicitDefEqProofs only [pkA, ptA, ↓reduceIte, Nat.reduceEqDiff, Nat.reduceAdd, Nat.reduceBEq, Nat.reduceMul, Nat.reduceLT, Nat.reduceLeDiff, pkP, List.length_map, decide_true, setV_all, c1, c2, c3, c4]
        refine mfun_look (h := i64) (z := 0) ti_38 rfl ti_40 rfl rfl ti_3 rfl za_3 (fun _ => rfl) eq_ru (fun _ => rfl) h0 (by rfl) (by simp) ?_
        simp -implicitDefEqProofs only [pkA, ptA, ↓reduceIte, Nat.reduceEqDiff, Nat.reduceAdd, Nat.reduceBEq, Nat.reduceMul, Nat.reduceLT, Nat.reduceLeDiff, pkP, List.length_map, decide_true, setV_all, hw1]
        refine mfun_entry (h := i64) (z := 0) ti_38 rfl ti_40 rfl rfl ti_3 rfl za_3 (fun _ => rfl) eq_ru h0 hok (by rfl) (by simp) (fun bs' cl' j hok' hj => ?_)
        simp -implicitDefEqProofs only [pkA, ptA, ↓reduceIte, Nat.reduceEqDiff, Nat.reduceAdd, Nat.reduceBEq, Nat.reduceMul, Nat.reduceLT, Nat.reduceLeDiff, pkP, List.length_map, decide_true, setV_all]
        refine mfun_store (h := i64) (n := cnt q.rules i r + 1) hok' (fun _ => rfl) hj (by rfl) (by simp) ?_
        simp -implicitDefEqProofs only [pkA, ptA, ↓reduceIte, Nat.reduceEqDiff, Nat.reduceAdd, Nat.reduceBEq, Nat.reduceMul, Nat.reduceLT, Nat.reduceLeDiff, pkP, List.length_map, decide_true, setV_all, hw, hu]
        exact hnorm (i + 1, bs', cl', insM kl r) _ ⟨hlt, hok', hz⟩ (by simp only; omega) (le_hd (by simp only [leOk, List.all_cons, List.all_nil, all_ltB_c, mcnt_ltB, List.length_cons, List.length_nil]; rfl) (Nat.zero_le _) (by simp) (by simp [FL, up_apply]) (by simp [BL, up_apply, bxs]))
      · simp -implicitDefEqProofs only [pkA, ptA, ↓reduceIte, Nat.reduceEqDiff, Nat.reduceAdd, Nat.reduceBEq, Nat.reduceMul, Nat.reduceLT, Nat.reduceLeDiff, pkP, List.length_map, decide_true, setV_all, c1, c2, c3, c4, c5]
        refine mfun_look (h := i64) (z := 0) ti_38 rfl ti_40 rfl rfl ti_3 rfl za_3 (fun _ => rfl) eq_ru (fun _ => rfl) h0 (by rfl) (by simp) ?_
        simp -implicitDefEqProofs only [pkA, ptA, ↓reduceIte, Nat.reduceEqDiff, Nat.reduceAdd, Nat.reduceBEq, Nat.reduceMul, Nat.reduceLT, Nat.reduceLeDiff, pkP, List.length_map, decide_true, setV_all, hw1]
        refine mfun_entry (h := i64) (z := 0) ti_38 rfl ti_40 rfl rfl ti_3 rfl za_3 (fun _ => rfl) eq_ru h0 hok (by rfl) (by simp) (fun bs' cl' j hok' hj => ?_)
        simp -implicitDefEqProofs only [pkA, ptA, ↓reduceIte, Nat.reduceEqDiff, Nat.reduceAdd, Nat.reduceBEq, Nat.reduceMul, Nat.reduceLT, Nat.reduceLeDiff, pkP, List.length_map, decide_true, setV_all]
        refine mfun_store (h := i64) (n := cnt q.rules i r + 1) hok' (fun _ => rfl) hj (by rfl) (by simp) ?_
        simp -implicitDefEqProofs only [pkA, ptA, ↓reduceIte, Nat.reduceEqDiff, Nat.reduceAdd, Nat.reduceBEq, Nat.reduceMul, Nat.reduceLT, Nat.reduceLeDiff, pkP, List.length_map, decide_true, setV_all, hw, hu]
        exact hnorm (i + 1, bs', cl', insM kl r) _ ⟨hlt, hok', hz⟩ (by simp only; omega) (le_hd (by simp only [leOk, List.all_cons, List.all_nil, all_ltB_c, mcnt_ltB, List.length_cons, List.length_nil]; rfl) (Nat.zero_le _) (by simp) (by simp [FL, up_apply]) (by simp [BL, up_apply, bxs]))
  have : i = q.rules.length := by simp at hge; omega
  subst this
  rw [cnt_all (m := p.rules)] at *
  simp -implicitDefEqProofs only [pkA, ptA, ↓reduceIte, Nat.reduceEqDiff, Nat.reduceAdd, Nat.reduceBEq, Nat.reduceMul, Nat.reduceLT, Nat.reduceLeDiff, pkP, List.length_map]
  refine hexit _ _ ?_
  clear hexit hret hnorm hge hi
  simp -implicitDefEqProofs only [pkA, ptA, ↓reduceIte, Nat.reduceEqDiff, Nat.reduceAdd, Nat.reduceBEq, Nat.reduceMul, Nat.reduceLT, Nat.reduceLeDiff, pkP, List.length_map]
  refine run_loop (fun x : Nat × List Nat × Nat × List Ru => match x with | (i, bs, cl, kl) => hdS [(1, .bp 0 0), (3, .bp 1 0), (4, .mr 2), (109, .c (.sl (p.rules.map ruC))), (110, i64 p.rules.length), (111, i64 i)] [(poC p).map .c, (poC q).map .c, mfun ruC i64 bs cl kl (cn2 q.rules p.rules i)])
    (fun x => p.rules.length - x.1) (fun x => x.1 ≤ p.rules.length ∧ MOk x.2.1 x.2.2.1 x.2.2.2 ∧ ∀ r, r ∉ x.2.2.2 → cn2 q.rules p.rules x.1 r = 0) (0, bs, cl, kl) ⟨Nat.zero_le _, hok, h0⟩ ?_ ?_
  · refine le_hd (by simp only [leOk, List.all_cons, List.all_nil, all_ltB_c, mcnt_ltB, List.length_cons, List.length_nil]; rfl) (Nat.zero_le _) (by simp) (by simp [FL, up_apply]) (by simp [BL, up_apply, bxs])
  clear hok h0 bs cl kl R
  rintro ⟨i, bs, cl, kl⟩ ⟨hi, hok, h0⟩ R hnorm hexit hret
  simp only at hi hok h0
  simp -implicitDefEqProofs only [pkA, ptA, ↓reduceIte, Nat.reduceEqDiff, Nat.reduceAdd, Nat.reduceBEq, Nat.reduceMul, Nat.reduceLT, Nat.reduceLeDiff, pkP, List.length_map]
  refine vcond_of (fun hlt => ?_) (fun hge => ?_)
  · have hlt : i < p.rules.length := by simpa using hlt
    have hw := wrap_of (n := (i : Int) + 1) (k := i + 1) (by omega) (by omega)
    have hcb := cn2_le q.rules p.rules i p.rules[i]
    have hw1 := wrap_i64 (cn2 q.rules p.rules i p.rules[i] - 1) (by omega)
    have hu := cn2_upd (l := q.rules) hlt
    have hz := cn2_zero hlt h0
    generalize hr : p.rules[i] = r at *
    have ha : p.rules[i]? = some r := by rw [List.getElem?_eq_getElem hlt, hr]
    simp -implicitDefEqProofs only [pkA, ptA, ↓reduceIte, Nat.reduceEqDiff, Nat.reduceAdd, Nat.reduceBEq, Nat.reduceMul, Nat.reduceLT, Nat.reduceLeDiff, pkP, List.length_map, decide_true, setV_all]
    refine ia_of ti_23 rfl ti_40 (by decide) (Int.natCast_nonneg i) (c := ruC r) (by simp [ha]) rfl ?_
    simp -implicitDefEqProofs only [pkA, ptA, ↓reduceIte, Nat.reduceEqDiff, Nat.reduceAdd, Nat.reduceBEq, Nat.reduceMul, Nat.reduceLT, Nat.reduceLeDiff, pkP, List.length_map, decide_true, setV_all]
    refine mfun_look (h := i64) (z := 0) ti_38 rfl ti_40 rfl rfl ti_3 rfl za_3 (fun _ => rfl) eq_ru (fun _ => rfl) h0 (by rfl) (by simp) ?_
    simp -implicitDefEqProofs only [pkA, ptA, ↓reduceIte, Nat.reduceEqDiff, Nat.reduceAdd, Nat.reduceBEq, Nat.reduceMul, Nat.reduceLT, Nat.reduceLeDiff, pkP, List.length_map, decide_true, setV_all, hw1]
    refine mfun_entry (h := i64) (z := 0) ti_38 rfl ti_40 rfl rfl ti_3 rfl za_3 (fun _ => rfl) eq_ru h0 hok (by rfl) (by simp) (fun bs' cl' j hok' hj => ?_)
    simp -implicitDefEqProofs only [pkA, ptA, ↓reduceIte, Nat.reduceEqDiff, Nat.reduceAdd, Nat.reduceBEq, Nat.reduceMul, Nat.reduceLT, Nat.reduceLeDiff, pkP, List.length_map, decide_true, setV_all]
    refine mfun_store (h := i64) (n := cn2 q.rules p.rules i r - 1) hok' (fun _ => rfl) hj (by rfl) (by simp) ?_
    simp -implicitDefEqProofs only [pkA, ptA, ↓reduceIte, Nat.reduceEqDiff, Nat.reduceAdd, Nat.reduceBEq, Nat.reduceMul, Nat.reduceLT, Nat.reduceLeDiff, pkP, List.length_map, decide_true, setV_all, hw, hu]
    exact hnorm (i + 1, bs', cl', insM kl r) _ ⟨hlt, hok', hz⟩ (by simp only; omega) (le_hd (by simp only [leOk, List.all_cons, List.all_nil, all_ltB_c, mcnt_ltB, List.length_cons, List.length_nil]; rfl) (Nat.zero_le _) (by simp) (by simp [FL, up_apply]) (by simp [BL, up_apply, bxs]))
  have : i = p.rules.length := by simp at hge; omega
  subst this
  rw [cn2_all hpr] at *
  simp -implicitDefEqProofs only [pkA, ptA, ↓reduceIte, Nat.reduceEqDiff, Nat.reduceAdd, Nat.reduceBEq, Nat.reduceMul, Nat.reduceLT, Nat.reduceLeDiff, pkP, List.length_map]
  refine hexit _ _ ?_
  clear hexit hret hnorm hge hi h0
  simp -implicitDefEqProofs only [pkA, ptA, ↓reduceIte, Nat.reduceEqDiff, Nat.reduceAdd, Nat.reduceBEq, Nat.reduceMul, Nat.reduceLT, Nat.reduceLeDiff, pkP, List.length_map]
  refine mfun_range (h := i64) (f := fun _ => 0) (kl := kl) (bs := bs) (cl := cl) ti_38 rfl (by rfl) (by simp) ?_
  simp -implicitDefEqProofs only [pkA, ptA, ↓reduceIte, Nat.reduceEqDiff, Nat.reduceAdd, Nat.reduceBEq, Nat.reduceMul, Nat.reduceLT, Nat.reduceLeDiff, pkP, List.length_map]
  refine run_loop (fun seen : List Nat => hdS [(1, .bp 0 0), (3, .bp 1 0), (123, .it 2 cl cl seen)] [(poC p).map .c, (poC q).map .c, mfun ruC i64 bs cl kl (fun _ => 0)])
    (fun seen => leftM bs seen) (fun _ => True) [] trivial ?_ ?_
  · refine le_hd (by simp only [leOk, List.all_cons, List.all_nil, all_ltB_c, mcnt_ltB, List.length_cons, List.length_nil]; rfl) (Nat.zero_le _) (by simp) (by simp [FL, up_apply]) (by simp [BL, up_apply, bxs])
  clear R
  rintro seen - R hnorm hexit hret
  simp -implicitDefEqProofs only [pkA, ptA, ↓reduceIte, Nat.reduceEqDiff, Nat.reduceAdd, Nat.reduceBEq, Nat.reduceMul, Nat.reduceLT, Nat.reduceLeDiff, pkP, List.length_map]
  refine mfun_next hok (by rfl) (by simp) (fun _ => ?_) (fun b hb hn x y => ?_)
  · simp -implicitDefEqProofs only [pkA, ptA, ↓reduceIte, Nat.reduceEqDiff, Nat.reduceAdd, Nat.reduceBEq, Nat.reduceMul, Nat.reduceLT, Nat.reduceLeDiff, pkP, List.length_map]
    refine hexit _ _ ?_
    clear hexit hret hnorm
    simp -implicitDefEqProofs only [pkA, ptA, ↓reduceIte, Nat.reduceEqDiff, Nat.reduceAdd, Nat.reduceBEq, Nat.reduceMul, Nat.reduceLT, Nat.reduceLeDiff, pkP, List.length_map]
    refine run_loop (fun k : Nat => hdS [(1, .bp 0 0), (3, .bp 1 0), (12, i64 k)] [(poC p).map .c, (poC q).map .c])
      (fun k => q.quorums.length - k) (fun k => 1 ≤ k ∧ k ≤ q.quorums.length + 1) 1 ⟨Nat.le_refl _, by omega⟩ ?_ ?_
    · refine le_hd (by simp only [leOk, List.all_cons, List.all_nil, all_ltB_c, List.length_cons, List.length_nil]; rfl) (Nat.zero_le _) (by simp) (by simp [FL, up_apply]) (by simp [BL, up_apply, bxs])
    clear R
    rintro k ⟨hk1, hk2⟩ R hnorm hexit hret
    simp -implicitDefEqProofs only [pkA, ptA, ↓reduceIte, Nat.reduceEqDiff, Nat.reduceAdd, Nat.reduceBEq, Nat.reduceMul, Nat.reduceLT, Nat.reduceLeDiff, pkP, List.length_map]
    refine vcond_of (fun hlt => ?_) (fun hge => ?_)
    · have hlt : k < q.quorums.length := by simpa using hlt
      have hlt1 : k - 1 < q.quorums.length := by omega
      have hw := wrap_of (n := (k : Int) + 1) (k := k + 1) (by omega) (by omega)
      have hwm := wrap_of (n := (k : Int) - 1) (k := k - 1) (by omega) (by omega)
      have hcm := List.pairwise_iff_getElem.1 hsq (k - 1) k hlt1 hlt (by omega)
      have hd : decide (q.quorums[k].cmd < q.quorums[k - 1].cmd) = false := by
        unfold cmQu at hcm
        rcases cmpI_cases q.quorums[k - 1].cmd q.quorums[k].cmd with c | c | c
        · simp; omega
        · omega
        · simp; omega
      simp -implicitDefEqProofs only [pkA, ptA, ↓reduceIte, Nat.reduceEqDiff, Nat.reduceAdd, Nat.reduceBEq, Nat.reduceMul, Nat.reduceLT, Nat.reduceLeDiff, pkP, List.length_map, decide_true, setV_all, hwm]
      refine ia_of ti_24 rfl ti_42 (by decide) (Int.natCast_nonneg (k - 1)) (c := quC q.quorums[k - 1]) (by simp [hlt1]) rfl ?_
      simp -implicitDefEqProofs only [pkA, ptA, ↓reduceIte, Nat.reduceEqDiff, Nat.reduceAdd, Nat.reduceBEq, Nat.reduceMul, Nat.reduceLT, Nat.reduceLeDiff, pkP, List.length_map, decide_true, setV_all]
      refine ia_of ti_24 rfl ti_42 (by decide) (Int.natCast_nonneg k) (c := quC q.quorums[k]) (by simp [hlt]) rfl ?_
      simp -implicitDefEqProofs only [pkA, ptA, ↓reduceIte, Nat.reduceEqDiff, Nat.reduceAdd, Nat.reduceBEq, Nat.reduceMul, Nat.reduceLT, Nat.reduceLeDiff, pkP, List.length_map, decide_true, setV_all, hd, hw]
      exact hnorm (k + 1) _ ⟨by omega, by omega⟩ (by omega) (le_hd (by simp only [leOk, List.all_cons, List.all_nil, all_ltB_c, List.length_cons, List.length_nil]; rfl) (Nat.zero_le _) (by simp) (by simp [FL, up_apply]) (by simp [BL, up_apply, bxs]))
    simp -implicitDefEqProofs only [pkA, ptA, ↓reduceIte, Nat.reduceEqDiff, Nat.reduceAdd, Nat.reduceBEq, Nat.reduceMul, Nat.reduceLT, Nat.reduceLeDiff, pkP, List.length_map]
    refine hexit _ _ ?_
    repeat' first
      | (simp -implicitDefEqProofs only [pkA, ptA, ↓reduceIte, Nat.reduceEqDiff, Nat.reduceAdd, Nat.reduceBEq, Nat.reduceMul, Nat.reduceLT, Nat.reduceLeDiff, pkP, List.length_map, decide_true, beq_self_eq_true])
      | refine call_fn rfl sanity_ok (fun _ => rfl) ?_
      | refine call_fn rfl hM (fun h => by cases h) ?_
      | refine call_fn rfl hS (fun _ => rfl) ?_
      | refine call_fn rfl hV (fun _ => rfl) ?_
      | refine call_fn rfl hW (fun _ => rfl) ?_
  · simp -implicitDefEqProofs only [pkA, ptA, ↓reduceIte, Nat.reduceEqDiff, Nat.reduceAdd, Nat.reduceBEq, Nat.reduceMul, Nat.reduceLT, Nat.reduceLeDiff, pkP, List.length_map]
    refine mfun_at (seen := seen) hok (by rfl) (by simp) hb (fun k hk => ?_)
    simp -implicitDefEqProofs only [pkA, ptA, ↓reduceIte, Nat.reduceEqDiff, Nat.reduceAdd, Nat.reduceBEq, Nat.reduceMul, Nat.reduceLT, Nat.reduceLeDiff, pkP, List.length_map, decide_true]
    exact hnorm (seen ++ [b]) _ trivial (leftM_lt hb hn) (le_hd (by simp only [leOk, List.all_cons, List.all_nil, all_ltB_c, mcnt_ltB, List.length_cons, List.length_nil]; rfl) (Nat.zero_le _) (by simp) (by simp [FL, up_apply]) (by simp [BL, up_apply, bxs]))
end Go.Proofs.YtbhfbbfifmnniaaDoor
