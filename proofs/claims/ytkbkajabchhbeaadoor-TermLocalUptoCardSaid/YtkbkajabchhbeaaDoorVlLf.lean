/- Layer 15: the law Local. -/
import Derived.Test.YtkbkajabchhbeaaDoorVlLc0
set_option linter.unusedSimpArgs false
set_option linter.unusedVariables false
namespace Go.Proofs.YtkbkajabchhbeaaDoor
open Go Go.Vl
set_option maxRecDepth 10000
structure PutL (l out : List Tm) : Prop where
 st : StT out
 sub : ∀ x ∈ out, x ∈ subsL l
theorem PutL.put {l out : List Tm} {u : Tm} (h : PutL l out) (hu : u ∈ subsL l) : PutL l (putT out u) :=
 ⟨putT_sorted h.st u, fun x hx => by rcases putT_mem.1 hx with hx | rfl; exact h.sub x hx; exact hu⟩
theorem PutL.all {l : List Tm} : ∀ {us out : List Tm}, PutL l out → (∀ u ∈ us, u ∈ subsL l) → PutL l (putAll out us)
 | [], _, h, _ => h
 | u :: us, out, h, hu => by
  show PutL l (putAll (putT out u) us)
  exact PutL.all (h.put (hu u (List.mem_cons_self ..))) fun v hv => hu v (List.mem_cons_of_mem _ hv)
theorem PutL.small {l out : List Tm} (h : PutL l out) (hs : sizeL l ≤ 150) : out.length ≤ 150 ∧ sizeL out ≤ 22500 := by
 have h1 := nodup_len h.st.nodup h.sub
 have e : ∀ l : List Tm, (subsL l).length = sizeL l := fun l => by
  induction l with
  | nil => rfl
  | cons t l ih => simp only [subsL, sizeL, List.length_append, subs_len, ih]
 rw [e] at h1
 have h2 : sizeL out ≤ out.length * 150 := sizeL_bound fun x hx => by
  obtain ⟨u, hu, hx⟩ := subsL_mem.1 (h.sub x hx)
  have := subs_size u x hx
  have := sizeL_mem hu
  omega
 have h3 := Nat.mul_le_mul (show out.length ≤ 150 by omega) (Nat.le_refl 150)
 omega
theorem allS_ok (l : List Tm) : PutL l (rsubsL [] l) ∧ ∀ x ∈ subsL l, x ∈ rsubsL [] l := by
 obtain ⟨h1, h2⟩ := rsubsL_ok (l := l) (fun t _ => rsubs_ok t) (out := []) List.Pairwise.nil
 refine ⟨⟨h1, fun x hx => ?_⟩, fun x hx => (h2 x).2 (.inr hx)⟩
 rcases (h2 x).1 hx with h | h
 ·cases h
 ·exact h
theorem PutL.take {l : List Tm} (i : Nat) : PutL l (rsubsL [] (l.take i)) := by
 obtain ⟨h, _⟩ := allS_ok (l.take i)
 refine ⟨h.st, fun x hx => ?_⟩
 obtain ⟨u, hu, hx⟩ := subsL_mem.1 (h.sub x hx)
 exact subsL_mem.2 ⟨u, List.mem_of_mem_take hu, hx⟩
theorem vmax_i {a b : Int} {K : V → Prop} : vmin true [i64 a, i64 b] K = K (i64 (if a < b then b else a)) := rfl
theorem vmin_i {a b : Int} {K : V → Prop} : vmin false [i64 a, i64 b] K = K (i64 (if b < a then b else a)) := rfl
set_option maxHeartbeats 16000000 in
theorem Local_ok (l : List Tm) (n : Int) (hl : sizeL l ≤ big) : FnOK Tryd.prog glT 8 [.c (tsC l), i64 n] (bo true) := by
 unfold big at hl
 have hll := sizeL_len l
 obtain ⟨m, hm⟩ : ∃ m, m = (if 0 < (if 1000 < n then (1000 : Int) else n) then (if 1000 < n then (1000 : Int) else n) else 0) := ⟨_, rfl⟩
 have hfew := few_ok (G := glT) l (keyF m) (by simp only [keyF, sizeT, sizeL]; omega)
 rw [hm] at hfew
 refine FnOK_by (rs := [.tmp 4]) false [] mixed Tryd.func8 rfl rfl rfl rfl (by kernel_rfl) (by simp) rfl rfl ?_
 simp -implicitDefEqProofs only [pkA, ptA, ↓reduceIte, Nat.reduceEqDiff, Nat.reduceAdd, Nat.reduceBEq, Nat.reduceMul, Nat.reduceLT, Nat.reduceLeDiff, pkT, pkU, tsC, true_and, List.append_eq, List.cons_append, List.nil_append, eq_self, decide_true, Bool.not_true, Bool.not_false, b_neq, b_eqs, vmin_i, vmax_i]
 refine call_fn rfl (key_ok _) (by first | exact (fun h => by cases h) | exact fun _ => rfl) ?_
 simp -implicitDefEqProofs only [pkA, ptA, ↓reduceIte, Nat.reduceEqDiff, Nat.reduceAdd, Nat.reduceBEq, Nat.reduceMul, Nat.reduceLT, Nat.reduceLeDiff, pkT, pkU, tsC, true_and, List.append_eq, List.cons_append, List.nil_append, eq_self, decide_true, Bool.not_true, Bool.not_false, b_neq, b_eqs, vmin_i, vmax_i]
 cases hs : smallL (l ++ [keyF (if 0 < (if 1000 < n then (1000 : Int) else n) then (if 1000 < n then (1000 : Int) else n) else 0)]) with
 | false =>
  rw [hs] at hfew
  refine call_fn rfl (hfew) (by first | exact (fun h => by cases h) | exact fun _ => rfl) ?_
  simp -implicitDefEqProofs only [pkA, ptA, ↓reduceIte, Nat.reduceEqDiff, Nat.reduceAdd, Nat.reduceBEq, Nat.reduceMul, Nat.reduceLT, Nat.reduceLeDiff, pkT, pkU, tsC, true_and, List.append_eq, List.cons_append, List.nil_append, eq_self, decide_true, Bool.not_true, Bool.not_false, b_neq, b_eqs]
  refine call_fn rfl (sanity_ok) (by first | exact (fun h => by cases h) | exact fun _ => rfl) ?_
  simp -implicitDefEqProofs only [pkA, ptA, ↓reduceIte, Nat.reduceEqDiff, Nat.reduceAdd, Nat.reduceBEq, Nat.reduceMul, Nat.reduceLT, Nat.reduceLeDiff, pkT, pkU, tsC, true_and, List.append_eq, List.cons_append, List.nil_append, eq_self, decide_true, Bool.not_true, Bool.not_false, b_neq, b_eqs]
 | true =>
 rw [hs] at hfew
 obtain ⟨hvl, _, hsz2⟩ := small_app hs
 cases e1 : decide (n < 0) with
 | true =>
  refine call_fn rfl (hfew) (by first | exact (fun h => by cases h) | exact fun _ => rfl) ?_
  simp -implicitDefEqProofs only [pkA, ptA, ↓reduceIte, Nat.reduceEqDiff, Nat.reduceAdd, Nat.reduceBEq, Nat.reduceMul, Nat.reduceLT, Nat.reduceLeDiff, pkT, pkU, tsC, true_and, List.append_eq, List.cons_append, List.nil_append, eq_self, decide_true, Bool.not_true, Bool.not_false, b_neq, b_eqs, e1]
  refine call_fn rfl (sanity_ok) (by first | exact (fun h => by cases h) | exact fun _ => rfl) ?_
  simp -implicitDefEqProofs only [pkA, ptA, ↓reduceIte, Nat.reduceEqDiff, Nat.reduceAdd, Nat.reduceBEq, Nat.reduceMul, Nat.reduceLT, Nat.reduceLeDiff, pkT, pkU, tsC, true_and, List.append_eq, List.cons_append, List.nil_append, eq_self, decide_true, Bool.not_true, Bool.not_false, b_neq, b_eqs, e1]
 | false =>
 cases e2 : decide (n > 1000) with
 | true =>
  refine call_fn rfl (hfew) (by first | exact (fun h => by cases h) | exact fun _ => rfl) ?_
  simp -implicitDefEqProofs only [pkA, ptA, ↓reduceIte, Nat.reduceEqDiff, Nat.reduceAdd, Nat.reduceBEq, Nat.reduceMul, Nat.reduceLT, Nat.reduceLeDiff, pkT, pkU, tsC, true_and, List.append_eq, List.cons_append, List.nil_append, eq_self, decide_true, Bool.not_true, Bool.not_false, b_neq, b_eqs, e1, e2]
  refine call_fn rfl (sanity_ok) (by first | exact (fun h => by cases h) | exact fun _ => rfl) ?_
  simp -implicitDefEqProofs only [pkA, ptA, ↓reduceIte, Nat.reduceEqDiff, Nat.reduceAdd, Nat.reduceBEq, Nat.reduceMul, Nat.reduceLT, Nat.reduceLeDiff, pkT, pkU, tsC, true_and, List.append_eq, List.cons_append, List.nil_append, eq_self, decide_true, Bool.not_true, Bool.not_false, b_neq, b_eqs, e1, e2]
 | false =>
 have hn : 0 ≤ n ∧ n ≤ 1000 := by
  have h1 := of_decide_eq_false e1
  have h2 := of_decide_eq_false e2
  omega
 have hvk : validT (keyF n) = true := by
  simp only [keyF, validT, validL, Bool.and_true, Bool.and_eq_true, decide_eq_true_eq, Bool.or_eq_true, Bool.not_eq_true', decide_eq_false_iff_not, List.length_nil]
  simp [arityI]; omega
 have hs1 : sizeL l ≤ 150 := by omega
 refine call_fn rfl (hfew) (by first | exact (fun h => by cases h) | exact fun _ => rfl) ?_
 simp -implicitDefEqProofs only [pkA, ptA, ↓reduceIte, Nat.reduceEqDiff, Nat.reduceAdd, Nat.reduceBEq, Nat.reduceMul, Nat.reduceLT, Nat.reduceLeDiff, pkT, pkU, tsC, true_and, List.append_eq, List.cons_append, List.nil_append, eq_self, decide_true, Bool.not_true, Bool.not_false, b_neq, b_eqs, e1, e2]
 clear hfew hm hs hsz2 m
 refine run_loop (fun q : Nat × V => hdS [(0, .c (.sl (l.map tmC))), (1, i64 n), (6, q.2), (7, i64 q.1)] []) (fun q => l.length - q.1) (fun q => q.1 ≤ l.length ∧ (q.2 = owT (rsubsL [] (l.take q.1)) ∨ q.2 = .c (tsC (rsubsL [] (l.take q.1))))) (0, owT []) ⟨Nat.zero_le _, .inl rfl⟩ ?_ ?_
 ·exact le_hd (by simp only [leOk, List.all_cons, List.all_nil, owT_ltB]; rfl) (Nat.zero_le _) (Nat.zero_le _) (by simp [FL, up_apply, owT]) trivial
 rintro ⟨i, v⟩ ⟨hi, hv⟩ R hnorm hexit hret
 simp only at hi hv hnorm
 have hvf := tts_fz hv
 simp -implicitDefEqProofs only [pkA, ptA, ↓reduceIte, Nat.reduceEqDiff, Nat.reduceAdd, Nat.reduceBEq, Nat.reduceMul, Nat.reduceLT, Nat.reduceLeDiff, pkT, pkU, tsC, true_and, List.append_eq, List.cons_append, List.nil_append, eq_self, decide_true, Bool.not_true, Bool.not_false, b_neq, b_eqs, hvf]
 refine vcond_of (fun hlt => ?_) (fun hge => ?_)
 ·have hlt : i < l.length := by simpa using hlt
  have hPi := PutL.take (l := l) i
  simp -implicitDefEqProofs only [pkA, ptA, ↓reduceIte, Nat.reduceEqDiff, Nat.reduceAdd, Nat.reduceBEq, Nat.reduceMul, Nat.reduceLT, Nat.reduceLeDiff, pkT, pkU, tsC, true_and, List.append_eq, List.cons_append, List.nil_append, eq_self, decide_true, Bool.not_true, Bool.not_false, b_neq, b_eqs, hvf]
  refine ia_of ti_22 rfl ti_24 (by decide) (Int.natCast_nonneg i) (c := tmC l[i]) (by simp [hlt]) (tmC_len _) ?_
  simp -implicitDefEqProofs only [pkA, ptA, ↓reduceIte, Nat.reduceEqDiff, Nat.reduceAdd, Nat.reduceBEq, Nat.reduceMul, Nat.reduceLT, Nat.reduceLeDiff, pkT, pkU, tsC, true_and, List.append_eq, List.cons_append, List.nil_append, eq_self, decide_true, Bool.not_true, Bool.not_false, b_neq, b_eqs, hvf, ld_24 (tmC_len _)]
  have hmi := sizeL_mem (List.getElem_mem hlt)
  refine call_fn rfl (Subterms_ok l[i] (hvl _ (List.getElem_mem hlt)) (by omega)) (by first | exact (fun h => by cases h) | exact fun _ => rfl) ?_
  simp -implicitDefEqProofs only [pkA, ptA, ↓reduceIte, Nat.reduceEqDiff, Nat.reduceAdd, Nat.reduceBEq, Nat.reduceMul, Nat.reduceLT, Nat.reduceLeDiff, pkT, pkU, tsC, true_and, List.append_eq, List.cons_append, List.nil_append, eq_self, decide_true, Bool.not_true, Bool.not_false, b_neq, b_eqs, hvf]
  have hrl := @rsubs_len l[i]
  have hsubs : ∀ x ∈ rsubsT l[i], x ∈ subsL l := fun x hx => subsL_mem.2 ⟨_, List.getElem_mem hlt, ((rsubs_ok l[i]).2 x).1 hx⟩
  have hstep := rsubsL_take (out := []) hlt
  have hw3 := wrap_of (n := (i : Int) + 1) (k := i + 1) (by omega) (by omega)
  generalize rsubsT l[i] = us at hrl hsubs hstep
  refine run_loop (fun q : Nat × V => hdS [(0, .c (.sl (l.map tmC))), (1, i64 n), (6, q.2), (7, i64 i), (8, .c (.sl (us.map tmC))), (9, i64 q.1)] []) (fun q => us.length - q.1) (fun q => q.1 ≤ us.length ∧ (q.2 = owT (putAll (rsubsL [] (l.take i)) (us.take q.1)) ∨ q.2 = .c (tsC (putAll (rsubsL [] (l.take i)) (us.take q.1))))) (0, v) ⟨Nat.zero_le _, hv⟩ ?_ ?_
  ·exact le_hd (by simp only [leOk, List.all_cons, List.all_nil, tts_ltB hv]; rfl) (Nat.zero_le _) (Nat.zero_le _) (by simp [FL, up_apply]) trivial
  rintro ⟨j, v⟩ ⟨hj, hv⟩ R2 hnorm2 hexit2 hret2
  simp only at hj hv hnorm2
  have hvf := tts_fz hv
  simp -implicitDefEqProofs only [pkA, ptA, ↓reduceIte, Nat.reduceEqDiff, Nat.reduceAdd, Nat.reduceBEq, Nat.reduceMul, Nat.reduceLT, Nat.reduceLeDiff, pkT, pkU, tsC, true_and, List.append_eq, List.cons_append, List.nil_append, eq_self, decide_true, Bool.not_true, Bool.not_false, b_neq, b_eqs, hvf]
  refine vcond_of (fun hlt2 => ?_) (fun hge2 => ?_)
  ·have hlt2 : j < us.length := by simpa using hlt2
   have hw2 := wrap_of (n := (j : Int) + 1) (k := j + 1) (by omega) (by omega)
   have hPj := hPi.all (us := us.take j) fun u hu => hsubs u (List.mem_of_mem_take hu)
   obtain ⟨q1, q2⟩ := hPj.small hs1
   obtain ⟨w, hw, hwx⟩ := subsL_mem.1 (hsubs _ (List.getElem_mem hlt2))
   have q3 := subs_size w us[j] hwx
   have q4 := sizeL_mem hw
   have hpt := putAll_take (out := rsubsL [] (l.take i)) hlt2
   simp -implicitDefEqProofs only [pkA, ptA, ↓reduceIte, Nat.reduceEqDiff, Nat.reduceAdd, Nat.reduceBEq, Nat.reduceMul, Nat.reduceLT, Nat.reduceLeDiff, pkT, pkU, tsC, true_and, List.append_eq, List.cons_append, List.nil_append, eq_self, decide_true, Bool.not_true, Bool.not_false, b_neq, b_eqs, hvf]
   refine ia_of ti_22 rfl ti_24 (by decide) (Int.natCast_nonneg j) (c := tmC us[j]) (by simp [hlt2]) (tmC_len _) ?_
   simp -implicitDefEqProofs only [pkA, ptA, ↓reduceIte, Nat.reduceEqDiff, Nat.reduceAdd, Nat.reduceBEq, Nat.reduceMul, Nat.reduceLT, Nat.reduceLeDiff, pkT, pkU, tsC, true_and, List.append_eq, List.cons_append, List.nil_append, eq_self, decide_true, Bool.not_true, Bool.not_false, b_neq, b_eqs, hvf, ld_24 (tmC_len _)]
   refine call_fn rfl (RPut_ok (putAll (rsubsL [] (l.take i)) (us.take j)) us[j] (by omega) (by omega)) (by first | exact (fun h => by cases h) | exact fun _ => rfl) ?_
   simp -implicitDefEqProofs only [pkA, ptA, ↓reduceIte, Nat.reduceEqDiff, Nat.reduceAdd, Nat.reduceBEq, Nat.reduceMul, Nat.reduceLT, Nat.reduceLeDiff, pkT, pkU, tsC, true_and, List.append_eq, List.cons_append, List.nil_append, eq_self, decide_true, Bool.not_true, Bool.not_false, b_neq, b_eqs, hvf]
   refine hnorm2 (j + 1, .c (tsC (putAll (rsubsL [] (l.take i)) (us.take (j + 1))))) _ ⟨hlt2, .inr rfl⟩ (by simp only; omega) (le_hd rfl (Nat.zero_le _) (Nat.zero_le _) ?_ trivial)
   simp [FL, up_apply, hw2, hpt, tsC]
  ·have hjl : j = us.length := by simp at hge2; omega
   subst hjl
   rw [List.take_length, ← hstep] at hv
   simp -implicitDefEqProofs only [pkA, ptA, ↓reduceIte, Nat.reduceEqDiff, Nat.reduceAdd, Nat.reduceBEq, Nat.reduceMul, Nat.reduceLT, Nat.reduceLeDiff, pkT, pkU, tsC, true_and, List.append_eq, List.cons_append, List.nil_append, eq_self, decide_true, Bool.not_true, Bool.not_false, b_neq, b_eqs, hvf]
   refine hexit2 _ _ ?_
   simp -implicitDefEqProofs only [pkA, ptA, ↓reduceIte, Nat.reduceEqDiff, Nat.reduceAdd, Nat.reduceBEq, Nat.reduceMul, Nat.reduceLT, Nat.reduceLeDiff, pkT, pkU, tsC, true_and, List.append_eq, List.cons_append, List.nil_append, eq_self, decide_true, Bool.not_true, Bool.not_false, b_neq, b_eqs, hvf]
   refine hnorm (i + 1, v) _ ⟨hlt, hv⟩ (by simp only; omega) (le_hd (by simp only [leOk, List.all_cons, List.all_nil, tts_ltB hv]; rfl) (Nat.zero_le _) (Nat.zero_le _) ?_ trivial)
   simp [FL, up_apply, hw3]
 have : i = l.length := by simp at hge; omega
 subst this
 rw [List.take_length] at hv hvf
 simp -implicitDefEqProofs only [pkA, ptA, ↓reduceIte, Nat.reduceEqDiff, Nat.reduceAdd, Nat.reduceBEq, Nat.reduceMul, Nat.reduceLT, Nat.reduceLeDiff, pkT, pkU, tsC, true_and, List.append_eq, List.cons_append, List.nil_append, eq_self, decide_true, Bool.not_true, Bool.not_false, b_neq, b_eqs, hvf]
 refine hexit _ _ ?_
 clear hnorm hexit hret hge hi
 obtain ⟨hP, hall⟩ := allS_ok l
 generalize rsubsL [] l = A at *
 obtain ⟨a1, a2⟩ := hP.small hs1
 obtain ⟨g1, g2, g3⟩ := clo_sizes hvl hs1
 simp -implicitDefEqProofs only [pkA, ptA, ↓reduceIte, Nat.reduceEqDiff, Nat.reduceAdd, Nat.reduceBEq, Nat.reduceMul, Nat.reduceLT, Nat.reduceLeDiff, pkT, pkU, tsC, true_and, List.append_eq, List.cons_append, List.nil_append, eq_self, decide_true, Bool.not_true, Bool.not_false, b_neq, b_eqs, hvf]
 refine call_fn rfl (Close_ok l hvl (by omega)) (by first | exact (fun h => by cases h) | exact fun _ => rfl) ?_
 simp -implicitDefEqProofs only [pkA, ptA, ↓reduceIte, Nat.reduceEqDiff, Nat.reduceAdd, Nat.reduceBEq, Nat.reduceMul, Nat.reduceLT, Nat.reduceLeDiff, pkT, pkU, tsC, true_and, List.append_eq, List.cons_append, List.nil_append, eq_self, decide_true, Bool.not_true, Bool.not_false, b_neq, b_eqs, hvf]
 refine run_loop (fun i : Nat => hdS [(0, .c (.sl (l.map tmC))), (1, i64 n), (6, v), (10, .c (tsC (closeF l))), (11, i64 i)] []) (fun i => (closeF l).length - i) (fun i => i ≤ (closeF l).length) 0 (Nat.zero_le _) ?_ ?_
 ·exact le_hd (by simp only [leOk, List.all_cons, List.all_nil, tts_ltB hv]; rfl) (Nat.zero_le _) (Nat.zero_le _) (by simp [FL, up_apply, tsC]) trivial
 rintro i hi R hnorm hexit hret
 simp -implicitDefEqProofs only [pkA, ptA, ↓reduceIte, Nat.reduceEqDiff, Nat.reduceAdd, Nat.reduceBEq, Nat.reduceMul, Nat.reduceLT, Nat.reduceLeDiff, pkT, pkU, tsC, true_and, List.append_eq, List.cons_append, List.nil_append, eq_self, decide_true, Bool.not_true, Bool.not_false, b_neq, b_eqs, hvf]
 refine vcond_of (fun hlt => ?_) (fun hge => ?_)
 ·have hlt : i < (closeF l).length := by simpa using hlt
  have hw2 := wrap_of (n := (i : Int) + 1) (k := i + 1) (by omega) (by omega)
  have hx := List.getElem_mem hlt
  have hs2 := sizeL_mem hx
  obtain ⟨w, hw, hwx⟩ := ((closeF_iff hvl).1 hx).loc rfl
  have hhas := RHas_ok (G := glT) A (closeF l)[i] (by omega) (by omega)
  rw [decide_eq_true (hall _ (subsL_mem.2 ⟨w, hw, hwx⟩))] at hhas
  simp -implicitDefEqProofs only [pkA, ptA, ↓reduceIte, Nat.reduceEqDiff, Nat.reduceAdd, Nat.reduceBEq, Nat.reduceMul, Nat.reduceLT, Nat.reduceLeDiff, pkT, pkU, tsC, true_and, List.append_eq, List.cons_append, List.nil_append, eq_self, decide_true, Bool.not_true, Bool.not_false, b_neq, b_eqs, hvf]
  refine ia_of ti_22 rfl ti_24 (by decide) (Int.natCast_nonneg i) (c := tmC (closeF l)[i]) (by simp [hlt]) (tmC_len _) ?_
  simp -implicitDefEqProofs only [pkA, ptA, ↓reduceIte, Nat.reduceEqDiff, Nat.reduceAdd, Nat.reduceBEq, Nat.reduceMul, Nat.reduceLT, Nat.reduceLeDiff, pkT, pkU, tsC, true_and, List.append_eq, List.cons_append, List.nil_append, eq_self, decide_true, Bool.not_true, Bool.not_false, b_neq, b_eqs, hvf, ld_24 (tmC_len _)]
  refine call_fn rfl (hhas) (by first | exact (fun h => by cases h) | exact fun _ => rfl) ?_
  simp -implicitDefEqProofs only [pkA, ptA, ↓reduceIte, Nat.reduceEqDiff, Nat.reduceAdd, Nat.reduceBEq, Nat.reduceMul, Nat.reduceLT, Nat.reduceLeDiff, pkT, pkU, tsC, true_and, List.append_eq, List.cons_append, List.nil_append, eq_self, decide_true, Bool.not_true, Bool.not_false, b_neq, b_eqs, hvf]
  refine hnorm (i + 1) _ hlt (by omega) (le_hd (by simp only [leOk, List.all_cons, List.all_nil, tts_ltB hv]; rfl) (Nat.zero_le _) (Nat.zero_le _) (by simp [FL, up_apply, hw2, tsC]) trivial)
 simp -implicitDefEqProofs only [pkA, ptA, ↓reduceIte, Nat.reduceEqDiff, Nat.reduceAdd, Nat.reduceBEq, Nat.reduceMul, Nat.reduceLT, Nat.reduceLeDiff, pkT, pkU, tsC, true_and, List.append_eq, List.cons_append, List.nil_append, eq_self, decide_true, Bool.not_true, Bool.not_false, b_neq, b_eqs, hvf]
 refine hexit _ _ ?_
 clear hnorm hexit hret hge hi
 have hkn := KnowsN_ok l (keyF n) hvl (by omega) hvk (by simp only [keyF, sizeT, sizeL]; omega)
 have hhas := RHas_ok (G := glT) A (keyF n) (by omega) (by simp only [keyF, sizeT, sizeL]; omega)
 simp -implicitDefEqProofs only [pkA, ptA, ↓reduceIte, Nat.reduceEqDiff, Nat.reduceAdd, Nat.reduceBEq, Nat.reduceMul, Nat.reduceLT, Nat.reduceLeDiff, pkT, pkU, tsC, true_and, List.append_eq, List.cons_append, List.nil_append, eq_self, decide_true, Bool.not_true, Bool.not_false, b_neq, b_eqs, hvf]
 refine call_fn rfl (key_ok n) (by first | exact (fun h => by cases h) | exact fun _ => rfl) ?_
 simp -implicitDefEqProofs only [pkA, ptA, ↓reduceIte, Nat.reduceEqDiff, Nat.reduceAdd, Nat.reduceBEq, Nat.reduceMul, Nat.reduceLT, Nat.reduceLeDiff, pkT, pkU, tsC, true_and, List.append_eq, List.cons_append, List.nil_append, eq_self, decide_true, Bool.not_true, Bool.not_false, b_neq, b_eqs, hvf]
 by_cases hmem : keyF n ∈ A
 ·rw [decide_eq_true hmem] at hhas
  refine call_fn rfl (hhas) (by first | exact (fun h => by cases h) | exact fun _ => rfl) ?_
  simp -implicitDefEqProofs only [pkA, ptA, ↓reduceIte, Nat.reduceEqDiff, Nat.reduceAdd, Nat.reduceBEq, Nat.reduceMul, Nat.reduceLT, Nat.reduceLeDiff, pkT, pkU, tsC, true_and, List.append_eq, List.cons_append, List.nil_append, eq_self, decide_true, Bool.not_true, Bool.not_false, b_neq, b_eqs, hvf]
  refine call_fn rfl (sanity_ok) (by first | exact (fun h => by cases h) | exact fun _ => rfl) ?_
  simp -implicitDefEqProofs only [pkA, ptA, ↓reduceIte, Nat.reduceEqDiff, Nat.reduceAdd, Nat.reduceBEq, Nat.reduceMul, Nat.reduceLT, Nat.reduceLeDiff, pkT, pkU, tsC, true_and, List.append_eq, List.cons_append, List.nil_append, eq_self, decide_true, Bool.not_true, Bool.not_false, b_neq, b_eqs, hvf]
 ·rw [decide_eq_false hmem] at hhas
  have hno : knT l (keyF n) = false := by
   cases h : knT l (keyF n) with
   | false => rfl
   | true =>
    obtain ⟨w, hw, hwx⟩ := ((knT_iff hvl).1 h).key.loc rfl
    exact absurd (hall _ (subsL_mem.2 ⟨w, hw, hwx⟩)) hmem
  rw [hno] at hkn
  refine call_fn rfl (hhas) (by first | exact (fun h => by cases h) | exact fun _ => rfl) ?_
  simp -implicitDefEqProofs only [pkA, ptA, ↓reduceIte, Nat.reduceEqDiff, Nat.reduceAdd, Nat.reduceBEq, Nat.reduceMul, Nat.reduceLT, Nat.reduceLeDiff, pkT, pkU, tsC, true_and, List.append_eq, List.cons_append, List.nil_append, eq_self, decide_true, Bool.not_true, Bool.not_false, b_neq, b_eqs, hvf]
  refine call_fn rfl (sanity_ok) (by first | exact (fun h => by cases h) | exact fun _ => rfl) ?_
  simp -implicitDefEqProofs only [pkA, ptA, ↓reduceIte, Nat.reduceEqDiff, Nat.reduceAdd, Nat.reduceBEq, Nat.reduceMul, Nat.reduceLT, Nat.reduceLeDiff, pkT, pkU, tsC, true_and, List.append_eq, List.cons_append, List.nil_append, eq_self, decide_true, Bool.not_true, Bool.not_false, b_neq, b_eqs, hvf]
  refine call_fn rfl (key_ok n) (by first | exact (fun h => by cases h) | exact fun _ => rfl) ?_
  simp -implicitDefEqProofs only [pkA, ptA, ↓reduceIte, Nat.reduceEqDiff, Nat.reduceAdd, Nat.reduceBEq, Nat.reduceMul, Nat.reduceLT, Nat.reduceLeDiff, pkT, pkU, tsC, true_and, List.append_eq, List.cons_append, List.nil_append, eq_self, decide_true, Bool.not_true, Bool.not_false, b_neq, b_eqs, hvf]
  refine call_fn rfl (hkn) (by first | exact (fun h => by cases h) | exact fun _ => rfl) ?_
  simp -implicitDefEqProofs only [pkA, ptA, ↓reduceIte, Nat.reduceEqDiff, Nat.reduceAdd, Nat.reduceBEq, Nat.reduceMul, Nat.reduceLT, Nat.reduceLeDiff, pkT, pkU, tsC, true_and, List.append_eq, List.cons_append, List.nil_append, eq_self, decide_true, Bool.not_true, Bool.not_false, b_neq, b_eqs, hvf]
