/- Layer 15: the specification's Close, Knows. -/
import Derived.Test.YtkbkajabchhbeaaDoorVlT9
set_option linter.unusedSimpArgs false
set_option linter.unusedVariables false
namespace Go.Proofs.YtkbkajabchhbeaaDoor
open Go Go.Vl
variable {G : Gl}
set_option maxRecDepth 4000
def closeN : Nat → List Tm → List Tm
 | 0, o => o
 | n + 1, o => if (roundT o).length = o.length then o else closeN n (roundT o)
def closeF (I : List Tm) : List Tm := closeN (sizeL I + 1) (sortT I)
theorem closeN_ok {I : List Tm} (hv : ∀ t ∈ I, validT t = true) : ∀ (n : Nat) (o : List Tm), CloS I o → sizeL I < n + o.length → CloS I (closeN n o) ∧ ClosedT (closeN n o)
 | 0, o, h, hn => by have := cloS_len h; omega
 | n + 1, o, h, hn => by
  unfold closeN
  split
  ·rename_i he; exact ⟨h, cloS_end h he⟩
  ·rename_i he
   have hr := cloS_round hv h
   have hle : o.length ≤ (roundT o).length := nodup_len h.st.nodup fun x hx => ((round_mem h.st).2 x).2 (.inl hx)
   exact closeN_ok hv n _ hr (by omega)
theorem closeF_ok {I : List Tm} (hv : ∀ t ∈ I, validT t = true) : CloS I (closeF I) ∧ ClosedT (closeF I) := closeN_ok hv _ _ (cloS_start I) (by omega)
theorem clo_small {I out : List Tm} (hv : ∀ t ∈ I, validT t = true) (hs : StT out) (hk : ∀ t ∈ out, Kn I false t) : out.length ≤ sizeL I ∧ sizeL out ≤ sizeL I * sizeL I ∧ (∀ t ∈ out, validT t = true) ∧ ∀ t ∈ out, sizeT t ≤ sizeL I := by
 have hsub : ∀ x ∈ out, ∃ u ∈ I, x ∈ subsT u := fun x hx => (hk x hx).loc rfl
 have h1 : out.length ≤ sizeL I := by
  have := nodup_len hs.nodup (m := subsL I) fun x hx => subsL_mem.2 (hsub x hx)
  have e : (subsL I).length = sizeL I := by
   clear hsub this hk hv
   induction I with
   | nil => rfl
   | cons t l ih => simp only [subsL, sizeL, List.length_append, subs_len, ih]
  omega
 have h2 : ∀ x ∈ out, sizeT x ≤ sizeL I := fun x hx => by
  obtain ⟨u, hu, h⟩ := hsub x hx
  have := subs_size u x h
  have := sizeL_mem hu
  omega
 refine ⟨h1, Nat.le_trans (sizeL_bound h2) (Nat.mul_le_mul_right _ h1), fun t ht => ?_, h2⟩
 obtain ⟨u, hu, h⟩ := hsub t ht
 exact subs_valid u (hv u hu) t h
theorem two_of {t : Tm} (hv : validT t = true) (hk : t.kind = 3 ∨ t.kind = 4) : ∃ a b, t = .mk t.kind t.n [a, b] := by
 obtain ⟨k, n, l⟩ := t
 have hk : k = 3 ∨ k = 4 := hk
 have := (valid_parts hv).2.2.1
 have h2 : l.length = 2 := by rcases hk with rfl | rfl <;> simp [arityI] at this <;> omega
 match l, h2 with
 | [a, b], _ => exact ⟨a, b, rfl⟩
theorem openT_two {out next : List Tm} {k n : Int} {a b : Tm} : openT out next (.mk k n [a, b]) = if decide (k = 3 ∨ k = 4) = true ∧ builtT (inP out) a = true then putT next b else next := rfl
theorem openT_no {out next : List Tm} {t : Tm} (hk : ¬ (t.kind = 3 ∨ t.kind = 4)) : openT out next t = next := by
 obtain ⟨k, n, l⟩ := t
 have hk' : ¬ (k = 3 ∨ k = 4) := hk
 clear hk
 match l with
 | [] => rfl
 | [_] => rfl
 | a :: b :: r => exact if_neg fun h => hk' (of_decide_eq_true h.1)
theorem openL_kn {I out : List Tm} (hv : ∀ t ∈ I, validT t = true) (h : CloS I out) (j : Nat) : StT ((out.take j).foldl (openT out) out) ∧ ∀ t ∈ (out.take j).foldl (openT out) out, Kn I false t := by
 obtain ⟨h1, h2⟩ := openL (out := out) (out.take j) h.st
 refine ⟨h1, fun t ht => ?_⟩
 rcases (h2 t).1 ht with ht | ⟨u, hu, k, n, a, b, r, rfl, hk, hb, rfl⟩
 ·exact h.kn t ht
 ·refine (cloS_round hv h).kn _ ((round_mem h.st).2 _ |>.2 (.inr ⟨_, List.mem_of_mem_take hu, k, n, a, _, r, rfl, hk, hb, rfl⟩))
set_option maxHeartbeats 16000000 in
theorem RClose_ok (I : List Tm) (hv : ∀ t ∈ I, validT t = true) (hs : sizeL I ≤ 20000) : FnOK Tryd.prog G 26 [.c (tsC I)] (.c (tsC (closeF I))) := by
 have hll := sizeL_len I
 have hq : sizeL I * sizeL I ≤ 20000 * 20000 := Nat.mul_le_mul hs hs
 refine FnOK_by (rs := [.tmp 2]) true [] mixed Tryd.func26 rfl rfl rfl rfl (by kernel_rfl) (by simp) rfl rfl ?_
 simp -implicitDefEqProofs only [pkA, ptA, ↓reduceIte, Nat.reduceEqDiff, Nat.reduceAdd, Nat.reduceBEq, Nat.reduceMul, Nat.reduceLT, Nat.reduceLeDiff, pkT, true_and, tsC]
 refine run_loop (fun q : Nat × V => hdS [(0, .c (.sl (I.map tmC))), (3, q.2), (4, i64 q.1)] []) (fun q => I.length - q.1) (fun q => q.1 ≤ I.length ∧ (q.2 = owT (putAll [] (I.take q.1)) ∨ q.2 = .c (tsC (putAll [] (I.take q.1))))) (0, owT []) ⟨Nat.zero_le _, .inl rfl⟩ ?_ ?_
 ·exact le_hd rfl (Nat.zero_le _) (Nat.le_refl _) (by simp [FL, up_apply, owT]) trivial
 rintro ⟨i, v⟩ ⟨hi, hvv⟩ R hnorm hexit hret
 simp only at hi hvv hnorm
 have hvf := tts_fz hvv
 simp -implicitDefEqProofs only [pkA, ptA, ↓reduceIte, Nat.reduceEqDiff, Nat.reduceAdd, Nat.reduceBEq, Nat.reduceMul, Nat.reduceLT, Nat.reduceLeDiff, pkT, true_and, tsC, hvf]
 refine vcond_of (fun hlt => ?_) (fun hge => ?_)
 ·have hlt : i < I.length := by simpa using hlt
  have hw2 := wrap_of (n := (i : Int) + 1) (k := i + 1) (by omega) (by omega)
  have hput : sizeL (putAll [] (I.take i)) ≤ 900000000 := by
   have hst : StT (putAll [] (I.take i)) := sortT_sorted (I.take i)
   have hk : ∀ t ∈ putAll [] (I.take i), Kn I false t := fun t ht => .item (List.mem_of_mem_take (sortT_mem.1 ht))
   have := (clo_small hv hst hk).2.1
   omega
  have hti := sizeL_mem (List.getElem_mem hlt)
  have hpt := putAll_take (out := []) hlt
  simp -implicitDefEqProofs only [pkA, ptA, ↓reduceIte, Nat.reduceEqDiff, Nat.reduceAdd, Nat.reduceBEq, Nat.reduceMul, Nat.reduceLT, Nat.reduceLeDiff, pkT, true_and, tsC, hvf]
  refine ia_of ti_22 rfl ti_24 (by decide) (Int.natCast_nonneg i) (c := tmC I[i]) (by simp [hlt]) (tmC_len _) ?_
  simp -implicitDefEqProofs only [pkA, ptA, ↓reduceIte, Nat.reduceEqDiff, Nat.reduceAdd, Nat.reduceBEq, Nat.reduceMul, Nat.reduceLT, Nat.reduceLeDiff, pkT, true_and, tsC, hvf, ld_24 (tmC_len _)]
  refine call_fn rfl (RPut_ok (putAll [] (I.take i)) I[i] hput (by omega)) (fun h => by cases h) ?_
  simp -implicitDefEqProofs only [pkA, ptA, ↓reduceIte, Nat.reduceEqDiff, Nat.reduceAdd, Nat.reduceBEq, Nat.reduceMul, Nat.reduceLT, Nat.reduceLeDiff, pkT, true_and, tsC, hvf]
  refine hnorm (i + 1, .c (tsC (putAll [] (I.take (i + 1))))) _ ⟨hlt, .inr rfl⟩ (by simp only; omega) (le_hd rfl (Nat.zero_le _) (Nat.zero_le _) ?_ trivial)
  simp [FL, up_apply, hw2, hpt, tsC]
 have : i = I.length := by simp at hge; omega
 subst this
 rw [List.take_length] at hvv
 have hstart : putAll [] I = sortT I := rfl
 rw [hstart] at hvv
 clear hvf hnorm
 simp -implicitDefEqProofs only [pkA, ptA, ↓reduceIte, Nat.reduceEqDiff, Nat.reduceAdd, Nat.reduceBEq, Nat.reduceMul, Nat.reduceLT, Nat.reduceLeDiff, pkT, true_and, tsC]
 refine hexit _ _ ?_
 simp -implicitDefEqProofs only [pkA, ptA, ↓reduceIte, Nat.reduceEqDiff, Nat.reduceAdd, Nat.reduceBEq, Nat.reduceMul, Nat.reduceLT, Nat.reduceLeDiff, pkT, true_and, tsC]
 refine run_loop (fun q : List Tm × V × Nat => hdS [(3, q.2.1)] []) (fun q => q.2.2) (fun q => CloS I q.1 ∧ (q.2.1 = owT q.1 ∨ q.2.1 = .c (tsC q.1)) ∧ closeF I = closeN q.2.2 q.1 ∧ sizeL I < q.2.2 + q.1.length) (sortT I, v, sizeL I + 1) ⟨cloS_start I, hvv, rfl, by simp only; omega⟩ ?_ ?_
 ·exact le_hd (by simp only [leOk, List.all_cons, List.all_nil, tts_ltB hvv]; rfl) (Nat.zero_le _) (Nat.le_refl _) (by simp [FL, up_apply]) trivial
 clear hvv hexit hret
 rintro ⟨out, v, n⟩ ⟨hC, hvv, hcl, hn⟩ R2 hnorm hexit hret
 simp only at hC hvv hcl hn hnorm
 have hvf := tts_fz hvv
 obtain ⟨k1, k2, k3, k4⟩ := clo_small hv hC.st hC.kn
 simp -implicitDefEqProofs only [pkA, ptA, ↓reduceIte, Nat.reduceEqDiff, Nat.reduceAdd, Nat.reduceBEq, Nat.reduceMul, Nat.reduceLT, Nat.reduceLeDiff, pkT, true_and, tsC, hvf]
 refine run_loop (fun j : Nat => hdS [(3, v), (5, .c (.sl (((out.take j).foldl (openT out) out).map tmC))), (6, i64 j)] []) (fun j => out.length - j) (fun j => j ≤ out.length) 0 (Nat.zero_le _) ?_ ?_
 ·exact le_hd (by simp only [leOk, List.all_cons, List.all_nil, tts_ltB hvv]; rfl) (Nat.zero_le _) (Nat.le_refl _) (by simp [FL, up_apply]) trivial
 intro j hj R3 hnorm3 hexit3 hret3
 simp -implicitDefEqProofs only [pkA, ptA, ↓reduceIte, Nat.reduceEqDiff, Nat.reduceAdd, Nat.reduceBEq, Nat.reduceMul, Nat.reduceLT, Nat.reduceLeDiff, pkT, true_and, tsC, hvf]
 refine vcond_of (fun hlt => ?_) (fun hge => ?_)
 ·have hlt : j < out.length := by simpa using hlt
  have hw2 := wrap_of (n := (j : Int) + 1) (k := j + 1) (by omega) (by omega)
  have hvj := k3 _ (List.getElem_mem hlt)
  have hsj := k4 _ (List.getElem_mem hlt)
  obtain ⟨o1, o2⟩ := openL_kn hv hC j
  obtain ⟨o3, o4, _, _⟩ := clo_small hv o1 o2
  have hstep : (out.take (j + 1)).foldl (openT out) out = openT out ((out.take j).foldl (openT out) out) out[j] := by
   rw [List.take_succ_eq_append_getElem hlt, List.foldl_append]; rfl
  have ia : ∀ K, K (.c (.rp (tmC out[j]) 0)) → vindexAddr Tryd.prog 22 (.c (.sl (out.map tmC))) (i64 (j : Int)) K := fun K hK =>
   ia_of ti_22 rfl ti_24 (by decide) (Int.natCast_nonneg j) (c := tmC out[j]) (by simp [hlt]) (tmC_len _) hK
  simp -implicitDefEqProofs only [pkA, ptA, ↓reduceIte, Nat.reduceEqDiff, Nat.reduceAdd, Nat.reduceBEq, Nat.reduceMul, Nat.reduceLT, Nat.reduceLeDiff, pkT, true_and, tsC, hvf]
  refine ia _ ?_
  simp -implicitDefEqProofs only [pkA, ptA, ↓reduceIte, Nat.reduceEqDiff, Nat.reduceAdd, Nat.reduceBEq, Nat.reduceMul, Nat.reduceLT, Nat.reduceLeDiff, pkT, true_and, tsC, hvf]
  refine vgd_of (fun h3 => ?_) (fun h3 => ?_)
  ·simp -implicitDefEqProofs only [pkA, ptA, ↓reduceIte, Nat.reduceEqDiff, Nat.reduceAdd, Nat.reduceBEq, Nat.reduceMul, Nat.reduceLT, Nat.reduceLeDiff, pkT, true_and, tsC, hvf]
   refine ia _ ?_
   simp -implicitDefEqProofs only [pkA, ptA, ↓reduceIte, Nat.reduceEqDiff, Nat.reduceAdd, Nat.reduceBEq, Nat.reduceMul, Nat.reduceLT, Nat.reduceLeDiff, pkT, true_and, tsC, hvf]
   refine vcond_of (fun h4 => ?_) (fun h4 => ?_)
   ·have hk : out[j].kind = 4 := by simpa using h4
    simp -implicitDefEqProofs only [pkA, ptA, ↓reduceIte, Nat.reduceEqDiff, Nat.reduceAdd, Nat.reduceBEq, Nat.reduceMul, Nat.reduceLT, Nat.reduceLeDiff, pkT, true_and, tsC, hvf]
    obtain ⟨a, b, hab⟩ := two_of hvj (by simp [hk])
    have eL : out[j].l = [a, b] := by rw [hab]; rfl
    have hopen : openT out ((out.take j).foldl (openT out) out) out[j] = if builtT (inP out) a = true then putT ((out.take j).foldl (openT out) out) b else (out.take j).foldl (openT out) out := by
     rw [hab, openT_two]; simp [hk]
    have hsab : sizeT a ≤ sizeT out[j] ∧ sizeT b ≤ sizeT out[j] := by rw [hab]; simp only [sizeT, sizeL]; omega
    have ia0 : ∀ K, K (.c (.rp (tmC a) 0)) → vindexAddr Tryd.prog 22 (.c (.sl (List.map tmC [a, b]))) (i64 0) K := fun K hK =>
     ia_of ti_22 rfl ti_24 (by decide) (by decide) (c := tmC a) rfl (tmC_len _) hK
    have ia1 : ∀ K, K (.c (.rp (tmC b) 0)) → vindexAddr Tryd.prog 22 (.c (.sl (List.map tmC [a, b]))) (i64 1) K := fun K hK =>
     ia_of ti_22 rfl ti_24 (by decide) (by decide) (c := tmC b) rfl (tmC_len _) hK
    refine ia _ ?_
    simp -implicitDefEqProofs only [pkA, ptA, ↓reduceIte, Nat.reduceEqDiff, Nat.reduceAdd, Nat.reduceBEq, Nat.reduceMul, Nat.reduceLT, Nat.reduceLeDiff, pkT, true_and, tsC, hvf, eL]
    refine ia0 _ ?_
    simp -implicitDefEqProofs only [pkA, ptA, ↓reduceIte, Nat.reduceEqDiff, Nat.reduceAdd, Nat.reduceBEq, Nat.reduceMul, Nat.reduceLT, Nat.reduceLeDiff, pkT, true_and, tsC, hvf, eL, ld_24 (tmC_len _)]
    refine call_fn rfl (RBuilt_ok out (by omega) a (by omega)) (fun h => by cases h) ?_
    simp -implicitDefEqProofs only [pkA, ptA, ↓reduceIte, Nat.reduceEqDiff, Nat.reduceAdd, Nat.reduceBEq, Nat.reduceMul, Nat.reduceLT, Nat.reduceLeDiff, pkT, true_and, tsC, hvf, eL]
    refine vcond_of (fun hb => ?_) (fun hb => ?_)
    ·rw [if_pos hb] at hopen
     simp -implicitDefEqProofs only [pkA, ptA, ↓reduceIte, Nat.reduceEqDiff, Nat.reduceAdd, Nat.reduceBEq, Nat.reduceMul, Nat.reduceLT, Nat.reduceLeDiff, pkT, true_and, tsC, hvf, eL]
     refine ia _ ?_
     simp -implicitDefEqProofs only [pkA, ptA, ↓reduceIte, Nat.reduceEqDiff, Nat.reduceAdd, Nat.reduceBEq, Nat.reduceMul, Nat.reduceLT, Nat.reduceLeDiff, pkT, true_and, tsC, hvf, eL]
     refine ia1 _ ?_
     simp -implicitDefEqProofs only [pkA, ptA, ↓reduceIte, Nat.reduceEqDiff, Nat.reduceAdd, Nat.reduceBEq, Nat.reduceMul, Nat.reduceLT, Nat.reduceLeDiff, pkT, true_and, tsC, hvf, eL, ld_24 (tmC_len _)]
     refine call_fn rfl (RPut_ok ((out.take j).foldl (openT out) out) b (by omega) (by omega)) (fun h => by cases h) ?_
     simp -implicitDefEqProofs only [pkA, ptA, ↓reduceIte, Nat.reduceEqDiff, Nat.reduceAdd, Nat.reduceBEq, Nat.reduceMul, Nat.reduceLT, Nat.reduceLeDiff, pkT, true_and, tsC, hvf, eL]
     refine hnorm3 (j + 1) _ hlt (by omega) (le_hd (by simp only [leOk, List.all_cons, List.all_nil, tts_ltB hvv]; rfl) (Nat.zero_le _) (Nat.zero_le _) ?_ trivial)
     simp [FL, up_apply, hw2, hstep, hopen, tsC]
    ·rw [if_neg (by simp [hb])] at hopen
     simp -implicitDefEqProofs only [pkA, ptA, ↓reduceIte, Nat.reduceEqDiff, Nat.reduceAdd, Nat.reduceBEq, Nat.reduceMul, Nat.reduceLT, Nat.reduceLeDiff, pkT, true_and, tsC, hvf, eL]
     refine hnorm3 (j + 1) _ hlt (by omega) (le_hd (by simp only [leOk, List.all_cons, List.all_nil, tts_ltB hvv]; rfl) (Nat.zero_le _) (Nat.zero_le _) ?_ trivial)
     simp [FL, up_apply, hw2, hstep, hopen, tsC]
   ·have hk : ¬ (out[j].kind = 3 ∨ out[j].kind = 4) := by
     have h3 : ¬ out[j].kind = 3 := by simpa using h3
     have h4 : ¬ out[j].kind = 4 := by simpa using h4
     rintro (h | h)
     ·exact h3 h
     ·exact h4 h
    have hopen := openT_no (out := out) (next := (out.take j).foldl (openT out) out) hk
    simp -implicitDefEqProofs only [pkA, ptA, ↓reduceIte, Nat.reduceEqDiff, Nat.reduceAdd, Nat.reduceBEq, Nat.reduceMul, Nat.reduceLT, Nat.reduceLeDiff, pkT, true_and, tsC, hvf]
    refine hnorm3 (j + 1) _ hlt (by omega) (le_hd (by simp only [leOk, List.all_cons, List.all_nil, tts_ltB hvv]; rfl) (Nat.zero_le _) (Nat.zero_le _) ?_ trivial)
    simp [FL, up_apply, hw2, hstep, hopen]
  ·by_cases hk : out[j].kind = 3
   ·simp -implicitDefEqProofs only [pkA, ptA, ↓reduceIte, Nat.reduceEqDiff, Nat.reduceAdd, Nat.reduceBEq, Nat.reduceMul, Nat.reduceLT, Nat.reduceLeDiff, pkT, true_and, tsC, hvf]
    obtain ⟨a, b, hab⟩ := two_of hvj (by simp [hk])
    have eL : out[j].l = [a, b] := by rw [hab]; rfl
    have hopen : openT out ((out.take j).foldl (openT out) out) out[j] = if builtT (inP out) a = true then putT ((out.take j).foldl (openT out) out) b else (out.take j).foldl (openT out) out := by
     rw [hab, openT_two]; simp [hk]
    have hsab : sizeT a ≤ sizeT out[j] ∧ sizeT b ≤ sizeT out[j] := by rw [hab]; simp only [sizeT, sizeL]; omega
    have ia0 : ∀ K, K (.c (.rp (tmC a) 0)) → vindexAddr Tryd.prog 22 (.c (.sl (List.map tmC [a, b]))) (i64 0) K := fun K hK =>
     ia_of ti_22 rfl ti_24 (by decide) (by decide) (c := tmC a) rfl (tmC_len _) hK
    have ia1 : ∀ K, K (.c (.rp (tmC b) 0)) → vindexAddr Tryd.prog 22 (.c (.sl (List.map tmC [a, b]))) (i64 1) K := fun K hK =>
     ia_of ti_22 rfl ti_24 (by decide) (by decide) (c := tmC b) rfl (tmC_len _) hK
    refine ia _ ?_
    simp -implicitDefEqProofs only [pkA, ptA, ↓reduceIte, Nat.reduceEqDiff, Nat.reduceAdd, Nat.reduceBEq, Nat.reduceMul, Nat.reduceLT, Nat.reduceLeDiff, pkT, true_and, tsC, hvf, eL]
    refine ia0 _ ?_
    simp -implicitDefEqProofs only [pkA, ptA, ↓reduceIte, Nat.reduceEqDiff, Nat.reduceAdd, Nat.reduceBEq, Nat.reduceMul, Nat.reduceLT, Nat.reduceLeDiff, pkT, true_and, tsC, hvf, eL, ld_24 (tmC_len _)]
    refine call_fn rfl (RBuilt_ok out (by omega) a (by omega)) (fun h => by cases h) ?_
    simp -implicitDefEqProofs only [pkA, ptA, ↓reduceIte, Nat.reduceEqDiff, Nat.reduceAdd, Nat.reduceBEq, Nat.reduceMul, Nat.reduceLT, Nat.reduceLeDiff, pkT, true_and, tsC, hvf, eL]
    refine vcond_of (fun hb => ?_) (fun hb => ?_)
    ·rw [if_pos hb] at hopen
     simp -implicitDefEqProofs only [pkA, ptA, ↓reduceIte, Nat.reduceEqDiff, Nat.reduceAdd, Nat.reduceBEq, Nat.reduceMul, Nat.reduceLT, Nat.reduceLeDiff, pkT, true_and, tsC, hvf, eL]
     refine ia _ ?_
     simp -implicitDefEqProofs only [pkA, ptA, ↓reduceIte, Nat.reduceEqDiff, Nat.reduceAdd, Nat.reduceBEq, Nat.reduceMul, Nat.reduceLT, Nat.reduceLeDiff, pkT, true_and, tsC, hvf, eL]
     refine ia1 _ ?_
     simp -implicitDefEqProofs only [pkA, ptA, ↓reduceIte, Nat.reduceEqDiff, Nat.reduceAdd, Nat.reduceBEq, Nat.reduceMul, Nat.reduceLT, Nat.reduceLeDiff, pkT, true_and, tsC, hvf, eL, ld_24 (tmC_len _)]
     refine call_fn rfl (RPut_ok ((out.take j).foldl (openT out) out) b (by omega) (by omega)) (fun h => by cases h) ?_
     simp -implicitDefEqProofs only [pkA, ptA, ↓reduceIte, Nat.reduceEqDiff, Nat.reduceAdd, Nat.reduceBEq, Nat.reduceMul, Nat.reduceLT, Nat.reduceLeDiff, pkT, true_and, tsC, hvf, eL]
     refine hnorm3 (j + 1) _ hlt (by omega) (le_hd (by simp only [leOk, List.all_cons, List.all_nil, tts_ltB hvv]; rfl) (Nat.zero_le _) (Nat.zero_le _) ?_ trivial)
     simp [FL, up_apply, hw2, hstep, hopen, tsC]
    ·rw [if_neg (by simp [hb])] at hopen
     simp -implicitDefEqProofs only [pkA, ptA, ↓reduceIte, Nat.reduceEqDiff, Nat.reduceAdd, Nat.reduceBEq, Nat.reduceMul, Nat.reduceLT, Nat.reduceLeDiff, pkT, true_and, tsC, hvf, eL]
     refine hnorm3 (j + 1) _ hlt (by omega) (le_hd (by simp only [leOk, List.all_cons, List.all_nil, tts_ltB hvv]; rfl) (Nat.zero_le _) (Nat.zero_le _) ?_ trivial)
     simp [FL, up_apply, hw2, hstep, hopen, tsC]
   ·exact absurd (by simpa using h3) hk
 ·have : j = out.length := by simp at hge; omega
  subst this
  simp -implicitDefEqProofs only [pkA, ptA, ↓reduceIte, Nat.reduceEqDiff, Nat.reduceAdd, Nat.reduceBEq, Nat.reduceMul, Nat.reduceLT, Nat.reduceLeDiff, pkT, true_and, tsC, hvf]
  refine hexit3 _ _ ?_
  rw [List.take_length]
  have hround : out.foldl (openT out) out = roundT out := rfl
  rw [hround]
  simp -implicitDefEqProofs only [pkA, ptA, ↓reduceIte, Nat.reduceEqDiff, Nat.reduceAdd, Nat.reduceBEq, Nat.reduceMul, Nat.reduceLT, Nat.reduceLeDiff, pkT, true_and, tsC, hvf]
  refine vcond_of (fun heq => ?_) (fun hne => ?_)
  ·have heq : (roundT out).length = out.length := by simp at heq; omega
   simp -implicitDefEqProofs only [pkA, ptA, ↓reduceIte, Nat.reduceEqDiff, Nat.reduceAdd, Nat.reduceBEq, Nat.reduceMul, Nat.reduceLT, Nat.reduceLeDiff, pkT, true_and, tsC, hvf]
   refine hret _ ?_
   simp -implicitDefEqProofs only [pkA, ptA, ↓reduceIte, Nat.reduceEqDiff, Nat.reduceAdd, Nat.reduceBEq, Nat.reduceMul, Nat.reduceLT, Nat.reduceLeDiff, pkT, true_and, tsC, hvf]
   have hcl2 : closeF I = out := by
    rw [hcl]
    cases n with
    | zero => rfl
    | succ n => unfold closeN; rw [if_pos heq]
   rw [hcl2]; rfl
  ·have hne : ¬ (roundT out).length = out.length := fun h => by rw [List.length_map, List.length_map, h] at hne; simp at hne
   have hr := cloS_round hv hC
   have hle : out.length ≤ (roundT out).length := nodup_len hC.st.nodup fun x hx => ((round_mem hC.st).2 x).2 (.inl hx)
   obtain ⟨m, rfl⟩ : ∃ m, n = m + 1 := by
    cases n with
    | zero => omega
    | succ m => exact ⟨m, rfl⟩
   have hcl2 : closeF I = closeN m (roundT out) := by rw [hcl]; show (if _ then _ else _) = _; rw [if_neg hne]
   simp -implicitDefEqProofs only [pkA, ptA, ↓reduceIte, Nat.reduceEqDiff, Nat.reduceAdd, Nat.reduceBEq, Nat.reduceMul, Nat.reduceLT, Nat.reduceLeDiff, pkT, true_and, tsC, hvf]
   refine hnorm (roundT out, .c (tsC (roundT out)), m) _ ⟨hr, .inr rfl, hcl2, by simp only; omega⟩ (by simp only; omega) (le_hd rfl (Nat.zero_le _) (Nat.zero_le _) ?_ trivial)
   simp [FL, up_apply, tsC]
theorem RKnows_ok (I : List Tm) (t : Tm) (hv : ∀ t ∈ I, validT t = true) (hs : sizeL I ≤ 20000) (ht : sizeT t ≤ 900000000) : FnOK Tryd.prog G 28 [.c (tsC I), .agg (tmC t)] (bo (builtT (inP (closeF I)) t)) := by
 have hq : sizeL I * sizeL I ≤ 20000 * 20000 := Nat.mul_le_mul hs hs
 obtain ⟨hC, _⟩ := closeF_ok hv
 obtain ⟨k1, k2, k3, k4⟩ := clo_small hv hC.st hC.kn
 refine FnOK_by (rs := [.tmp 4]) false [] mixed Tryd.func28 rfl rfl rfl rfl (by kernel_rfl) (by simp) rfl rfl ?_
 simp -implicitDefEqProofs only [pkA, ptA, ↓reduceIte, Nat.reduceEqDiff, Nat.reduceAdd, Nat.reduceBEq, Nat.reduceMul, Nat.reduceLT, Nat.reduceLeDiff, pkT, true_and]
 refine call_fn rfl (RClose_ok I hv hs) (fun h => by cases h) ?_
 simp -implicitDefEqProofs only [pkA, ptA, ↓reduceIte, Nat.reduceEqDiff, Nat.reduceAdd, Nat.reduceBEq, Nat.reduceMul, Nat.reduceLT, Nat.reduceLeDiff, pkT, true_and]
 refine call_fn rfl (RBuilt_ok (closeF I) (by omega) t ht) (fun h => by cases h) ?_
 simp -implicitDefEqProofs only [pkA, ptA, ↓reduceIte, Nat.reduceEqDiff, Nat.reduceAdd, Nat.reduceBEq, Nat.reduceMul, Nat.reduceLT, Nat.reduceLeDiff, pkT, true_and]
