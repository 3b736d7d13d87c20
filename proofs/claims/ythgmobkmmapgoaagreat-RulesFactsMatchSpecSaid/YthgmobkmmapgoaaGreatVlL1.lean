/- Layer 17: the law RulesFactsMatchSpec, as a contract. -/
import Derived.Test.YthgmobkmmapgoaaGreatVlS2
set_option linter.unusedSimpArgs false
set_option linter.unusedVariables false
namespace Go.Proofs.YthgmobkmmapgoaaGreat
open Go Go.Vl

variable {G : Gl}
set_option maxRecDepth 10000

theorem lok_po {p : Pol} {nb q : Nat} {K : V → Prop} : ldA nb q ((poC p).map .c) 0 4 K = (q < nb ∧ K (.agg (poC p))) := by
  unfold ldA
  exact propext ⟨fun h => ⟨h.1, h.2.2⟩, fun h => ⟨h.1, ⟨rfl, rfl⟩, h.2⟩⟩
theorem isMb_po {p : Pol} : isMb ((poC p).map V.c) = false := rfl
theorem lenFs {l : List Fa} {K : V → Prop} : vlen Tryz.prog 27 (.c (fsC l)) K = K (i64 l.length) := by unfold fsC; rw [len_27, List.length_map]
theorem pkW1 : type_of% (And.intro @pkI (And.intro @lok_po (And.intro @isMb_po (@lenFs)))) := And.intro @pkI (And.intro @lok_po (And.intro @isMb_po (@lenFs)))

set_option maxHeartbeats 4000000 in
theorem lawFacts_ok (p : Pol) (l : List Fa) (f : Fa) : FnOK Tryz.prog G 3 [.agg (poC p), .c (fsC l), .agg (faC f)] (bo true) := by
  refine FnOK_by (rs := [.tmp 6]) false [] mixed Tryz.func3 rfl rfl rfl rfl (by kernel_rfl) (by simp) rfl rfl ?_
  simp -implicitDefEqProofs only [pkA, ptA, ↓reduceIte, Nat.reduceEqDiff, Nat.reduceAdd, Nat.reduceBEq, Nat.reduceMul, Nat.reduceLT, Nat.reduceLeDiff, pkW1, true_and]
  refine call_fn rfl sanity_ok (fun _ => rfl) ?_
  simp -implicitDefEqProofs only [pkA, ptA, ↓reduceIte, Nat.reduceEqDiff, Nat.reduceAdd, Nat.reduceBEq, Nat.reduceMul, Nat.reduceLT, Nat.reduceLeDiff, pkW1, true_and, List.length_map]
  cases h1 : decide ((40 : Int) < p.types.length)
  · have h1 : p.types.length ≤ 40 := by simp at h1; omega
    cases h2 : decide ((60 : Int) < l.length)
    · have h2' : l.length ≤ 60 := by simp at h2; omega
      simp -implicitDefEqProofs only [pkA, ptA, ↓reduceIte, Nat.reduceEqDiff, Nat.reduceAdd, Nat.reduceBEq, Nat.reduceMul, Nat.reduceLT, Nat.reduceLeDiff, pkW1, true_and, h2]
      refine run_loop (fun i : Nat => hdS [(1, .c (fsC l)), (3, .bp 0 0), (5, .bp 1 0), (7, bo true), (8, i64 i)] [(poC p).map .c, (faC f).map .c]) (fun i => l.length - i) (fun i => i ≤ l.length) 0 (Nat.zero_le _) ?_ ?_
      · exact le_hd (by simp only [leOk, List.all_cons, List.all_nil, all_ltB_c, List.length_cons, List.length_nil]; rfl) (Nat.zero_le _) (Nat.le_refl _) (by simp [FL, up_apply]) (by simp [BL, up_apply])
      rintro i hi R hnorm hexit hret
      simp -implicitDefEqProofs only [pkA, ptA, ↓reduceIte, Nat.reduceEqDiff, Nat.reduceAdd, Nat.reduceBEq, Nat.reduceMul, Nat.reduceLT, Nat.reduceLeDiff, pkW1, true_and]
      refine vcond_of (fun hlt => ?_) (fun hge => ?_)
      · have hlt : i < l.length := by simpa using hlt
        have hw := wrap_of (n := (i : Int) + 1) (k := i + 1) (by omega) (by omega)
        simp -implicitDefEqProofs only [pkA, ptA, ↓reduceIte, Nat.reduceEqDiff, Nat.reduceAdd, Nat.reduceBEq, Nat.reduceMul, Nat.reduceLT, Nat.reduceLeDiff, pkW1, true_and]
        refine ia_of ti_27 rfl ti_29 (by decide) (Int.natCast_nonneg i) (c := faC l[i]) (by simp [hlt]) rfl ?_
        simp -implicitDefEqProofs only [pkA, ptA, ↓reduceIte, Nat.reduceEqDiff, Nat.reduceAdd, Nat.reduceBEq, Nat.reduceMul, Nat.reduceLT, Nat.reduceLeDiff, pkW1, true_and]
        refine call_fn rfl (Compare_ok l[i] f) (fun _ => rfl) ?_
        simp -implicitDefEqProofs only [pkA, ptA, ↓reduceIte, Nat.reduceEqDiff, Nat.reduceAdd, Nat.reduceBEq, Nat.reduceMul, Nat.reduceLT, Nat.reduceLeDiff, pkW1, true_and]
        refine ia_of ti_27 rfl ti_29 (by decide) (Int.natCast_nonneg i) (c := faC l[i]) (by simp [hlt]) rfl ?_
        simp -implicitDefEqProofs only [pkA, ptA, ↓reduceIte, Nat.reduceEqDiff, Nat.reduceAdd, Nat.reduceBEq, Nat.reduceMul, Nat.reduceLT, Nat.reduceLeDiff, pkW1, true_and]
        refine call_fn rfl (rCompare_ok l[i] f) (fun _ => rfl) ?_
        simp -implicitDefEqProofs only [pkA, ptA, ↓reduceIte, Nat.reduceEqDiff, Nat.reduceAdd, Nat.reduceBEq, Nat.reduceMul, Nat.reduceLT, Nat.reduceLeDiff, pkW1, true_and, decide_true, Bool.not_true, hw]
        exact hnorm (i + 1) _ hlt (by omega) (le_hd (by simp only [leOk, List.all_cons, List.all_nil, all_ltB_c, List.length_cons, List.length_nil]; rfl) (Nat.zero_le _) (Nat.le_refl _) (by simp [FL, up_apply]) (by simp [BL, up_apply, bxs]))
      · have : i = l.length := by simp at hge; omega
        subst this
        simp -implicitDefEqProofs only [pkA, ptA, ↓reduceIte, Nat.reduceEqDiff, Nat.reduceAdd, Nat.reduceBEq, Nat.reduceMul, Nat.reduceLT, Nat.reduceLeDiff, pkW1, true_and]
        refine hexit _ _ ?_
        simp -implicitDefEqProofs only [pkA, ptA, ↓reduceIte, Nat.reduceEqDiff, Nat.reduceAdd, Nat.reduceBEq, Nat.reduceMul, Nat.reduceLT, Nat.reduceLeDiff, pkW1, true_and]
        refine call_fn rfl (Sorted_ok l (by omega)) (fun h => by cases h) ?_
        simp -implicitDefEqProofs only [pkA, ptA, ↓reduceIte, Nat.reduceEqDiff, Nat.reduceAdd, Nat.reduceBEq, Nat.reduceMul, Nat.reduceLT, Nat.reduceLeDiff, pkW1, true_and]
        refine call_fn rfl (rSorted_ok l (by omega)) (fun h => by cases h) ?_
        simp -implicitDefEqProofs only [pkA, ptA, ↓reduceIte, Nat.reduceEqDiff, Nat.reduceAdd, Nat.reduceBEq, Nat.reduceMul, Nat.reduceLT, Nat.reduceLeDiff, pkW1, true_and]
        have hsl := sortedF_len l
        refine call_fn rfl (Same_ok _ _ (by omega)) (fun _ => rfl) ?_
        simp -implicitDefEqProofs only [pkA, ptA, ↓reduceIte, Nat.reduceEqDiff, Nat.reduceAdd, Nat.reduceBEq, Nat.reduceMul, Nat.reduceLT, Nat.reduceLeDiff, pkW1, true_and]
        refine call_fn rfl (Bad_ok p (by omega)) (fun h => by cases h) ?_
        simp -implicitDefEqProofs only [pkA, ptA, ↓reduceIte, Nat.reduceEqDiff, Nat.reduceAdd, Nat.reduceBEq, Nat.reduceMul, Nat.reduceLT, Nat.reduceLeDiff, pkW1, true_and]
        refine call_fn rfl (rBad_ok p (by omega)) (fun h => by cases h) ?_
        simp -implicitDefEqProofs only [pkA, ptA, ↓reduceIte, Nat.reduceEqDiff, Nat.reduceAdd, Nat.reduceBEq, Nat.reduceMul, Nat.reduceLT, Nat.reduceLeDiff, pkW1, true_and]
        have hbl := badL_len p p.types.length
        have hbs := sortedF_len (badL p p.types.length)
        refine call_fn rfl (Same_ok _ _ (by unfold badF; omega)) (fun _ => rfl) ?_
        have e1 : decide (sortedF l = insL l) = true := decide_eq_true (sortedF_eq l)
        have e2 : decide (badF p = rbadL p p.types.length) = true := decide_eq_true (bad_eq p)
        simp -implicitDefEqProofs only [pkA, ptA, ↓reduceIte, Nat.reduceEqDiff, Nat.reduceAdd, Nat.reduceBEq, Nat.reduceMul, Nat.reduceLT, Nat.reduceLeDiff, pkW1, true_and, e1, e2]
        refine call_fn rfl (Valid_ok p f) (fun _ => rfl) ?_
        simp -implicitDefEqProofs only [pkA, ptA, ↓reduceIte, Nat.reduceEqDiff, Nat.reduceAdd, Nat.reduceBEq, Nat.reduceMul, Nat.reduceLT, Nat.reduceLeDiff, pkW1, true_and, e1, e2]
        refine call_fn rfl (rValid_ok p f) (fun _ => rfl) ?_
        simp -implicitDefEqProofs only [pkA, ptA, ↓reduceIte, Nat.reduceEqDiff, Nat.reduceAdd, Nat.reduceBEq, Nat.reduceMul, Nat.reduceLT, Nat.reduceLeDiff, pkW1, true_and, e1, e2, beq_self_eq_true]
    · simp -implicitDefEqProofs only [pkA, ptA, ↓reduceIte, Nat.reduceEqDiff, Nat.reduceAdd, Nat.reduceBEq, Nat.reduceMul, Nat.reduceLT, Nat.reduceLeDiff, pkW1, true_and, h2]
  · simp -implicitDefEqProofs only [pkA, ptA, ↓reduceIte, Nat.reduceEqDiff, Nat.reduceAdd, Nat.reduceBEq, Nat.reduceMul, Nat.reduceLT, Nat.reduceLeDiff, pkW1, true_and, h1]
end Go.Proofs.YthgmobkmmapgoaaGreat
