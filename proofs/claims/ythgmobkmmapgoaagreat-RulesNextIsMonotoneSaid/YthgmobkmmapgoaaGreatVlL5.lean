/- Layer 17: the law RulesNextIsMonotone, as a contract. -/
import Derived.Test.YthgmobkmmapgoaaGreatVlL4
set_option linter.unusedSimpArgs false
set_option linter.unusedVariables false
namespace Go.Proofs.YthgmobkmmapgoaaGreat
open Go Go.Vl

variable {G : Gl}
set_option maxRecDepth 10000

def owR (l : List Ru) : V := .ow (if l.isEmpty then none else some (55, 3)) (l.map ruC)
theorem owR_fz {l : List Ru} : (owR l).fz = .c (.sl (l.map ruC)) := rfl
theorem owR_ow {l : List Ru} : (owR l).isOw = true := rfl
theorem appR {l m : List Ru} {K : V → Prop} (h : l.length + m.length ≤ 1000000000) (hK : K (owR (l ++ m))) : vappend Tryz.prog 23 (owR l) (.c (.sl (m.map ruC))) K := by
  unfold owR
  rw [app_23]
  refine ⟨⟨by cases l <;> simp, len_map ruC_len _⟩, ⟨by simp only [List.length_map]; omega, by simp only [List.length_map]; omega, len_map ruC_len _⟩, ?_⟩
  have e : (if (m.map ruC).isEmpty = true then (if l.isEmpty = true then none else some (55, 3)) else some (55, 3)) = if (l ++ m).isEmpty = true then none else some (55, 3) := by
    cases l <;> cases m <;> simp
  rw [e, ← List.map_append]; exact hK

/-- The policy with one rule more. -/
def moreP (p : Pol) (r : Ru) : Pol := { p with rules := p.rules ++ [r] }

set_option maxHeartbeats 4000000 in
theorem lawMono_ok (p : Pol) (l m : List Fa) (r : Ru) : FnOK Tryz.prog G 6 [.agg (poC p), .c (fsC l), .c (fsC m), .agg (ruC r)] (bo true) := by
  refine FnOK_by (rs := [.tmp 8]) false [] mixed Tryz.func6 rfl rfl rfl rfl (by kernel_rfl) (by simp) rfl rfl ?_
  simp -implicitDefEqProofs only [pkA, ptA, ↓reduceIte, Nat.reduceEqDiff, Nat.reduceAdd, Nat.reduceBEq, Nat.reduceMul, Nat.reduceLT, Nat.reduceLeDiff, pkW2, true_and]
  refine call_fn rfl sanity_ok (fun _ => rfl) ?_
  simp -implicitDefEqProofs only [pkA, ptA, ↓reduceIte, Nat.reduceEqDiff, Nat.reduceAdd, Nat.reduceBEq, Nat.reduceMul, Nat.reduceLT, Nat.reduceLeDiff, pkW2, true_and]
  refine call_fn rfl (Small_ok p) (fun _ => rfl) ?_
  cases hs : (decide ((p.types.length : Int) ≤ 7) && decide ((p.rules.length : Int) ≤ 14))
  · simp -implicitDefEqProofs only [pkA, ptA, ↓reduceIte, Nat.reduceEqDiff, Nat.reduceAdd, Nat.reduceBEq, Nat.reduceMul, Nat.reduceLT, Nat.reduceLeDiff, pkW2, true_and, Bool.not_false]
  · have hs : (p.types.length : Int) ≤ 7 ∧ (p.rules.length : Int) ≤ 14 := by simpa using hs
    have hs1 : p.types.length ≤ 7 := by omega
    have hs2 : p.rules.length ≤ 14 := by omega
    simp -implicitDefEqProofs only [pkA, ptA, ↓reduceIte, Nat.reduceEqDiff, Nat.reduceAdd, Nat.reduceBEq, Nat.reduceMul, Nat.reduceLT, Nat.reduceLeDiff, pkW2, true_and, Bool.not_true]
    cases h2 : decide ((40 : Int) < l.length)
    · have h2' : l.length ≤ 40 := by simp at h2; omega
      cases h3 : decide ((40 : Int) < m.length)
      · have h3' : m.length ≤ 40 := by simp at h3; omega
        have hlen := @allL_len p none hs1 (by omega)
        have hlenq := @allL_len (moreP p r) none hs1 (by simp [moreP]; omega)
        simp -implicitDefEqProofs only [pkA, ptA, ↓reduceIte, Nat.reduceEqDiff, Nat.reduceAdd, Nat.reduceBEq, Nat.reduceMul, Nat.reduceLT, Nat.reduceLeDiff, pkW2, true_and, h2, h3]
        refine call_fn rfl (Next_ok p l (by omega) (by omega) hlen small2_all (by omega)) (fun h => by cases h) ?_
        simp -implicitDefEqProofs only [pkA, ptA, ↓reduceIte, Nat.reduceEqDiff, Nat.reduceAdd, Nat.reduceBEq, Nat.reduceMul, Nat.reduceLT, Nat.reduceLeDiff, pkW2, true_and, bsl_27]
        refine appF (l := []) (m := l) (by simp; omega) ?_
        rw [List.nil_append]
        simp -implicitDefEqProofs only [pkA, ptA, ↓reduceIte, Nat.reduceEqDiff, Nat.reduceAdd, Nat.reduceBEq, Nat.reduceMul, Nat.reduceLT, Nat.reduceLeDiff, pkW2, true_and, owF_fz, owF_ow, bsl_27]
        refine appF (l := l) (m := m) (by omega) ?_
        simp -implicitDefEqProofs only [pkA, ptA, ↓reduceIte, Nat.reduceEqDiff, Nat.reduceAdd, Nat.reduceBEq, Nat.reduceMul, Nat.reduceLT, Nat.reduceLeDiff, pkW2, true_and, owF_fz, owF_ow, bsl_27]
        have hg : ∀ t : Option Tmp, isGh [] t = false := fun t => by cases t <;> rfl
        refine appF (l := []) (m := l ++ m) (by simp; omega) ?_
        rw [List.nil_append]
        simp -implicitDefEqProofs only [pkA, ptA, ↓reduceIte, Nat.reduceEqDiff, Nat.reduceAdd, Nat.reduceBEq, Nat.reduceMul, Nat.reduceLT, Nat.reduceLeDiff, pkW2, true_and, owF_fz, owF_ow, bsl_27, hg]
        refine call_fn («as» := [.agg (poC p), .c (fsC (l ++ m))]) rfl (Next_ok p (l ++ m) (by omega) (by omega) hlen small2_all (by simp; omega)) (fun h => by cases h) ?_
        have hb : (nextF p l).length ≤ 40000 := Nat.le_trans next_len (by omega)
        have hb2 : (nextF p (l ++ m)).length ≤ 40000 := Nat.le_trans next_len (by omega)
        have hlm : (l ++ m).length ≤ 80 := by simp; omega
        simp -implicitDefEqProofs only [pkA, ptA, ↓reduceIte, Nat.reduceEqDiff, Nat.reduceAdd, Nat.reduceBEq, Nat.reduceMul, Nat.reduceLT, Nat.reduceLeDiff, pkW2, true_and, owF_fz, owF_ow, hg]
        refine appF (l := l ++ m) (m := nextF p (l ++ m)) (by omega) ?_
        simp -implicitDefEqProofs only [pkA, ptA, ↓reduceIte, Nat.reduceEqDiff, Nat.reduceAdd, Nat.reduceBEq, Nat.reduceMul, Nat.reduceLT, Nat.reduceLeDiff, pkW2, true_and, owF_fz, owF_ow, hg, bsl_23]
        have lokr : ∀ (nb q : Nat) (K : V → Prop), ldA nb q ((ruC r).map .c) 0 3 K = (q < nb ∧ K (.agg (ruC r))) := fun nb q K => by
          unfold ldA
          exact propext ⟨fun h => ⟨h.1, h.2.2⟩, fun h => ⟨h.1, ⟨rfl, rfl⟩, h.2⟩⟩
        have mbr : isMb ((ruC r).map V.c) = false := rfl
        have qp : ∀ a b c d : V, setV [a, b, c, d] 0 ((poC p).map .c) = (poC p).map .c := fun _ _ _ _ => rfl
        refine appR (l := []) (m := p.rules) (by simp; omega) ?_
        rw [List.nil_append]
        simp -implicitDefEqProofs only [pkA, ptA, ↓reduceIte, Nat.reduceEqDiff, Nat.reduceAdd, Nat.reduceBEq, Nat.reduceMul, Nat.reduceLT, Nat.reduceLeDiff, pkW2, true_and, owR_fz, owR_ow, hg, bsl_23, lokr, mbr, qp]
        refine appR (l := p.rules) (m := [r]) (by simp; omega) ?_
        simp -implicitDefEqProofs only [pkA, ptA, ↓reduceIte, Nat.reduceEqDiff, Nat.reduceAdd, Nat.reduceBEq, Nat.reduceMul, Nat.reduceLT, Nat.reduceLeDiff, pkW2, true_and, owR_fz, owR_ow, hg, bsl_23, lokr, mbr, qp]
        unfold owR
        simp -implicitDefEqProofs only [pkA, ptA, ↓reduceIte, Nat.reduceEqDiff, Nat.reduceAdd, Nat.reduceBEq, Nat.reduceMul, Nat.reduceLT, Nat.reduceLeDiff, pkW2, true_and, hg, lokr, mbr, qp]
        have lq : ∀ (E : Option (TypeId × Nat)) (nb q : Nat) (K : V → Prop), ldA nb q (setV ((poC p).map V.c) 2 [.ow E ((p.rules ++ [r]).map ruC)]) 0 4 K = (q < nb ∧ K (.agg (poC (moreP p r)))) := fun E nb q K => by
          unfold ldA
          exact propext ⟨fun h => ⟨h.1, h.2.2⟩, fun h => ⟨h.1, ⟨rfl, rfl⟩, h.2⟩⟩
        have mq : ∀ E : Option (TypeId × Nat), isMb (setV ((poC p).map V.c) 2 [.ow E ((p.rules ++ [r]).map ruC)]) = false := fun _ => rfl
        refine ⟨by simp [poC], ?_⟩
        simp -implicitDefEqProofs only [pkA, ptA, ↓reduceIte, Nat.reduceEqDiff, Nat.reduceAdd, Nat.reduceBEq, Nat.reduceMul, Nat.reduceLT, Nat.reduceLeDiff, pkW2, true_and, hg, lq, mq]
        refine call_fn rfl (Next_ok (moreP p r) l (by simp [moreP]; omega) (by simp [moreP]; omega) hlenq small2_all (by omega)) (fun h => by cases h) ?_
        have hb3 : (nextF (moreP p r) l).length ≤ 40000 := Nat.le_trans next_len (by omega)
        have one : ((nextF p l).all fun f => decide (f ∈ (l ++ m) ++ nextF p (l ++ m))) = true := List.all_eq_true.2 fun x hx => decide_eq_true (mono_facts hx)
        have two : ((nextF p l).all fun f => decide (f ∈ nextF (moreP p r) l)) = true := List.all_eq_true.2 fun x hx => decide_eq_true (mono_rule (p := p) (q := moreP p r) rfl (fun _ h => List.mem_append_left [r] h) hx)
        simp -implicitDefEqProofs only [pkA, ptA, ↓reduceIte, Nat.reduceEqDiff, Nat.reduceAdd, Nat.reduceBEq, Nat.reduceMul, Nat.reduceLT, Nat.reduceLeDiff, pkW2, true_and, hg, lq, mq, owF_fz, owF_ow]
        refine call_fn («as» := [.c (fsC ((l ++ m) ++ nextF p (l ++ m))), .c (fsC (nextF p l))]) rfl (All_ok _ _ (by simp; omega) (by omega)) (fun _ => rfl) ?_
        rw [one]
        simp -implicitDefEqProofs only [pkA, ptA, ↓reduceIte, Nat.reduceEqDiff, Nat.reduceAdd, Nat.reduceBEq, Nat.reduceMul, Nat.reduceLT, Nat.reduceLeDiff, pkW2, true_and, hg, lq, mq]
        refine call_fn rfl (All_ok _ _ (by omega) (by omega)) (fun _ => rfl) ?_
        rw [two]
        simp -implicitDefEqProofs only [pkA, ptA, ↓reduceIte, Nat.reduceEqDiff, Nat.reduceAdd, Nat.reduceBEq, Nat.reduceMul, Nat.reduceLT, Nat.reduceLeDiff, pkW2, true_and, hg, lq, mq]
      · simp -implicitDefEqProofs only [pkA, ptA, ↓reduceIte, Nat.reduceEqDiff, Nat.reduceAdd, Nat.reduceBEq, Nat.reduceMul, Nat.reduceLT, Nat.reduceLeDiff, pkW2, true_and, h2, h3]
    · simp -implicitDefEqProofs only [pkA, ptA, ↓reduceIte, Nat.reduceEqDiff, Nat.reduceAdd, Nat.reduceBEq, Nat.reduceMul, Nat.reduceLT, Nat.reduceLeDiff, pkW2, true_and, h2]
end Go.Proofs.YthgmobkmmapgoaaGreat
