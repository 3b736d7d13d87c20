/- Layer 17: the law RulesUsingIsComplete, as a contract. -/
import Derived.Test.YthgmobkmmapgoaaGreatVlL3
set_option linter.unusedSimpArgs false
set_option linter.unusedVariables false
namespace Go.Proofs.YthgmobkmmapgoaaGreat
open Go Go.Vl

variable {G : Gl}
set_option maxRecDepth 10000

/-- The conclusions of the first instances. -/
def conL (L : List In) (k : Nat) : List Fa := (L.take k).flatMap In.con
theorem conL_succ {L : List In} {k : Nat} (h : k < L.length) : conL L (k + 1) = conL L k ++ L[k].con := by
  unfold conL
  rw [List.take_succ_eq_append_getElem h, List.flatMap_append]; simp
theorem conL_len {L : List In} (hc : ∀ x ∈ L, x.con.length ≤ 2) : ∀ k, k ≤ L.length → (conL L k).length ≤ 2 * k
  | 0, _ => by simp [conL]
  | k + 1, h => by
    rw [conL_succ (by omega), List.length_append]
    have h1 := conL_len hc k (by omega)
    have h2 := hc _ (List.getElem_mem (show k < L.length by omega))
    omega

set_option maxHeartbeats 4000000 in
theorem lawUsing_ok (p : Pol) (l : List Fa) (f : Fa) : FnOK Tryz.prog G 8 [.agg (poC p), .c (fsC l), .agg (faC f)] (bo true) := by
  refine FnOK_by (rs := [.tmp 6]) false [54] mixed Tryz.func8 rfl rfl rfl rfl (by kernel_rfl) (by simp) rfl rfl ?_
  simp -implicitDefEqProofs only [pkA, ptA, ↓reduceIte, Nat.reduceEqDiff, Nat.reduceAdd, Nat.reduceBEq, Nat.reduceMul, Nat.reduceLT, Nat.reduceLeDiff, pkW2, true_and]
  refine call_fn rfl sanity_ok (fun _ => rfl) ?_
  simp -implicitDefEqProofs only [pkA, ptA, ↓reduceIte, Nat.reduceEqDiff, Nat.reduceAdd, Nat.reduceBEq, Nat.reduceMul, Nat.reduceLT, Nat.reduceLeDiff, pkW2, true_and]
  refine call_fn rfl (Small_ok p) (fun _ => rfl) ?_
  cases hs : (decide ((p.types.length : Int) ≤ 7) && decide ((p.rules.length : Int) ≤ 14))
  · simp -implicitDefEqProofs only [pkA, ptA, ↓reduceIte, Nat.reduceEqDiff, Nat.reduceAdd, Nat.reduceBEq, Nat.reduceMul, Nat.reduceLT, Nat.reduceLeDiff, pkW2, true_and, Bool.not_false]
  · have hs : (p.types.length : Int) ≤ 7 ∧ (p.rules.length : Int) ≤ 14 := by simpa using hs
    have hs1 : p.types.length ≤ 7 := by omega
    have hs2 : p.rules.length ≤ 14 := by omega
    simp -implicitDefEqProofs only [pkA, ptA, ↓reduceIte, Nat.reduceEqDiff, Nat.reduceAdd, Nat.reduceBEq, Nat.reduceMul, Nat.reduceLT, Nat.reduceLeDiff, pkW2, true_and, Bool.not_true]
    cases h2 : decide ((40 : Int) < l.length)
    · have h2' : l.length ≤ 40 := by simp at h2; omega
      have hlen := @allL_len p none hs1 (by omega)
      have hlenf := @allL_len p (some f) hs1 (by omega)
      simp -implicitDefEqProofs only [pkA, ptA, ↓reduceIte, Nat.reduceEqDiff, Nat.reduceAdd, Nat.reduceBEq, Nat.reduceMul, Nat.reduceLT, Nat.reduceLeDiff, pkW2, true_and, h2]
      refine call_fn rfl (Next_ok p l (by omega) (by omega) hlen small2_all (by omega)) (fun h => by cases h) ?_
      simp -implicitDefEqProofs only [pkA, ptA, ↓reduceIte, Nat.reduceEqDiff, Nat.reduceAdd, Nat.reduceBEq, Nat.reduceMul, Nat.reduceLT, Nat.reduceLeDiff, pkW2, true_and, bsl_27]
      simp -implicitDefEqProofs only [pkA, ptA, ↓reduceIte, Nat.reduceEqDiff, Nat.reduceAdd, Nat.reduceBEq, Nat.reduceMul, Nat.reduceLT, Nat.reduceLeDiff, pkW2, true_and, isGh_some]
      refine appF (l := []) (m := l) (by simp; omega) ?_
      rw [List.nil_append]
      simp -implicitDefEqProofs only [pkA, ptA, ↓reduceIte, Nat.reduceEqDiff, Nat.reduceAdd, Nat.reduceBEq, Nat.reduceMul, Nat.reduceLT, Nat.reduceLeDiff, pkW2, true_and, isGh_some, owF_fz, owF_ow, bsl_27]
      refine appF1 (l := l) (x := f) (by omega) ?_
      simp -implicitDefEqProofs only [pkA, ptA, ↓reduceIte, Nat.reduceEqDiff, Nat.reduceAdd, Nat.reduceBEq, Nat.reduceMul, Nat.reduceLT, Nat.reduceLeDiff, pkW2, true_and, isGh_some, owF_fz, owF_ow]
      refine call_fn («as» := [.agg (poC p), .c (fsC (l ++ [f]))]) rfl (Next_ok p (l ++ [f]) (by omega) (by omega) hlen small2_all (by simp; omega)) (fun h => by cases h) ?_
      simp -implicitDefEqProofs only [pkA, ptA, ↓reduceIte, Nat.reduceEqDiff, Nat.reduceAdd, Nat.reduceBEq, Nat.reduceMul, Nat.reduceLT, Nat.reduceLeDiff, pkW2, true_and, isGh_some]
      refine call_fn rfl (using_ok p f (by omega) (by omega) hlenf) (fun h => by cases h) ?_
      have hb : (nextF p l).length ≤ 40000 := Nat.le_trans next_len (by omega)
      have ha : (nextF p (l ++ [f])).length ≤ 40000 := Nat.le_trans next_len (by omega)
      have hall := fun x hx => @using_complete p l f x hx
      have hcon : ∀ x ∈ allL p (some f), x.con.length ≤ 2 := fun x hx => (small2_all x hx).2
      generalize allL p none = L0 at *
      generalize allL p (some f) = L at *
      generalize nextF p l = B at *
      generalize nextF p (l ++ [f]) = A at *
      simp -implicitDefEqProofs only [pkA, ptA, ↓reduceIte, Nat.reduceEqDiff, Nat.reduceAdd, Nat.reduceBEq, Nat.reduceMul, Nat.reduceLT, Nat.reduceLeDiff, pkW2, true_and]
      refine run_loop (fun k : Nat => hdS [(7, bo true), (8, .c (fsC B)), (10, .c (fsC A)), (11, owF (conL L k)), (12, .c (.sl (L.map inC))), (14, i64 k)] []) (fun k => L.length - k) (fun k => k ≤ L.length) 0 (Nat.zero_le _) ?_ ?_
      · exact le_hd rfl (Nat.zero_le _) (Nat.zero_le _) (by simp [FL, up_apply, conL, owF_nil]) trivial
      rintro k hk R hnorm hexit hret
      have hcl := conL_len hcon k hk
      simp -implicitDefEqProofs only [pkA, ptA, ↓reduceIte, Nat.reduceEqDiff, Nat.reduceAdd, Nat.reduceBEq, Nat.reduceMul, Nat.reduceLT, Nat.reduceLeDiff, pkW2, true_and]
      refine vcond_of (fun hlt => ?_) (fun hge => ?_)
      · have hlt : k < L.length := by simpa using hlt
        have hw := wrap_of (n := (k : Int) + 1) (k := k + 1) (by omega) (by omega)
        have hc2 := hcon _ (List.getElem_mem hlt)
        simp -implicitDefEqProofs only [pkA, ptA, ↓reduceIte, Nat.reduceEqDiff, Nat.reduceAdd, Nat.reduceBEq, Nat.reduceMul, Nat.reduceLT, Nat.reduceLeDiff, pkW2, true_and, owF_fz, owF_ow]
        refine ia_of ti_40 rfl ti_50 (by decide) (Int.natCast_nonneg k) (c := inC L[k]) (by simp [hlt]) rfl ?_
        simp -implicitDefEqProofs only [pkA, ptA, ↓reduceIte, Nat.reduceEqDiff, Nat.reduceAdd, Nat.reduceBEq, Nat.reduceMul, Nat.reduceLT, Nat.reduceLeDiff, pkW2, true_and, owF_fz, owF_ow, isGh_some]
        refine appF (l := conL L k) (m := L[k].con) (by omega) ?_
        simp -implicitDefEqProofs only [pkA, ptA, ↓reduceIte, Nat.reduceEqDiff, Nat.reduceAdd, Nat.reduceBEq, Nat.reduceMul, Nat.reduceLT, Nat.reduceLeDiff, pkW2, true_and, owF_fz, owF_ow, isGh_some]
        refine hnorm (k + 1) _ hlt (by omega) (le_hd rfl (Nat.zero_le _) (Nat.zero_le _) (by simp [FL, up_apply, hw, conL_succ hlt]) trivial)
      · have : k = L.length := by simp at hge; omega
        subst this
        simp -implicitDefEqProofs only [pkA, ptA, ↓reduceIte, Nat.reduceEqDiff, Nat.reduceAdd, Nat.reduceBEq, Nat.reduceMul, Nat.reduceLT, Nat.reduceLeDiff, pkW2, true_and]
        refine hexit _ _ ?_
        simp -implicitDefEqProofs only [pkA, ptA, ↓reduceIte, Nat.reduceEqDiff, Nat.reduceAdd, Nat.reduceBEq, Nat.reduceMul, Nat.reduceLT, Nat.reduceLeDiff, pkW2, true_and]
        have hF : ∀ x, x ∈ A → x ∈ B ∨ x ∈ conL L L.length := fun x hx => by unfold conL; rw [List.take_length]; exact hall x hx
        generalize conL L L.length = Fo at *
        refine run_loop (fun i : Nat => hdS [(7, bo true), (8, .c (fsC B)), (10, .c (fsC A)), (11, owF Fo), (15, i64 i)] []) (fun i => A.length - i) (fun i => i ≤ A.length) 0 (Nat.zero_le _) ?_ ?_
        · exact le_hd rfl (Nat.zero_le _) (Nat.zero_le _) (by simp [FL, up_apply]) trivial
        rintro i hi R2 hnorm2 hexit2 hret2
        simp -implicitDefEqProofs only [pkA, ptA, ↓reduceIte, Nat.reduceEqDiff, Nat.reduceAdd, Nat.reduceBEq, Nat.reduceMul, Nat.reduceLT, Nat.reduceLeDiff, pkW2, true_and]
        refine vcond_of (fun hlt2 => ?_) (fun hge2 => ?_)
        · have hlt2 : i < A.length := by simpa using hlt2
          have hw2 := wrap_of (n := (i : Int) + 1) (k := i + 1) (by omega) (by omega)
          simp -implicitDefEqProofs only [pkA, ptA, ↓reduceIte, Nat.reduceEqDiff, Nat.reduceAdd, Nat.reduceBEq, Nat.reduceMul, Nat.reduceLT, Nat.reduceLeDiff, pkW2, true_and]
          refine ia_of ti_27 rfl ti_29 (by decide) (Int.natCast_nonneg i) (c := faC A[i]) (by simp [hlt2]) rfl ?_
          simp -implicitDefEqProofs only [pkA, ptA, ↓reduceIte, Nat.reduceEqDiff, Nat.reduceAdd, Nat.reduceBEq, Nat.reduceMul, Nat.reduceLT, Nat.reduceLeDiff, pkW2, true_and]
          refine call_fn rfl (Holds_ok B A[i] (by omega)) (fun _ => rfl) ?_
          simp -implicitDefEqProofs only [pkA, ptA, ↓reduceIte, Nat.reduceEqDiff, Nat.reduceAdd, Nat.reduceBEq, Nat.reduceMul, Nat.reduceLT, Nat.reduceLeDiff, pkW2, true_and, owF_fz, owF_ow]
          refine ia_of ti_27 rfl ti_29 (by decide) (Int.natCast_nonneg i) (c := faC A[i]) (by simp [hlt2]) rfl ?_
          simp -implicitDefEqProofs only [pkA, ptA, ↓reduceIte, Nat.reduceEqDiff, Nat.reduceAdd, Nat.reduceBEq, Nat.reduceMul, Nat.reduceLT, Nat.reduceLeDiff, pkW2, true_and, owF_fz, owF_ow]
          refine call_fn («as» := [.c (fsC Fo), .agg (faC A[i])]) rfl (Holds_ok Fo A[i] (by omega)) (fun _ => rfl) ?_
          have hx := hF _ (List.getElem_mem hlt2)
          cases h3 : decide (A[i] ∈ B)
          · have h4 : decide (A[i] ∈ Fo) = true := by
              rw [decide_eq_false_iff_not] at h3
              exact decide_eq_true (hx.resolve_left h3)
            rw [h4]
            simp -implicitDefEqProofs only [pkA, ptA, ↓reduceIte, Nat.reduceEqDiff, Nat.reduceAdd, Nat.reduceBEq, Nat.reduceMul, Nat.reduceLT, Nat.reduceLeDiff, pkW2, true_and, owF_fz, owF_ow]
            exact hnorm2 (i + 1) _ hlt2 (by omega) (le_hd rfl (Nat.zero_le _) (Nat.zero_le _) (by simp [FL, up_apply, hw2]) trivial)
          · simp -implicitDefEqProofs only [pkA, ptA, ↓reduceIte, Nat.reduceEqDiff, Nat.reduceAdd, Nat.reduceBEq, Nat.reduceMul, Nat.reduceLT, Nat.reduceLeDiff, pkW2, true_and, owF_fz, owF_ow]
            exact hnorm2 (i + 1) _ hlt2 (by omega) (le_hd rfl (Nat.zero_le _) (Nat.zero_le _) (by simp [FL, up_apply, hw2]) trivial)
        · simp -implicitDefEqProofs only [pkA, ptA, ↓reduceIte, Nat.reduceEqDiff, Nat.reduceAdd, Nat.reduceBEq, Nat.reduceMul, Nat.reduceLT, Nat.reduceLeDiff, pkW2, true_and]
          refine hexit2 _ _ ?_
          simp -implicitDefEqProofs only [pkA, ptA, ↓reduceIte, Nat.reduceEqDiff, Nat.reduceAdd, Nat.reduceBEq, Nat.reduceMul, Nat.reduceLT, Nat.reduceLeDiff, pkW2, true_and]
    · simp -implicitDefEqProofs only [pkA, ptA, ↓reduceIte, Nat.reduceEqDiff, Nat.reduceAdd, Nat.reduceBEq, Nat.reduceMul, Nat.reduceLT, Nat.reduceLeDiff, pkW2, true_and, h2]
end Go.Proofs.YthgmobkmmapgoaaGreat
