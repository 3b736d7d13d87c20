/- Layer 17: the law RulesStayValid, as a contract. -/
import Derived.Test.YthgmobkmmapgoaaGreatVlN4
set_option linter.unusedSimpArgs false
set_option linter.unusedVariables false
namespace Go.Proofs.YthgmobkmmapgoaaGreat
open Go Go.Vl

variable {G : Gl}
set_option maxRecDepth 10000

theorem lenIn {l : List In} {K : V → Prop} : vlen Tryz.prog 40 (.c (.sl (l.map inC))) K = K (i64 l.length) := by rw [len_40, List.length_map]
theorem pkW2 : type_of% (And.intro @pkW1 (@lenIn)) := And.intro @pkW1 (@lenIn)
/-- The rule of the instance before. -/
def lastR (L : List In) : Nat → Int
  | 0 => 0
  | k + 1 => (L[k]?.map In.rule).getD 0
theorem lastR_at {L : List In} {k : Nat} (h : k < L.length) : lastR L (k + 1) = L[k].rule := by simp [lastR, h]
theorem lastR_le {L : List In} (hs : L.Pairwise fun x y => x.rule ≤ y.rule) (hg : ∀ x ∈ L, 1 ≤ x.rule) {k : Nat} (h : k < L.length) : lastR L k ≤ L[k].rule := by
  cases k with
  | zero => have := hg _ (List.getElem_mem h); show (0 : Int) ≤ _; omega
  | succ k =>
    rw [lastR_at (by omega)]
    exact List.pairwise_iff_getElem.1 hs k (k + 1) (by omega) h (by omega)
theorem all_lastR {p : Pol} : 14 ≤ lastR (allL p none) (allL p none).length := by
  obtain ⟨h0, h⟩ := @all_last p
  have e := lastR_at (L := allL p none) (k := (allL p none).length - 1) (by omega)
  rw [Nat.sub_add_cancel h0] at e
  rw [e]; exact h

set_option maxHeartbeats 4000000 in
theorem lawStay_ok (p : Pol) : FnOK Tryz.prog G 7 [.agg (poC p)] (bo true) := by
  refine FnOK_by (rs := [.tmp 2]) false [] mixed Tryz.func7 rfl rfl rfl rfl (by kernel_rfl) (by simp) rfl rfl ?_
  simp -implicitDefEqProofs only [pkA, ptA, ↓reduceIte, Nat.reduceEqDiff, Nat.reduceAdd, Nat.reduceBEq, Nat.reduceMul, Nat.reduceLT, Nat.reduceLeDiff, pkW1, true_and]
  refine call_fn rfl sanity_ok (fun _ => rfl) ?_
  simp -implicitDefEqProofs only [pkA, ptA, ↓reduceIte, Nat.reduceEqDiff, Nat.reduceAdd, Nat.reduceBEq, Nat.reduceMul, Nat.reduceLT, Nat.reduceLeDiff, pkW1, true_and]
  refine call_fn rfl (Small_ok p) (fun _ => rfl) ?_
  cases hs : (decide ((p.types.length : Int) ≤ 7) && decide ((p.rules.length : Int) ≤ 14))
  · simp -implicitDefEqProofs only [pkA, ptA, ↓reduceIte, Nat.reduceEqDiff, Nat.reduceAdd, Nat.reduceBEq, Nat.reduceMul, Nat.reduceLT, Nat.reduceLeDiff, pkW1, true_and]
  · have hs : (p.types.length : Int) ≤ 7 ∧ (p.rules.length : Int) ≤ 14 := by simpa using hs
    have hs1 : p.types.length ≤ 7 := by omega
    have hs2 : p.rules.length ≤ 14 := by omega
    simp -implicitDefEqProofs only [pkA, ptA, ↓reduceIte, Nat.reduceEqDiff, Nat.reduceAdd, Nat.reduceBEq, Nat.reduceMul, Nat.reduceLT, Nat.reduceLeDiff, pkW1, true_and]
    have hlen := @allL_len p none hs1 (by omega)
    refine call_fn rfl (all_ok p (by omega) (by omega) hlen) (fun h => by cases h) ?_
    have hgood : ∀ x ∈ allL p none, ∃ k, 1 ≤ k ∧ k ≤ 15 ∧ Good p k x := fun x hx => good_all hx
    have hsort := @all_sorted p none
    have hlast := @all_lastR p
    generalize allL p none = L at *
    simp -implicitDefEqProofs only [pkA, ptA, ↓reduceIte, Nat.reduceEqDiff, Nat.reduceAdd, Nat.reduceBEq, Nat.reduceMul, Nat.reduceLT, Nat.reduceLeDiff, pkW2, true_and]
    refine run_loop (fun k : Nat => hdS [(1, .bp 0 0), (3, bo true), (4, i64 (lastR L k)), (5, .c (.sl (L.map inC))), (7, i64 k)] [(poC p).map .c]) (fun k => L.length - k) (fun k => k ≤ L.length) 0 (Nat.zero_le _) ?_ ?_
    · exact le_hd (by simp only [leOk, List.all_cons, List.all_nil, all_ltB_c, List.length_cons, List.length_nil]; rfl) (Nat.zero_le _) (Nat.le_refl _) (by simp [FL, up_apply, lastR]) (by simp [BL, up_apply])
    rintro k hk R hnorm hexit hret
    simp -implicitDefEqProofs only [pkA, ptA, ↓reduceIte, Nat.reduceEqDiff, Nat.reduceAdd, Nat.reduceBEq, Nat.reduceMul, Nat.reduceLT, Nat.reduceLeDiff, pkW2, true_and]
    refine vcond_of (fun hlt => ?_) (fun hge => ?_)
    · have hlt : k < L.length := by simpa using hlt
      have hw := wrap_of (n := (k : Int) + 1) (k := k + 1) (by omega) (by omega)
      obtain ⟨r, hr1, hr2, hg⟩ := hgood _ (List.getElem_mem hlt)
      have hle := lastR_le hsort (fun x hx => by obtain ⟨r, h1, h2, h3⟩ := hgood x hx; rw [h3.rule]; exact h1) hlt
      have hnx := lastR_at hlt
      obtain ⟨g1, g2, g3, g4, g5⟩ := hg
      simp -implicitDefEqProofs only [pkA, ptA, ↓reduceIte, Nat.reduceEqDiff, Nat.reduceAdd, Nat.reduceBEq, Nat.reduceMul, Nat.reduceLT, Nat.reduceLeDiff, pkW2, true_and]
      refine ia_of ti_40 rfl ti_50 (by decide) (Int.natCast_nonneg k) (c := inC L[k]) (by simp [hlt]) rfl ?_
      generalize L[k] = x at *
      have qx : ∀ a b c : V, setV [a, b, c] 0 ((inC x).map .c) = (inC x).map .c := fun _ _ _ => rfl
      have d1 : decide (x.rule < lastR L k) = false := decide_eq_false (by omega)
      have d2 : decide (x.rule < 1) = false := decide_eq_false (by omega)
      have d3 : decide (15 < x.rule) = false := decide_eq_false (by omega)
      have d4 : decide ((2 : Int) < x.pre.length) = false := decide_eq_false (by omega)
      have d5 : decide ((x.con.length : Int) < 1) = false := decide_eq_false (by omega)
      have d6 : decide ((2 : Int) < x.con.length) = false := decide_eq_false (by omega)
      simp -implicitDefEqProofs only [pkA, ptA, ↓reduceIte, Nat.reduceEqDiff, Nat.reduceAdd, Nat.reduceBEq, Nat.reduceMul, Nat.reduceLT, Nat.reduceLeDiff, pkW2, true_and, qx, d1, d2, d3, d4, d5, d6]
      refine run_loop (fun i : Nat => hdS [(1, .bp 0 0), (3, bo true), (4, i64 x.rule), (5, .c (.sl (L.map inC))), (7, i64 k), (8, .bp 1 0), (9, i64 i)] [(poC p).map .c, (inC x).map .c]) (fun i => x.pre.length - i) (fun i => i ≤ x.pre.length) 0 (Nat.zero_le _) ?_ ?_
      · exact le_hd (by simp only [leOk, List.all_cons, List.all_nil, all_ltB_c, List.length_cons, List.length_nil]; rfl) (Nat.zero_le _) (Nat.le_refl _) (by simp [FL, up_apply]) (by simp [BL, up_apply, bxs])
      rintro i hi R2 hnorm2 hexit2 hret2
      simp -implicitDefEqProofs only [pkA, ptA, ↓reduceIte, Nat.reduceEqDiff, Nat.reduceAdd, Nat.reduceBEq, Nat.reduceMul, Nat.reduceLT, Nat.reduceLeDiff, pkW2, true_and]
      refine vcond_of (fun hlt2 => ?_) (fun hge2 => ?_)
      · have hlt2 : i < x.pre.length := by simpa using hlt2
        have hw2 := wrap_of (n := (i : Int) + 1) (k := i + 1) (by omega) (by omega)
        simp -implicitDefEqProofs only [pkA, ptA, ↓reduceIte, Nat.reduceEqDiff, Nat.reduceAdd, Nat.reduceBEq, Nat.reduceMul, Nat.reduceLT, Nat.reduceLeDiff, pkW2, true_and]
        refine ia_of ti_27 rfl ti_29 (by decide) (Int.natCast_nonneg i) (c := faC x.pre[i]) (by simp [hlt2]) rfl ?_
        simp -implicitDefEqProofs only [pkA, ptA, ↓reduceIte, Nat.reduceEqDiff, Nat.reduceAdd, Nat.reduceBEq, Nat.reduceMul, Nat.reduceLT, Nat.reduceLeDiff, pkW2, true_and]
        refine call_fn rfl (Valid_ok p x.pre[i]) (fun _ => rfl) ?_
        rw [g4 _ (List.getElem_mem hlt2)]
        simp -implicitDefEqProofs only [pkA, ptA, ↓reduceIte, Nat.reduceEqDiff, Nat.reduceAdd, Nat.reduceBEq, Nat.reduceMul, Nat.reduceLT, Nat.reduceLeDiff, pkW2, true_and]
        exact hnorm2 (i + 1) _ hlt2 (by omega) (le_hd (by simp only [leOk, List.all_cons, List.all_nil, all_ltB_c, List.length_cons, List.length_nil]; rfl) (Nat.zero_le _) (Nat.le_refl _) (by simp [FL, up_apply, hw2]) (by simp [BL, up_apply, bxs]))
      · simp -implicitDefEqProofs only [pkA, ptA, ↓reduceIte, Nat.reduceEqDiff, Nat.reduceAdd, Nat.reduceBEq, Nat.reduceMul, Nat.reduceLT, Nat.reduceLeDiff, pkW2, true_and]
        refine hexit2 _ _ ?_
        simp -implicitDefEqProofs only [pkA, ptA, ↓reduceIte, Nat.reduceEqDiff, Nat.reduceAdd, Nat.reduceBEq, Nat.reduceMul, Nat.reduceLT, Nat.reduceLeDiff, pkW2, true_and]
        refine run_loop (fun i : Nat => hdS [(1, .bp 0 0), (3, bo true), (4, i64 x.rule), (5, .c (.sl (L.map inC))), (7, i64 k), (8, .bp 1 0), (10, i64 i)] [(poC p).map .c, (inC x).map .c]) (fun i => x.con.length - i) (fun i => i ≤ x.con.length) 0 (Nat.zero_le _) ?_ ?_
        · exact le_hd (by simp only [leOk, List.all_cons, List.all_nil, all_ltB_c, List.length_cons, List.length_nil]; rfl) (Nat.zero_le _) (Nat.le_refl _) (by simp [FL, up_apply]) (by simp [BL, up_apply, bxs])
        rintro i2 hi2 R3 hnorm3 hexit3 hret3
        simp -implicitDefEqProofs only [pkA, ptA, ↓reduceIte, Nat.reduceEqDiff, Nat.reduceAdd, Nat.reduceBEq, Nat.reduceMul, Nat.reduceLT, Nat.reduceLeDiff, pkW2, true_and]
        refine vcond_of (fun hlt3 => ?_) (fun hge3 => ?_)
        · have hlt3 : i2 < x.con.length := by simpa using hlt3
          have hw3 := wrap_of (n := (i2 : Int) + 1) (k := i2 + 1) (by omega) (by omega)
          simp -implicitDefEqProofs only [pkA, ptA, ↓reduceIte, Nat.reduceEqDiff, Nat.reduceAdd, Nat.reduceBEq, Nat.reduceMul, Nat.reduceLT, Nat.reduceLeDiff, pkW2, true_and]
          refine ia_of ti_27 rfl ti_29 (by decide) (Int.natCast_nonneg i2) (c := faC x.con[i2]) (by simp [hlt3]) rfl ?_
          simp -implicitDefEqProofs only [pkA, ptA, ↓reduceIte, Nat.reduceEqDiff, Nat.reduceAdd, Nat.reduceBEq, Nat.reduceMul, Nat.reduceLT, Nat.reduceLeDiff, pkW2, true_and]
          refine call_fn rfl (Valid_ok p x.con[i2]) (fun _ => rfl) ?_
          rw [g5 _ (List.getElem_mem hlt3)]
          simp -implicitDefEqProofs only [pkA, ptA, ↓reduceIte, Nat.reduceEqDiff, Nat.reduceAdd, Nat.reduceBEq, Nat.reduceMul, Nat.reduceLT, Nat.reduceLeDiff, pkW2, true_and]
          exact hnorm3 (i2 + 1) _ hlt3 (by omega) (le_hd (by simp only [leOk, List.all_cons, List.all_nil, all_ltB_c, List.length_cons, List.length_nil]; rfl) (Nat.zero_le _) (Nat.le_refl _) (by simp [FL, up_apply, hw3]) (by simp [BL, up_apply, bxs]))
        · simp -implicitDefEqProofs only [pkA, ptA, ↓reduceIte, Nat.reduceEqDiff, Nat.reduceAdd, Nat.reduceBEq, Nat.reduceMul, Nat.reduceLT, Nat.reduceLeDiff, pkW2, true_and]
          refine hexit3 _ _ ?_
          simp -implicitDefEqProofs only [pkA, ptA, ↓reduceIte, Nat.reduceEqDiff, Nat.reduceAdd, Nat.reduceBEq, Nat.reduceMul, Nat.reduceLT, Nat.reduceLeDiff, pkW2, true_and]
          refine hnorm (k + 1) _ hlt (by omega) (le_hd (by simp only [leOk, List.all_cons, List.all_nil, all_ltB_c, List.length_cons, List.length_nil]; rfl) (Nat.zero_le _) (show 1 ≤ 2 by decide) (by simp [FL, up_apply, hw, hnx]) (by simp [BL, up_apply, bxs]))
    · have : k = L.length := by simp at hge; omega
      subst this
      simp -implicitDefEqProofs only [pkA, ptA, ↓reduceIte, Nat.reduceEqDiff, Nat.reduceAdd, Nat.reduceBEq, Nat.reduceMul, Nat.reduceLT, Nat.reduceLeDiff, pkW2, true_and]
      refine hexit _ _ ?_
      have d7 : decide (14 ≤ lastR L L.length) = true := decide_eq_true hlast
      simp -implicitDefEqProofs only [pkA, ptA, ↓reduceIte, Nat.reduceEqDiff, Nat.reduceAdd, Nat.reduceBEq, Nat.reduceMul, Nat.reduceLT, Nat.reduceLeDiff, pkW2, true_and, d7]
end Go.Proofs.YthgmobkmmapgoaaGreat
