/- Layer 17: the law RulesSetsMatchSpec, as a contract. -/
import Derived.Test.YthgmobkmmapgoaaGreatVlL1
set_option linter.unusedSimpArgs false
set_option linter.unusedVariables false
namespace Go.Proofs.YthgmobkmmapgoaaGreat
open Go Go.Vl

variable {G : Gl}
set_option maxRecDepth 10000

set_option maxHeartbeats 2000000 in
/-- The specification's Same, its first list in a box. -/
theorem SameB_ok (a b : List Fa) (hm : a.length ≤ 1000000000) : FnB Tryz.prog G 13 [.ms 0 0 a.length a.length 3, .c (fsC b)] [flb faC a] (bo (decide (a = b))) [flb faC a] := by
  refine FnB_by (rs := [.tmp 4]) (k := 1) [3000001] mixed Tryz.func13 rfl rfl rfl rfl (by kernel_rfl) (by simp) rfl rfl rfl (by simp only [xargsOk, List.all_cons, List.all_nil, flb_ltB, List.length_cons, List.length_nil]; rfl) (Nat.le_refl _) ?_
  have hok : ∀ {fl : List (Nat × V)} {fr : Nat → V} {bx : Nat → List V} {nb : Nat}, fl.all (fun p => p.2.ltB 1) = true → 1 ≤ nb → FL fl fr → bx 0 = flb faC a → S.Le 1 (hdS fl [flb faC a]) ⟨fr, bx, nb⟩ := fun hok hn h h0 =>
    le_hd (by simp only [leOk, List.all_cons, List.all_nil, flb_ltB, List.length_cons, List.length_nil, hok]; rfl) (Nat.le_refl _) hn h ⟨h0, trivial⟩
  have hend : ∀ {r : V} {e : VE} {fr : Nat → V} {bx : Nat → List V} {nb : Nat}, isEnd e = true → 1 ≤ nb → bx 0 = flb faC a → fr 4 = r → r.ltB 1 = true → r.fz = r → endB Tryz.prog 1 r [flb faC a] [.tmp 4] e ⟨fr, bx, nb⟩ := fun {r} {e} {fr} {bx} {nb} he hn h0 ht hr hr2 =>
    end_B [(4, r)] he (by simp only [leOk, List.all_cons, List.all_nil, flb_ltB, hr, List.length_cons, List.length_nil]; rfl) (Nat.le_refl _) hn ⟨ht, trivial⟩ ⟨h0, trivial⟩ (by simp [hdS, frs, retV_one, up])
  have hml : ∀ K, vlen Tryz.prog 27 (.c (fsC b)) K = K (i64 b.length) := fun K => by unfold fsC; rw [len_27, List.length_map]
  simp -implicitDefEqProofs only [pkA, ptA, ↓reduceIte, Nat.reduceEqDiff, Nat.reduceAdd, Nat.reduceBEq, Nat.reduceMul, Nat.reduceLT, Nat.reduceLeDiff, isMb_flb, pkF, hml]
  refine vcond_of (fun hne => ?_) (fun heq => ?_)
  · have hne : a ≠ b := by rintro rfl; simp at hne
    simp -implicitDefEqProofs only [pkA, ptA, ↓reduceIte, Nat.reduceEqDiff, Nat.reduceAdd, Nat.reduceBEq, Nat.reduceMul, Nat.reduceLT, Nat.reduceLeDiff, isMb_flb]
    rw [decide_eq_false hne]
    exact hend rfl (Nat.le_refl _) rfl (by simp [up_apply]) rfl rfl
  · have hlen : a.length = b.length := by simp at heq; omega
    simp -implicitDefEqProofs only [pkA, ptA, ↓reduceIte, Nat.reduceEqDiff, Nat.reduceAdd, Nat.reduceBEq, Nat.reduceMul, Nat.reduceLT, Nat.reduceLeDiff, isMb_flb]
    refine run_loop (fun i : Nat => hdS [(0, .ms 0 0 a.length a.length 3), (1, .c (fsC b)), (5, i64 i)] [flb faC a]) (fun i => a.length - i) (fun i => i ≤ a.length ∧ a.take i = b.take i) 0 ⟨Nat.zero_le _, rfl⟩ ?_ ?_
    · exact hok rfl (Nat.le_refl _) (by simp [FL, up_apply]) rfl
    rintro i ⟨hi, ht⟩ R hnorm hexit hret
    simp -implicitDefEqProofs only [pkA, ptA, ↓reduceIte, Nat.reduceEqDiff, Nat.reduceAdd, Nat.reduceBEq, Nat.reduceMul, Nat.reduceLT, Nat.reduceLeDiff, isMb_flb, List.length_map]
    refine vcond_of (fun hlt => ?_) (fun hge => ?_)
    · have hlt : i < a.length := by simpa using hlt
      have hlb : i < b.length := by omega
      have hw := wrap_of (n := (i : Int) + 1) (k := i + 1) (by omega) (by omega)
      simp -implicitDefEqProofs only [pkA, ptA, ↓reduceIte, Nat.reduceEqDiff, Nat.reduceAdd, Nat.reduceBEq, Nat.reduceMul, Nat.reduceLT, Nat.reduceLeDiff, isMb_flb]
      refine ix_flb ti_27 rfl ti_29 rfl (by decide) rfl hlt ?_
      simp -implicitDefEqProofs only [pkA, ptA, ↓reduceIte, Nat.reduceEqDiff, Nat.reduceAdd, Nat.reduceBEq, Nat.reduceMul, Nat.reduceLT, Nat.reduceLeDiff, isMb_flb, pkT, pkF, isMb_flb, true_and]
      refine ld_flb faC_len rfl (Nat.lt_succ_self 0) (List.getElem?_eq_getElem hlt) ?_
      simp -implicitDefEqProofs only [pkA, ptA, ↓reduceIte, Nat.reduceEqDiff, Nat.reduceAdd, Nat.reduceBEq, Nat.reduceMul, Nat.reduceLT, Nat.reduceLeDiff, isMb_flb, pkF]
      refine ia_of ti_27 rfl ti_29 (by decide) (Int.natCast_nonneg i) (c := faC b[i]) (by simp [hlb]) rfl ?_
      simp -implicitDefEqProofs only [pkA, ptA, ↓reduceIte, Nat.reduceEqDiff, Nat.reduceAdd, Nat.reduceBEq, Nat.reduceMul, Nat.reduceLT, Nat.reduceLeDiff, isMb_flb, pkF]
      refine vcond_of (fun hn => ?_) (fun hy => ?_)
      · have hn : a ≠ b := by rintro rfl; simp at hn
        simp -implicitDefEqProofs only [pkA, ptA, ↓reduceIte, Nat.reduceEqDiff, Nat.reduceAdd, Nat.reduceBEq, Nat.reduceMul, Nat.reduceLT, Nat.reduceLeDiff, isMb_flb]
        refine hret _ ?_
        simp -implicitDefEqProofs only [pkA, ptA, ↓reduceIte, Nat.reduceEqDiff, Nat.reduceAdd, Nat.reduceBEq, Nat.reduceMul, Nat.reduceLT, Nat.reduceLeDiff, isMb_flb]
        rw [decide_eq_false hn]
        exact hend rfl (Nat.le_refl _) rfl (by simp [up_apply]) rfl rfl
      · have hy : a[i] = b[i] := by simpa using hy
        simp -implicitDefEqProofs only [pkA, ptA, ↓reduceIte, Nat.reduceEqDiff, Nat.reduceAdd, Nat.reduceBEq, Nat.reduceMul, Nat.reduceLT, Nat.reduceLeDiff, isMb_flb]
        refine hnorm (i + 1) _ ⟨hlt, ?_⟩ (by omega) (hok rfl (Nat.le_refl _) (by simp [FL, up_apply, hw]) rfl)
        rw [List.take_succ_eq_append_getElem hlt, List.take_succ_eq_append_getElem hlb, ht, hy]
    · have : i = a.length := by simp at hge; omega
      subst this
      simp -implicitDefEqProofs only [pkA, ptA, ↓reduceIte, Nat.reduceEqDiff, Nat.reduceAdd, Nat.reduceBEq, Nat.reduceMul, Nat.reduceLT, Nat.reduceLeDiff, isMb_flb]
      refine hexit _ _ ?_
      simp -implicitDefEqProofs only [pkA, ptA, ↓reduceIte, Nat.reduceEqDiff, Nat.reduceAdd, Nat.reduceBEq, Nat.reduceMul, Nat.reduceLT, Nat.reduceLeDiff, isMb_flb]
      have e : a = b := by rw [List.take_length, hlen, List.take_length] at ht; exact ht
      rw [decide_eq_true e]
      exact hend rfl (Nat.le_refl _) rfl (by simp [up_apply]) rfl rfl

/-- A call of Same, its first list a view of a box. -/
theorem sameB_call {a b : List Fa} {x nb : Nat} {fr : Nat → V} {bx : Nat → List V} {K : Vl.S → V → Prop} (hm : a.length ≤ 1000000000) (hx : x < nb) (h0 : bx x = flb faC a)
    (hK : ∀ bx' : Nat → List V, (∀ j, j ≠ x → bx' j = bx j) → K ⟨fr, bx', nb⟩ (bo (decide (a = b)))) : vcallB Tryz.prog G ⟨fr, bx, nb⟩ (.c (.fn (.func 13) [] [])) [.ms x 0 a.length a.length 3, .c (fsC b)] K := by
  refine callB_sel [x] rfl (SameB_ok a b hm) (by simp [V.fz, V.ren, rho]) rfl (by simp) rfl ⟨⟨by simp [rho, hx], by simp only [flb_ren]; simp [rho, h0]⟩, trivial⟩ ?_
  intro bx' hoth hat
  exact hK bx' (fun j hj0 => hoth j (by simp [hj0]))

/-- A set and the sorted list with the same elements. -/
structure Twin (S T : List Fa) : Prop where
  nd : S.Nodup
  st : StF T
  mem : ∀ x, x ∈ S ↔ x ∈ T
theorem Twin.len {S T : List Fa} (h : Twin S T) : S.length = T.length :=
  ((List.perm_ext_iff_of_nodup h.nd h.st.nodup).2 h.mem).length_eq
theorem Twin.sort {S T : List Fa} (h : Twin S T) : sortF S = T := by
  rw [sortF_of_nodup h.nd]
  exact strict_ext (sortedF_strict S) h.st fun x => by rw [sortedF_mem, h.mem]
theorem Twin.ins {S T : List Fa} (h : Twin S T) (f : Fa) : Twin (insM S f) (insR T f) :=
  ⟨nodup_insM h.nd, insR_strict h.st f, fun x => by rw [mem_insM, insR_mem, h.mem]⟩
theorem twin0 (l : List Fa) : Twin (newL l) (insL l) := ⟨nodup_newL l, insL_strict l, fun x => by rw [mem_newL, insL_mem]⟩

set_option maxHeartbeats 4000000 in
theorem lawSets_ok (l m : List Fa) (f : Fa) : FnOK Tryz.prog G 9 [.c (fsC l), .c (fsC m), .agg (faC f)] (bo true) := by
  refine FnOK_by (rs := [.tmp 6]) false [1000029, 1000049, 1000058, 1000068, 1000081, 1000083, 1000087, 1000095] mixed Tryz.func9 rfl rfl rfl rfl (by kernel_rfl) (by simp) rfl rfl ?_
  have setren : ∀ (ρ : Nat → Nat) (m : List Fa), (mseq faC m).map (V.ren ρ) = mseq faC m := fun ρ m => mseq_ren
  have hle : ∀ {S : List Fa} {fl : List (Nat × V)} {fr : Nat → V} {bx : Nat → List V} {nb : Nat}, fl.all (fun p => p.2.ltB 3) = true → 3 ≤ nb → FL fl fr → bx 0 = (faC f).map .c → bx 1 = mseq faC S → bx 2 = [.mr 1] → Vl.S.Le 0 (hdS fl [(faC f).map .c, mseq faC S, [.mr 1]]) ⟨fr, bx, nb⟩ := fun hok hn h h0 h1 h2 =>
    le_hd (by simp only [leOk, List.all_cons, List.all_nil, all_ltB_c, mseq_ltB, List.length_cons, List.length_nil, hok]; rfl) (Nat.zero_le _) hn h ⟨h0, h1, h2, trivial⟩
  simp -implicitDefEqProofs only [pkA, ptA, ↓reduceIte, Nat.reduceEqDiff, Nat.reduceAdd, Nat.reduceBEq, Nat.reduceMul, Nat.reduceLT, Nat.reduceLeDiff, isMb_flb, pkW1, pkT, true_and]
  refine call_fn rfl sanity_ok (fun _ => rfl) ?_
  simp -implicitDefEqProofs only [pkA, ptA, ↓reduceIte, Nat.reduceEqDiff, Nat.reduceAdd, Nat.reduceBEq, Nat.reduceMul, Nat.reduceLT, Nat.reduceLeDiff, isMb_flb, pkW1, pkT, true_and, List.length_map, Bool.not_true]
  cases h1 : decide ((60 : Int) < l.length)
  · have h1 : l.length ≤ 60 := by simp at h1; omega
    cases h2 : decide ((60 : Int) < m.length)
    · have h2' : m.length ≤ 60 := by simp at h2; omega
      simp -implicitDefEqProofs only [pkA, ptA, ↓reduceIte, Nat.reduceEqDiff, Nat.reduceAdd, Nat.reduceBEq, Nat.reduceMul, Nat.reduceLT, Nat.reduceLeDiff, isMb_flb, pkW1, pkT, true_and, h2]
      refine callB_new rfl (New_okS l (by omega)) rfl ?_
      simp -implicitDefEqProofs only [pkA, ptA, ↓reduceIte, Nat.reduceEqDiff, Nat.reduceAdd, Nat.reduceBEq, Nat.reduceMul, Nat.reduceLT, Nat.reduceLeDiff, isMb_flb, pkW1, pkT, true_and, V.ren, setB_eq, setBx, setren]
      refine call_fn rfl (rSorted_ok l (by omega)) (fun h => by cases h) ?_
      simp -implicitDefEqProofs only [pkA, ptA, ↓reduceIte, Nat.reduceEqDiff, Nat.reduceAdd, Nat.reduceBEq, Nat.reduceMul, Nat.reduceLT, Nat.reduceLeDiff, isMb_flb, pkW1, pkT, true_and]
      refine run_loop (fun i : Nat × List Fa × List Fa => hdS [(1, .c (fsC m)), (5, .bp 0 0), (8, .bp 2 0), (9, .c (fsC i.2.2)), (10, i64 i.1)] [(faC f).map .c, mseq faC i.2.1, [.mr 1]]) (fun i => m.length - i.1) (fun i => i.1 ≤ m.length ∧ Twin i.2.1 i.2.2 ∧ i.2.2.length ≤ 60 + i.1) (0, newL l, insL l) ⟨Nat.zero_le _, twin0 l, ?_⟩ ?_ ?_
      · have := (twin0 l).len; have := newL_len l; show (insL l).length ≤ 60 + 0; omega
      · exact hle rfl (Nat.le_refl _) (by simp [FL, up_apply]) (by simp [up_apply]) (by simp [up_apply]) (by simp [up_apply, rho])
      rintro ⟨i, S, T⟩ ⟨hi, htw, hTl⟩ R hnorm hexit hret
      have hi : i ≤ m.length := hi
      have htw : Twin S T := htw
      have hTl : T.length ≤ 60 + i := hTl
      simp -implicitDefEqProofs only [pkA, ptA, ↓reduceIte, Nat.reduceEqDiff, Nat.reduceAdd, Nat.reduceBEq, Nat.reduceMul, Nat.reduceLT, Nat.reduceLeDiff, isMb_flb, pkW1, pkT, true_and]
      refine vcond_of (fun hlt => ?_) (fun hge => ?_)
      · have hlt : i < m.length := by simpa using hlt
        have hw := wrap_of (n := (i : Int) + 1) (k := i + 1) (by omega) (by omega)
        simp -implicitDefEqProofs only [pkA, ptA, ↓reduceIte, Nat.reduceEqDiff, Nat.reduceAdd, Nat.reduceBEq, Nat.reduceMul, Nat.reduceLT, Nat.reduceLeDiff, isMb_flb, pkW1, pkT, true_and]
        refine ia_of ti_27 rfl ti_29 (by decide) (Int.natCast_nonneg i) (c := faC m[i]) (by simp [hlt]) rfl ?_
        simp -implicitDefEqProofs only [pkA, ptA, ↓reduceIte, Nat.reduceEqDiff, Nat.reduceAdd, Nat.reduceBEq, Nat.reduceMul, Nat.reduceLT, Nat.reduceLeDiff, isMb_flb, pkW1, pkT, true_and]
        refine call_fn rfl (Holds_ok T m[i] (by omega)) (fun _ => rfl) ?_
        simp -implicitDefEqProofs only [pkA, ptA, ↓reduceIte, Nat.reduceEqDiff, Nat.reduceAdd, Nat.reduceBEq, Nat.reduceMul, Nat.reduceLT, Nat.reduceLeDiff, isMb_flb, pkW1, pkT, true_and]
        refine ia_of ti_27 rfl ti_29 (by decide) (Int.natCast_nonneg i) (c := faC m[i]) (by simp [hlt]) rfl ?_
        simp -implicitDefEqProofs only [pkA, ptA, ↓reduceIte, Nat.reduceEqDiff, Nat.reduceAdd, Nat.reduceBEq, Nat.reduceMul, Nat.reduceLT, Nat.reduceLeDiff, isMb_flb, pkW1, pkT, true_and]
        refine hasS_call (S := S) (a := 1) (b := 2) (show 1 < 3 by decide) (show 2 < 3 by decide) (by decide) rfl rfl (fun bx1 hoth1 b11 b12 => ?_)
        have b10 : bx1 0 = (faC f).map .c := by rw [hoth1 0 (by decide) (by decide)]; rfl
        have hd : decide (m[i] ∈ S) = decide (m[i] ∈ T) := decide_eq_decide.2 (htw.mem _)
        rw [hd]
        simp -implicitDefEqProofs only [pkA, ptA, ↓reduceIte, Nat.reduceEqDiff, Nat.reduceAdd, Nat.reduceBEq, Nat.reduceMul, Nat.reduceLT, Nat.reduceLeDiff, isMb_flb, pkW1, pkT, true_and, beq_self_eq_true]
        refine ia_of ti_27 rfl ti_29 (by decide) (Int.natCast_nonneg i) (c := faC m[i]) (by simp [hlt]) rfl ?_
        simp -implicitDefEqProofs only [pkA, ptA, ↓reduceIte, Nat.reduceEqDiff, Nat.reduceAdd, Nat.reduceBEq, Nat.reduceMul, Nat.reduceLT, Nat.reduceLeDiff, isMb_flb, pkW1, pkT, true_and]
        refine addS_call (S := S) (a := 1) (b := 2) (show 1 < 3 by decide) (show 2 < 3 by decide) (by decide) b11 b12 (fun bx2 hoth2 b21 b22 => ?_)
        have b20 : bx2 0 = (faC f).map .c := by rw [hoth2 0 (by decide) (by decide)]; exact b10
        have hx : ((!decide (m[i] ∈ T)) == decide (m[i] ∈ T)) = false := by cases decide (m[i] ∈ T) <;> rfl
        rw [hd]
        simp -implicitDefEqProofs only [pkA, ptA, ↓reduceIte, Nat.reduceEqDiff, Nat.reduceAdd, Nat.reduceBEq, Nat.reduceMul, Nat.reduceLT, Nat.reduceLeDiff, isMb_flb, pkW1, pkT, true_and, hx]
        refine ia_of ti_27 rfl ti_29 (by decide) (Int.natCast_nonneg i) (c := faC m[i]) (by simp [hlt]) rfl ?_
        simp -implicitDefEqProofs only [pkA, ptA, ↓reduceIte, Nat.reduceEqDiff, Nat.reduceAdd, Nat.reduceBEq, Nat.reduceMul, Nat.reduceLT, Nat.reduceLeDiff, isMb_flb, pkW1, pkT, true_and]
        refine hasS_call (S := insM S m[i]) (a := 1) (b := 2) (show 1 < 3 by decide) (show 2 < 3 by decide) (by decide) b21 b22 (fun bx3 hoth3 b31 b32 => ?_)
        have b30 : bx3 0 = (faC f).map .c := by rw [hoth3 0 (by decide) (by decide)]; exact b20
        have hy : decide (m[i] ∈ insM S m[i]) = true := decide_eq_true (mem_insM.2 (.inr rfl))
        rw [hy]
        simp -implicitDefEqProofs only [pkA, ptA, ↓reduceIte, Nat.reduceEqDiff, Nat.reduceAdd, Nat.reduceBEq, Nat.reduceMul, Nat.reduceLT, Nat.reduceLeDiff, isMb_flb, pkW1, pkT, true_and, hx]
        refine ia_of ti_27 rfl ti_29 (by decide) (Int.natCast_nonneg i) (c := faC m[i]) (by simp [hlt]) rfl ?_
        simp -implicitDefEqProofs only [pkA, ptA, ↓reduceIte, Nat.reduceEqDiff, Nat.reduceAdd, Nat.reduceBEq, Nat.reduceMul, Nat.reduceLT, Nat.reduceLeDiff, isMb_flb, pkW1, pkT, true_and]
        refine call_fn rfl (Insert_ok T m[i] (by omega)) (fun h => by cases h) ?_
        simp -implicitDefEqProofs only [pkA, ptA, ↓reduceIte, Nat.reduceEqDiff, Nat.reduceAdd, Nat.reduceBEq, Nat.reduceMul, Nat.reduceLT, Nat.reduceLeDiff, isMb_flb, pkW1, pkT, true_and]
        have hnl := @insR_len T m[i]
        refine hnorm (i + 1, insM S m[i], insR T m[i]) _ ⟨hlt, htw.ins _, ?_⟩ (by show m.length - (i + 1) < m.length - i; omega) (hle rfl (Nat.le_refl _) (by simp [FL, up_apply, hw]) b30 b31 b32)
        show (insR T m[i]).length ≤ 60 + (i + 1); omega
      · have : i = m.length := by simp at hge; omega
        subst this
        simp -implicitDefEqProofs only [pkA, ptA, ↓reduceIte, Nat.reduceEqDiff, Nat.reduceAdd, Nat.reduceBEq, Nat.reduceMul, Nat.reduceLT, Nat.reduceLeDiff, isMb_flb, pkW1, pkT, true_and]
        refine hexit _ _ ?_
        simp -implicitDefEqProofs only [pkA, ptA, ↓reduceIte, Nat.reduceEqDiff, Nat.reduceAdd, Nat.reduceBEq, Nat.reduceMul, Nat.reduceLT, Nat.reduceLeDiff, isMb_flb, pkW1, pkT, true_and]
        refine call_fn rfl (Holds_ok T f (by omega)) (fun _ => rfl) ?_
        simp -implicitDefEqProofs only [pkA, ptA, ↓reduceIte, Nat.reduceEqDiff, Nat.reduceAdd, Nat.reduceBEq, Nat.reduceMul, Nat.reduceLT, Nat.reduceLeDiff, isMb_flb, pkW1, pkT, true_and]
        have hSl : S.length = T.length := htw.len
        have hS6 : S.length ≤ 1000000 := by omega
        refine listS_call (S := S) (a := 1) (b := 2) hS6 (show 1 < 3 by decide) (show 2 < 3 by decide) (by decide) rfl rfl (fun bx1 hoth1 b11 b12 b13 => ?_)
        have b10 : bx1 0 = (faC f).map .c := by rw [hoth1 0 (by decide) (by decide) (by decide)]; rfl
        rw [htw.sort] at b13
        rw [hSl]
        simp -implicitDefEqProofs only [pkA, ptA, ↓reduceIte, Nat.reduceEqDiff, Nat.reduceAdd, Nat.reduceBEq, Nat.reduceMul, Nat.reduceLT, Nat.reduceLeDiff, isMb_flb, pkW1, pkT, true_and]
        refine sameB_call (a := T) (x := 3) (by omega) (show 3 < 4 by decide) b13 (fun bx2 hoth2 => ?_)
        have b20 : bx2 0 = (faC f).map .c := by rw [hoth2 0 (by decide)]; exact b10
        have b21 : bx2 1 = mseq faC S := by rw [hoth2 1 (by decide)]; exact b11
        have b22 : bx2 2 = [.mr 1] := by rw [hoth2 2 (by decide)]; exact b12
        rw [decide_eq_true (rfl : T = T)]
        simp -implicitDefEqProofs only [pkA, ptA, ↓reduceIte, Nat.reduceEqDiff, Nat.reduceAdd, Nat.reduceBEq, Nat.reduceMul, Nat.reduceLT, Nat.reduceLeDiff, isMb_flb, pkW1, pkT, true_and]
        refine lenS_call (S := S) (a := 1) (b := 2) (show 1 < 4 by decide) (show 2 < 4 by decide) (by decide) b21 b22 (fun bx3 hoth3 b31 b32 => ?_)
        have b30 : bx3 0 = (faC f).map .c := by rw [hoth3 0 (by decide) (by decide)]; exact b20
        have e2 : decide ((S.length : Int) = (T.length : Int)) = true := decide_eq_true (by rw [hSl])
        simp -implicitDefEqProofs only [pkA, ptA, ↓reduceIte, Nat.reduceEqDiff, Nat.reduceAdd, Nat.reduceBEq, Nat.reduceMul, Nat.reduceLT, Nat.reduceLeDiff, isMb_flb, pkW1, pkT, true_and, e2, b30]
        refine hasS_call (S := S) (a := 1) (b := 2) (show 1 < 4 by decide) (show 2 < 4 by decide) (by decide) b31 b32 (fun bx4 hoth4 b41 b42 => ?_)
        have hd : decide (f ∈ S) = decide (f ∈ T) := decide_eq_decide.2 (htw.mem _)
        rw [hd]
        simp -implicitDefEqProofs only [pkA, ptA, ↓reduceIte, Nat.reduceEqDiff, Nat.reduceAdd, Nat.reduceBEq, Nat.reduceMul, Nat.reduceLT, Nat.reduceLeDiff, isMb_flb, pkW1, pkT, true_and, beq_self_eq_true]
    · simp -implicitDefEqProofs only [pkA, ptA, ↓reduceIte, Nat.reduceEqDiff, Nat.reduceAdd, Nat.reduceBEq, Nat.reduceMul, Nat.reduceLT, Nat.reduceLeDiff, isMb_flb, pkW1, pkT, true_and, h2]
  · simp -implicitDefEqProofs only [pkA, ptA, ↓reduceIte, Nat.reduceEqDiff, Nat.reduceAdd, Nat.reduceBEq, Nat.reduceMul, Nat.reduceLT, Nat.reduceLeDiff, isMb_flb, pkW1, pkT, true_and, h1]
end Go.Proofs.YthgmobkmmapgoaaGreat
