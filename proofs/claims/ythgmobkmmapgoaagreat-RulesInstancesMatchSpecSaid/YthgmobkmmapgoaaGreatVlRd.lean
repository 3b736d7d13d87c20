/- Layer 17, the specification: Using, Closed, Next. -/
import Derived.Test.YthgmobkmmapgoaaGreatVlRb
set_option linter.unusedSimpArgs false
set_option linter.unusedVariables false
namespace Go.Proofs.YthgmobkmmapgoaaGreat
open Go Go.Vl
variable {G : Gl}
set_option maxRecDepth 4000
theorem lenIn {l : List In} {K : V → Prop} : vlen Tryz.prog 40 (.c (insC l)) K = K (i64 l.length) := by unfold insC; rw [len_40, List.length_map]
theorem lenFs2 {l : List Fa} {K : V → Prop} : vlen Tryz.prog 27 (.c (fsC l)) K = K (i64 l.length) := by unfold fsC; rw [len_27, List.length_map]
theorem lok_pol {p : Pol} {nb q : Nat} {K : V → Prop} : ldA nb q ((poC p).map .c) 0 4 K = (q < nb ∧ K (.agg (poC p))) := by
 unfold ldA
 exact propext ⟨fun h => ⟨h.1, h.2.2⟩, fun h => ⟨h.1, ⟨rfl, rfl⟩, h.2⟩⟩
theorem isMb_pol {p : Pol} : isMb ((poC p).map V.c) = false := rfl
theorem owI_fz {l : List In} : (owI l).fz = .c (insC l) := rfl
theorem owI_ow {l : List In} : (owI l).isOw = true := rfl
theorem pkU : type_of% (And.intro @pkM (And.intro @lenIn (And.intro @lenFs2 (And.intro @lok_fa (And.intro @lok_pol (And.intro @isMb_fa (And.intro @isMb_pol (And.intro @owI_fz (@owI_ow))))))))) := ⟨@pkM, @lenIn, @lenFs2, @lok_fa, @lok_pol, @isMb_fa, @isMb_pol, @owI_fz, @owI_ow⟩
theorem rInst_k (p : Pol) (hn : p.types.length ≤ 1000) (hr : p.rules.length ≤ 1000) (hlen : (allL p none).length ≤ 20000) : FnOK Tryz.prog G 25 [.agg (poC p)] (.c (insC (allL p none))) := rInst_ok p hn hr hlen
def usesL (f : Fa) (m : List In) : List In := m.filter fun x => decide (f ∈ x.pre)
theorem usesL_succ {f : Fa} {m : List In} {i : Nat} (h : i < m.length) : usesL f (m.take (i + 1)) = if decide (f ∈ m[i].pre) = true then usesL f (m.take i) ++ [m[i]] else usesL f (m.take i) := by
 unfold usesL
 rw [List.take_succ_eq_append_getElem h, List.filter_append]
 by_cases h : f ∈ m[i].pre <;> simp [h]
theorem usesL_len {f : Fa} {m : List In} {i : Nat} : (usesL f (m.take i)).length ≤ i := by
 unfold usesL
 exact Nat.le_trans (List.length_filter_le _ _) (by simp; omega)
set_option maxHeartbeats 1000000 in
theorem rUsing_ok (p : Pol) (f : Fa) (hn : p.types.length ≤ 1000) (hr : p.rules.length ≤ 1000) (hlen : (allL p none).length ≤ 20000) (hs2 : small2 (allL p none)) : FnOK Tryz.prog G 26 [.agg (poC p), .agg (faC f)] (.c (insC (usesL f (allL p none)))) := by
 refine FnOK_by (rs := [.tmp 4]) false [25] mixed Tryz.func26 rfl rfl rfl rfl (by kernel_rfl) (by simp) rfl rfl ?_
 simp -implicitDefEqProofs only [pkA, ptA, ↓reduceIte, Nat.reduceEqDiff, Nat.reduceAdd, Nat.reduceBEq, Nat.reduceMul, Nat.reduceLT, pkU]
 refine call_fn rfl (rInst_k p hn hr hlen) (fun h => by cases h) ?_
 simp -implicitDefEqProofs only [pkA, ↓reduceIte, Nat.reduceAdd, Nat.reduceBEq]
 generalize allL p none = m at hlen hs2
 refine run_loop (fun i : Nat => hdS [(3, .bp 1 0), (5, .c (insC m)), (6, owI (usesL f (m.take i))), (7, i64 i)] [(poC p).map .c, (faC f).map .c]) (fun i => m.length - i) (fun i => i ≤ m.length) 0 (Nat.zero_le _) ?_ ?_
 ·exact le_hd rfl (Nat.zero_le _) (Nat.le_refl _) (by simp [FL, up_apply, owI, usesL]) (by simp [BL, up_apply])
 rintro i hi R hnorm hexit hret
 simp -implicitDefEqProofs only [pkA, ↓reduceIte, Nat.reduceEqDiff, Nat.reduceAdd, Nat.reduceBEq, pkU]
 refine vcond_of (fun hlt => ?_) (fun hge => ?_)
 ·have hlt : i < m.length := by simpa using hlt
  have hw := wrap_of (n := (i : Int) + 1) (k := i + 1) (by omega) (by omega)
  have hl := @usesL_len f m i
  simp -implicitDefEqProofs only [pkA, ↓reduceIte, Nat.reduceEqDiff, Nat.reduceAdd, Nat.reduceBEq]
  refine ia_of ti_40 rfl ti_50 (by decide) (Int.natCast_nonneg i) (c := inC m[i]) (by simp [hlt]) rfl ?_
  simp -implicitDefEqProofs only [pkA, ptA, ↓reduceIte, Nat.reduceEqDiff, Nat.reduceAdd, Nat.reduceBEq, Nat.reduceMul, Nat.reduceLT, pkU]
  refine call_fn rfl (Holds_ok m[i].pre f (by have := (hs2 m[i] (List.getElem_mem hlt)).1; omega)) (fun _ => rfl) ?_
  simp -implicitDefEqProofs only [pkA, ↓reduceIte, Nat.reduceAdd, Nat.reduceBEq]
  refine vcond_of (fun hy => ?_) (fun hn => ?_)
  ·simp -implicitDefEqProofs only [pkA, ↓reduceIte, Nat.reduceEqDiff, Nat.reduceAdd, Nat.reduceBEq, pkU]
   refine ia_of ti_40 rfl ti_50 (by decide) (Int.natCast_nonneg i) (c := inC m[i]) (by simp [hlt]) rfl ?_
   simp -implicitDefEqProofs only [pkA, ptA, ↓reduceIte, Nat.reduceEqDiff, Nat.reduceAdd, Nat.reduceBEq, Nat.reduceMul, Nat.reduceLeDiff, pkU, isGh_some]
   refine appI1 (l := usesL f (m.take i)) (x := m[i]) (by omega) ?_
   simp -implicitDefEqProofs only [pkA, ↓reduceIte, Nat.reduceEqDiff, Nat.reduceAdd, Nat.reduceBEq, pkU, hw]
   refine hnorm (i + 1) _ hlt (by omega) (le_hd rfl (Nat.zero_le _) (Nat.le_refl _) ?_ (by simp [BL, bxs]))
   simp [FL, up_apply, usesL_succ hlt, hy]
  ·simp -implicitDefEqProofs only [pkA, ↓reduceIte, Nat.reduceEqDiff, Nat.reduceAdd, Nat.reduceBEq, hw]
   refine hnorm (i + 1) _ hlt (by omega) (le_hd rfl (Nat.zero_le _) (Nat.le_refl _) ?_ (by simp [BL, bxs]))
   simp [FL, up_apply, usesL_succ hlt, hn]
 ·have : i = m.length := by simp at hge; omega
  subst this
  simp -implicitDefEqProofs only [pkA]
  refine hexit _ _ ?_
  simp -implicitDefEqProofs only [pkA, ↓reduceIte, Nat.reduceEqDiff, Nat.reduceAdd, Nat.reduceBEq, pkU]
  rw [List.take_length]
end Go.Proofs.YthgmobkmmapgoaaGreat
/- Layer 17, the specification: Next. -/
namespace Go.Proofs.YthgmobkmmapgoaaGreat
open Go Go.Vl
variable {G : Gl}
set_option maxRecDepth 4000
