/- Layer 15: what the laws share. -/
import Derived.Test.YtkbkajabchhbeaaDoorVlLb
set_option linter.unusedSimpArgs false
set_option linter.unusedVariables false
namespace Go.Proofs.YtkbkajabchhbeaaDoor
open Go Go.Vl
set_option maxRecDepth 10000
theorem b_eqs {a : Bool} {K : V → Prop} : vbin Tryd.prog .eql 4 (bo a) (bo a) K = K (bo true) := by
 show vboolK (ti Tryd.prog 4) .eql a a K = _
 rw [ti_4]; simp [vboolK]
theorem b_eq {a b : Bool} {K : V → Prop} (h : a = b) (hK : K (bo true)) : vbin Tryd.prog .eql 4 (bo a) (bo b) K := by
 subst h
 rw [b_eqs]; exact hK
theorem b_neq {a : Bool} {K : V → Prop} : vbin Tryd.prog .neq 4 (bo a) (bo a) K = K (bo false) := by
 show vboolK (ti Tryd.prog 4) .neq a a K = _
 rw [ti_4]; simp [vboolK]
theorem vun_neg {n : Int} {K : V → Prop} : vun .neg (i64 n) K = K (i64 (IntKind.wrap .i64 (0 - n))) := rfl
abbrev big : Nat := 100000000
theorem small_parts {l : List Tm} (h : smallL l = true) : (∀ t ∈ l, validT t = true) ∧ sizeL l ≤ 150 := by
 unfold smallL at h
 rw [Bool.and_eq_true, List.all_eq_true, decide_eq_true_eq] at h
 exact h
theorem small_app {l : List Tm} {t : Tm} (h : smallL (l ++ [t]) = true) : (∀ x ∈ l, validT x = true) ∧ validT t = true ∧ sizeL l + sizeT t ≤ 150 := by
 obtain ⟨h1, h2⟩ := small_parts h
 have hsz : sizeL (l ++ [t]) = sizeL l + sizeT t := by rw [sizeL_append]; simp [sizeL]
 exact ⟨fun x hx => h1 x (List.mem_append_left _ hx), h1 t (by simp), by omega⟩
theorem isKey_eq {t : Tm} (h : validT t = true) : decide (t.kind = 1 ∨ t.kind = 2 ∨ t.kind = 5 ∨ t.kind = 6) = isKeyT t := by
 obtain ⟨k, n, l⟩ := t
 obtain ⟨hk, _⟩ := valid_parts h
 rcases hk with rfl | rfl | rfl | rfl | rfl | rfl <;> rfl
theorem clo_sizes {I : List Tm} (hv : ∀ t ∈ I, validT t = true) (hs : sizeL I ≤ 150) : sizeL (closeF I) ≤ 22500 ∧ (closeF I).length ≤ 150 ∧ ∀ t ∈ closeF I, validT t = true := by
 obtain ⟨hC, _⟩ := closeF_ok hv
 have h1 := cloS_len hC
 have h2 : ∀ t ∈ closeF I, sizeT t ≤ 150 := fun t ht => by
  obtain ⟨w, hw, hsub⟩ := (hC.kn t ht).loc rfl
  exact Nat.le_trans (subs_size w t hsub) (Nat.le_trans (sizeL_mem hw) hs)
 refine ⟨?_, by omega, fun t ht => ?_⟩
 ·have h3 := sizeL_bound h2
  have h4 := Nat.mul_le_mul (show (closeF I).length ≤ 150 by omega) (Nat.le_refl 150)
  omega
 ·obtain ⟨w, hw, hsub⟩ := (hC.kn t ht).loc rfl
  exact subs_valid w (hv w hw) _ hsub
def knT (I : List Tm) (t : Tm) : Bool := builtT (inP (closeF I)) t
theorem knT_iff {I : List Tm} (hv : ∀ t ∈ I, validT t = true) {t : Tm} : knT I t = true ↔ Kn I true t := by
 obtain ⟨hC, hcl⟩ := closeF_ok hv
 exact built_iff hC.item hC.kn hcl
theorem closeF_iff {I : List Tm} (hv : ∀ t ∈ I, validT t = true) {t : Tm} : t ∈ closeF I ↔ Kn I false t := by
 obtain ⟨hC, hcl⟩ := closeF_ok hv
 exact clo_iff hC.item hC.kn hcl
theorem KnowsN_ok (I : List Tm) (t : Tm) (hv : ∀ t ∈ I, validT t = true) (hsz : sizeL I ≤ 100000000) (ht : validT t = true) (hst : sizeT t ≤ 1000000000) : FnOK Tryd.prog glT 27 [.c (tsC I), .agg (tmC t)] (bo (knT I t)) := Knows_ok I t hv hsz ht hst
theorem knT_cut {I : List Tm} {t u : Tm} (hv : ∀ x ∈ I, validT x = true) (hvt : validT t = true) (h : knT I t = true) : knT (I ++ [t]) u = knT I u := by
 have hv2 : ∀ x ∈ I ++ [t], validT x = true := fun x hx => by
  rcases List.mem_append.1 hx with h | h
  ·exact hv x h
  ·rw [List.mem_singleton] at h; rw [h]; exact hvt
 rw [Bool.eq_iff_iff, knT_iff hv, knT_iff hv2]
 exact ⟨fun hk => ((knT_iff hv).1 h).cut hk, fun hk => hk.mono fun x hx => List.mem_append_left _ hx⟩
