/- Layer 27: the specification's lists, and equality. -/
import Derived.Test.YtidlohfkfdeaiaaDoorVlR2
set_option linter.unusedSimpArgs false
set_option linter.unusedVariables false
namespace Go.Proofs.YtidlohfkfdeaiaaDoor
open Go Go.Vl

variable {G : Gl}
theorem eq_kv (k : Ky) : eqCs [.int, .int, .str, .int, .int, .int, .int, .int, .bool] (kC k) (kC k) = some true := by
  obtain ⟨id, ty, val, us, st, en, ver, par, raw⟩ := k
  simp [kC, eqCs, eqC]
theorem b_eq (k : Ky) (K : V → Prop) : vbin Tryd.prog .eql 26 (kv k) (kv k) K = K (bo true) := vbin_eql ti_26 rfl rfl (eq_kv k) rfl rfl
theorem b_ne (k : Ky) (K : V → Prop) : vbin Tryd.prog .neq 26 (kv k) (kv k) K = K (bo false) := vbin_neq ti_26 rfl rfl (eq_kv k) rfl rfl
set_option maxRecDepth 100000 in
set_option maxHeartbeats 1500000 in
theorem Same_ok (t : Tb) (hl : t.ks.length ≤ 1000000) : FnOK Tryd.prog G 29 [tv t, tv t] (bo true) := by
  refine FnOK_by (rs := [.tmp 4]) false [] mixed Tryd.func29 rfl rfl rfl rfl (by kernel_rfl) (by simp) rfl rfl ?_
  obtain ⟨nx, ks⟩ := t
  simp only at hl
  have d0 : (!decide (nx = nx)) = false := by simp
  have d1 : (!decide (((ks.length : Nat) : Int) = (ks.length : Nat))) = false := by simp
  simp -implicitDefEqProofs only [pkA, ptA, ↓reduceIte, Nat.reduceEqDiff, Nat.reduceAdd, Nat.reduceMul, Nat.reduceLT, Nat.zero_add, decide_true, tv, tC, List.length_map]
  refine run_loop (fun i : Nat => hdS [(2, .bp 0 0), (3, .bp 1 0), (5, i64 (i : Nat))] [[V.c (ic nx), V.c (.sl (ks.map kC))], [V.c (ic nx), V.c (.sl (ks.map kC))]]) (fun i => ks.length - i) (fun i => i ≤ ks.length) 0 (Nat.zero_le _) ?_ ?_
  · exact le_hd rfl (Nat.zero_le _) (by simp) (by simp [FL, up_apply]) (by simp [BL, up_apply])
  rintro i hi R hnorm hexit hret
  have hwi := wrap_of (n := (i : Int) + 1) (k := i + 1) (by omega) (by omega)
  simp -implicitDefEqProofs only [pkA, ptA, ↓reduceIte, Nat.reduceEqDiff, Nat.reduceAdd, Nat.reduceMul, Nat.reduceLT, Nat.zero_add, decide_true, List.length_map]
  refine vcond_of (fun hp => ?_) (fun hz => ?_)
  · have hp : i < ks.length := by have := dlt hp; omega
    obtain ⟨k, hk⟩ : ∃ k, ks[i]? = some k := ⟨ks[i], List.getElem?_eq_getElem hp⟩
    have pa : ∀ s K, vload Tryd.prog 26 s (.c (.rp (kC k) 0)) K = K (kv k) := fun s K => ld_all ti_26 rfl (kC_len k)
    simp -implicitDefEqProofs only [pkA, ptA, ↓reduceIte, Nat.reduceEqDiff, Nat.reduceAdd, Nat.reduceMul, Nat.reduceLT, Nat.zero_add, decide_true]
    refine ia_ks hk rfl ?_
    simp -implicitDefEqProofs only [pkA, ptA, ↓reduceIte, Nat.reduceEqDiff, Nat.reduceAdd, Nat.reduceMul, Nat.reduceLT, Nat.zero_add, decide_true, pa]
    refine ia_ks hk rfl ?_
    simp -implicitDefEqProofs only [pkA, ↓reduceIte, Nat.reduceEqDiff, Nat.reduceAdd, pa]
    rw [b_ne]
    simp -implicitDefEqProofs only [pkA, ↓reduceIte, Nat.reduceEqDiff, Nat.reduceAdd, hwi]
    exact hnorm (i + 1) _ hp (by omega) (le_hd rfl (Nat.zero_le _) (by simp) (by simp [FL, up_apply]) (by simp [BL, bxs]))
  have hz : i = ks.length := by have := dge hz; omega
  subst hz
  simp -implicitDefEqProofs only [pkA]
  refine hexit _ _ ?_
  simp -implicitDefEqProofs only [pkA, ↓reduceIte, Nat.reduceAdd]
end Go.Proofs.YtidlohfkfdeaiaaDoor
