/- Tables that are valid have their keys in order; few keys. -/
import Derived.Test.YtidlohfkfdeaiaaDoorVlSan
set_option linter.unusedSimpArgs false
set_option linter.unusedVariables false
namespace Go.Proofs.YtidlohfkfdeaiaaDoor
open Go Go.Vl

theorem validTR_valid {t : Tb} (h : validTR t = true) : valL t.nx 0 t.ks = true := by
  unfold validTR at h
  simp only [Bool.and_eq_true] at h
  exact h.2.2
theorem valL_ids {nx : Int} : ∀ {ks : List Ky} {last : Int}, valL nx last ks = true → (∀ k ∈ ks, last < k.id) ∧ sortedK ks
  | [], _, _ => ⟨by simp, fun i j a b hij h1 => by simp at h1⟩
  | k :: r, last, h => by
    have h : (okNext nx last k && valL nx k.id r) = true := h
    rw [Bool.and_eq_true] at h
    obtain ⟨h1, h2⟩ := valL_ids h.2
    have hk : last < k.id := by
      have := h.1
      unfold okNext at this
      simp only [Bool.and_eq_true, Bool.not_eq_true', decide_eq_false_iff_not] at this
      omega
    refine ⟨fun x hx => ?_, fun i j a b hij ha hb => ?_⟩
    · rcases List.mem_cons.1 hx with rfl | hx
      · exact hk
      · have := h1 x hx; omega
    · cases j with
      | zero => omega
      | succ j =>
        cases i with
        | zero =>
          obtain rfl : k = a := by simpa using ha
          exact h1 b (List.mem_of_getElem? (show r[j]? = some b by simpa using hb))
        | succ i => exact h2 i j a b (by omega) (by simpa using ha) (by simpa using hb)
theorem sorted_of {t : Tb} (h : validTR t = true) : sortedK t.ks := (valL_ids (validTR_valid h)).2
def fewB (t : Tb) : Bool := if 60 < t.ks.length then false else validTR t
set_option maxRecDepth 100000 in
theorem few_ok {G : Gl} (t : Tb) (ht : t.ok) (hl : t.ks.length ≤ 9223372036854775807) : FnOK Tryd.prog G 10 [tv t] (bo (fewB t)) := by
  refine FnOK_by (rs := [.tmp 2]) false [] mixed Tryd.func10 rfl rfl rfl rfl (by kernel_rfl) (by simp) rfl rfl ?_
  have hv := rValidT_ok (G := G) t hl ht
  obtain ⟨nx, ks⟩ := t
  simp only at hl
  have hf : fewB ⟨nx, ks⟩ = if 60 < ks.length then false else validTR ⟨nx, ks⟩ := rfl
  rw [hf]
  simp -implicitDefEqProofs only [pkA, ptA, ↓reduceIte, Nat.reduceEqDiff, Nat.reduceAdd, Nat.reduceBEq, Nat.reduceMul, Nat.reduceLT, Nat.reduceLeDiff, Nat.zero_add, decide_true, Nat.reduceSub, isMb_cl, isMb_zbox, cl_len, zbox_len, c_w8, c_lo8, wr_add, w_xor, w_and, w_or, w_not, vbin_shl, vbin_shr, vint_mul, tC, List.map_cons, List.map_nil, List.length_map]
  by_cases h : 60 < ks.length
  · have d : decide ((60 : Int) < (ks.length : Nat)) = true := decide_eq_true (by omega)
    rw [if_pos h]
    simp -implicitDefEqProofs only [pkA, ptA, ↓reduceIte, Nat.reduceEqDiff, Nat.reduceAdd, Nat.reduceBEq, Nat.reduceMul, Nat.reduceLT, Nat.reduceLeDiff, Nat.zero_add, decide_true, Nat.reduceSub, isMb_cl, isMb_zbox, cl_len, zbox_len, c_w8, c_lo8, wr_add, w_xor, w_and, w_or, w_not, vbin_shl, vbin_shr, vint_mul, d]
  · have d : decide ((60 : Int) < (ks.length : Nat)) = false := decide_eq_false (by omega)
    rw [if_neg h]
    simp -implicitDefEqProofs only [pkA, ptA, ↓reduceIte, Nat.reduceEqDiff, Nat.reduceAdd, Nat.reduceBEq, Nat.reduceMul, Nat.reduceLT, Nat.reduceLeDiff, Nat.zero_add, decide_true, Nat.reduceSub, isMb_cl, isMb_zbox, cl_len, zbox_len, c_w8, c_lo8, wr_add, w_xor, w_and, w_or, w_not, vbin_shl, vbin_shr, vint_mul, d]
    exact call_fn («as» := [tv ⟨nx, ks⟩]) rfl hv (fun _ => rfl) (by simp -implicitDefEqProofs only [pkA, ptA, ↓reduceIte, Nat.reduceEqDiff, Nat.reduceAdd, Nat.reduceBEq, Nat.reduceMul, Nat.reduceLT, Nat.reduceLeDiff, Nat.zero_add, decide_true, Nat.reduceSub, isMb_cl, isMb_zbox, cl_len, zbox_len, c_w8, c_lo8, wr_add, w_xor, w_and, w_or, w_not, vbin_shl, vbin_shr, vint_mul])
end Go.Proofs.YtidlohfkfdeaiaaDoor
