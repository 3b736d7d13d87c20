/- Tables that are valid have their keys in order; few keys. -/
import Derived.Test.YtidlohfkfdeaiaaDoorVlSan
set_option linter.unusedSimpArgs false
set_option linter.unusedVariables false
namespace Go.Proofs.YtidlohfkfdeaiaaDoor
open Go Go.Vl

theorem validTR_valid {t : Tb} (h : validTR t = true) : valL t.nx 0 t.ks = true := by
  unfold validTR at h
  simp only [Bool.and_eq_true] at h
  exact h.2.2
theorem valL_ids {nx : Int} : ∀ {ks : List Ky} {last : Int}, valL nx last ks = true → (∀ k ∈ ks, last < k.id) ∧ sortedK ks
  | [], _, _ => ⟨by simp, fun i j a b hij h1 => by simp at h1⟩
  | k :: r, last, h => by
    have h : (okNext nx last k && valL nx k.id r) = true := h
    rw [Bool.and_eq_true] at h
    obtain ⟨h1, h2⟩ := valL_ids h.2
    have hk : last < k.id := by
      have := h.1
      unfold okNext at this
      simp only [Bool.and_eq_true, Bool.not_eq_true', decide_eq_false_iff_not] at this
      omega
    refine ⟨fun x hx => ?_, fun i j a b hij ha hb => ?_⟩
    · rcases List.mem_cons.1 hx with rfl | hx
      · exact hk
      · have := h1 x hx; omega
    · cases j with
      | zero => omega
      | succ j =>
        cases i with
        | zero =>
          obtain rfl : k = a := by simpa using ha
          exact h1 b (List.mem_of_getElem? (show r[j]? = some b by simpa using hb))
        | succ i => exact h2 i j a b (by omega) (by simpa using ha) (by simpa using hb)
theorem sorted_of {t : Tb} (h : validTR t = true) : sortedK t.ks := (valL_ids (validTR_valid h)).2
end Go.Proofs.YtidlohfkfdeaiaaDoor
