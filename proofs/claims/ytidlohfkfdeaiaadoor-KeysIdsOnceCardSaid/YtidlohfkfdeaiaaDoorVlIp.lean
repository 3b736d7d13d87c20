/- Tables after an operation: they stay valid, and all other keys stay as they are: the plain law. -/
import Derived.Test.YtidlohfkfdeaiaaDoorVlNp
import Derived.Test.YtidlohfkfdeaiaaDoorVlZ2
set_option linter.unusedSimpArgs false
set_option linter.unusedVariables false
namespace Go.Proofs.YtidlohfkfdeaiaaDoor
open Go Go.Vl

theorem sortedK_pw {ks : List Ky} : sortedK ks ↔ ks.Pairwise fun a b => a.id < b.id := by
  rw [List.pairwise_iff_getElem]
  constructor
  · intro h i j hi hj hij
    exact h i j _ _ hij (List.getElem?_eq_getElem hi) (List.getElem?_eq_getElem hj)
  · intro h i j a b hij h1 h2
    obtain ⟨hi, rfl⟩ := List.getElem?_eq_some_iff.1 h1
    obtain ⟨hj, rfl⟩ := List.getElem?_eq_some_iff.1 h2
    exact h i j hi hj hij
def okK (nx : Int) (k : Ky) : Prop := validK k = true ∧ 0 < k.id ∧ k.id < nx ∧ k.par < nx
theorem valL_iff {nx : Int} : ∀ {ks : List Ky} {last : Int}, valL nx last ks = true ↔ (∀ k ∈ ks, validK k = true ∧ last < k.id ∧ k.id < nx ∧ k.par < nx) ∧ ks.Pairwise fun a b => a.id < b.id
  | [], last => by simp [valL]
  | k :: r, last => by
    have hk : okNext nx last k = true ↔ validK k = true ∧ last < k.id ∧ k.id < nx ∧ k.par < nx := by
      unfold okNext
      simp only [Bool.and_eq_true, Bool.not_eq_true', decide_eq_false_iff_not]
      constructor
      · rintro ⟨a, b, c, d⟩; exact ⟨a, by omega, by omega, by omega⟩
      · rintro ⟨a, b, c, d⟩; exact ⟨a, by omega, by omega, by omega⟩
    have e : valL nx last (k :: r) = (okNext nx last k && valL nx k.id r) := rfl
    rw [e, Bool.and_eq_true, valL_iff, List.pairwise_cons, hk]
    constructor
    · rintro ⟨h1, h2, h3⟩
      refine ⟨fun x hx => ?_, fun x hx => (h2 x hx).2.1, h3⟩
      rcases List.mem_cons.1 hx with rfl | hx
      · exact h1
      · obtain ⟨a, b, c⟩ := h2 x hx; exact ⟨a, by omega, c⟩
    · rintro ⟨h1, h2, h3⟩
      refine ⟨h1 k (List.mem_cons_self ..), fun x hx => ?_, h3⟩
      obtain ⟨a, b, c⟩ := h1 x (List.mem_cons_of_mem _ hx)
      exact ⟨a, h2 x hx, c⟩
theorem valT_iff {t : Tb} : validTR t = true ↔ t.ks.length ≤ 4096 ∧ (1 ≤ t.nx ∧ t.nx ≤ 2147483647) ∧ (∀ k ∈ t.ks, okK t.nx k) ∧ t.ks.Pairwise fun a b => a.id < b.id := by
  unfold validTR okK
  rw [Bool.and_eq_true, Bool.and_eq_true, decide_eq_true_eq, wi_iff, valL_iff]
theorem get_mem {ks : List Ky} {a : Ky} (hs : ks.Pairwise fun a b => a.id < b.id) (h : a ∈ ks) : getK ks a.id = some a := by
  unfold getK
  induction ks with
  | nil => simp at h
  | cons k r ih =>
    rw [List.pairwise_cons] at hs
    rcases List.mem_cons.1 h with rfl | h
    · simp
    · have := hs.1 a h
      rw [List.find?_cons_of_neg (by simp; omega)]
      exact ih hs.2 h
theorem getT_mem {t : Tb} {a : Ky} (hs : t.ks.Pairwise fun a b => a.id < b.id) (h : a ∈ t.ks) : getT t a.id = (a, 0) := by
  unfold getT; rw [get_mem hs h]
/-- What holds after an operation on the key 'id'. -/
structure After (t u : Tb) (id : Int) : Prop where
  val : validTR u = true
  ok : u.ok
  len : u.ks.length ≤ t.ks.length + 1
  get : ∀ a ∈ t.ks, a.id ≠ id → getT u a.id = (a, 0)
theorem add_after {t : Tb} {k : Ky} (hv : validTR t = true) (ht : t.ok) (hk : k.ok) (h40 : t.ks.length ≤ 4095) (h : (addT t k).2.2 = 0) :
    After t (addT t k).1 (addT t k).2.1 ∧ (addT t k).2.1 = t.nx ∧ (addT t k).1.nx = t.nx + 1 := by
  obtain ⟨v1, v2, v3, v4⟩ := valT_iff.1 hv
  have e : addT t k = if !validK k || decide (t.nx ≤ k.par) then (⟨0, []⟩, 0, 1) else
    if 4096 ≤ t.ks.length ∨ 2147483647 ≤ t.nx then (⟨0, []⟩, 0, 2) else (⟨t.nx + 1, t.ks ++ [{ k with id := t.nx }]⟩, t.nx, 0) := rfl
  rw [e] at h ⊢
  split at h
  · cases h
  rename_i h1
  split at h
  · cases h
  rename_i h2
  rw [if_neg h1, if_neg h2]
  simp only [Bool.or_eq_true, Bool.not_eq_true', decide_eq_true_eq, not_or, Bool.not_eq_false] at h1
  obtain ⟨k1, k2⟩ := h1
  have hpw : (t.ks ++ [({ k with id := t.nx } : Ky)]).Pairwise fun a b => a.id < b.id := by
    rw [List.pairwise_append]
    refine ⟨v4, List.pairwise_singleton _ _, fun a ha b hb => ?_⟩
    obtain rfl : b = { k with id := t.nx } := by simpa using hb
    exact (v3 a ha).2.2.1
  refine ⟨⟨valT_iff.2 ⟨?_, ⟨by simp only; omega, by simp only; omega⟩, fun a ha => ?_, hpw⟩, ⟨⟨by simp only; omega, by simp only; omega⟩, fun a ha => ?_⟩, by simp, fun a ha hne => getT_mem hpw (List.mem_append_left _ ha)⟩, rfl, rfl⟩
  · rw [List.length_append]; simp; omega
  · rcases List.mem_append.1 ha with ha | ha
    · obtain ⟨a1, a2, a3, a4⟩ := v3 a ha
      exact ⟨a1, a2, by simp only; omega, by simp only; omega⟩
    · obtain rfl : a = { k with id := t.nx } := by simpa using ha
      exact ⟨k1, by simp only; omega, by simp only; omega, by simp only; omega⟩
  · rcases List.mem_append.1 ha with ha | ha
    · exact ht.2 a ha
    · obtain rfl : a = { k with id := t.nx } := by simpa using ha
      exact ⟨ht.1, hk.2⟩
theorem low_at {ks : List Ky} {x : Int} (h : hasK ks x = true) : ∃ a, ks[lowK ks x]? = some a ∧ a.id = x := by
  unfold hasK at h
  split at h
  · rename_i k hk
    exact ⟨k, hk, cmp0.1 (of_decide_eq_true h)⟩
  · cases h
theorem rem_after {t : Tb} {x : Int} (hv : validTR t = true) (ht : t.ok) (h : (remT t x).2 = 0) : After t (remT t x).1 x ∧ (remT t x).1.nx = t.nx := by
  obtain ⟨v1, v2, v3, v4⟩ := valT_iff.1 hv
  have e : remT t x = if hasK t.ks x then (⟨t.nx, t.ks.eraseIdx (lowK t.ks x)⟩, 0) else (⟨0, []⟩, 11) := rfl
  rw [e] at h ⊢
  split at h
  · rename_i h1
    rw [if_pos h1]
    obtain ⟨b, hb, hbx⟩ := low_at h1
    have hsub := List.eraseIdx_sublist t.ks (lowK t.ks x)
    have hpw := v4.sublist hsub
    refine ⟨⟨valT_iff.2 ⟨Nat.le_trans hsub.length_le v1, v2, fun a ha => v3 a (hsub.subset ha), hpw⟩, ⟨ht.1, fun a ha => ht.2 a (hsub.subset ha)⟩, Nat.le_succ_of_le hsub.length_le, fun a ha hne => getT_mem hpw ?_⟩, rfl⟩
    rw [List.mem_eraseIdx_iff_getElem?]
    obtain ⟨j, hj⟩ := List.mem_iff_getElem?.1 ha
    refine ⟨j, fun e => ?_, hj⟩
    rw [e, hb] at hj; cases hj; exact hne hbx
  · cases h
theorem put_after {t : Tb} {k : Ky} (hv : validTR t = true) (ht : t.ok) (hk : k.ok) (h : (putT t k).2 = 0) : After t (putT t k).1 k.id ∧ (putT t k).1.nx = t.nx := by
  obtain ⟨v1, v2, v3, v4⟩ := valT_iff.1 hv
  have e : putT t k = if !validK k || decide (t.nx ≤ k.par) then (⟨0, []⟩, 1) else if hasK t.ks k.id then (⟨t.nx, t.ks.set (lowK t.ks k.id) k⟩, 0) else (⟨0, []⟩, 11) := rfl
  rw [e] at h ⊢
  split at h
  · cases h
  rename_i h1
  rw [if_neg h1]
  simp only [Bool.or_eq_true, Bool.not_eq_true', decide_eq_true_eq, not_or, Bool.not_eq_false] at h1
  obtain ⟨k1, k2⟩ := h1
  split at h
  · rename_i h2
    rw [if_pos h2]
    obtain ⟨b, hb, hbx⟩ := low_at h2
    have hbm := List.mem_of_getElem? hb
    have hpw : (t.ks.set (lowK t.ks k.id) k).Pairwise fun a b => a.id < b.id := sortedK_pw.1 (set_sorted (sortedK_pw.2 v4) hb hbx.symm)
    have hm : ∀ a ∈ t.ks.set (lowK t.ks k.id) k, a = k ∨ a ∈ t.ks := fun a ha => (List.mem_or_eq_of_mem_set ha).symm
    refine ⟨⟨valT_iff.2 ⟨by simpa using v1, v2, fun a ha => ?_, hpw⟩, ⟨ht.1, fun a ha => ?_⟩, by simp, fun a ha hne => getT_mem hpw ?_⟩, rfl⟩
    · rcases hm a ha with rfl | ha
      · obtain ⟨_, q2, q3, _⟩ := v3 b hbm
        exact ⟨k1, by rw [← hbx]; exact q2, by rw [← hbx]; exact q3, by simp only; omega⟩
      · exact v3 a ha
    · rcases hm a ha with rfl | ha
      · exact hk
      · exact ht.2 a ha
    · obtain ⟨j, hj⟩ := List.mem_iff_getElem?.1 ha
      refine List.mem_iff_getElem?.2 ⟨j, ?_⟩
      rw [List.getElem?_set, if_neg, hj]
      intro e
      rw [e] at hb
      rw [hb] at hj; cases hj; exact hne hbx
  · cases h
end Go.Proofs.YtidlohfkfdeaiaaDoor
