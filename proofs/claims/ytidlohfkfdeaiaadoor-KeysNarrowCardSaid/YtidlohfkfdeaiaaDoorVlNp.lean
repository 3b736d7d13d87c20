/- What is allowed for some uses is allowed for a part of them; what is allowed for a lesser key is allowed for the key: the plain law. -/
import Derived.Test.YtidlohfkfdeaiaaDoorVlLawF
import Derived.Test.YtidlohfkfdeaiaaDoorVlZ1
set_option linter.unusedSimpArgs false
set_option linter.unusedVariables false
namespace Go.Proofs.YtidlohfkfdeaiaaDoor
open Go Go.Vl

theorem bv_of {z : BitVec 64} (h : z.toInt = 0) : z = 0 := BitVec.eq_of_toInt_eq (by rw [h]; rfl)
theorem part_ok {a b c : Int} (h : bits .andNot .i64 a c = 0) : bits .andNot .i64 (bits .and .i64 a b) c = 0 := by
  rw [andNot_bits] at h ⊢
  rw [and_bits, BitVec.ofInt_toInt]
  have h := bv_of h
  have : (BitVec.ofInt 64 a &&& BitVec.ofInt 64 b) &&& ~~~BitVec.ofInt 64 c = 0 := by
    apply BitVec.eq_of_getLsbD_eq
    intro i hi
    have := congrArg (fun z => z.getLsbD i) h
    simp at this ⊢
    cases hx : (BitVec.ofInt 64 a).getLsbD i <;> cases hy : (BitVec.ofInt 64 c).getLsbD i <;> simp_all
  rw [this]; rfl
theorem less_ok {a b c : Int} (h : bits .andNot .i64 a (bits .and .i64 b c) = 0) : bits .andNot .i64 a b = 0 := by
  rw [andNot_bits] at h ⊢
  rw [and_bits, BitVec.ofInt_toInt] at h
  have h := bv_of h
  have : BitVec.ofInt 64 a &&& ~~~BitVec.ofInt 64 b = 0 := by
    apply BitVec.eq_of_getLsbD_eq
    intro i hi
    have := congrArg (fun z => z.getLsbD i) h
    simp at this ⊢
    cases hx : (BitVec.ofInt 64 a).getLsbD i <;> cases hy : (BitVec.ofInt 64 b).getLsbD i <;> simp_all
  rw [this]; rfl
theorem valL_mem {nx : Int} : ∀ {ks : List Ky} {last : Int} {k : Ky}, valL nx last ks = true → k ∈ ks → validK k = true ∧ k.par < nx
  | [], _, _, _, h => by simp at h
  | a :: r, last, k, hv, h => by
    have hv : (okNext nx last a && valL nx a.id r) = true := hv
    rw [Bool.and_eq_true] at hv
    rcases List.mem_cons.1 h with rfl | h
    · have := hv.1
      unfold okNext at this
      simp only [Bool.and_eq_true, Bool.not_eq_true', decide_eq_false_iff_not] at this
      exact ⟨this.1, by omega⟩
    · exact valL_mem hv.2 h
/-- A key that is found. -/
theorem getK_at {ks : List Ky} {x : Int} {k : Ky} (hs : sortedK ks) (h : getK ks x = some k) : hasK ks x = true ∧ ks[lowK ks x]? = some k ∧ k.id = x ∧ k ∈ ks := by
  have e := hasK_get (x := x) hs
  rw [h] at e
  have hid : k.id = x := by have := List.find?_some h; simpa using this
  have hm : k ∈ ks := List.mem_of_find?_eq_some h
  cases hh : hasK ks x
  · rw [hh] at e; simp at e
  · rw [hh, if_pos rfl] at e
    exact ⟨rfl, e.symm, hid, hm⟩
theorem set_id {ks : List Ky} {i : Nat} {k n : Ky} (hk : ks[i]? = some k) (hn : n.id = k.id) {j : Nat} {a : Ky} (h : (ks.set i n)[j]? = some a) : ∃ b, ks[j]? = some b ∧ b.id = a.id := by
  rw [List.getElem?_set] at h
  split at h
  · split at h
    · subst i; cases h; exact ⟨k, hk, hn.symm⟩
    · cases h
  · exact ⟨a, h, rfl⟩
theorem set_sorted {ks : List Ky} {i : Nat} {k n : Ky} (hs : sortedK ks) (hk : ks[i]? = some k) (hn : n.id = k.id) : sortedK (ks.set i n) := by
  intro a b u v hab h1 h2
  obtain ⟨u', h3, h4⟩ := set_id hk hn h1
  obtain ⟨v', h5, h6⟩ := set_id hk hn h2
  rw [← h4, ← h6]; exact hs a b u' v' hab h3 h5
theorem get_set {ks : List Ky} {i : Nat} {k n : Ky} (hs : sortedK ks) (hk : ks[i]? = some k) (hn : n.id = k.id) : getK (ks.set i n) k.id = some n := by
  obtain ⟨hi, _⟩ := List.getElem?_eq_some_iff.1 hk
  unfold getK
  rw [List.set_eq_take_append_cons_drop, if_pos hi, List.find?_append]
  have : (ks.take i).find? (fun a => decide (a.id = k.id)) = none := by
    rw [List.find?_eq_none]
    intro a ha
    obtain ⟨j, hj⟩ := List.mem_iff_getElem?.1 ha
    rw [List.getElem?_take] at hj
    split at hj
    · have := hs j i a k (by assumption) hj hk
      simp; omega
    · cases hj
  rw [this]
  simp [hn]
theorem wi_iff {n lo hi : Int} : wi n lo hi = true ↔ lo ≤ n ∧ n ≤ hi := by simp [wi]
/-- The lesser key. -/
def narK (k : Ky) (less en : Int) : Ky :=
  let m := if en < k.en then en else k.en
  { k with uses := bits .and .i64 k.uses less, en := if k.st < m then m else k.st }
theorem nar_valid {k : Ky} {less en : Int} (h : validK k = true) : validK (narK k less en) = true := by
  unfold validK at h ⊢
  simp only [Bool.and_eq_true] at h ⊢
  obtain ⟨⟨⟨⟨⟨⟨a1, a2⟩, a3⟩, a4⟩, a5⟩, a6⟩, a7⟩ := h
  have hu : usesOk (bits .and .i64 k.uses less) = true := decide_eq_true (part_ok (of_decide_eq_true a3))
  have b4 := wi_iff.1 a4
  have b5 := wi_iff.1 a5
  have he : k.st ≤ (narK k less en).en ∧ (narK k less en).en ≤ k.en := by
    simp only [narK]
    constructor
    · split <;> omega
    · split
      · split <;> omega
      · omega
  exact ⟨⟨⟨⟨⟨⟨a1, a2⟩, hu⟩, wi_iff.2 ⟨b4.1, he.1⟩⟩, wi_iff.2 ⟨by omega, by omega⟩⟩, a6⟩, a7⟩
theorem nar_live {k : Ky} {less en now : Int} (h : liveK (narK k less en) now = true) : liveK k now = true := by
  unfold liveK narK at h
  unfold liveK
  simp only [Bool.and_eq_true, decide_eq_true_eq] at h ⊢
  refine ⟨h.1, ?_⟩
  have h1 := h.1
  have h2 := h.2
  split at h2
  · split at h2 <;> omega
  · omega
/-- What Allowed answers. -/
theorem alw_none {t : Tb} {x uses now : Int} (h : getK t.ks x = none) : alwT t x uses now = (k0, 11) := by unfold alwT; rw [h]
theorem alw_some {t : Tb} {x uses now : Int} {k : Ky} (h : getK t.ks x = some k) : alwT t x uses now = if liveK k now then (if bits .andNot .i64 uses k.uses = 0 then (k, 0) else (k0, 10)) else (k0, 13) := by unfold alwT; rw [h]
theorem alw_zero {t : Tb} {x uses now : Int} {k : Ky} (h : getK t.ks x = some k) : (alwT t x uses now).2 = 0 ↔ (liveK k now = true ∧ bits .andNot .i64 uses k.uses = 0) := by
  rw [alw_some h]
  cases liveK k now
  · simp
  · by_cases hb : bits .andNot .i64 uses k.uses = 0 <;> simp [hb]
theorem alw_ok {t : Tb} {x uses now : Int} (h : (alwT t x uses now).2 = 0) : ∃ k, getK t.ks x = some k ∧ liveK k now = true ∧ bits .andNot .i64 uses k.uses = 0 ∧ (alwT t x uses now).1 = k := by
  cases hg : getK t.ks x with
  | none => rw [alw_none hg] at h; cases h
  | some k =>
    obtain ⟨h1, h2⟩ := (alw_zero hg).1 h
    refine ⟨k, rfl, h1, h2, ?_⟩
    rw [alw_some hg, h1, if_pos rfl, if_pos h2]
theorem nar1 {t : Tb} {x uses now part : Int} (h : (alwT t x uses now).2 = 0) : (alwT t x (bits .and .i64 uses part) now).2 = 0 := by
  obtain ⟨k, h1, h2, h3, _⟩ := alw_ok h
  exact (alw_zero h1).2 ⟨h2, part_ok h3⟩
theorem nar2 {t : Tb} {x uses now : Int} (h : (alwT t x uses now).2 ≠ 0) : decide ((alwT t x uses now).2 = 11) = !decide ((getT t x).2 = 0) := by
  cases hg : getK t.ks x with
  | none =>
    have : getT t x = (k0, 11) := by unfold getT; rw [hg]
    rw [alw_none hg, this]; rfl
  | some k =>
    have : getT t x = (k, 0) := by unfold getT; rw [hg]
    rw [this]
    rw [alw_some hg] at h ⊢
    cases hl : liveK k now
    · rfl
    · rw [hl] at h
      by_cases hb : bits .andNot .i64 uses k.uses = 0
      · simp [hb] at h
      · simp [hb]
theorem nar3 {t : Tb} {x uses now later : Int} (hn : ¬ later < now) (h : (alwT t x uses later).2 = 0) : (endT t now).length ≠ t.ks.length := by
  intro he
  obtain ⟨k, h1, h2, _, _⟩ := alw_ok h
  have hm : k ∈ t.ks := List.mem_of_find?_eq_some h1
  unfold endT at he
  rw [List.length_map, List.length_filter_eq_length_iff] at he
  have := he k hm
  simp only [decide_eq_true_eq] at this
  unfold liveK at h2
  simp only [Bool.and_eq_true, decide_eq_true_eq] at h2
  omega
/-- The lesser key is put. -/
theorem nar4 {t : Tb} {x uses now later less en : Int} (hs : sortedK t.ks) (hv : valL t.nx 0 t.ks = true) (h : (alwT t x uses now).2 = 0) :
    ∃ i k, t.ks[i]? = some k ∧ (alwT t x uses now).1 = k ∧ putT t (narK k less en) = (⟨t.nx, t.ks.set i (narK k less en)⟩, 0) ∧ sortedK (t.ks.set i (narK k less en)) ∧
      ((alwT ⟨t.nx, t.ks.set i (narK k less en)⟩ x uses later).2 = 0 → (alwT t x uses later).2 = 0) := by
  obtain ⟨k, h1, h2, h3, h4⟩ := alw_ok h
  obtain ⟨g1, g2, g3, g4⟩ := getK_at hs h1
  obtain ⟨v1, v2⟩ := valL_mem hv g4
  have hid : (narK k less en).id = k.id := rfl
  refine ⟨lowK t.ks x, k, g2, h4, ?_, set_sorted hs g2 hid, fun hj => ?_⟩
  · unfold putT
    have hp : (narK k less en).par = k.par := rfl
    rw [nar_valid v1, hid, g3, g1, hp, decide_eq_false (by omega)]
    rfl
  · have hg := get_set hs g2 hid
    rw [g3] at hg
    obtain ⟨a1, a2⟩ := (alw_zero (t := ⟨t.nx, _⟩) hg).1 hj
    exact (alw_zero h1).2 ⟨nar_live a1, less_ok a2⟩
end Go.Proofs.YtidlohfkfdeaiaaDoor
