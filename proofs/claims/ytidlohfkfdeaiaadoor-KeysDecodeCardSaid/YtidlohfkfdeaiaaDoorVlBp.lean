/- What is put into a box comes out of it, and only that: the plain law. -/
import Derived.Test.YtidlohfkfdeaiaaDoorVlY3
import Derived.Test.YtidlohfkfdeaiaaDoorVlR2
set_option linter.unusedSimpArgs false
set_option linter.unusedVariables false
namespace Go.Proofs.YtidlohfkfdeaiaaDoor
open Go Go.Vl

theorem cnt_enc {n : Nat} (hn : n ≤ 1000000000) {r : B} (hr : n ≤ r.length) : cnt (encI (n : Int) ++ r) 1 = ((n : Int), (encI (n : Int)).length, 0) := by
  have hg := getI_enc (I64_nat (n := n) (by omega)) r
  unfold cnt
  rw [hg]
  simp only
  rw [if_neg (by simp), if_neg (by omega), if_neg]
  rw [List.length_append, Nat.add_sub_cancel_left, Nat.div_one]; omega
theorem getB_enc {s r : B} (hs : s.length ≤ 1000000000) : getB (encB s ++ r) = (s, (encB s).length, 0) := by
  have e : encB s ++ r = encI (s.length : Int) ++ (s ++ r) := by unfold encB; rw [List.append_assoc]
  have hc := cnt_enc hs (r := s ++ r) (by rw [List.length_append]; omega)
  unfold getB
  rw [e, hc]
  simp only
  rw [if_neg (by simp), List.drop_left, Int.toNat_natCast, List.take_left]
  unfold encB; rw [List.length_append]
theorem getB_dec {b s : B} {u : Nat} (h : getB b = (s, u, 0)) : b = encB s ++ b.drop u ∧ s.length ≤ b.length := by
  obtain ⟨h1, h2⟩ := getB_ok h
  refine ⟨?_, h2⟩
  unfold getB at h
  generalize hg : cnt b 1 = g at h
  obtain ⟨n, v, e⟩ := g
  simp only at h
  split at h
  · rename_i he
    simp only [Prod.mk.injEq] at h
    exact absurd h.2.2 he
  · rename_i he
    have he : e = 0 := by simpa using he
    subst he
    obtain ⟨k, rfl, hk, hgi, _⟩ := cnt_ok hg
    obtain ⟨_, _, hb, _⟩ := enc_getI hgi
    simp only [Int.toNat_natCast, Prod.mk.injEq] at h
    obtain ⟨rfl, rfl, _⟩ := h
    have hsl : ((b.drop v).take k).length = k := by rw [List.length_take, List.length_drop]; omega
    unfold encB
    rw [hsl, ← hb, List.append_assoc]
    have : (b.drop v).take k ++ b.drop (v + k) = b.drop v := by rw [← List.drop_drop]; exact List.take_append_drop _ _
    rw [this, List.take_append_drop]
theorem rdI_enc : ∀ (l : List Int) (pre post : B) (acc : List Int), (∀ x ∈ l, I64 x) → rdI (pre ++ ((l.map encI).flatten ++ post)) l.length pre.length acc = (acc ++ l, pre.length + (l.map encI).flatten.length, 0)
  | [], pre, post, acc, _ => by simp [rdI]
  | x :: l, pre, post, acc, h => by
    have hg := getI_enc (h x (List.mem_cons_self ..)) ((l.map encI).flatten ++ post)
    have hd : (pre ++ (((x :: l).map encI).flatten ++ post)).drop pre.length = encI x ++ ((l.map encI).flatten ++ post) := by
      rw [List.drop_left, List.map_cons, List.flatten_cons, List.append_assoc]
    rw [List.length_cons]
    unfold rdI
    rw [hd, hg]
    simp only
    rw [if_neg (by simp)]
    have e : pre ++ (((x :: l).map encI).flatten ++ post) = (pre ++ encI x) ++ ((l.map encI).flatten ++ post) := by rw [List.map_cons, List.flatten_cons]; simp only [List.append_assoc]
    have ih := rdI_enc l (pre ++ encI x) post (acc ++ [x]) (fun y hy => h y (List.mem_cons_of_mem _ hy))
    rw [List.length_append] at ih
    rw [e, ih, List.map_cons, List.flatten_cons, List.length_append]
    simp only [Prod.mk.injEq, and_true]
    refine ⟨by simp, by omega⟩
theorem flat_ge : ∀ l : List Int, l.length ≤ (l.map encI).flatten.length
  | [] => Nat.le_refl _
  | x :: l => by
    have := flat_ge l
    have := (encI_len x).1
    simp only [List.map_cons, List.flatten_cons, List.length_append, List.length_cons]; omega
theorem getIs_enc {l : List Int} {r : B} (hl : l.length ≤ 1000000000) (h : ∀ x ∈ l, I64 x) : getIs (encIs l ++ r) = (l, (encIs l).length, 0) := by
  have e : encIs l ++ r = encI (l.length : Int) ++ ((l.map encI).flatten ++ r) := by unfold encIs; rw [List.append_assoc]
  have hc := cnt_enc hl (r := (l.map encI).flatten ++ r) (by have := flat_ge l; rw [List.length_append]; omega)
  unfold getIs
  rw [e, hc]
  simp only
  rw [if_neg (by simp), Int.toNat_natCast, rdI_enc l _ r [] h]
  simp [encIs]
theorem rdI_dec (b : B) : ∀ (n at_ : Nat) (acc l : List Int) (m : Nat), at_ ≤ b.length → rdI b n at_ acc = (l, m, 0) → ∃ l2 : List Int, l = acc ++ l2 ∧ l2.length = n ∧ at_ ≤ m ∧ m ≤ b.length ∧ (b.drop at_).take (m - at_) = (l2.map encI).flatten ∧ ∀ x ∈ l2, I64 x
  | 0, at_, acc, l, m, ha, h => by
    simp only [rdI, Prod.mk.injEq, and_true] at h
    obtain ⟨rfl, rfl⟩ := h
    exact ⟨[], by simp, rfl, Nat.le_refl _, ha, by simp, by simp⟩
  | n + 1, at_, acc, l, m, ha, h => by
    unfold rdI at h
    generalize hg : getI (b.drop at_) = g at h
    obtain ⟨x, w, e⟩ := g
    simp only at h
    split at h
    · rename_i he
      simp only [Prod.mk.injEq] at h
      exact absurd h.2.2 he
    rename_i he
    have he : e = 0 := by simpa using he
    subst he
    obtain ⟨hx, hw, ht, hwl⟩ := enc_getI hg
    rw [List.length_drop] at hwl
    obtain ⟨l2, h1, h2, h3, h4, h5, h6⟩ := rdI_dec b n (at_ + w) (acc ++ [x]) l m (by omega) h
    refine ⟨x :: l2, by rw [h1]; simp, by simp [h2], by omega, h4, ?_, fun y hy => ?_⟩
    · rw [List.map_cons, List.flatten_cons, ← h5, ← ht]
      have e : m - at_ = w + (m - (at_ + w)) := by omega
      rw [e, List.take_add, List.drop_drop]
    · rcases List.mem_cons.1 hy with rfl | hy
      · exact hx
      · exact h6 y hy
theorem getIs_dec {b : B} {l : List Int} {m : Nat} (h : getIs b = (l, m, 0)) : m ≤ b.length ∧ b.take m = encIs l ∧ ∀ x ∈ l, I64 x := by
  unfold getIs at h
  generalize hg : cnt b 1 = g at h
  obtain ⟨n, v, e⟩ := g
  simp only at h
  split at h
  · rename_i he
    simp only [Prod.mk.injEq] at h
    exact absurd h.2.2 he
  rename_i he
  have he : e = 0 := by simpa using he
  subst he
  obtain ⟨k, rfl, hk, hgi, _⟩ := cnt_ok hg
  obtain ⟨_, _, hb, hv⟩ := enc_getI hgi
  rw [Int.toNat_natCast] at h
  obtain ⟨l2, h1, h2, h3, h4, h5, h6⟩ := rdI_dec b k v [] l m hv h
  rw [List.nil_append] at h1
  subst h1
  refine ⟨h4, ?_, h6⟩
  unfold encIs
  rw [h2, ← hb, ← h5]
  have e : m = v + (m - v) := by omega
  conv => lhs; rw [e]
  rw [List.take_add]
end Go.Proofs.YtidlohfkfdeaiaaDoor
