/- Layer 17, plain laws: what follows; the order of the instances. -/
import Derived.Test.YthgmobkmmapgoaaGreatVlN3
set_option linter.unusedSimpArgs false
set_option linter.unusedVariables false
namespace Go.Proofs.YthgmobkmmapgoaaGreat
open Go Go.Vl
set_option maxRecDepth 10000

theorem mem_fol {S : List Fa} {y : In} {x : Fa} : x ∈ folX S y ↔ (∀ f ∈ y.pre, f ∈ S) ∧ x ∈ y.con ∧ x ∉ S := by
  unfold folX keepL
  split
  · rename_i h
    simp only [List.all_eq_true, decide_eq_true_eq] at h
    simp only [List.mem_filter, Bool.not_eq_true', decide_eq_false_iff_not]
    exact ⟨fun hx => ⟨h, hx⟩, fun hx => hx.2⟩
  · rename_i h
    simp only [List.all_eq_true, decide_eq_true_eq] at h
    constructor
    · intro hx; cases hx
    · rintro ⟨h1, _⟩; exact absurd h1 h
/-- What follows from a list. -/
theorem mem_next {p : Pol} {l : List Fa} {x : Fa} : x ∈ nextF p l ↔ ∃ y ∈ allL p none, (∀ f ∈ y.pre, f ∈ l) ∧ x ∈ y.con ∧ x ∉ l := by
  unfold nextF nextL
  rw [sortedF_mem, List.mem_flatMap]
  constructor
  · rintro ⟨y, hy, hx⟩
    rw [mem_fol] at hx
    exact ⟨y, hy, fun f hf => mem_newL.1 (hx.1 f hf), hx.2.1, fun h => hx.2.2 (mem_newL.2 h)⟩
  · rintro ⟨y, hy, h1, h2, h3⟩
    exact ⟨y, hy, mem_fol.2 ⟨fun f hf => mem_newL.2 (h1 f hf), h2, fun h => h3 (mem_newL.1 h)⟩⟩
theorem next_len {p : Pol} {l : List Fa} : (nextF p l).length ≤ 2 * (allL p none).length := by
  unfold nextF
  exact Nat.le_trans (sortedF_len _) (nextL_len small2_all)
/-- The first law of monotony: with more facts. -/
theorem mono_facts {p : Pol} {l m : List Fa} {x : Fa} (hx : x ∈ nextF p l) : x ∈ (l ++ m) ++ nextF p (l ++ m) := by
  obtain ⟨y, hy, h1, h2, _⟩ := mem_next.1 hx
  by_cases h : x ∈ l ++ m
  · exact List.mem_append_left _ h
  · exact List.mem_append_right _ (mem_next.2 ⟨y, hy, fun f hf => List.mem_append_left _ (h1 f hf), h2, h⟩)
/-- The second: with one rule more. -/
theorem mono_rule {p q : Pol} {l : List Fa} {x : Fa} (ht : p.types = q.types) (hm : ∀ r ∈ p.rules, r ∈ q.rules) (hx : x ∈ nextF p l) : x ∈ nextF q l := by
  obtain ⟨y, hy, h1, h2, h3⟩ := mem_next.1 hx
  exact mem_next.2 ⟨y, more_all ht hm hy, h1, h2, h3⟩
/-- What a further fact brings is a conclusion of an instance that uses it. -/
theorem using_complete {p : Pol} {l : List Fa} {f x : Fa} (hx : x ∈ nextF p (l ++ [f])) : x ∈ nextF p l ∨ x ∈ (allL p (some f)).flatMap In.con := by
  obtain ⟨y, hy, h1, h2, h3⟩ := mem_next.1 hx
  by_cases h : f ∈ y.pre
  · exact .inr (List.mem_flatMap.2 ⟨y, use_all hy h, h2⟩)
  · refine .inl (mem_next.2 ⟨y, hy, fun g hg => ?_, h2, fun h' => h3 (List.mem_append_left _ h')⟩)
    rcases List.mem_append.1 (h1 g hg) with h' | h'
    · exact h'
    · rw [List.mem_singleton] at h'; subst h'; exact absurd hg h

/-- The rules' numbers do not fall. -/
theorem sorted_flat {L : List (Int × List In)} (h1 : L.Pairwise fun a b => a.1 ≤ b.1) (h2 : ∀ a ∈ L, ∀ x ∈ a.2, x.rule = a.1) : (L.map (·.2)).flatten.Pairwise fun x y => x.rule ≤ y.rule := by
  induction L with
  | nil => exact List.Pairwise.nil
  | cons a L ih =>
    rw [List.pairwise_cons] at h1
    rw [List.map_cons, List.flatten_cons, List.pairwise_append]
    refine ⟨?_, ih h1.2 fun b hb => h2 b (List.mem_cons_of_mem _ hb), fun x hx y hy => ?_⟩
    · rw [List.pairwise_iff_getElem]
      intro i j hi hj _
      have e1 := h2 a (List.mem_cons_self ..) _ (List.getElem_mem hi)
      have e2 := h2 a (List.mem_cons_self ..) _ (List.getElem_mem hj)
      omega
    · obtain ⟨b, hb, hy⟩ := List.mem_flatten.1 hy
      obtain ⟨c, hc, rfl⟩ := List.mem_map.1 hb
      have e1 := h2 a (List.mem_cons_self ..) x hx
      have e2 := h2 c (List.mem_cons_of_mem _ hc) y hy
      have := h1.1 c hc
      omega
def topsK (p : Pol) (o : Option Fa) : List (Int × List In) := [(1, t1 p o), (2, t2 p o), (3, t3 p o), (4, t4 p o), (5, t5 p o), (6, t6 p o), (7, t7 p o), (8, t8 p o), (9, t9 p o), (10, t10 p o), (11, t11 p o), (12, t12 p o), (13, t13 p o), (14, t14 o), (15, t15 p o)]
theorem topsK_map {p : Pol} {o : Option Fa} : ((topsK p o).map (·.2)).flatten = allL p o := rfl
theorem all_sorted {p : Pol} {o : Option Fa} : (allL p o).Pairwise fun x y => x.rule ≤ y.rule := by
  rw [← topsK_map]
  refine sorted_flat ?_ fun a ha x hx => ?_
  · unfold topsK
    simp
  · simp only [topsK, List.mem_cons, List.not_mem_nil, or_false] at ha
    rcases ha with rfl | rfl | rfl | rfl | rfl | rfl | rfl | rfl | rfl | rfl | rfl | rfl | rfl | rfl | rfl
    · exact (good_1 hx).rule
    · exact (good_2 hx).rule
    · exact (good_3 hx).rule
    · exact (good_4 hx).rule
    · exact (good_5 hx).rule
    · exact (good_6 hx).rule
    · exact (good_7 hx).rule
    · exact (good_8 hx).rule
    · exact (good_9 hx).rule
    · exact (good_10 hx).rule
    · exact (good_11 hx).rule
    · exact (good_12 hx).rule
    · exact (good_13 hx).rule
    · exact (good_14 (p := p) hx).rule
    · exact (good_15 hx).rule
/-- The last instance's rule is 14 or 15. -/
theorem all_last {p : Pol} : ∃ h : 0 < (allL p none).length, 14 ≤ ((allL p none)[(allL p none).length - 1]'(by omega)).rule := by
  have hm : i14 ∈ allL p none := mem_all.2 (.inr (.inr (.inr (.inr (.inr (.inr (.inr (.inr (.inr (.inr (.inr (.inr (.inr (.inl (mem_em.2 ⟨rfl, rfl⟩)))))))))))))))
  obtain ⟨i, hi, hx⟩ := List.getElem_of_mem hm
  refine ⟨by omega, ?_⟩
  rcases Nat.lt_or_ge i ((allL p none).length - 1) with h | h
  · have := List.pairwise_iff_getElem.1 (@all_sorted p none) i ((allL p none).length - 1) hi (by omega) h
    rw [hx] at this
    exact this
  · have : i = (allL p none).length - 1 := by omega
    subst this
    rw [hx]
    decide
end Go.Proofs.YthgmobkmmapgoaaGreat
