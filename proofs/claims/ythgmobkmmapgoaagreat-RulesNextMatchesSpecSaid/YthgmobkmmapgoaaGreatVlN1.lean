/- Layer 17, plain laws: the sorted list without repetitions, twice. -/
import Derived.Test.YthgmobkmmapgoaaGreatVlR4
set_option linter.unusedSimpArgs false
set_option linter.unusedVariables false
namespace Go.Proofs.YthgmobkmmapgoaaGreat
open Go Go.Vl
abbrev StF (l : List Fa) : Prop := l.Pairwise fun x y => ltF x y = true
theorem ltF_irrefl (x : Fa) : ltF x x = false := by unfold ltF; simp
theorem ltF_asymm {x y : Fa} (h : ltF x y = true) : ltF y x = false := by
 unfold ltF at *; simp only [decide_eq_true_eq, decide_eq_false_iff_not] at *; omega
theorem ltF_trans {x y z : Fa} (h1 : ltF x y = true) (h2 : ltF y z = true) : ltF x z = true := by
 unfold ltF at *; simp only [decide_eq_true_eq] at *; omega
theorem ltF_of {x y : Fa} (h1 : ltF y x = false) (h2 : x ≠ y) : ltF x y = true := by
 cases h : ltF x y
 ·exact absurd (ltF_tot h h1) h2
 ·rfl
theorem StF.nodup {l : List Fa} (h : StF l) : l.Nodup := h.imp fun h e => by subst e; rw [ltF_irrefl] at h; cases h
theorem strict_ext {l m : List Fa} (hl : StF l) (hm : StF m) (h : ∀ x, x ∈ l ↔ x ∈ m) : l = m :=
 sorted_unique (lt := ltF) ((List.perm_ext_iff_of_nodup hl.nodup hm.nodup).2 h) (fun x _ y _ h1 h2 => ltF_tot h1 h2) (hl.imp ltF_asymm) (hm.imp ltF_asymm)
theorem cpk_mem {l : List Fa} : ∀ m, m ≤ l.length → ∀ x, x ∈ cpk l m ↔ x ∈ l.take m
 | 0, _, x => by simp [cpk]
 | m + 1, h, x => by
  have ih := cpk_mem (l := l) m (Nat.le_of_succ_le h) x
  rw [List.take_succ_eq_append_getElem (show m < l.length by omega), List.mem_append, List.mem_singleton, ← ih]
  by_cases h0 : 0 < m
  ·by_cases he : l[m] = l[m - 1]'(by omega)
   ·rw [cpk_same (by omega) h0 he]
    constructor
    ·exact .inl
    ·rintro (h1 | h1)
     ·exact h1
     ·rw [ih, h1, he]
      exact List.mem_take_iff_getElem.2 ⟨m - 1, by simp only [Nat.lt_min]; omega, rfl⟩
   ·rw [cpk_new (by omega) fun _ => he, List.mem_append, List.mem_singleton]
  ·rw [cpk_new (by omega) fun h => absurd h h0, List.mem_append, List.mem_singleton]
theorem cpk_strict {l : List Fa} (hs : l.Pairwise fun x y => ltF y x = false) : ∀ m, m ≤ l.length → StF (cpk l m)
 | 0, _ => List.Pairwise.nil
 | m + 1, h => by
  have ih := cpk_strict hs m (by omega)
  by_cases h0 : 0 < m
  ·by_cases he : l[m] = l[m - 1]'(by omega)
   ·rw [cpk_same (by omega) h0 he]; exact ih
   ·rw [cpk_new (by omega) fun _ => he, StF, List.pairwise_append]
    refine ⟨ih, List.pairwise_singleton _ _, fun y hy x hx => ?_⟩
    rw [List.mem_singleton] at hx; subst hx
    rw [cpk_mem m (by omega), List.mem_take_iff_getElem] at hy
    obtain ⟨j, hj, rfl⟩ := hy
    have hp := List.pairwise_iff_getElem.1 hs
    have h1 : ltF l[m] (l[j]'(by omega)) = false := hp j m (by omega) (by omega) (by omega)
    refine ltF_of h1 fun e => he ?_
    have h2 : ltF l[m] (l[m - 1]'(by omega)) = false := hp (m - 1) m (by omega) (by omega) (by omega)
    rcases Nat.lt_or_ge j (m - 1) with h3 | h3
    ·have h4 : ltF (l[m - 1]'(by omega)) (l[j]'(by omega)) = false := hp j (m - 1) (by omega) (by omega) h3
     rw [e] at h4
     exact ltF_tot h2 h4
    ·have : j = m - 1 := by omega
     subst this; exact e.symm
  ·have : m = 0 := by omega
   subst this
   rw [cpk_new (by omega) fun h => absurd h (Nat.lt_irrefl _)]
   simp [cpk]
theorem sortedF_strict (l : List Fa) : StF (sortedF l) := cpk_strict (sortF_sorted l) _ (Nat.le_refl _)
theorem sortedF_mem {l : List Fa} {x : Fa} : x ∈ sortedF l ↔ x ∈ l := by
 unfold sortedF compL
 rw [cpk_mem _ (Nat.le_refl _), List.take_length]
 exact (sortF_perm l).mem_iff
theorem insP_lt {l : List Fa} {f : Fa} {j : Nat} (h : j < insP l f) (hj : j < l.length) : ltF l[j] f = true := by
 unfold insP at h
 have := List.not_of_lt_findIdx h
 simpa using this
theorem insP_ge {l : List Fa} {f : Fa} (h : insP l f < l.length) : ltF l[insP l f] f = false := by
 have := List.findIdx_getElem (xs := l) (p := fun y => !ltF y f) (w := h)
 simp only [Bool.not_eq_true'] at this
 exact this
theorem insR_mem {l : List Fa} {f x : Fa} : x ∈ insR l f ↔ x ∈ l ∨ x = f := by
 unfold insR
 split
 ·rename_i h
  exact ⟨.inl, fun h' => by rcases h' with h' | rfl; exact h'; exact List.mem_of_getElem? h⟩
 ·have e : l = l.take (insP l f) ++ l.drop (insP l f) := (List.take_append_drop _ _).symm
  rw [List.mem_append, List.mem_cons]
  conv => rhs; rw [e, List.mem_append]
  constructor
  ·rintro (h | h | h)
   ·exact .inl (.inl h)
   ·exact .inr h
   ·exact .inl (.inr h)
  ·rintro ((h | h) | h)
   ·exact .inl h
   ·exact .inr (.inr h)
   ·exact .inr (.inl h)
theorem insR_strict {l : List Fa} (hs : StF l) (f : Fa) : StF (insR l f) := by
 unfold insR
 split
 ·exact hs
 ·rename_i hne
  have hle := @insP_le l f
  have hp := List.pairwise_iff_getElem.1 hs
  have hdrop : ∀ x ∈ l.drop (insP l f), ltF f x = true := fun x hx => by
   obtain ⟨j, hj, rfl⟩ := List.getElem_of_mem hx
   rw [List.length_drop] at hj
   rw [List.getElem_drop]
   have hi : insP l f < l.length := by omega
   have h1 : ltF f l[insP l f] = true := ltF_of (insP_ge hi) fun e => hne (by rw [List.getElem?_eq_getElem hi, ← e])
   rcases Nat.eq_zero_or_pos j with h0 | h0
   ·subst h0; simpa using h1
   ·exact ltF_trans h1 (hp _ _ hi (by omega) (by omega))
  rw [StF, List.pairwise_append]
  refine ⟨hs.sublist (List.take_sublist ..), List.pairwise_cons.2 ⟨hdrop, hs.sublist (List.drop_sublist ..)⟩, fun x hx y hy => ?_⟩
  rw [List.mem_take_iff_getElem] at hx
  obtain ⟨j, hj, rfl⟩ := hx
  have h1 : ltF (l[j]'(by omega)) f = true := insP_lt (by omega) (by omega)
  rcases List.mem_cons.1 hy with rfl | hy
  ·exact h1
  ·exact ltF_trans h1 (hdrop y hy)
theorem insL_fold {l : List Fa} : ∀ {m : List Fa}, StF m → StF (l.foldl insR m) ∧ ∀ x, x ∈ l.foldl insR m ↔ x ∈ l ∨ x ∈ m := by
 induction l with
 | nil => intro m h; exact ⟨h, fun x => by simp⟩
 | cons y l ih =>
  intro m h
  obtain ⟨h1, h2⟩ := ih (insR_strict h y)
  rw [List.foldl_cons]
  refine ⟨h1, fun x => ?_⟩
  rw [h2, insR_mem, List.mem_cons]
  constructor
  ·rintro (h | h | h)
   ·exact .inl (.inr h)
   ·exact .inr h
   ·exact .inl (.inl h)
  ·rintro ((h | h) | h)
   ·exact .inr (.inr h)
   ·exact .inl h
   ·exact .inr (.inl h)
theorem insL_strict (l : List Fa) : StF (insL l) := (insL_fold List.Pairwise.nil).1
theorem insL_mem {l : List Fa} {x : Fa} : x ∈ insL l ↔ x ∈ l := by
 unfold insL
 rw [(insL_fold (m := []) List.Pairwise.nil).2]; simp
theorem sortedF_eq (l : List Fa) : sortedF l = insL l := strict_ext (sortedF_strict l) (insL_strict l) fun x => by rw [sortedF_mem, insL_mem]
