/- Layer 17, plain laws: what follows; the order of the instances. -/
import Derived.Test.YthgmobkmmapgoaaGreatVlN3
set_option linter.unusedSimpArgs false
set_option linter.unusedVariables false
namespace Go.Proofs.YthgmobkmmapgoaaGreat
open Go Go.Vl
set_option maxRecDepth 10000
theorem mem_fol {S : List Fa} {y : In} {x : Fa} : x ∈ folX S y ↔ (∀ f ∈ y.pre, f ∈ S) ∧ x ∈ y.con ∧ x ∉ S := by
 unfold folX keepL
 split
 ·rename_i h
  simp only [List.all_eq_true, decide_eq_true_eq] at h
  simp only [List.mem_filter, Bool.not_eq_true', decide_eq_false_iff_not]
  exact ⟨fun hx => ⟨h, hx⟩, fun hx => hx.2⟩
 ·rename_i h
  simp only [List.all_eq_true, decide_eq_true_eq] at h
  constructor
  ·intro hx; cases hx
  ·rintro ⟨h1, _⟩; exact absurd h1 h
theorem mem_next {p : Pol} {l : List Fa} {x : Fa} : x ∈ nextF p l ↔ ∃ y ∈ allL p none, (∀ f ∈ y.pre, f ∈ l) ∧ x ∈ y.con ∧ x ∉ l := by
 unfold nextF nextL
 rw [sortedF_mem, List.mem_flatMap]
 constructor
 ·rintro ⟨y, hy, hx⟩
  rw [mem_fol] at hx
  exact ⟨y, hy, fun f hf => mem_newL.1 (hx.1 f hf), hx.2.1, fun h => hx.2.2 (mem_newL.2 h)⟩
 ·rintro ⟨y, hy, h1, h2, h3⟩
  exact ⟨y, hy, mem_fol.2 ⟨fun f hf => mem_newL.2 (h1 f hf), h2, fun h => h3 (mem_newL.1 h)⟩⟩
theorem next_len {p : Pol} {l : List Fa} : (nextF p l).length ≤ 2 * (allL p none).length := by
 unfold nextF
 exact Nat.le_trans (sortedF_len _) (nextL_len small2_all)
