/- Layer 17, plain laws: the specification's instances, what uses a fact, what follows. -/
import Derived.Test.YthgmobkmmapgoaaGreatVlRd
import Derived.Test.YthgmobkmmapgoaaGreatVlN4
set_option linter.unusedSimpArgs false
set_option linter.unusedVariables false
namespace Go.Proofs.YthgmobkmmapgoaaGreat
open Go Go.Vl
set_option maxRecDepth 10000
theorem insN_fold {l : List Fa} : ∀ (cs : List Fa) {out : List Fa}, StF out → StF (cs.foldl (insN l) out) ∧ ∀ x, x ∈ cs.foldl (insN l) out ↔ x ∈ out ∨ (x ∈ cs ∧ x ∉ l)
 | [], out, h => ⟨h, fun x => by simp⟩
 | c :: cs, out, h => by
  have h1 : StF (insN l out c) := by
   unfold insN; split
   ·exact h
   ·exact insR_strict h c
  have h2 : ∀ x, x ∈ insN l out c ↔ x ∈ out ∨ (x = c ∧ x ∉ l) := fun x => by
   unfold insN; split
   ·rename_i hc
    constructor
    ·exact .inl
    ·rintro (h | ⟨rfl, h⟩)
     ·exact h
     ·exact absurd hc h
   ·rename_i hc
    rw [insR_mem]
    constructor
    ·rintro (h | rfl)
     ·exact .inl h
     ·exact .inr ⟨rfl, hc⟩
    ·rintro (h | h)
     ·exact .inl h
     ·exact .inr h.1
  obtain ⟨i1, i2⟩ := insN_fold (l := l) cs h1
  refine ⟨i1, fun x => ?_⟩
  rw [List.foldl_cons, i2, h2, List.mem_cons]
  constructor
  ·rintro ((h | h) | h)
   ·exact .inl h
   ·exact .inr ⟨.inl h.1, h.2⟩
   ·exact .inr ⟨.inr h.1, h.2⟩
  ·rintro (h | ⟨h | h, h'⟩)
   ·exact .inl (.inl h)
   ·exact .inl (.inr ⟨h, h'⟩)
   ·exact .inr ⟨h, h'⟩
theorem nextR_fold {l : List Fa} : ∀ (m : List In) {out : List Fa}, StF out → StF (m.foldl (stepR l) out) ∧ ∀ x, x ∈ m.foldl (stepR l) out ↔ x ∈ out ∨ ∃ y ∈ m, (∀ f ∈ y.pre, f ∈ l) ∧ x ∈ y.con ∧ x ∉ l
 | [], out, h => ⟨h, fun x => by simp⟩
 | y :: m, out, h => by
  have hs : StF (stepR l out y) ∧ ∀ x, x ∈ stepR l out y ↔ x ∈ out ∨ ((∀ f ∈ y.pre, f ∈ l) ∧ x ∈ y.con ∧ x ∉ l) := by
   unfold stepR
   split
   ·rename_i hp
    simp only [List.all_eq_true, decide_eq_true_eq] at hp
    obtain ⟨i1, i2⟩ := insN_fold (l := l) y.con h
    refine ⟨i1, fun x => ?_⟩
    rw [i2]
    constructor
    ·rintro (h | h)
     ·exact .inl h
     ·exact .inr ⟨hp, h⟩
    ·rintro (h | h)
     ·exact .inl h
     ·exact .inr h.2
   ·rename_i hp
    simp only [List.all_eq_true, decide_eq_true_eq] at hp
    refine ⟨h, fun x => ⟨.inl, ?_⟩⟩
    rintro (h | h)
    ·exact h
    ·exact absurd h.1 hp
  obtain ⟨i1, i2⟩ := nextR_fold (l := l) m hs.1
  refine ⟨i1, fun x => ?_⟩
  rw [List.foldl_cons, i2, hs.2]
  constructor
  ·rintro ((h | h) | ⟨z, hz, h⟩)
   ·exact .inl h
   ·exact .inr ⟨y, List.mem_cons_self .., h⟩
   ·exact .inr ⟨z, List.mem_cons_of_mem _ hz, h⟩
  ·rintro (h | ⟨z, hz, h⟩)
   ·exact .inl (.inl h)
   ·rcases List.mem_cons.1 hz with rfl | hz
    ·exact .inl (.inr h)
    ·exact .inr ⟨z, hz, h⟩
theorem next_twin {p : Pol} {l : List Fa} : nextF p l = nextR l (allL p none) := by
 obtain ⟨h1, h2⟩ := nextR_fold (l := l) (allL p none) (out := []) List.Pairwise.nil
 refine strict_ext (sortedF_strict _) h1 fun x => ?_
 rw [mem_next, show nextR l (allL p none) = (allL p none).foldl (stepR l) [] from rfl, h2]
 simp
theorem goes_twin {l : List Fa} {x : In} : goesX (newL l) x = goesR l x := by
 unfold goesX goesR
 have : (fun f => decide (f ∈ newL l)) = fun f => decide (f ∈ l) := by funext f; rw [decide_eq_decide]; exact mem_newL
 rw [this]
theorem closed_twin {p : Pol} {l : List Fa} : closedF p l = closedR l (allL p none) := by
 unfold closedF closedR firstL
 have : goesX (newL l) = goesR l := by funext x; exact goes_twin
 rw [this]
 cases (allL p none).find? (goesR l) <;> rfl
theorem closed_next {p : Pol} {l : List Fa} : (closedF p l).2 = decide (((nextF p l).length : Int) = 0) := by
 rw [closed_twin]
 unfold closedR
 cases h : (allL p none).find? (goesR l) with
 | none =>
  rw [List.find?_eq_none] at h
  have : nextF p l = [] := by
   rw [List.eq_nil_iff_forall_not_mem]
   intro x hx
   obtain ⟨y, hy, h1, h2, h3⟩ := mem_next.1 hx
   have := h y hy
   simp only [goesR, Bool.and_eq_true, List.all_eq_true, decide_eq_true_eq, Bool.not_eq_true', List.all_eq_false] at this
   exact this ⟨h1, x, h2, h3⟩
  rw [this]; rfl
 | some y =>
  have hy := List.mem_of_find?_eq_some h
  have hg := List.find?_some h
  simp only [goesR, Bool.and_eq_true, List.all_eq_true, decide_eq_true_eq, Bool.not_eq_true', List.all_eq_false] at hg
  obtain ⟨h1, x, h2, h3⟩ := hg
  have hx : x ∈ nextF p l := mem_next.2 ⟨y, hy, h1, h2, h3⟩
  have : 0 < (nextF p l).length := List.length_pos_of_mem hx
  simp only
  rw [eq_comm, decide_eq_false_iff_not]
  omega
