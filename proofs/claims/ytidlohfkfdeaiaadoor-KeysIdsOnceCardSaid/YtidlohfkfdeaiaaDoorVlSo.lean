/- Operations on a table, as they come in. -/
import Derived.Test.YtidlohfkfdeaiaaDoorVlSp
import Derived.Test.YtidlohfkfdeaiaaDoorVlLawI
set_option linter.unusedSimpArgs false
set_option linter.unusedVariables false
namespace Go.Proofs.YtidlohfkfdeaiaaDoor
open Go Go.Vl

theorem cells_op : Tryd.prog.cellsOf 67 = 11 := by kernel_rfl
set_option maxRecDepth 100000 in
theorem op_of {xs : List C} (h : ShpE Tryd.prog 67 xs) : ∃ o : Opk, xs = opC o ∧ o.ok := by
  obtain ⟨hl, hf⟩ := shp_struct Tryd.underlying67 h
  rw [cells_op] at hl
  match xs, hl with
  | [x0, x1, x2, x3, x4, x5, x6, x7, x8, x9, x10], _ =>
    have h0 := hf _ (by simp; exact .inl rfl)
    have h1 := hf _ (by simp; exact .inr (.inl rfl))
    have h2 := hf _ (by simp; exact .inr (.inr rfl))
    simp only [cells_int, cells_key, List.drop_zero, List.drop_succ_cons, List.take_succ_cons, List.take_zero] at h0 h1 h2
    obtain ⟨a0, e0, k0⟩ := int_of h0
    obtain ⟨a1, e1, k1⟩ := int_of h1
    obtain ⟨a2, e2, k2⟩ := key_of h2
    refine ⟨⟨a0, a1, a2⟩, ?_, k0, k1, k2⟩
    simp only [List.cons.injEq, and_true] at e0 e1
    show _ = ic a0 :: ic a1 :: kC a2
    rw [← e2, e0, e1]
theorem agg_os : isAggB Tryd.prog 65 = false := by kernel_rfl
set_option maxRecDepth 100000 in
theorem arg_os {x : V} (h : ∃ n cs, Shp Tryd.prog n 65 cs ∧ x = absV Tryd.prog 65 cs) : ∃ os : List Opk, x = .c (.sl (os.map opC)) ∧ ∀ o ∈ os, o.ok := by
  obtain ⟨n, cs, h, rfl⟩ := h
  obtain ⟨es1, e1, l1, k1⟩ := shp_slice Tryd.underlying65 ⟨n, h⟩
  obtain ⟨os, rfl, t1⟩ := list_of fun x hx => op_of (k1 x hx)
  subst e1
  exact ⟨os, by unfold absV; rw [agg_os]; rfl, t1⟩
end Go.Proofs.YtidlohfkfdeaiaaDoor
