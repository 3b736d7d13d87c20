/- Tables and keys, as they come in: their cells are those of a table, of a key. -/
import Derived.Test.YtidlohfkfdeaiaaDoorVlR2
import Derived.Test.YtidlohfkfdeaiaaDoorVlBridge
set_option linter.unusedSimpArgs false
set_option linter.unusedVariables false
namespace Go.Proofs.YtidlohfkfdeaiaaDoor
open Go Go.Vl

theorem cells_key : Tryd.prog.cellsOf 26 = 9 := by kernel_rfl
theorem cells_int : Tryd.prog.cellsOf 3 = 1 := by kernel_rfl
theorem cells_str : Tryd.prog.cellsOf 9 = 1 := by kernel_rfl
theorem cells_bool : Tryd.prog.cellsOf 4 = 1 := by kernel_rfl
set_option maxRecDepth 100000 in
theorem int_of {xs : List C} (h : ShpE Tryd.prog 3 xs) : ∃ n, xs = [ic n] ∧ I64 n := by
  obtain ⟨m, rfl, hm⟩ := shp_int Tryd.underlying3 h
  exact ⟨m, rfl, wf_i64 hm⟩
set_option maxRecDepth 100000 in
theorem str_of {xs : List C} (h : ShpE Tryd.prog 9 xs) : ∃ s : B, xs = [sc s] := by
  obtain ⟨m, rfl, hm⟩ := shp_str Tryd.underlying9 h
  exact ⟨m.data.toList, by simp [bs8]⟩
set_option maxRecDepth 100000 in
theorem bool_of {xs : List C} (h : ShpE Tryd.prog 4 xs) : ∃ b : Bool, xs = [bC1 b] := by
  obtain ⟨m, rfl⟩ := shp_bool Tryd.underlying4 h
  exact ⟨m, rfl⟩
set_option maxRecDepth 100000 in
theorem key_of {xs : List C} (h : ShpE Tryd.prog 26 xs) : ∃ k : Ky, xs = kC k ∧ k.ok := by
  obtain ⟨hl, hf⟩ := shp_struct Tryd.underlying26 h
  rw [cells_key] at hl
  match xs, hl with
  | [x0, x1, x2, x3, x4, x5, x6, x7, x8], _ =>
    have h0 := hf _ (by simp; exact .inl rfl)
    have h1 := hf _ (by simp; exact .inr (.inl rfl))
    have h2 := hf _ (by simp; exact .inr (.inr (.inl rfl)))
    have h3 := hf _ (by simp; exact .inr (.inr (.inr (.inl rfl))))
    have h4 := hf _ (by simp; exact .inr (.inr (.inr (.inr (.inl rfl)))))
    have h5 := hf _ (by simp; exact .inr (.inr (.inr (.inr (.inr (.inl rfl))))))
    have h6 := hf _ (by simp; exact .inr (.inr (.inr (.inr (.inr (.inr (.inl rfl)))))))
    have h7 := hf _ (by simp; exact .inr (.inr (.inr (.inr (.inr (.inr (.inr (.inl rfl))))))))
    have h8 := hf _ (by simp; exact .inr (.inr (.inr (.inr (.inr (.inr (.inr (.inr rfl))))))))
    simp only [cells_int, cells_str, cells_bool, List.drop_zero, List.drop_succ_cons, List.take_succ_cons, List.take_zero] at h0 h1 h2 h3 h4 h5 h6 h7 h8
    obtain ⟨a0, e0, k0⟩ := int_of h0
    obtain ⟨a1, e1, k1⟩ := int_of h1
    obtain ⟨a2, e2⟩ := str_of h2
    obtain ⟨a3, e3, k3⟩ := int_of h3
    obtain ⟨a4, e4, k4⟩ := int_of h4
    obtain ⟨a5, e5, k5⟩ := int_of h5
    obtain ⟨a6, e6, k6⟩ := int_of h6
    obtain ⟨a7, e7, k7⟩ := int_of h7
    obtain ⟨a8, e8⟩ := bool_of h8
    cases e0; cases e1; cases e2; cases e3; cases e4; cases e5; cases e6; cases e7; cases e8
    exact ⟨⟨a0, a1, a2, a3, a4, a5, a6, a7, a8⟩, rfl, k0, k1, k3, k4, k5, k6, k7⟩
theorem agg_key : isAggB Tryd.prog 26 = true := by kernel_rfl
set_option maxRecDepth 100000 in
theorem arg_key {x : V} (h : ∃ n cs, Shp Tryd.prog n 26 cs ∧ x = absV Tryd.prog 26 cs) : ∃ k : Ky, x = kv k ∧ k.ok := by
  obtain ⟨n, cs, h, rfl⟩ := h
  obtain ⟨p, rfl, hp⟩ := key_of ⟨n, h⟩
  exact ⟨p, by unfold absV; rw [agg_key, if_pos rfl], hp⟩
theorem agg_str : isAggB Tryd.prog 9 = false := by kernel_rfl
set_option maxRecDepth 100000 in
theorem arg_str {x : V} (h : ∃ n cs, Shp Tryd.prog n 9 cs ∧ x = absV Tryd.prog 9 cs) : ∃ s : B, x = sv s := by
  obtain ⟨n, cs, h, rfl⟩ := h
  obtain ⟨p, rfl⟩ := str_of ⟨n, h⟩
  exact ⟨p, by unfold absV; rw [agg_str]; rfl⟩
end Go.Proofs.YtidlohfkfdeaiaaDoor
