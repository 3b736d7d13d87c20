/- Tables and keys, as they come in: their cells are those of a table, of a key. -/
import Derived.Test.YtidlohfkfdeaiaaDoorVlR2
import Derived.Test.YtidlohfkfdeaiaaDoorVlBridge
set_option linter.unusedSimpArgs false
set_option linter.unusedVariables false
namespace Go.Proofs.YtidlohfkfdeaiaaDoor
open Go Go.Vl

theorem cells_key : Tryd.prog.cellsOf 26 = 9 := by kernel_rfl
theorem cells_tb : Tryd.prog.cellsOf 24 = 2 := by kernel_rfl
theorem cells_int : Tryd.prog.cellsOf 3 = 1 := by kernel_rfl
theorem cells_str : Tryd.prog.cellsOf 9 = 1 := by kernel_rfl
theorem cells_bool : Tryd.prog.cellsOf 4 = 1 := by kernel_rfl
theorem cells_sk : Tryd.prog.cellsOf 22 = 1 := by kernel_rfl
set_option maxRecDepth 100000 in
theorem int_of {xs : List C} (h : ShpE Tryd.prog 3 xs) : ∃ n, xs = [ic n] ∧ I64 n := by
  obtain ⟨m, rfl, hm⟩ := shp_int Tryd.underlying3 h
  exact ⟨m, rfl, wf_i64 hm⟩
set_option maxRecDepth 100000 in
theorem str_of {xs : List C} (h : ShpE Tryd.prog 9 xs) : ∃ s : B, xs = [sc s] := by
  obtain ⟨m, rfl, hm⟩ := shp_str Tryd.underlying9 h
  exact ⟨m.data.toList, by simp [bs8]⟩
set_option maxRecDepth 100000 in
theorem bool_of {xs : List C} (h : ShpE Tryd.prog 4 xs) : ∃ b : Bool, xs = [bC1 b] := by
  obtain ⟨m, rfl⟩ := shp_bool Tryd.underlying4 h
  exact ⟨m, rfl⟩
set_option maxRecDepth 100000 in
theorem key_of {xs : List C} (h : ShpE Tryd.prog 26 xs) : ∃ k : Ky, xs = kC k ∧ k.ok := by
  obtain ⟨hl, hf⟩ := shp_struct Tryd.underlying26 h
  rw [cells_key] at hl
  match xs, hl with
  | [x0, x1, x2, x3, x4, x5, x6, x7, x8], _ =>
    have h0 := hf _ (by simp; exact .inl rfl)
    have h1 := hf _ (by simp; exact .inr (.inl rfl))
    have h2 := hf _ (by simp; exact .inr (.inr (.inl rfl)))
    have h3 := hf _ (by simp; exact .inr (.inr (.inr (.inl rfl))))
    have h4 := hf _ (by simp; exact .inr (.inr (.inr (.inr (.inl rfl)))))
    have h5 := hf _ (by simp; exact .inr (.inr (.inr (.inr (.inr (.inl rfl))))))
    have h6 := hf _ (by simp; exact .inr (.inr (.inr (.inr (.inr (.inr (.inl rfl)))))))
    have h7 := hf _ (by simp; exact .inr (.inr (.inr (.inr (.inr (.inr (.inr (.inl rfl))))))))
    have h8 := hf _ (by simp; exact .inr (.inr (.inr (.inr (.inr (.inr (.inr (.inr rfl))))))))
    simp only [cells_int, cells_str, cells_bool, List.drop_zero, List.drop_succ_cons, List.take_succ_cons, List.take_zero] at h0 h1 h2 h3 h4 h5 h6 h7 h8
    obtain ⟨a0, e0, k0⟩ := int_of h0
    obtain ⟨a1, e1, k1⟩ := int_of h1
    obtain ⟨a2, e2⟩ := str_of h2
    obtain ⟨a3, e3, k3⟩ := int_of h3
    obtain ⟨a4, e4, k4⟩ := int_of h4
    obtain ⟨a5, e5, k5⟩ := int_of h5
    obtain ⟨a6, e6, k6⟩ := int_of h6
    obtain ⟨a7, e7, k7⟩ := int_of h7
    obtain ⟨a8, e8⟩ := bool_of h8
    cases e0; cases e1; cases e2; cases e3; cases e4; cases e5; cases e6; cases e7; cases e8
    exact ⟨⟨a0, a1, a2, a3, a4, a5, a6, a7, a8⟩, rfl, k0, k1, k3, k4, k5, k6, k7⟩
set_option maxRecDepth 100000 in
theorem tb_of {xs : List C} (h : ShpE Tryd.prog 24 xs) : ∃ t : Tb, xs = tC t ∧ t.ok ∧ t.ks.length ≤ 9223372036854775807 := by
  obtain ⟨hl, hf⟩ := shp_struct Tryd.underlying24 h
  rw [cells_tb] at hl
  match xs, hl with
  | [x0, x1], _ =>
    have h0 := hf _ (by simp; exact .inl rfl)
    have h1 := hf _ (by simp; exact .inr rfl)
    simp only [cells_int, cells_sk, List.drop_zero, List.drop_succ_cons, List.take_succ_cons, List.take_zero] at h0 h1
    obtain ⟨a0, e0, k0⟩ := int_of h0
    obtain ⟨es1, e1, l1, k1⟩ := shp_slice Tryd.underlying22 h1
    obtain ⟨ks, rfl, t1⟩ := list_of fun x hx => key_of (k1 x hx)
    cases e0; cases e1
    exact ⟨⟨a0, ks⟩, rfl, ⟨k0, t1⟩, by unfold maxLen at l1; simpa using l1⟩
theorem agg_tb : isAggB Tryd.prog 24 = true := by kernel_rfl
set_option maxRecDepth 100000 in
theorem arg_tb {x : V} (h : ∃ n cs, Shp Tryd.prog n 24 cs ∧ x = absV Tryd.prog 24 cs) : ∃ t : Tb, x = tv t ∧ t.ok ∧ t.ks.length ≤ 9223372036854775807 := by
  obtain ⟨n, cs, h, rfl⟩ := h
  obtain ⟨p, rfl, hp⟩ := tb_of ⟨n, h⟩
  exact ⟨p, by unfold absV; rw [agg_tb, if_pos rfl], hp⟩
theorem agg_str : isAggB Tryd.prog 9 = false := by kernel_rfl
set_option maxRecDepth 100000 in
theorem arg_str {x : V} (h : ∃ n cs, Shp Tryd.prog n 9 cs ∧ x = absV Tryd.prog 9 cs) : ∃ s : B, x = sv s := by
  obtain ⟨n, cs, h, rfl⟩ := h
  obtain ⟨p, rfl⟩ := str_of ⟨n, h⟩
  exact ⟨p, by unfold absV; rw [agg_str]; rfl⟩
end Go.Proofs.YtidlohfkfdeaiaaDoor
