/- Layer 17: arguments, as they come in: their cells are those of a policy, of facts, of a rule. -/
import Derived.Test.YthgmobkmmapgoaaGreatVlA1
import Derived.Test.YthgmobkmmapgoaaGreatVlBits
set_option linter.unusedSimpArgs false
set_option linter.unusedVariables false
namespace Go.Proofs.YthgmobkmmapgoaaGreat
open Go Go.Vl
set_option maxRecDepth 100000
theorem cells_ty : Tryz.prog.cellsOf 66 = 3 := by kernel_rfl
theorem cells_ru : Tryz.prog.cellsOf 55 = 3 := by kernel_rfl
theorem cells_qu : Tryz.prog.cellsOf 143 = 5 := by kernel_rfl
theorem cells_po : Tryz.prog.cellsOf 26 = 4 := by kernel_rfl
theorem cells_int : Tryz.prog.cellsOf 3 = 1 := by kernel_rfl
theorem cells_str : Tryz.prog.cellsOf 9 = 1 := by kernel_rfl
theorem cells_sty : Tryz.prog.cellsOf 22 = 1 := by kernel_rfl
theorem cells_sru : Tryz.prog.cellsOf 23 = 1 := by kernel_rfl
theorem cells_squ : Tryz.prog.cellsOf 24 = 1 := by kernel_rfl
def TyIn (t : Ty) : Prop := t.name.size ≤ maxLen ∧ I64 t.flags ∧ I64 t.life
def RuIn (t : Ru) : Prop := I64 t.kind ∧ I64 t.a ∧ I64 t.b
def QuIn (t : Qu) : Prop := I64 t.cmd ∧ I64 t.count ∧ I64 t.delay ∧ I64 t.valid ∧ I64 t.uses
theorem int_of {xs : List C} (h : ShpE Tryz.prog 3 xs) : ∃ n, xs = [cI n] ∧ I64 n := by
 obtain ⟨m, rfl, hm⟩ := shp_int Tryz.underlying3 h
 exact ⟨m, rfl, wf_i64 hm⟩
theorem str_of {xs : List C} (h : ShpE Tryz.prog 9 xs) : ∃ s, xs = [cS s] ∧ s.size ≤ maxLen := by
 obtain ⟨m, rfl, hm⟩ := shp_str Tryz.underlying9 h
 exact ⟨m, rfl, hm⟩
theorem ty_of {xs : List C} (h : ShpE Tryz.prog 66 xs) : ∃ t : Ty, xs = tyC t ∧ TyIn t := by
 obtain ⟨hl, hf⟩ := shp_struct Tryz.underlying66 h
 rw [cells_ty] at hl
 match xs, hl with
 | [x0, x1, x2], _ =>
  have h0 := hf _ (by simp; exact .inl rfl)
  have h1 := hf _ (by simp; exact .inr (.inl rfl))
  have h2 := hf _ (by simp; exact .inr (.inr rfl))
  simp only [cells_str, cells_int, List.drop_zero, List.drop_succ_cons, List.take_succ_cons, List.take_zero] at h0 h1 h2
  obtain ⟨s, e0, hs⟩ := str_of h0
  obtain ⟨a, e1, ha⟩ := int_of h1
  obtain ⟨b, e2, hb⟩ := int_of h2
  cases e0; cases e1; cases e2
  exact ⟨⟨s, a, b⟩, rfl, hs, ha, hb⟩
theorem ru_of {xs : List C} (h : ShpE Tryz.prog 55 xs) : ∃ t : Ru, xs = ruC t ∧ RuIn t := by
 obtain ⟨hl, hf⟩ := shp_struct Tryz.underlying55 h
 rw [cells_ru] at hl
 match xs, hl with
 | [x0, x1, x2], _ =>
  have h0 := hf _ (by simp; exact .inl rfl)
  have h1 := hf _ (by simp; exact .inr (.inl rfl))
  have h2 := hf _ (by simp; exact .inr (.inr rfl))
  simp only [cells_int, List.drop_zero, List.drop_succ_cons, List.take_succ_cons, List.take_zero] at h0 h1 h2
  obtain ⟨s, e0, hs⟩ := int_of h0
  obtain ⟨a, e1, ha⟩ := int_of h1
  obtain ⟨b, e2, hb⟩ := int_of h2
  cases e0; cases e1; cases e2
  exact ⟨⟨s, a, b⟩, rfl, hs, ha, hb⟩
theorem qu_of {xs : List C} (h : ShpE Tryz.prog 143 xs) : ∃ t : Qu, xs = quC t ∧ QuIn t := by
 obtain ⟨hl, hf⟩ := shp_struct Tryz.underlying143 h
 rw [cells_qu] at hl
 match xs, hl with
 | [x0, x1, x2, x3, x4], _ =>
  have h0 := hf _ (by simp; exact .inl rfl)
  have h1 := hf _ (by simp; exact .inr (.inl rfl))
  have h2 := hf _ (by simp; exact .inr (.inr (.inl rfl)))
  have h3 := hf _ (by simp; exact .inr (.inr (.inr (.inl rfl))))
  have h4 := hf _ (by simp; exact .inr (.inr (.inr (.inr rfl))))
  simp only [cells_int, List.drop_zero, List.drop_succ_cons, List.take_succ_cons, List.take_zero] at h0 h1 h2 h3 h4
  obtain ⟨a0, e0, k0⟩ := int_of h0
  obtain ⟨a1, e1, k1⟩ := int_of h1
  obtain ⟨a2, e2, k2⟩ := int_of h2
  obtain ⟨a3, e3, k3⟩ := int_of h3
  obtain ⟨a4, e4, k4⟩ := int_of h4
  cases e0; cases e1; cases e2; cases e3; cases e4
  exact ⟨⟨a0, a1, a2, a3, a4⟩, rfl, k0, k1, k2, k3, k4⟩
structure PolIn (p : Pol) : Prop where
 name : p.name.size ≤ maxLen
 lt : p.types.length ≤ maxLen
 lr : p.rules.length ≤ maxLen
 lq : p.quorums.length ≤ maxLen
 types : ∀ t ∈ p.types, TyIn t
 rules : ∀ t ∈ p.rules, RuIn t
 quorums : ∀ t ∈ p.quorums, QuIn t
theorem po_of {xs : List C} (h : ShpE Tryz.prog 26 xs) : ∃ p : Pol, xs = poC p ∧ PolIn p := by
 obtain ⟨hl, hf⟩ := shp_struct Tryz.underlying26 h
 rw [cells_po] at hl
 match xs, hl with
 | [x0, x1, x2, x3], _ =>
  have h0 := hf _ (by simp; exact .inl rfl)
  have h1 := hf _ (by simp; exact .inr (.inl rfl))
  have h2 := hf _ (by simp; exact .inr (.inr (.inl rfl)))
  have h3 := hf _ (by simp; exact .inr (.inr (.inr rfl)))
  simp only [cells_str, cells_sty, cells_sru, cells_squ, List.drop_zero, List.drop_succ_cons, List.take_succ_cons, List.take_zero] at h0 h1 h2 h3
  obtain ⟨s, e0, hs⟩ := str_of h0
  obtain ⟨es1, e1, l1, k1⟩ := shp_slice Tryz.underlying22 h1
  obtain ⟨es2, e2, l2, k2⟩ := shp_slice Tryz.underlying23 h2
  obtain ⟨es3, e3, l3, k3⟩ := shp_slice Tryz.underlying24 h3
  obtain ⟨ts, rfl, t1⟩ := list_of fun x hx => ty_of (k1 x hx)
  obtain ⟨rs, rfl, t2⟩ := list_of fun x hx => ru_of (k2 x hx)
  obtain ⟨qs, rfl, t3⟩ := list_of fun x hx => qu_of (k3 x hx)
  cases e0; cases e1; cases e2; cases e3
  exact ⟨⟨s, ts, rs, qs⟩, rfl, hs, by simpa using l1, by simpa using l2, by simpa using l3, t1, t2, t3⟩
theorem agg_po : isAggB Tryz.prog 26 = true := by kernel_rfl
theorem arg_po {x : V} (h : ∃ n cs, Shp Tryz.prog n 26 cs ∧ x = absV Tryz.prog 26 cs) : ∃ p : Pol, x = .agg (poC p) ∧ PolIn p := by
 obtain ⟨n, cs, h, rfl⟩ := h
 obtain ⟨p, rfl, hp⟩ := po_of ⟨n, h⟩
 exact ⟨p, by unfold absV; rw [agg_po, if_pos rfl], hp⟩
theorem cells_fa : Tryz.prog.cellsOf 29 = 3 := by kernel_rfl
def FaIn (t : Fa) : Prop := I64 t.kind ∧ I64 t.a ∧ I64 t.b
theorem fa_of {xs : List C} (h : ShpE Tryz.prog 29 xs) : ∃ t : Fa, xs = faC t ∧ FaIn t := by
 obtain ⟨hl, hf⟩ := shp_struct Tryz.underlying29 h
 rw [cells_fa] at hl
 match xs, hl with
 | [x0, x1, x2], _ =>
  have h0 := hf _ (by simp; exact .inl rfl)
  have h1 := hf _ (by simp; exact .inr (.inl rfl))
  have h2 := hf _ (by simp; exact .inr (.inr rfl))
  simp only [cells_int, List.drop_zero, List.drop_succ_cons, List.take_succ_cons, List.take_zero] at h0 h1 h2
  obtain ⟨s, e0, hs⟩ := int_of h0
  obtain ⟨a, e1, ha⟩ := int_of h1
  obtain ⟨b, e2, hb⟩ := int_of h2
  cases e0; cases e1; cases e2
  exact ⟨⟨s, a, b⟩, rfl, hs, ha, hb⟩
theorem agg_sfa : isAggB Tryz.prog 27 = false := by kernel_rfl
theorem arg_fs {x : V} (h : ∃ n cs, Shp Tryz.prog n 27 cs ∧ x = absV Tryz.prog 27 cs) : ∃ p : List Fa, x = .c (fsC p) ∧ p.length ≤ maxLen ∧ ∀ f ∈ p, FaIn f := by
 obtain ⟨n, cs, h, rfl⟩ := h
 obtain ⟨es, e0, l, k⟩ := shp_slice Tryz.underlying27 (⟨n, h⟩ : ShpE Tryz.prog 27 cs)
 obtain ⟨fs, rfl, t⟩ := list_of fun x hx => fa_of (k x hx)
 exact ⟨fs, by subst e0; unfold absV; rw [agg_sfa]; rfl, by simpa using l, t⟩
