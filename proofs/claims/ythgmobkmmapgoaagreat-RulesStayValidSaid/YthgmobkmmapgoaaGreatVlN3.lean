/- Layer 17, plain laws: what instances there are. -/
import Derived.Test.YthgmobkmmapgoaaGreatVlL2
import Derived.Test.YthgmobkmmapgoaaGreatVlG1
set_option linter.unusedSimpArgs false
set_option linter.unusedVariables false
namespace Go.Proofs.YthgmobkmmapgoaaGreat
open Go Go.Vl

theorem mem_em {o : Option Fa} {x y : In} : x ∈ emL o y ↔ wants o y = true ∧ x = y := by
  unfold emL; split
  · rename_i h; simp [h]
  · rename_i h; simp [h]
theorem mem_flag {p : Pol} {o : Option Fa} {flag : Int} {D : Nat → List In} {x : In} : x ∈ flagL p o flag D 0 ↔ ∃ t : Nat, t < p.types.length ∧ hasF p t flag = true ∧ aboutO o [(t : Int)] = true ∧ x ∈ D t := by
  unfold flagL
  rw [List.mem_flatMap]
  constructor
  · rintro ⟨t, ht, hx⟩
    unfold flagT at hx
    split at hx
    · rename_i h
      rw [Bool.and_eq_true] at h
      rw [List.mem_range'_1] at ht
      exact ⟨t, by omega, h.1, h.2, hx⟩
    · cases hx
  · rintro ⟨t, ht, h1, h2, hx⟩
    refine ⟨t, by rw [List.mem_range'_1]; omega, ?_⟩
    unfold flagT
    rw [h1, h2]; exact hx
theorem mem_class {n v : Nat} {D : Nat → List In} {x : In} : x ∈ classL n D v ↔ ∃ t, v ≤ t ∧ t ≤ n ∧ x ∈ D t := by
  unfold classL
  rw [List.mem_flatMap]
  constructor
  · rintro ⟨t, ht, hx⟩
    rw [List.mem_range'_1] at ht
    exact ⟨t, by omega, by omega, hx⟩
  · rintro ⟨t, h1, h2, hx⟩
    exact ⟨t, by rw [List.mem_range'_1]; omega, hx⟩
theorem mem_pair {n first : Nat} {D : Nat → Nat → List In} {x : In} : x ∈ pairL n first D ↔ ∃ v w, v ≤ n ∧ first ≤ w ∧ w ≤ n ∧ x ∈ D v w := by
  unfold pairL
  rw [mem_class]
  constructor
  · rintro ⟨v, _, h2, h⟩
    obtain ⟨w, h3, h4, h5⟩ := mem_class.1 h
    exact ⟨v, w, h2, h3, h4, h5⟩
  · rintro ⟨v, w, h1, h2, h3, h4⟩
    exact ⟨v, Nat.zero_le _, h1, mem_class.2 ⟨w, h2, h3, h4⟩⟩
theorem mem_rule {p : Pol} {o : Option Fa} {kind : Int} {D : Nat → Nat → List In} {x : In} : x ∈ ruleL p o kind D 0 ↔ ∃ a b : Nat, (⟨kind, a, b⟩ : Ru) ∈ p.rules ∧ a < p.types.length ∧ b < p.types.length ∧ aboutO o [(a : Int), (b : Int)] = true ∧ x ∈ D a b := by
  unfold ruleL
  rw [List.drop_zero, List.mem_flatMap]
  constructor
  · rintro ⟨r, hr, hx⟩
    unfold ruleT at hx
    split at hx
    · rename_i h
      simp only [ruIs, Bool.and_eq_true, decide_eq_true_eq] at h
      obtain ⟨⟨h1, h2, h3⟩, h4⟩ := h
      have ha : ((r.a.toNat : Nat) : Int) = r.a := Int.toNat_of_nonneg (by omega)
      have hb : ((r.b.toNat : Nat) : Int) = r.b := Int.toNat_of_nonneg (by omega)
      refine ⟨r.a.toNat, r.b.toNat, ?_, by omega, by omega, by rw [ha, hb]; exact h4, hx⟩
      rw [ha, hb, ← h1]; exact hr
    · cases hx
  · rintro ⟨a, b, hr, ha, hb, h4, hx⟩
    refine ⟨_, hr, ?_⟩
    unfold ruleT
    have : ruIs p kind ⟨kind, a, b⟩ = true := by
      simp only [ruIs, Bool.and_eq_true, decide_eq_true_eq]
      exact ⟨trivial, by omega, by omega⟩
    rw [this, h4]
    exact hx
theorem mem_r10 {o : Option Fa} {a b v w : Nat} {x : In} : x ∈ r10 o a b v w ↔ ¬ (0 < w ∧ v = 0) ∧ wants o (i10 a b v w) = true ∧ x = i10 a b v w := by
  unfold r10; split
  · rename_i h; simp [h]
  · rename_i h; simp only [h, not_false_eq_true, true_and]; exact mem_em

/-- The instances, rule by rule. -/
theorem mem_all {p : Pol} {o : Option Fa} {x : In} : x ∈ allL p o ↔ x ∈ t1 p o ∨ x ∈ t2 p o ∨ x ∈ t3 p o ∨ x ∈ t4 p o ∨ x ∈ t5 p o ∨ x ∈ t6 p o ∨ x ∈ t7 p o ∨ x ∈ t8 p o ∨ x ∈ t9 p o ∨ x ∈ t10 p o ∨ x ∈ t11 p o ∨ x ∈ t12 p o ∨ x ∈ t13 p o ∨ x ∈ t14 o ∨ x ∈ t15 p o := by
  unfold allL tops
  simp only [List.flatten_cons, List.flatten_nil, List.mem_append, List.not_mem_nil, or_false]

theorem val_h {p : Pol} {v t : Nat} (hv : v ≤ p.types.length) (ht : t < p.types.length) : validF p (handleF v t) = true := by
  simp [validF, handleF]; omega
theorem val_b {p : Pol} {v w : Nat} (hv : v ≤ p.types.length) (hw : w ≤ p.types.length) : validF p (blobF v w) = true := by
  simp [validF, blobF]; omega
theorem val_l {p : Pol} {s : Nat} (h1 : 1 ≤ s) (h2 : s ≤ p.types.length) : validF p (leakF s) = true := by
  simp [validF, leakF]; exact ⟨decide_eq_true (show (1 : Int) ≤ (s : Int) by omega), h2⟩
theorem val_r {p : Pol} {s : Nat} (h1 : 1 ≤ s) (h2 : s ≤ p.types.length) : validF p (rawF s) = true := by
  simp [validF, rawF]; exact ⟨decide_eq_true (show (1 : Int) ≤ (s : Int) by omega), h2⟩
/-- What is true of an instance of rule k. -/
structure Good (p : Pol) (k : Int) (x : In) : Prop where
  rule : x.rule = k
  pre : x.pre.length ≤ 2
  con : 1 ≤ x.con.length ∧ x.con.length ≤ 2
  vp : ∀ f ∈ x.pre, validF p f = true
  vc : ∀ f ∈ x.con, validF p f = true
end Go.Proofs.YthgmobkmmapgoaaGreat

/- Layer 17, plain laws: what instances there are, rule by rule. Printed by genn3.py. -/
namespace Go.Proofs.YthgmobkmmapgoaaGreat
open Go Go.Vl
set_option maxRecDepth 10000

theorem wants_of {x : In} {f : Fa} (h : f ∈ x.pre) : wants (some f) x = true := List.any_eq_true.2 ⟨f, h, decide_eq_true rfl⟩
theorem about_at {f : Fa} {l : List Int} (h : f.kind = 1 → f.b ∈ l) : aboutO (some f) l = true := by
  unfold aboutO
  simp only [Bool.or_eq_true, Bool.not_eq_true', decide_eq_false_iff_not, List.any_eq_true, decide_eq_true_eq]
  by_cases hk : f.kind = 1
  · exact .inr ⟨f.b, h hk, rfl⟩
  · exact .inl hk
theorem good_1 {p : Pol} {o : Option Fa} {x : In} (h : x ∈ t1 p o) : Good p 1 x := by
  obtain ⟨t, ht, _, _, h⟩ := mem_flag.1 h
  obtain ⟨_, rfl⟩ := mem_em.1 h
  refine ⟨rfl, by simp [i1], by simp [i1], fun f hf => ?_, fun f hf => ?_⟩
  · cases hf
  · simp only [i1, List.mem_cons, List.not_mem_nil, or_false] at hf
    subst hf
    exact val_h (v := 0) (t := t) (by omega) (by omega)

theorem use_1 {p : Pol} {f : Fa} {x : In} (h : x ∈ t1 p none) (hf : f ∈ x.pre) : x ∈ t1 p (some f) := by
  obtain ⟨t, ht, hh, _, h⟩ := mem_flag.1 h
  obtain ⟨_, rfl⟩ := mem_em.1 h
  cases hf

theorem more_1 {p q : Pol} {o : Option Fa} {x : In} (ht : p.types = q.types) (hm : ∀ r ∈ p.rules, r ∈ q.rules) (h : x ∈ t1 p o) : x ∈ t1 q o := by
  obtain ⟨t, h0, hh, h1, h⟩ := mem_flag.1 h
  refine mem_flag.2 ⟨t, by rw [← ht]; exact h0, by unfold hasF at hh ⊢; rw [← ht]; exact hh, h1, ?_⟩
  exact h


theorem good_2 {p : Pol} {o : Option Fa} {x : In} (h : x ∈ t2 p o) : Good p 2 x := by
  obtain ⟨t, ht, _, _, h⟩ := mem_flag.1 h
  obtain ⟨_, rfl⟩ := mem_em.1 h
  refine ⟨rfl, by simp [i2], by simp [i2], fun f hf => ?_, fun f hf => ?_⟩
  · cases hf
  · simp only [i2, List.mem_cons, List.not_mem_nil, or_false] at hf
    subst hf
    exact val_h (v := (t+1)) (t := t) (by omega) (by omega)

theorem use_2 {p : Pol} {f : Fa} {x : In} (h : x ∈ t2 p none) (hf : f ∈ x.pre) : x ∈ t2 p (some f) := by
  obtain ⟨t, ht, hh, _, h⟩ := mem_flag.1 h
  obtain ⟨_, rfl⟩ := mem_em.1 h
  cases hf

theorem more_2 {p q : Pol} {o : Option Fa} {x : In} (ht : p.types = q.types) (hm : ∀ r ∈ p.rules, r ∈ q.rules) (h : x ∈ t2 p o) : x ∈ t2 q o := by
  obtain ⟨t, h0, hh, h1, h⟩ := mem_flag.1 h
  refine mem_flag.2 ⟨t, by rw [← ht]; exact h0, by unfold hasF at hh ⊢; rw [← ht]; exact hh, h1, ?_⟩
  exact h


theorem good_3 {p : Pol} {o : Option Fa} {x : In} (h : x ∈ t3 p o) : Good p 3 x := by
  obtain ⟨a, b, _, ha, hb, _, h⟩ := mem_rule.1 h
  obtain ⟨s, hs1, hs2, h⟩ := mem_class.1 h
  obtain ⟨_, rfl⟩ := mem_em.1 h
  refine ⟨rfl, by simp [i3], by simp [i3], fun f hf => ?_, fun f hf => ?_⟩
  · simp only [i3, List.mem_cons, List.not_mem_nil, or_false] at hf
    subst hf
    exact val_h (v := s) (t := a) (by omega) (by omega)
  · simp only [i3, List.mem_cons, List.not_mem_nil, or_false] at hf
    subst hf
    exact val_h (v := (b+1)) (t := b) (by omega) (by omega)

theorem use_3 {p : Pol} {f : Fa} {x : In} (h : x ∈ t3 p none) (hf : f ∈ x.pre) : x ∈ t3 p (some f) := by
  obtain ⟨a, b, hr, ha, hb, _, h⟩ := mem_rule.1 h
  obtain ⟨s, hs1, hs2, h⟩ := mem_class.1 h
  obtain ⟨_, rfl⟩ := mem_em.1 h
  refine mem_rule.2 ⟨a, b, hr, ha, hb, about_at (fun hk => ?_), mem_class.2 ⟨s, hs1, hs2, mem_em.2 ⟨wants_of hf, rfl⟩⟩⟩
  simp only [i3, List.mem_cons, List.not_mem_nil, or_false] at hf
  subst hf
  simp [handleF]

theorem more_3 {p q : Pol} {o : Option Fa} {x : In} (ht : p.types = q.types) (hm : ∀ r ∈ p.rules, r ∈ q.rules) (h : x ∈ t3 p o) : x ∈ t3 q o := by
  obtain ⟨a, b, hr, ha, hb, h1, h⟩ := mem_rule.1 h
  refine mem_rule.2 ⟨a, b, hm _ hr, by rw [← ht]; exact ha, by rw [← ht]; exact hb, h1, ?_⟩
  unfold m3 at h ⊢
  rw [← ht]; exact h


theorem good_4 {p : Pol} {o : Option Fa} {x : In} (h : x ∈ t4 p o) : Good p 4 x := by
  obtain ⟨a, b, _, ha, hb, _, h⟩ := mem_rule.1 h
  obtain ⟨_, rfl⟩ := mem_em.1 h
  refine ⟨rfl, by simp [i4], by simp [i4], fun f hf => ?_, fun f hf => ?_⟩
  · simp only [i4, List.mem_cons, List.not_mem_nil, or_false] at hf
    subst hf
    exact val_h (v := 0) (t := a) (by omega) (by omega)
  · simp only [i4, List.mem_cons, List.not_mem_nil, or_false] at hf
    subst hf
    exact val_h (v := 0) (t := b) (by omega) (by omega)

theorem use_4 {p : Pol} {f : Fa} {x : In} (h : x ∈ t4 p none) (hf : f ∈ x.pre) : x ∈ t4 p (some f) := by
  obtain ⟨a, b, hr, ha, hb, _, h⟩ := mem_rule.1 h
  obtain ⟨_, rfl⟩ := mem_em.1 h
  refine mem_rule.2 ⟨a, b, hr, ha, hb, about_at (fun hk => ?_), mem_em.2 ⟨wants_of hf, rfl⟩⟩
  simp only [i4, List.mem_cons, List.not_mem_nil, or_false] at hf
  subst hf
  simp [handleF]

theorem more_4 {p q : Pol} {o : Option Fa} {x : In} (ht : p.types = q.types) (hm : ∀ r ∈ p.rules, r ∈ q.rules) (h : x ∈ t4 p o) : x ∈ t4 q o := by
  obtain ⟨a, b, hr, ha, hb, h1, h⟩ := mem_rule.1 h
  refine mem_rule.2 ⟨a, b, hm _ hr, by rw [← ht]; exact ha, by rw [← ht]; exact hb, h1, ?_⟩
  exact h


theorem good_5 {p : Pol} {o : Option Fa} {x : In} (h : x ∈ t5 p o) : Good p 5 x := by
  obtain ⟨a, b, _, ha, hb, _, h⟩ := mem_rule.1 h
  obtain ⟨s, hs1, hs2, h⟩ := mem_class.1 h
  obtain ⟨_, rfl⟩ := mem_em.1 h
  refine ⟨rfl, by simp [i5], by simp [i5], fun f hf => ?_, fun f hf => ?_⟩
  · simp only [i5, List.mem_cons, List.not_mem_nil, or_false] at hf
    rcases hf with rfl | rfl
    · exact val_h (v := s) (t := a) (by omega) (by omega)
    · exact val_l (s := s) (by omega) (by omega)
  · simp only [i5, List.mem_cons, List.not_mem_nil, or_false] at hf
    subst hf
    exact val_l (s := (b+1)) (by omega) (by omega)

theorem use_5 {p : Pol} {f : Fa} {x : In} (h : x ∈ t5 p none) (hf : f ∈ x.pre) : x ∈ t5 p (some f) := by
  obtain ⟨a, b, hr, ha, hb, _, h⟩ := mem_rule.1 h
  obtain ⟨s, hs1, hs2, h⟩ := mem_class.1 h
  obtain ⟨_, rfl⟩ := mem_em.1 h
  refine mem_rule.2 ⟨a, b, hr, ha, hb, about_at (fun hk => ?_), mem_class.2 ⟨s, hs1, hs2, mem_em.2 ⟨wants_of hf, rfl⟩⟩⟩
  simp only [i5, List.mem_cons, List.not_mem_nil, or_false] at hf
  rcases hf with rfl | rfl
  · simp [handleF]
  · exact absurd hk (by simp [blobF, leakF])

theorem more_5 {p q : Pol} {o : Option Fa} {x : In} (ht : p.types = q.types) (hm : ∀ r ∈ p.rules, r ∈ q.rules) (h : x ∈ t5 p o) : x ∈ t5 q o := by
  obtain ⟨a, b, hr, ha, hb, h1, h⟩ := mem_rule.1 h
  refine mem_rule.2 ⟨a, b, hm _ hr, by rw [← ht]; exact ha, by rw [← ht]; exact hb, h1, ?_⟩
  unfold m5 at h ⊢
  rw [← ht]; exact h


theorem good_6 {p : Pol} {o : Option Fa} {x : In} (h : x ∈ t6 p o) : Good p 6 x := by
  obtain ⟨t, ht, _, _, h⟩ := mem_flag.1 h
  obtain ⟨s, hs1, hs2, h⟩ := mem_class.1 h
  obtain ⟨_, rfl⟩ := mem_em.1 h
  refine ⟨rfl, by simp [i6], by simp [i6], fun f hf => ?_, fun f hf => ?_⟩
  · simp only [i6, List.mem_cons, List.not_mem_nil, or_false] at hf
    subst hf
    exact val_h (v := s) (t := t) (by omega) (by omega)
  · simp only [i6, List.mem_cons, List.not_mem_nil, or_false] at hf
    subst hf
    exact val_l (s := s) (by omega) (by omega)

theorem use_6 {p : Pol} {f : Fa} {x : In} (h : x ∈ t6 p none) (hf : f ∈ x.pre) : x ∈ t6 p (some f) := by
  obtain ⟨t, ht, hh, _, h⟩ := mem_flag.1 h
  obtain ⟨s, hs1, hs2, h⟩ := mem_class.1 h
  obtain ⟨_, rfl⟩ := mem_em.1 h
  refine mem_flag.2 ⟨t, ht, hh, about_at (fun hk => ?_), mem_class.2 ⟨s, hs1, hs2, mem_em.2 ⟨wants_of hf, rfl⟩⟩⟩
  simp only [i6, List.mem_cons, List.not_mem_nil, or_false] at hf
  subst hf
  simp [handleF]

theorem more_6 {p q : Pol} {o : Option Fa} {x : In} (ht : p.types = q.types) (hm : ∀ r ∈ p.rules, r ∈ q.rules) (h : x ∈ t6 p o) : x ∈ t6 q o := by
  obtain ⟨t, h0, hh, h1, h⟩ := mem_flag.1 h
  refine mem_flag.2 ⟨t, by rw [← ht]; exact h0, by unfold hasF at hh ⊢; rw [← ht]; exact hh, h1, ?_⟩
  unfold m6 at h ⊢
  rw [← ht]; exact h


theorem good_7 {p : Pol} {o : Option Fa} {x : In} (h : x ∈ t7 p o) : Good p 7 x := by
  obtain ⟨t, ht, _, _, h⟩ := mem_flag.1 h
  obtain ⟨s, hs1, hs2, h⟩ := mem_class.1 h
  obtain ⟨_, rfl⟩ := mem_em.1 h
  refine ⟨rfl, by simp [i7], by simp [i7], fun f hf => ?_, fun f hf => ?_⟩
  · simp only [i7, List.mem_cons, List.not_mem_nil, or_false] at hf
    subst hf
    exact val_h (v := s) (t := t) (by omega) (by omega)
  · simp only [i7, List.mem_cons, List.not_mem_nil, or_false] at hf
    subst hf
    exact val_b (v := s) (w := 0) (by omega) (by omega)

theorem use_7 {p : Pol} {f : Fa} {x : In} (h : x ∈ t7 p none) (hf : f ∈ x.pre) : x ∈ t7 p (some f) := by
  obtain ⟨t, ht, hh, _, h⟩ := mem_flag.1 h
  obtain ⟨s, hs1, hs2, h⟩ := mem_class.1 h
  obtain ⟨_, rfl⟩ := mem_em.1 h
  refine mem_flag.2 ⟨t, ht, hh, about_at (fun hk => ?_), mem_class.2 ⟨s, hs1, hs2, mem_em.2 ⟨wants_of hf, rfl⟩⟩⟩
  simp only [i7, List.mem_cons, List.not_mem_nil, or_false] at hf
  subst hf
  simp [handleF]

theorem more_7 {p q : Pol} {o : Option Fa} {x : In} (ht : p.types = q.types) (hm : ∀ r ∈ p.rules, r ∈ q.rules) (h : x ∈ t7 p o) : x ∈ t7 q o := by
  obtain ⟨t, h0, hh, h1, h⟩ := mem_flag.1 h
  refine mem_flag.2 ⟨t, by rw [← ht]; exact h0, by unfold hasF at hh ⊢; rw [← ht]; exact hh, h1, ?_⟩
  unfold m7 at h ⊢
  rw [← ht]; exact h


theorem good_8 {p : Pol} {o : Option Fa} {x : In} (h : x ∈ t8 p o) : Good p 8 x := by
  obtain ⟨a, b, _, ha, hb, _, h⟩ := mem_rule.1 h
  obtain ⟨v, w, hv, hw1, hw2, h⟩ := mem_pair.1 h
  obtain ⟨_, rfl⟩ := mem_em.1 h
  refine ⟨rfl, by simp [i8], by simp [i8], fun f hf => ?_, fun f hf => ?_⟩
  · simp only [i8, List.mem_cons, List.not_mem_nil, or_false] at hf
    rcases hf with rfl | rfl
    · exact val_h (v := v) (t := a) (by omega) (by omega)
    · exact val_h (v := w) (t := b) (by omega) (by omega)
  · simp only [i8, List.mem_cons, List.not_mem_nil, or_false] at hf
    subst hf
    exact val_b (v := v) (w := w) (by omega) (by omega)

theorem use_8 {p : Pol} {f : Fa} {x : In} (h : x ∈ t8 p none) (hf : f ∈ x.pre) : x ∈ t8 p (some f) := by
  obtain ⟨a, b, hr, ha, hb, _, h⟩ := mem_rule.1 h
  obtain ⟨v, w, hv, hw1, hw2, h⟩ := mem_pair.1 h
  obtain ⟨_, rfl⟩ := mem_em.1 h
  refine mem_rule.2 ⟨a, b, hr, ha, hb, about_at (fun hk => ?_), mem_pair.2 ⟨v, w, hv, hw1, hw2, mem_em.2 ⟨wants_of hf, rfl⟩⟩⟩
  simp only [i8, List.mem_cons, List.not_mem_nil, or_false] at hf
  rcases hf with rfl | rfl
  · simp [handleF]
  · simp [handleF]

theorem more_8 {p q : Pol} {o : Option Fa} {x : In} (ht : p.types = q.types) (hm : ∀ r ∈ p.rules, r ∈ q.rules) (h : x ∈ t8 p o) : x ∈ t8 q o := by
  obtain ⟨a, b, hr, ha, hb, h1, h⟩ := mem_rule.1 h
  refine mem_rule.2 ⟨a, b, hm _ hr, by rw [← ht]; exact ha, by rw [← ht]; exact hb, h1, ?_⟩
  unfold m8 at h ⊢
  rw [← ht]; exact h


theorem good_9 {p : Pol} {o : Option Fa} {x : In} (h : x ∈ t9 p o) : Good p 9 x := by
  obtain ⟨t, ht, _, _, h⟩ := mem_flag.1 h
  obtain ⟨v, w, hv, hw1, hw2, h⟩ := mem_pair.1 h
  obtain ⟨_, rfl⟩ := mem_em.1 h
  refine ⟨rfl, by simp [i9], by simp [i9], fun f hf => ?_, fun f hf => ?_⟩
  · simp only [i9, List.mem_cons, List.not_mem_nil, or_false] at hf
    rcases hf with rfl | rfl
    · exact val_h (v := v) (t := t) (by omega) (by omega)
    · exact val_b (v := v) (w := w) (by omega) (by omega)
  · simp only [i9, List.mem_cons, List.not_mem_nil, or_false] at hf
    subst hf
    exact val_l (s := w) (by omega) (by omega)

theorem use_9 {p : Pol} {f : Fa} {x : In} (h : x ∈ t9 p none) (hf : f ∈ x.pre) : x ∈ t9 p (some f) := by
  obtain ⟨t, ht, hh, _, h⟩ := mem_flag.1 h
  obtain ⟨v, w, hv, hw1, hw2, h⟩ := mem_pair.1 h
  obtain ⟨_, rfl⟩ := mem_em.1 h
  refine mem_flag.2 ⟨t, ht, hh, about_at (fun hk => ?_), mem_pair.2 ⟨v, w, hv, hw1, hw2, mem_em.2 ⟨wants_of hf, rfl⟩⟩⟩
  simp only [i9, List.mem_cons, List.not_mem_nil, or_false] at hf
  rcases hf with rfl | rfl
  · simp [handleF]
  · exact absurd hk (by simp [blobF, leakF])

theorem more_9 {p q : Pol} {o : Option Fa} {x : In} (ht : p.types = q.types) (hm : ∀ r ∈ p.rules, r ∈ q.rules) (h : x ∈ t9 p o) : x ∈ t9 q o := by
  obtain ⟨t, h0, hh, h1, h⟩ := mem_flag.1 h
  refine mem_flag.2 ⟨t, by rw [← ht]; exact h0, by unfold hasF at hh ⊢; rw [← ht]; exact hh, h1, ?_⟩
  unfold m9 at h ⊢
  rw [← ht]; exact h


theorem good_10 {p : Pol} {o : Option Fa} {x : In} (h : x ∈ t10 p o) : Good p 10 x := by
  obtain ⟨a, b, _, ha, hb, _, h⟩ := mem_rule.1 h
  obtain ⟨v, w, hv, hw1, hw2, h⟩ := mem_pair.1 h
  obtain ⟨hn, _, rfl⟩ := mem_r10.1 h
  unfold i10
  split
  · rename_i hw
    refine ⟨rfl, by simp, by simp, fun f hf => ?_, fun f hf => ?_⟩
    · simp only [List.mem_cons, List.not_mem_nil, or_false] at hf
      rcases hf with rfl | rfl
      · exact val_h hv (by omega)
      · exact val_b hv hw2
    · simp only [List.mem_cons, List.not_mem_nil, or_false] at hf
      rcases hf with rfl | rfl
      · exact val_h hw2 (by omega)
      · exact val_r hw hw2
  · refine ⟨rfl, by simp, by simp, fun f hf => ?_, fun f hf => ?_⟩
    · simp only [List.mem_cons, List.not_mem_nil, or_false] at hf
      rcases hf with rfl | rfl
      · exact val_h hv (by omega)
      · exact val_b hv hw2
    · simp only [List.mem_cons, List.not_mem_nil, or_false] at hf
      subst hf
      exact val_h hw2 (by omega)

theorem use_10 {p : Pol} {f : Fa} {x : In} (h : x ∈ t10 p none) (hf : f ∈ x.pre) : x ∈ t10 p (some f) := by
  obtain ⟨a, b, hr, ha, hb, _, h⟩ := mem_rule.1 h
  obtain ⟨v, w, hv, hw1, hw2, h⟩ := mem_pair.1 h
  obtain ⟨hn, _, rfl⟩ := mem_r10.1 h
  refine mem_rule.2 ⟨a, b, hr, ha, hb, about_at (fun hk => ?_), mem_pair.2 ⟨v, w, hv, hw1, hw2, mem_r10.2 ⟨hn, wants_of hf, rfl⟩⟩⟩
  simp only [i10, List.mem_cons, List.not_mem_nil, or_false] at hf
  rcases hf with rfl | rfl
  · simp [handleF]
  · exact absurd hk (by simp [blobF, leakF])

theorem more_10 {p q : Pol} {o : Option Fa} {x : In} (ht : p.types = q.types) (hm : ∀ r ∈ p.rules, r ∈ q.rules) (h : x ∈ t10 p o) : x ∈ t10 q o := by
  obtain ⟨a, b, hr, ha, hb, h1, h⟩ := mem_rule.1 h
  refine mem_rule.2 ⟨a, b, hm _ hr, by rw [← ht]; exact ha, by rw [← ht]; exact hb, h1, ?_⟩
  unfold m10 at h ⊢
  rw [← ht]; exact h


theorem good_11 {p : Pol} {o : Option Fa} {x : In} (h : x ∈ t11 p o) : Good p 11 x := by
  obtain ⟨a, b, _, ha, hb, _, h⟩ := mem_rule.1 h
  obtain ⟨_, rfl⟩ := mem_em.1 h
  refine ⟨rfl, by simp [i11], by simp [i11], fun f hf => ?_, fun f hf => ?_⟩
  · simp only [i11, List.mem_cons, List.not_mem_nil, or_false] at hf
    subst hf
    exact val_h (v := 0) (t := a) (by omega) (by omega)
  · simp only [i11, List.mem_cons, List.not_mem_nil, or_false] at hf
    subst hf
    exact val_h (v := 0) (t := b) (by omega) (by omega)

theorem use_11 {p : Pol} {f : Fa} {x : In} (h : x ∈ t11 p none) (hf : f ∈ x.pre) : x ∈ t11 p (some f) := by
  obtain ⟨a, b, hr, ha, hb, _, h⟩ := mem_rule.1 h
  obtain ⟨_, rfl⟩ := mem_em.1 h
  refine mem_rule.2 ⟨a, b, hr, ha, hb, about_at (fun hk => ?_), mem_em.2 ⟨wants_of hf, rfl⟩⟩
  simp only [i11, List.mem_cons, List.not_mem_nil, or_false] at hf
  subst hf
  simp [handleF]

theorem more_11 {p q : Pol} {o : Option Fa} {x : In} (ht : p.types = q.types) (hm : ∀ r ∈ p.rules, r ∈ q.rules) (h : x ∈ t11 p o) : x ∈ t11 q o := by
  obtain ⟨a, b, hr, ha, hb, h1, h⟩ := mem_rule.1 h
  refine mem_rule.2 ⟨a, b, hm _ hr, by rw [← ht]; exact ha, by rw [← ht]; exact hb, h1, ?_⟩
  exact h


theorem good_12 {p : Pol} {o : Option Fa} {x : In} (h : x ∈ t12 p o) : Good p 12 x := by
  obtain ⟨a, b, _, ha, hb, _, h⟩ := mem_rule.1 h
  obtain ⟨s, hs1, hs2, h⟩ := mem_class.1 h
  obtain ⟨_, rfl⟩ := mem_em.1 h
  refine ⟨rfl, by simp [i12], by simp [i12], fun f hf => ?_, fun f hf => ?_⟩
  · simp only [i12, List.mem_cons, List.not_mem_nil, or_false] at hf
    rcases hf with rfl | rfl
    · exact val_h (v := 0) (t := a) (by omega) (by omega)
    · exact val_h (v := s) (t := b) (by omega) (by omega)
  · simp only [i12, List.mem_cons, List.not_mem_nil, or_false] at hf
    subst hf
    exact val_l (s := s) (by omega) (by omega)

theorem use_12 {p : Pol} {f : Fa} {x : In} (h : x ∈ t12 p none) (hf : f ∈ x.pre) : x ∈ t12 p (some f) := by
  obtain ⟨a, b, hr, ha, hb, _, h⟩ := mem_rule.1 h
  obtain ⟨s, hs1, hs2, h⟩ := mem_class.1 h
  obtain ⟨_, rfl⟩ := mem_em.1 h
  refine mem_rule.2 ⟨a, b, hr, ha, hb, about_at (fun hk => ?_), mem_class.2 ⟨s, hs1, hs2, mem_em.2 ⟨wants_of hf, rfl⟩⟩⟩
  simp only [i12, List.mem_cons, List.not_mem_nil, or_false] at hf
  rcases hf with rfl | rfl
  · simp [handleF]
  · simp [handleF]

theorem more_12 {p q : Pol} {o : Option Fa} {x : In} (ht : p.types = q.types) (hm : ∀ r ∈ p.rules, r ∈ q.rules) (h : x ∈ t12 p o) : x ∈ t12 q o := by
  obtain ⟨a, b, hr, ha, hb, h1, h⟩ := mem_rule.1 h
  refine mem_rule.2 ⟨a, b, hm _ hr, by rw [← ht]; exact ha, by rw [← ht]; exact hb, h1, ?_⟩
  unfold m12 at h ⊢
  rw [← ht]; exact h


theorem good_13 {p : Pol} {o : Option Fa} {x : In} (h : x ∈ t13 p o) : Good p 13 x := by
  obtain ⟨t, ht, _, _, h⟩ := mem_flag.1 h
  obtain ⟨s, hs1, hs2, h⟩ := mem_class.1 h
  obtain ⟨_, rfl⟩ := mem_em.1 h
  refine ⟨rfl, by simp [i13], by simp [i13], fun f hf => ?_, fun f hf => ?_⟩
  · simp only [i13, List.mem_cons, List.not_mem_nil, or_false] at hf
    rcases hf with rfl | rfl
    · exact val_l (s := s) (by omega) (by omega)
    · exact val_h (v := s) (t := t) (by omega) (by omega)
  · simp only [i13, List.mem_cons, List.not_mem_nil, or_false] at hf
    subst hf
    exact val_h (v := 0) (t := t) (by omega) (by omega)

theorem use_13 {p : Pol} {f : Fa} {x : In} (h : x ∈ t13 p none) (hf : f ∈ x.pre) : x ∈ t13 p (some f) := by
  obtain ⟨t, ht, hh, _, h⟩ := mem_flag.1 h
  obtain ⟨s, hs1, hs2, h⟩ := mem_class.1 h
  obtain ⟨_, rfl⟩ := mem_em.1 h
  refine mem_flag.2 ⟨t, ht, hh, about_at (fun hk => ?_), mem_class.2 ⟨s, hs1, hs2, mem_em.2 ⟨wants_of hf, rfl⟩⟩⟩
  simp only [i13, List.mem_cons, List.not_mem_nil, or_false] at hf
  rcases hf with rfl | rfl
  · exact absurd hk (by simp [blobF, leakF])
  · simp [handleF]

theorem more_13 {p q : Pol} {o : Option Fa} {x : In} (ht : p.types = q.types) (hm : ∀ r ∈ p.rules, r ∈ q.rules) (h : x ∈ t13 p o) : x ∈ t13 q o := by
  obtain ⟨t, h0, hh, h1, h⟩ := mem_flag.1 h
  refine mem_flag.2 ⟨t, by rw [← ht]; exact h0, by unfold hasF at hh ⊢; rw [← ht]; exact hh, h1, ?_⟩
  unfold m13 at h ⊢
  rw [← ht]; exact h


theorem good_14 {p : Pol} {o : Option Fa} {x : In} (h : x ∈ t14 o) : Good p 14 x := by
  obtain ⟨_, rfl⟩ := mem_em.1 h
  refine ⟨rfl, by simp [i14], by simp [i14], fun f hf => ?_, fun f hf => ?_⟩
  · cases hf
  · simp only [i14, List.mem_cons, List.not_mem_nil, or_false] at hf
    subst hf
    exact val_b (v := 0) (w := 0) (by omega) (by omega)

theorem use_14 {p : Pol} {f : Fa} {x : In} (h : x ∈ t14 none) (hf : f ∈ x.pre) : x ∈ t14 (some f) := by
  obtain ⟨_, rfl⟩ := mem_em.1 h
  cases hf

theorem more_14 {p q : Pol} {o : Option Fa} {x : In} (ht : p.types = q.types) (hm : ∀ r ∈ p.rules, r ∈ q.rules) (h : x ∈ t14 o) : x ∈ t14 o := by
  exact h


theorem good_15 {p : Pol} {o : Option Fa} {x : In} (h : x ∈ t15 p o) : Good p 15 x := by
  obtain ⟨s, hs1, hs2, h⟩ := mem_class.1 h
  obtain ⟨_, rfl⟩ := mem_em.1 h
  refine ⟨rfl, by simp [i15], by simp [i15], fun f hf => ?_, fun f hf => ?_⟩
  · simp only [i15, List.mem_cons, List.not_mem_nil, or_false] at hf
    subst hf
    exact val_b (v := 0) (w := s) (by omega) (by omega)
  · simp only [i15, List.mem_cons, List.not_mem_nil, or_false] at hf
    subst hf
    exact val_l (s := s) (by omega) (by omega)

theorem use_15 {p : Pol} {f : Fa} {x : In} (h : x ∈ t15 p none) (hf : f ∈ x.pre) : x ∈ t15 p (some f) := by
  obtain ⟨s, hs1, hs2, h⟩ := mem_class.1 h
  obtain ⟨_, rfl⟩ := mem_em.1 h
  exact mem_class.2 ⟨s, hs1, hs2, mem_em.2 ⟨wants_of hf, rfl⟩⟩

theorem more_15 {p q : Pol} {o : Option Fa} {x : In} (ht : p.types = q.types) (hm : ∀ r ∈ p.rules, r ∈ q.rules) (h : x ∈ t15 p o) : x ∈ t15 q o := by
  unfold t15 at h ⊢
  rw [← ht]; exact h


theorem good_all {p : Pol} {o : Option Fa} {x : In} (h : x ∈ allL p o) : ∃ k, 1 ≤ k ∧ k ≤ 15 ∧ Good p k x := by
  rw [mem_all] at h
  rcases h with h | h | h | h | h | h | h | h | h | h | h | h | h | h | h
  · exact ⟨1, by decide, by decide, good_1 (p := p) h⟩
  · exact ⟨2, by decide, by decide, good_2 (p := p) h⟩
  · exact ⟨3, by decide, by decide, good_3 (p := p) h⟩
  · exact ⟨4, by decide, by decide, good_4 (p := p) h⟩
  · exact ⟨5, by decide, by decide, good_5 (p := p) h⟩
  · exact ⟨6, by decide, by decide, good_6 (p := p) h⟩
  · exact ⟨7, by decide, by decide, good_7 (p := p) h⟩
  · exact ⟨8, by decide, by decide, good_8 (p := p) h⟩
  · exact ⟨9, by decide, by decide, good_9 (p := p) h⟩
  · exact ⟨10, by decide, by decide, good_10 (p := p) h⟩
  · exact ⟨11, by decide, by decide, good_11 (p := p) h⟩
  · exact ⟨12, by decide, by decide, good_12 (p := p) h⟩
  · exact ⟨13, by decide, by decide, good_13 (p := p) h⟩
  · exact ⟨14, by decide, by decide, good_14 (p := p) h⟩
  · exact ⟨15, by decide, by decide, good_15 (p := p) h⟩
theorem use_all {p : Pol} {f : Fa} {x : In} (h : x ∈ allL p none) (hf : f ∈ x.pre) : x ∈ allL p (some f) := by
  rw [mem_all] at h ⊢
  rcases h with h | h | h | h | h | h | h | h | h | h | h | h | h | h | h
  · exact .inl (use_1 (p := p) h hf)
  · exact .inr (.inl (use_2 (p := p) h hf))
  · exact .inr (.inr (.inl (use_3 (p := p) h hf)))
  · exact .inr (.inr (.inr (.inl (use_4 (p := p) h hf))))
  · exact .inr (.inr (.inr (.inr (.inl (use_5 (p := p) h hf)))))
  · exact .inr (.inr (.inr (.inr (.inr (.inl (use_6 (p := p) h hf))))))
  · exact .inr (.inr (.inr (.inr (.inr (.inr (.inl (use_7 (p := p) h hf)))))))
  · exact .inr (.inr (.inr (.inr (.inr (.inr (.inr (.inl (use_8 (p := p) h hf))))))))
  · exact .inr (.inr (.inr (.inr (.inr (.inr (.inr (.inr (.inl (use_9 (p := p) h hf)))))))))
  · exact .inr (.inr (.inr (.inr (.inr (.inr (.inr (.inr (.inr (.inl (use_10 (p := p) h hf))))))))))
  · exact .inr (.inr (.inr (.inr (.inr (.inr (.inr (.inr (.inr (.inr (.inl (use_11 (p := p) h hf)))))))))))
  · exact .inr (.inr (.inr (.inr (.inr (.inr (.inr (.inr (.inr (.inr (.inr (.inl (use_12 (p := p) h hf))))))))))))
  · exact .inr (.inr (.inr (.inr (.inr (.inr (.inr (.inr (.inr (.inr (.inr (.inr (.inl (use_13 (p := p) h hf)))))))))))))
  · exact .inr (.inr (.inr (.inr (.inr (.inr (.inr (.inr (.inr (.inr (.inr (.inr (.inr (.inl (use_14 (p := p) h hf))))))))))))))
  · exact .inr (.inr (.inr (.inr (.inr (.inr (.inr (.inr (.inr (.inr (.inr (.inr (.inr (.inr (use_15 h hf))))))))))))))
theorem more_all {p q : Pol} {o : Option Fa} {x : In} (ht : p.types = q.types) (hm : ∀ r ∈ p.rules, r ∈ q.rules) (h : x ∈ allL p o) : x ∈ allL q o := by
  rw [mem_all] at h ⊢
  rcases h with h | h | h | h | h | h | h | h | h | h | h | h | h | h | h
  · exact .inl (more_1 (p := p) (q := q) ht hm h)
  · exact .inr (.inl (more_2 (p := p) (q := q) ht hm h))
  · exact .inr (.inr (.inl (more_3 (p := p) (q := q) ht hm h)))
  · exact .inr (.inr (.inr (.inl (more_4 (p := p) (q := q) ht hm h))))
  · exact .inr (.inr (.inr (.inr (.inl (more_5 (p := p) (q := q) ht hm h)))))
  · exact .inr (.inr (.inr (.inr (.inr (.inl (more_6 (p := p) (q := q) ht hm h))))))
  · exact .inr (.inr (.inr (.inr (.inr (.inr (.inl (more_7 (p := p) (q := q) ht hm h)))))))
  · exact .inr (.inr (.inr (.inr (.inr (.inr (.inr (.inl (more_8 (p := p) (q := q) ht hm h))))))))
  · exact .inr (.inr (.inr (.inr (.inr (.inr (.inr (.inr (.inl (more_9 (p := p) (q := q) ht hm h)))))))))
  · exact .inr (.inr (.inr (.inr (.inr (.inr (.inr (.inr (.inr (.inl (more_10 (p := p) (q := q) ht hm h))))))))))
  · exact .inr (.inr (.inr (.inr (.inr (.inr (.inr (.inr (.inr (.inr (.inl (more_11 (p := p) (q := q) ht hm h)))))))))))
  · exact .inr (.inr (.inr (.inr (.inr (.inr (.inr (.inr (.inr (.inr (.inr (.inl (more_12 (p := p) (q := q) ht hm h))))))))))))
  · exact .inr (.inr (.inr (.inr (.inr (.inr (.inr (.inr (.inr (.inr (.inr (.inr (.inl (more_13 (p := p) (q := q) ht hm h)))))))))))))
  · exact .inr (.inr (.inr (.inr (.inr (.inr (.inr (.inr (.inr (.inr (.inr (.inr (.inr (.inl (more_14 (p := p) (q := q) ht hm h))))))))))))))
  · exact .inr (.inr (.inr (.inr (.inr (.inr (.inr (.inr (.inr (.inr (.inr (.inr (.inr (.inr (more_15 ht hm h))))))))))))))
theorem small2_all {p : Pol} {o : Option Fa} : small2 (allL p o) := fun x hx => by
  obtain ⟨k, _, _, h⟩ := good_all hx
  exact ⟨h.pre, h.con.2⟩

end Go.Proofs.YthgmobkmmapgoaaGreat
