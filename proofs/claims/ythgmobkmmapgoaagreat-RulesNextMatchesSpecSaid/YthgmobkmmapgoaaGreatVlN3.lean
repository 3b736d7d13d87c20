/- Layer 17, plain laws: what instances there are. -/
import Derived.Test.YthgmobkmmapgoaaGreatVlL2
import Derived.Test.YthgmobkmmapgoaaGreatVlG1
set_option linter.unusedSimpArgs false
set_option linter.unusedVariables false
namespace Go.Proofs.YthgmobkmmapgoaaGreat
open Go Go.Vl
theorem mem_em {o : Option Fa} {x y : In} : x ∈ emL o y ↔ wants o y = true ∧ x = y := by
 unfold emL; split
 ·rename_i h; simp [h]
 ·rename_i h; simp [h]
theorem mem_flag {p : Pol} {o : Option Fa} {flag : Int} {D : Nat → List In} {x : In} : x ∈ flagL p o flag D 0 ↔ ∃ t : Nat, t < p.types.length ∧ hasF p t flag = true ∧ aboutO o [(t : Int)] = true ∧ x ∈ D t := by
 unfold flagL
 rw [List.mem_flatMap]
 constructor
 ·rintro ⟨t, ht, hx⟩
  unfold flagT at hx
  split at hx
  ·rename_i h
   rw [Bool.and_eq_true] at h
   rw [List.mem_range'_1] at ht
   exact ⟨t, by omega, h.1, h.2, hx⟩
  ·cases hx
 ·rintro ⟨t, ht, h1, h2, hx⟩
  refine ⟨t, by rw [List.mem_range'_1]; omega, ?_⟩
  unfold flagT
  rw [h1, h2]; exact hx
theorem mem_class {n v : Nat} {D : Nat → List In} {x : In} : x ∈ classL n D v ↔ ∃ t, v ≤ t ∧ t ≤ n ∧ x ∈ D t := by
 unfold classL
 rw [List.mem_flatMap]
 constructor
 ·rintro ⟨t, ht, hx⟩
  rw [List.mem_range'_1] at ht
  exact ⟨t, by omega, by omega, hx⟩
 ·rintro ⟨t, h1, h2, hx⟩
  exact ⟨t, by rw [List.mem_range'_1]; omega, hx⟩
theorem mem_pair {n first : Nat} {D : Nat → Nat → List In} {x : In} : x ∈ pairL n first D ↔ ∃ v w, v ≤ n ∧ first ≤ w ∧ w ≤ n ∧ x ∈ D v w := by
 unfold pairL
 rw [mem_class]
 constructor
 ·rintro ⟨v, _, h2, h⟩
  obtain ⟨w, h3, h4, h5⟩ := mem_class.1 h
  exact ⟨v, w, h2, h3, h4, h5⟩
 ·rintro ⟨v, w, h1, h2, h3, h4⟩
  exact ⟨v, Nat.zero_le _, h1, mem_class.2 ⟨w, h2, h3, h4⟩⟩
theorem mem_rule {p : Pol} {o : Option Fa} {kind : Int} {D : Nat → Nat → List In} {x : In} : x ∈ ruleL p o kind D 0 ↔ ∃ a b : Nat, (⟨kind, a, b⟩ : Ru) ∈ p.rules ∧ a < p.types.length ∧ b < p.types.length ∧ aboutO o [(a : Int), (b : Int)] = true ∧ x ∈ D a b := by
 unfold ruleL
 rw [List.drop_zero, List.mem_flatMap]
 constructor
 ·rintro ⟨r, hr, hx⟩
  unfold ruleT at hx
  split at hx
  ·rename_i h
   simp only [ruIs, Bool.and_eq_true, decide_eq_true_eq] at h
   obtain ⟨⟨h1, h2, h3⟩, h4⟩ := h
   have ha : ((r.a.toNat : Nat) : Int) = r.a := Int.toNat_of_nonneg (by omega)
   have hb : ((r.b.toNat : Nat) : Int) = r.b := Int.toNat_of_nonneg (by omega)
   refine ⟨r.a.toNat, r.b.toNat, ?_, by omega, by omega, by rw [ha, hb]; exact h4, hx⟩
   rw [ha, hb, ← h1]; exact hr
  ·cases hx
 ·rintro ⟨a, b, hr, ha, hb, h4, hx⟩
  refine ⟨_, hr, ?_⟩
  unfold ruleT
  have : ruIs p kind ⟨kind, a, b⟩ = true := by
   simp only [ruIs, Bool.and_eq_true, decide_eq_true_eq]
   exact ⟨trivial, by omega, by omega⟩
  rw [this, h4]
  exact hx
theorem mem_r10 {o : Option Fa} {a b v w : Nat} {x : In} : x ∈ r10 o a b v w ↔ ¬ (0 < w ∧ v = 0) ∧ wants o (i10 a b v w) = true ∧ x = i10 a b v w := by
 unfold r10; split
 ·rename_i h; simp [h]
 ·rename_i h; simp only [h, not_false_eq_true, true_and]; exact mem_em
theorem mem_all {p : Pol} {o : Option Fa} {x : In} : x ∈ allL p o ↔ x ∈ t1 p o ∨ x ∈ t2 p o ∨ x ∈ t3 p o ∨ x ∈ t4 p o ∨ x ∈ t5 p o ∨ x ∈ t6 p o ∨ x ∈ t7 p o ∨ x ∈ t8 p o ∨ x ∈ t9 p o ∨ x ∈ t10 p o ∨ x ∈ t11 p o ∨ x ∈ t12 p o ∨ x ∈ t13 p o ∨ x ∈ t14 o ∨ x ∈ t15 p o := by
 unfold allL tops
 simp only [List.flatten_cons, List.flatten_nil, List.mem_append, List.not_mem_nil, or_false]
theorem val_h {p : Pol} {v t : Nat} (hv : v ≤ p.types.length) (ht : t < p.types.length) : validF p (handleF v t) = true := by
 simp [validF, handleF]; omega
theorem val_b {p : Pol} {v w : Nat} (hv : v ≤ p.types.length) (hw : w ≤ p.types.length) : validF p (blobF v w) = true := by
 simp [validF, blobF]; omega
theorem val_l {p : Pol} {s : Nat} (h1 : 1 ≤ s) (h2 : s ≤ p.types.length) : validF p (leakF s) = true := by
 simp [validF, leakF]; exact ⟨decide_eq_true (show (1 : Int) ≤ (s : Int) by omega), h2⟩
theorem val_r {p : Pol} {s : Nat} (h1 : 1 ≤ s) (h2 : s ≤ p.types.length) : validF p (rawF s) = true := by
 simp [validF, rawF]; exact ⟨decide_eq_true (show (1 : Int) ≤ (s : Int) by omega), h2⟩
structure Good (p : Pol) (k : Int) (x : In) : Prop where
 rule : x.rule = k
 pre : x.pre.length ≤ 2
 con : 1 ≤ x.con.length ∧ x.con.length ≤ 2
 vp : ∀ f ∈ x.pre, validF p f = true
 vc : ∀ f ∈ x.con, validF p f = true
end Go.Proofs.YthgmobkmmapgoaaGreat
/- Layer 17, plain laws: what instances there are, rule by rule. Printed by genn3.py. -/
namespace Go.Proofs.YthgmobkmmapgoaaGreat
open Go Go.Vl
set_option maxRecDepth 10000
theorem good_1 {p : Pol} {o : Option Fa} {x : In} (h : x ∈ t1 p o) : Good p 1 x := by
 obtain ⟨t, ht, _, _, h⟩ := mem_flag.1 h
 obtain ⟨_, rfl⟩ := mem_em.1 h
 refine ⟨rfl, by simp [i1], by simp [i1], fun f hf => ?_, fun f hf => ?_⟩
 ·cases hf
 ·simp only [i1, List.mem_cons, List.not_mem_nil, or_false] at hf
  subst hf
  exact val_h (v := 0) (t := t) (by omega) (by omega)
theorem good_2 {p : Pol} {o : Option Fa} {x : In} (h : x ∈ t2 p o) : Good p 2 x := by
 obtain ⟨t, ht, _, _, h⟩ := mem_flag.1 h
 obtain ⟨_, rfl⟩ := mem_em.1 h
 refine ⟨rfl, by simp [i2], by simp [i2], fun f hf => ?_, fun f hf => ?_⟩
 ·cases hf
 ·simp only [i2, List.mem_cons, List.not_mem_nil, or_false] at hf
  subst hf
  exact val_h (v := (t+1)) (t := t) (by omega) (by omega)
theorem good_3 {p : Pol} {o : Option Fa} {x : In} (h : x ∈ t3 p o) : Good p 3 x := by
 obtain ⟨a, b, _, ha, hb, _, h⟩ := mem_rule.1 h
 obtain ⟨s, hs1, hs2, h⟩ := mem_class.1 h
 obtain ⟨_, rfl⟩ := mem_em.1 h
 refine ⟨rfl, by simp [i3], by simp [i3], fun f hf => ?_, fun f hf => ?_⟩
 ·simp only [i3, List.mem_cons, List.not_mem_nil, or_false] at hf
  subst hf
  exact val_h (v := s) (t := a) (by omega) (by omega)
 ·simp only [i3, List.mem_cons, List.not_mem_nil, or_false] at hf
  subst hf
  exact val_h (v := (b+1)) (t := b) (by omega) (by omega)
theorem good_4 {p : Pol} {o : Option Fa} {x : In} (h : x ∈ t4 p o) : Good p 4 x := by
 obtain ⟨a, b, _, ha, hb, _, h⟩ := mem_rule.1 h
 obtain ⟨_, rfl⟩ := mem_em.1 h
 refine ⟨rfl, by simp [i4], by simp [i4], fun f hf => ?_, fun f hf => ?_⟩
 ·simp only [i4, List.mem_cons, List.not_mem_nil, or_false] at hf
  subst hf
  exact val_h (v := 0) (t := a) (by omega) (by omega)
 ·simp only [i4, List.mem_cons, List.not_mem_nil, or_false] at hf
  subst hf
  exact val_h (v := 0) (t := b) (by omega) (by omega)
theorem good_5 {p : Pol} {o : Option Fa} {x : In} (h : x ∈ t5 p o) : Good p 5 x := by
 obtain ⟨a, b, _, ha, hb, _, h⟩ := mem_rule.1 h
 obtain ⟨s, hs1, hs2, h⟩ := mem_class.1 h
 obtain ⟨_, rfl⟩ := mem_em.1 h
 refine ⟨rfl, by simp [i5], by simp [i5], fun f hf => ?_, fun f hf => ?_⟩
 ·simp only [i5, List.mem_cons, List.not_mem_nil, or_false] at hf
  rcases hf with rfl | rfl
  ·exact val_h (v := s) (t := a) (by omega) (by omega)
  ·exact val_l (s := s) (by omega) (by omega)
 ·simp only [i5, List.mem_cons, List.not_mem_nil, or_false] at hf
  subst hf
  exact val_l (s := (b+1)) (by omega) (by omega)
theorem good_6 {p : Pol} {o : Option Fa} {x : In} (h : x ∈ t6 p o) : Good p 6 x := by
 obtain ⟨t, ht, _, _, h⟩ := mem_flag.1 h
 obtain ⟨s, hs1, hs2, h⟩ := mem_class.1 h
 obtain ⟨_, rfl⟩ := mem_em.1 h
 refine ⟨rfl, by simp [i6], by simp [i6], fun f hf => ?_, fun f hf => ?_⟩
 ·simp only [i6, List.mem_cons, List.not_mem_nil, or_false] at hf
  subst hf
  exact val_h (v := s) (t := t) (by omega) (by omega)
 ·simp only [i6, List.mem_cons, List.not_mem_nil, or_false] at hf
  subst hf
  exact val_l (s := s) (by omega) (by omega)
theorem good_7 {p : Pol} {o : Option Fa} {x : In} (h : x ∈ t7 p o) : Good p 7 x := by
 obtain ⟨t, ht, _, _, h⟩ := mem_flag.1 h
 obtain ⟨s, hs1, hs2, h⟩ := mem_class.1 h
 obtain ⟨_, rfl⟩ := mem_em.1 h
 refine ⟨rfl, by simp [i7], by simp [i7], fun f hf => ?_, fun f hf => ?_⟩
 ·simp only [i7, List.mem_cons, List.not_mem_nil, or_false] at hf
  subst hf
  exact val_h (v := s) (t := t) (by omega) (by omega)
 ·simp only [i7, List.mem_cons, List.not_mem_nil, or_false] at hf
  subst hf
  exact val_b (v := s) (w := 0) (by omega) (by omega)
theorem good_8 {p : Pol} {o : Option Fa} {x : In} (h : x ∈ t8 p o) : Good p 8 x := by
 obtain ⟨a, b, _, ha, hb, _, h⟩ := mem_rule.1 h
 obtain ⟨v, w, hv, hw1, hw2, h⟩ := mem_pair.1 h
 obtain ⟨_, rfl⟩ := mem_em.1 h
 refine ⟨rfl, by simp [i8], by simp [i8], fun f hf => ?_, fun f hf => ?_⟩
 ·simp only [i8, List.mem_cons, List.not_mem_nil, or_false] at hf
  rcases hf with rfl | rfl
  ·exact val_h (v := v) (t := a) (by omega) (by omega)
  ·exact val_h (v := w) (t := b) (by omega) (by omega)
 ·simp only [i8, List.mem_cons, List.not_mem_nil, or_false] at hf
  subst hf
  exact val_b (v := v) (w := w) (by omega) (by omega)
theorem good_9 {p : Pol} {o : Option Fa} {x : In} (h : x ∈ t9 p o) : Good p 9 x := by
 obtain ⟨t, ht, _, _, h⟩ := mem_flag.1 h
 obtain ⟨v, w, hv, hw1, hw2, h⟩ := mem_pair.1 h
 obtain ⟨_, rfl⟩ := mem_em.1 h
 refine ⟨rfl, by simp [i9], by simp [i9], fun f hf => ?_, fun f hf => ?_⟩
 ·simp only [i9, List.mem_cons, List.not_mem_nil, or_false] at hf
  rcases hf with rfl | rfl
  ·exact val_h (v := v) (t := t) (by omega) (by omega)
  ·exact val_b (v := v) (w := w) (by omega) (by omega)
 ·simp only [i9, List.mem_cons, List.not_mem_nil, or_false] at hf
  subst hf
  exact val_l (s := w) (by omega) (by omega)
theorem good_10 {p : Pol} {o : Option Fa} {x : In} (h : x ∈ t10 p o) : Good p 10 x := by
 obtain ⟨a, b, _, ha, hb, _, h⟩ := mem_rule.1 h
 obtain ⟨v, w, hv, hw1, hw2, h⟩ := mem_pair.1 h
 obtain ⟨hn, _, rfl⟩ := mem_r10.1 h
 unfold i10
 split
 ·rename_i hw
  refine ⟨rfl, by simp, by simp, fun f hf => ?_, fun f hf => ?_⟩
  ·simp only [List.mem_cons, List.not_mem_nil, or_false] at hf
   rcases hf with rfl | rfl
   ·exact val_h hv (by omega)
   ·exact val_b hv hw2
  ·simp only [List.mem_cons, List.not_mem_nil, or_false] at hf
   rcases hf with rfl | rfl
   ·exact val_h hw2 (by omega)
   ·exact val_r hw hw2
 ·refine ⟨rfl, by simp, by simp, fun f hf => ?_, fun f hf => ?_⟩
  ·simp only [List.mem_cons, List.not_mem_nil, or_false] at hf
   rcases hf with rfl | rfl
   ·exact val_h hv (by omega)
   ·exact val_b hv hw2
  ·simp only [List.mem_cons, List.not_mem_nil, or_false] at hf
   subst hf
   exact val_h hw2 (by omega)
theorem good_11 {p : Pol} {o : Option Fa} {x : In} (h : x ∈ t11 p o) : Good p 11 x := by
 obtain ⟨a, b, _, ha, hb, _, h⟩ := mem_rule.1 h
 obtain ⟨_, rfl⟩ := mem_em.1 h
 refine ⟨rfl, by simp [i11], by simp [i11], fun f hf => ?_, fun f hf => ?_⟩
 ·simp only [i11, List.mem_cons, List.not_mem_nil, or_false] at hf
  subst hf
  exact val_h (v := 0) (t := a) (by omega) (by omega)
 ·simp only [i11, List.mem_cons, List.not_mem_nil, or_false] at hf
  subst hf
  exact val_h (v := 0) (t := b) (by omega) (by omega)
theorem good_12 {p : Pol} {o : Option Fa} {x : In} (h : x ∈ t12 p o) : Good p 12 x := by
 obtain ⟨a, b, _, ha, hb, _, h⟩ := mem_rule.1 h
 obtain ⟨s, hs1, hs2, h⟩ := mem_class.1 h
 obtain ⟨_, rfl⟩ := mem_em.1 h
 refine ⟨rfl, by simp [i12], by simp [i12], fun f hf => ?_, fun f hf => ?_⟩
 ·simp only [i12, List.mem_cons, List.not_mem_nil, or_false] at hf
  rcases hf with rfl | rfl
  ·exact val_h (v := 0) (t := a) (by omega) (by omega)
  ·exact val_h (v := s) (t := b) (by omega) (by omega)
 ·simp only [i12, List.mem_cons, List.not_mem_nil, or_false] at hf
  subst hf
  exact val_l (s := s) (by omega) (by omega)
theorem good_13 {p : Pol} {o : Option Fa} {x : In} (h : x ∈ t13 p o) : Good p 13 x := by
 obtain ⟨t, ht, _, _, h⟩ := mem_flag.1 h
 obtain ⟨s, hs1, hs2, h⟩ := mem_class.1 h
 obtain ⟨_, rfl⟩ := mem_em.1 h
 refine ⟨rfl, by simp [i13], by simp [i13], fun f hf => ?_, fun f hf => ?_⟩
 ·simp only [i13, List.mem_cons, List.not_mem_nil, or_false] at hf
  rcases hf with rfl | rfl
  ·exact val_l (s := s) (by omega) (by omega)
  ·exact val_h (v := s) (t := t) (by omega) (by omega)
 ·simp only [i13, List.mem_cons, List.not_mem_nil, or_false] at hf
  subst hf
  exact val_h (v := 0) (t := t) (by omega) (by omega)
theorem good_14 {p : Pol} {o : Option Fa} {x : In} (h : x ∈ t14 o) : Good p 14 x := by
 obtain ⟨_, rfl⟩ := mem_em.1 h
 refine ⟨rfl, by simp [i14], by simp [i14], fun f hf => ?_, fun f hf => ?_⟩
 ·cases hf
 ·simp only [i14, List.mem_cons, List.not_mem_nil, or_false] at hf
  subst hf
  exact val_b (v := 0) (w := 0) (by omega) (by omega)
theorem good_15 {p : Pol} {o : Option Fa} {x : In} (h : x ∈ t15 p o) : Good p 15 x := by
 obtain ⟨s, hs1, hs2, h⟩ := mem_class.1 h
 obtain ⟨_, rfl⟩ := mem_em.1 h
 refine ⟨rfl, by simp [i15], by simp [i15], fun f hf => ?_, fun f hf => ?_⟩
 ·simp only [i15, List.mem_cons, List.not_mem_nil, or_false] at hf
  subst hf
  exact val_b (v := 0) (w := s) (by omega) (by omega)
 ·simp only [i15, List.mem_cons, List.not_mem_nil, or_false] at hf
  subst hf
  exact val_l (s := s) (by omega) (by omega)
theorem good_all {p : Pol} {o : Option Fa} {x : In} (h : x ∈ allL p o) : ∃ k, 1 ≤ k ∧ k ≤ 15 ∧ Good p k x := by
 rw [mem_all] at h
 rcases h with h | h | h | h | h | h | h | h | h | h | h | h | h | h | h
 ·exact ⟨1, by decide, by decide, good_1 (p := p) h⟩
 ·exact ⟨2, by decide, by decide, good_2 (p := p) h⟩
 ·exact ⟨3, by decide, by decide, good_3 (p := p) h⟩
 ·exact ⟨4, by decide, by decide, good_4 (p := p) h⟩
 ·exact ⟨5, by decide, by decide, good_5 (p := p) h⟩
 ·exact ⟨6, by decide, by decide, good_6 (p := p) h⟩
 ·exact ⟨7, by decide, by decide, good_7 (p := p) h⟩
 ·exact ⟨8, by decide, by decide, good_8 (p := p) h⟩
 ·exact ⟨9, by decide, by decide, good_9 (p := p) h⟩
 ·exact ⟨10, by decide, by decide, good_10 (p := p) h⟩
 ·exact ⟨11, by decide, by decide, good_11 (p := p) h⟩
 ·exact ⟨12, by decide, by decide, good_12 (p := p) h⟩
 ·exact ⟨13, by decide, by decide, good_13 (p := p) h⟩
 ·exact ⟨14, by decide, by decide, good_14 (p := p) h⟩
 ·exact ⟨15, by decide, by decide, good_15 (p := p) h⟩
theorem small2_all {p : Pol} {o : Option Fa} : small2 (allL p o) := fun x hx => by
 obtain ⟨k, _, _, h⟩ := good_all hx
 exact ⟨h.pre, h.con.2⟩
