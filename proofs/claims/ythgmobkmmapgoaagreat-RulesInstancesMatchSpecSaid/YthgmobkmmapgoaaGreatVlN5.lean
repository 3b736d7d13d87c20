/- Layer 17, plain laws: the specification's instances, what uses a fact, what follows. -/
import Derived.Test.YthgmobkmmapgoaaGreatVlRd
import Derived.Test.YthgmobkmmapgoaaGreatVlN4
set_option linter.unusedSimpArgs false
set_option linter.unusedVariables false
namespace Go.Proofs.YthgmobkmmapgoaaGreat
open Go Go.Vl
set_option maxRecDepth 10000
abbrev usP (f : Fa) (x : In) : Bool := decide (f ∈ x.pre)
theorem em_use {f : Fa} {x : In} : (emL none x).filter (usP f) = emL (some f) x := by
 unfold emL wants
 by_cases h : f ∈ x.pre
 ·simp [h, usP]
 ·simp [h, usP]
theorem em_not {f : Fa} {x : In} (h : f ∉ x.pre) : emL (some f) x = [] := by
 rw [← em_use]; simp [emL, wants, usP, h]
theorem class_use {f : Fa} {n v : Nat} {D D' : Nat → List In} (h : ∀ t, (D t).filter (usP f) = D' t) : (classL n D v).filter (usP f) = classL n D' v := by
 unfold classL
 rw [List.filter_flatMap]
 congr 1
 funext t; exact h t
theorem class_nil {n v : Nat} {D : Nat → List In} (h : ∀ t, D t = []) : classL n D v = [] := by
 unfold classL
 rw [List.flatMap_eq_nil_iff]
 exact fun t _ => h t
theorem flag_use {p : Pol} {f : Fa} {flag : Int} {D D' : Nat → List In} (h : ∀ t, (D t).filter (usP f) = D' t) (h0 : ∀ t : Nat, f.kind = 1 → f.b ≠ t → D' t = []) : (flagL p none flag D 0).filter (usP f) = flagL p (some f) flag D' 0 := by
 unfold flagL
 rw [List.filter_flatMap]
 congr 1
 funext t
 unfold flagT
 rw [about_none, Bool.and_true]
 by_cases hh : hasF p t flag = true
 ·rw [if_pos hh, h]
  cases ha : aboutO (some f) [(t : Int)]
  ·rw [if_neg (by simp)]
   simp only [aboutO, Bool.or_eq_false_iff, Bool.not_eq_false', decide_eq_true_eq, List.any_cons, List.any_nil, Bool.or_false, decide_eq_false_iff_not] at ha
   exact h0 t ha.1 ha.2
  ·rw [if_pos (by simp [hh])]
 ·rw [if_neg hh, if_neg (by simp [hh])]; rfl
theorem rule_use {p : Pol} {f : Fa} {kind : Int} {D D' : Nat → Nat → List In} (h : ∀ a b, (D a b).filter (usP f) = D' a b) (h0 : ∀ a b : Nat, f.kind = 1 → f.b ≠ a → f.b ≠ b → D' a b = []) : (ruleL p none kind D 0).filter (usP f) = ruleL p (some f) kind D' 0 := by
 unfold ruleL
 rw [List.filter_flatMap]
 congr 1
 funext r
 unfold ruleT
 rw [about_none, Bool.and_true]
 by_cases hh : ruIs p kind r = true
 ·rw [if_pos hh, h]
  have hr : 0 ≤ r.a ∧ 0 ≤ r.b := by simp only [ruIs, Bool.and_eq_true, decide_eq_true_eq] at hh; omega
  cases ha : aboutO (some f) [r.a, r.b]
  ·rw [if_neg (by simp)]
   simp only [aboutO, Bool.or_eq_false_iff, Bool.not_eq_false', decide_eq_true_eq, List.any_cons, List.any_nil, Bool.or_false, decide_eq_false_iff_not] at ha
   exact h0 _ _ ha.1 (by omega) (by omega)
  ·rw [if_pos (by simp [hh])]
 ·rw [if_neg hh, if_neg (by simp [hh])]; rfl
theorem use1 {p : Pol} {f : Fa} : (t1 p none).filter (usP f) = t1 p (some f) :=
 flag_use (fun _ => em_use) fun t hk hb => em_not (fun h => by cases h)
theorem use2 {p : Pol} {f : Fa} : (t2 p none).filter (usP f) = t2 p (some f) :=
 flag_use (fun _ => em_use) fun t hk hb => em_not (fun h => by cases h)
theorem use6 {p : Pol} {f : Fa} : (t6 p none).filter (usP f) = t6 p (some f) :=
 flag_use (fun _ => class_use fun _ => em_use) fun t hk hb => class_nil fun s0 => em_not fun h => by
  simp only [i6, List.mem_cons, List.not_mem_nil, or_false] at h
  subst h; exact hb rfl
theorem use7 {p : Pol} {f : Fa} : (t7 p none).filter (usP f) = t7 p (some f) :=
 flag_use (fun _ => class_use fun _ => em_use) fun t hk hb => class_nil fun s0 => em_not fun h => by
  simp only [i7, List.mem_cons, List.not_mem_nil, or_false] at h
  subst h; exact hb rfl
theorem use9 {p : Pol} {f : Fa} : (t9 p none).filter (usP f) = t9 p (some f) :=
 flag_use (fun _ => class_use fun _ => class_use fun _ => em_use) fun t hk hb => class_nil fun s0 => class_nil fun s1 => em_not fun h => by
  simp only [i9, List.mem_cons, List.not_mem_nil, or_false] at h
  rcases h with rfl | rfl
  ·exact hb rfl
  ·simp [blobF] at hk
theorem use13 {p : Pol} {f : Fa} : (t13 p none).filter (usP f) = t13 p (some f) :=
 flag_use (fun _ => class_use fun _ => em_use) fun t hk hb => class_nil fun s0 => em_not fun h => by
  simp only [i13, List.mem_cons, List.not_mem_nil, or_false] at h
  rcases h with rfl | rfl
  ·simp [leakF] at hk
  ·exact hb rfl
theorem use14 {f : Fa} : (t14 none).filter (usP f) = t14 (some f) := em_use
theorem use15 {p : Pol} {f : Fa} : (t15 p none).filter (usP f) = t15 p (some f) := class_use fun _ => em_use
theorem use4 {p : Pol} {f : Fa} : (t4 p none).filter (usP f) = t4 p (some f) :=
 rule_use (fun _ _ => em_use) fun a b hk ha hb => em_not fun h => by
  simp only [i4, List.mem_cons, List.not_mem_nil, or_false] at h
  subst h; exact ha rfl
theorem use11 {p : Pol} {f : Fa} : (t11 p none).filter (usP f) = t11 p (some f) :=
 rule_use (fun _ _ => em_use) fun a b hk ha hb => em_not fun h => by
  simp only [i11, List.mem_cons, List.not_mem_nil, or_false] at h
  subst h; exact ha rfl
theorem use3 {p : Pol} {f : Fa} : (t3 p none).filter (usP f) = t3 p (some f) :=
 rule_use (fun _ _ => class_use fun _ => em_use) fun a b hk ha hb => class_nil fun s0 => em_not fun h => by
  simp only [i3, List.mem_cons, List.not_mem_nil, or_false] at h
  subst h; exact ha rfl
theorem use5 {p : Pol} {f : Fa} : (t5 p none).filter (usP f) = t5 p (some f) :=
 rule_use (fun _ _ => class_use fun _ => em_use) fun a b hk ha hb => class_nil fun s0 => em_not fun h => by
  simp only [i5, List.mem_cons, List.not_mem_nil, or_false] at h
  rcases h with rfl | rfl
  ·exact ha rfl
  ·simp [leakF] at hk
theorem use8 {p : Pol} {f : Fa} : (t8 p none).filter (usP f) = t8 p (some f) :=
 rule_use (fun _ _ => class_use fun _ => class_use fun _ => em_use) fun a b hk ha hb => class_nil fun s0 => class_nil fun s1 => em_not fun h => by
  simp only [i8, List.mem_cons, List.not_mem_nil, or_false] at h
  rcases h with rfl | rfl
  ·exact ha rfl
  ·exact hb rfl
theorem r10_use {f : Fa} {a b v w : Nat} : (r10 none a b v w).filter (usP f) = r10 (some f) a b v w := by
 unfold r10; split
 ·rfl
 ·exact em_use
theorem r10_not {f : Fa} {a b v w : Nat} (h : f ∉ (i10 a b v w).pre) : r10 (some f) a b v w = [] := by
 unfold r10; split
 ·rfl
 ·exact em_not h
theorem use10 {p : Pol} {f : Fa} : (t10 p none).filter (usP f) = t10 p (some f) :=
 rule_use (D := fun a b => m10 p none a b) (D' := fun a b => m10 p (some f) a b) (fun a b => class_use fun v => class_use fun w => r10_use) fun a b hk ha hb => class_nil fun s0 => class_nil fun s1 => r10_not fun h => by
  simp only [i10, List.mem_cons, List.not_mem_nil, or_false] at h
  rcases h with rfl | rfl
  ·exact ha rfl
  ·simp [blobF] at hk
theorem use12 {p : Pol} {f : Fa} : (t12 p none).filter (usP f) = t12 p (some f) :=
 rule_use (fun _ _ => class_use fun _ => em_use) fun a b hk ha hb => class_nil fun s0 => em_not fun h => by
  simp only [i12, List.mem_cons, List.not_mem_nil, or_false] at h
  rcases h with rfl | rfl
  ·exact ha rfl
  ·exact hb rfl
theorem uses_twin {p : Pol} {f : Fa} : usesL f (allL p none) = allL p (some f) := by
 unfold usesL
 show (allL p none).filter (usP f) = _
 rw [allL_eq, allL_eq]
 simp only [List.filter_append, List.filter_nil, use1, use2, use3, use4, use5, use6, use7, use8, use9, use10, use11, use12, use13, use14, use15]
