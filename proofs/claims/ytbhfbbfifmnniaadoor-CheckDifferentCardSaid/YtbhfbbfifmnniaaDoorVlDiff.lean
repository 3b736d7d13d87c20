/- The law CheckDifferent of layer 13, as a contract. -/
import Derived.Test.YtbhfbbfifmnniaaDoorVlPerm
import Derived.Test.YtbhfbbfifmnniaaDoorVlMatch
import Derived.Test.YtbhfbbfifmnniaaDoorVlInside
set_option linter.unusedSimpArgs false
set_option linter.unusedVariables false
namespace Go.Proofs.YtbhfbbfifmnniaaDoor
open Go Go.Vl

theorem nodup_of_map {α β : Type} {f : α → β} {l : List α} (h : (l.map f).Nodup) : l.Nodup := by
  rw [List.nodup_iff_pairwise_ne] at *
  exact (List.pairwise_map.1 h).imp fun h e => h (by rw [e])
theorem inside_mem {a b : Pol} : insideB a b = true ↔ (∀ r ∈ a.rules, r ∈ b.rules) ∧ ∀ q ∈ a.quorums, q ∈ b.quorums := by
  simp [insideB]
/-- The plain law. -/
theorem diff_law {a b : Pol} (hn : b.name = a.name) (ht : b.types = a.types) (ha : validB a = true) (hb : validB b = true) : (decide (normP a = normP b) == (insideB a b && insideB b a)) = true := by
  have e : b = ⟨a.name, a.types, b.rules, b.quorums⟩ := by cases b; simp_all
  have key : normP a = normP b ↔ (insideB a b = true ∧ insideB b a = true) := by
    rw [inside_mem, inside_mem]
    constructor
    · intro h
      have h1 : ssort cmRu a.rules = ssort cmRu b.rules := congrArg Pol.rules h
      have h2 : ssort cmQu a.quorums = ssort cmQu b.quorums := congrArg Pol.quorums h
      have m1 : ∀ r, r ∈ a.rules ↔ r ∈ b.rules := fun r => by rw [← ssort_mem cmRu_ok, h1, ssort_mem cmRu_ok]
      have m2 : ∀ r, r ∈ a.quorums ↔ r ∈ b.quorums := fun r => by rw [← ssort_mem cmQu_ok, h2, ssort_mem cmQu_ok]
      exact ⟨⟨fun r h => (m1 r).1 h, fun r h => (m2 r).1 h⟩, ⟨fun r h => (m1 r).2 h, fun r h => (m2 r).2 h⟩⟩
    · rintro ⟨⟨h1, h2⟩, h3, h4⟩
      have va := ha
      have vb := hb
      rw [valid_parts] at va vb
      have n1 := (rules_zero.1 va.2.2.1).2.2
      have n2 := (rules_zero.1 vb.2.2.1).2.2
      have n3 := nodup_of_map (quorums_zero.1 va.2.2.2).2
      have n4 := nodup_of_map (quorums_zero.1 vb.2.2.2).2
      have p1 : b.rules.Perm a.rules := (List.perm_ext_iff_of_nodup n2 n1).2 fun r => ⟨h3 r, h1 r⟩
      have p2 : b.quorums.Perm a.quorums := (List.perm_ext_iff_of_nodup n4 n3).2 fun r => ⟨h4 r, h2 r⟩
      rw [e]; exact (norm_perm p1 p2 ha).symm
  by_cases h : normP a = normP b
  · obtain ⟨h1, h2⟩ := key.1 h
    rw [decide_eq_true h, h1, h2]; rfl
  · have : ¬ (insideB a b = true ∧ insideB b a = true) := fun h' => h (key.2 h')
    rw [decide_eq_false h]
    cases h1 : insideB a b <;> cases h2 : insideB b a <;> first | rfl | exact absurd ⟨h1, h2⟩ this

theorem setV_pn {p : Pol} {x : V} : setV (List.map V.c (poC p)) 0 [x] = [x, .c (.sl (p.types.map tyC)), .c (.sl (p.rules.map ruC)), .c (.sl (p.quorums.map quC))] := rfl
theorem setV_1 {v w x : V} {r : List V} : setV (v :: w :: r) 1 [x] = v :: x :: r := rfl
theorem poC_eta {n : ByteArray} {p q : Pol} : [C.lit (.string n), .sl (p.types.map tyC), .sl (q.rules.map ruC), .sl (q.quorums.map quC)] = poC ⟨n, p.types, q.rules, q.quorums⟩ := rfl

set_option maxRecDepth 100000 in
set_option maxHeartbeats 8000000 in
theorem lawDiff (a b : Pol) (ha : PolIn a) (hb : PolIn b) : FnOK Tryd.prog gl 8 [.agg (poC a), .agg (poC b)] (bo true) := by
  refine FnOK_by (rs := [.tmp 4]) false [200006, 300600, 200008, 300800, 200009, 300901, 200010, 301001] mixed Tryd.func8 rfl rfl rfl rfl (by kernel_rfl) (by simp) rfl rfl ?_
  have hc : PolIn ⟨a.name, a.types, b.rules, b.quorums⟩ := { name := ha.name, lt := ha.lt, lr := hb.lr, lq := hb.lq, types := ha.types, rules := hb.rules, quorums := hb.quorums }
  cases hfa : fewB a with
  | false =>
    repeat' first
      | (simp -implicitDefEqProofs only [pkA, ptA, ↓reduceIte, Nat.reduceEqDiff, Nat.reduceAdd, Nat.reduceBEq, Nat.reduceMul, Nat.reduceLT, Nat.reduceLeDiff, pkP, List.length_map, decide_true, setV_pn, setV_1, hfa])
      | rw [poC_eta]
      | refine call_fn rfl (few_ok _) (fun _ => rfl) ?_
      | refine call_fn rfl sanity_ok (fun _ => rfl) ?_
  | true =>
  cases hfb : fewB ⟨a.name, a.types, b.rules, b.quorums⟩ with
  | false =>
    repeat' first
      | (simp -implicitDefEqProofs only [pkA, ptA, ↓reduceIte, Nat.reduceEqDiff, Nat.reduceAdd, Nat.reduceBEq, Nat.reduceMul, Nat.reduceLT, Nat.reduceLeDiff, pkP, List.length_map, decide_true, setV_pn, setV_1, hfa, hfb])
      | rw [poC_eta]
      | refine call_fn rfl (few_ok _) (fun _ => rfl) ?_
      | refine call_fn rfl sanity_ok (fun _ => rfl) ?_
  | true =>
  cases hva : validB a with
  | false =>
    repeat' first
      | (simp -implicitDefEqProofs only [pkA, ptA, ↓reduceIte, Nat.reduceEqDiff, Nat.reduceAdd, Nat.reduceBEq, Nat.reduceMul, Nat.reduceLT, Nat.reduceLeDiff, pkP, List.length_map, decide_true, setV_pn, setV_1, hfa, hfb, hva])
      | rw [poC_eta]
      | refine call_fn rfl (few_ok _) (fun _ => rfl) ?_
      | refine call_fn rfl (Valid_ok rfl a ha (few_it hfa)) (fun _ => rfl) ?_
      | refine call_fn rfl sanity_ok (fun _ => rfl) ?_
  | true =>
  cases hvb : validB ⟨a.name, a.types, b.rules, b.quorums⟩ with
  | false =>
    repeat' first
      | (simp -implicitDefEqProofs only [pkA, ptA, ↓reduceIte, Nat.reduceEqDiff, Nat.reduceAdd, Nat.reduceBEq, Nat.reduceMul, Nat.reduceLT, Nat.reduceLeDiff, pkP, List.length_map, decide_true, setV_pn, setV_1, hfa, hfb, hva, hvb])
      | rw [poC_eta]
      | refine call_fn rfl (few_ok _) (fun _ => rfl) ?_
      | refine call_fn rfl (Valid_ok rfl a ha (few_it hfa)) (fun _ => rfl) ?_
      | refine call_fn rfl (Valid_ok rfl _ hc (few_it hfb)) (fun _ => rfl) ?_
      | refine call_fn rfl sanity_ok (fun _ => rfl) ?_
  | true =>
    have hL := diff_law (a := a) (b := ⟨a.name, a.types, b.rules, b.quorums⟩) rfl rfl hva hvb
    have hS := Same_ok (G := gl) (normP a) (normP ⟨a.name, a.types, b.rules, b.quorums⟩) (normP_ok ha.ok) (normP_ok hc.ok)
    have hI := inside_ok (G := gl) a ⟨a.name, a.types, b.rules, b.quorums⟩ ha.ok hc.ok
    have hJ := inside_ok (G := gl) ⟨a.name, a.types, b.rules, b.quorums⟩ a hc.ok ha.ok
    have hN := Normal_ok (G := gl) a (few_sm hfa)
    have hM := Normal_ok (G := gl) ⟨a.name, a.types, b.rules, b.quorums⟩ (few_sm hfb)
    cases hx : insideB a ⟨a.name, a.types, b.rules, b.quorums⟩ <;> rw [hx] at hI hL <;>
    (repeat' first
      | (simp -implicitDefEqProofs only [pkA, ptA, ↓reduceIte, Nat.reduceEqDiff, Nat.reduceAdd, Nat.reduceBEq, Nat.reduceMul, Nat.reduceLT, Nat.reduceLeDiff, pkP, List.length_map, decide_true, setV_pn, setV_1, hfa, hfb, hva, hvb])
      | rw [poC_eta]
      | refine call_fn rfl (few_ok _) (fun _ => rfl) ?_
      | refine call_fn rfl (Valid_ok rfl a ha (few_it hfa)) (fun _ => rfl) ?_
      | refine call_fn rfl (Valid_ok rfl _ hc (few_it hfb)) (fun _ => rfl) ?_
      | refine call_fn rfl sanity_ok (fun _ => rfl) ?_
      | refine call_fn rfl hN (fun h => by cases h) ?_
      | refine call_fn rfl hM (fun h => by cases h) ?_
      | refine call_fn rfl hS (fun _ => rfl) ?_
      | refine call_fn rfl hI (fun _ => rfl) ?_
      | refine call_fn rfl hJ (fun _ => rfl) ?_)
    · simpa using hL
    · simpa using hL
end Go.Proofs.YtbhfbbfifmnniaaDoor
