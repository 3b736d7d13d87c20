/- The normal form of a policy in the reference of layer 13: insertion, by appends. -/
import Derived.Test.YtbhfbbfifmnniaaDoorVlRefC
set_option linter.unusedSimpArgs false
set_option linter.unusedVariables false
namespace Go.Proofs.YtbhfbbfifmnniaaDoor
open Go Go.Vl

theorem slice_suf {T e : TypeId} {i j : TI} {P : Program} {es : List (List C)} {k : Nat} {KV : V → Prop} (hT : ti P T = some i) (hk : i.kd = .slice e) (hE : ti P e = some j) (hl : k ≤ es.length) (hs : ∀ x ∈ es, x.length = j.size) (hK : KV (.c (.sl (es.drop k)))) :
    vslice P T (.c (.sl es)) (some (i64 k)) none none KV := by
  obtain ⟨kd, a, b, c, d, f, g⟩ := i; subst hk
  simp only [vslice, hT, hE, optInt]
  refine ⟨⟨Int.natCast_nonneg k, by omega, by omega, hs⟩, ?_⟩
  simpa using hK
theorem len_map {α : Type} {c : α → List C} {sz : Nat} (hc : ∀ x, (c x).length = sz) (l : List α) : ∀ x ∈ l.map c, x.length = sz := fun x hx => by
  obtain ⟨y, _, rfl⟩ := List.mem_map.1 hx; exact hc y
theorem drop_map {α : Type} (f : α → List C) (l : List α) (k : Nat) : (l.map f).drop k = (l.drop k).map f := List.map_drop.symm
theorem E_ok {b : Bool} {x : TypeId × Nat} : (if b = true then none else some x) = none ∨ (if b = true then none else some x) = some x := by cases b <;> simp
theorem cmQu_lt (x y : Qu) : cmQu x y < 0 ↔ x.cmd < y.cmd := by unfold cmQu; rcases cmpI_cases x.cmd y.cmd with h | h | h <;> omega
theorem ins_fin {α : Type} {cm : α → α → Int} (hc : Cmp cm) {l S : List α} {k a : Nat} {x : α} (hk : k < l.length) (hx : l[k] = x) (hS : S = ssort cm (l.take k)) (ha : a ≤ S.length) (hno : ∀ j (h : j < S.length), a ≤ j → cm x S[j] < 0)
    (hl : ∀ h : 0 < a, ¬ cm x (S[a - 1]'(by omega)) < 0) : S.take a ++ x :: S.drop a = ssort cm (l.take (k + 1)) := by
  have e : l.take (k + 1) = l.take k ++ [x] := by rw [List.take_add_one, List.getElem?_eq_getElem hk, hx]; rfl
  have hs : Srt cm S := by rw [hS]; exact ssort_srt hc _
  rw [e]
  refine ssort_snoc hc (by rw [List.take_append_drop, hS]) (fun z hz => ?_) (fun z hz => ?_)
  · obtain ⟨j, hj, rfl⟩ := List.mem_iff_getElem.1 hz
    rw [List.getElem_drop]
    exact hno _ _ (by omega)
  · obtain ⟨j, hj, rfl⟩ := List.mem_iff_getElem.1 hz
    rw [List.getElem_take]
    simp only [List.length_take] at hj
    exact hc.trans _ _ _ (hs.get hc (i := j) (j := a - 1) (by omega) (by omega)) (hc.nlt (hl (by omega)))

set_option maxRecDepth 100000 in
set_option maxHeartbeats 8000000 in
theorem refNormal_ok {G : Gl} (p : Pol) (hp : PolSm p) : FnOK Tryd.prog G 19 [.agg (poC p)] (.agg (poC (normP p))) := by
  refine FnOK_by (rs := [.cell 2 26]) false [47, 53, 61, 98, 104, 112, 2500012, 2500014] mixed Tryd.func19 rfl rfl rfl rfl (by kernel_rfl) (by simp) rfl rfl ?_
  obtain ⟨o1, o2, o3⟩ := hp
  simp -implicitDefEqProofs only [pkA, ptA, ↓reduceIte, Nat.reduceEqDiff, Nat.reduceAdd, Nat.reduceBEq, Nat.reduceMul, Nat.reduceLT, Nat.reduceLeDiff, pkP, List.length_map, setV_all]
  rw [app_22]
  refine ⟨⟨.inl rfl, by simp⟩, ⟨by simp; omega, by simp; omega, by simp [tyC_len]⟩, ?_⟩
  simp -implicitDefEqProofs only [pkA, ptA, ↓reduceIte, Nat.reduceEqDiff, Nat.reduceAdd, Nat.reduceBEq, Nat.reduceMul, Nat.reduceLT, Nat.reduceLeDiff, pkP, List.length_map]
  generalize (if (List.map tyC p.types).isEmpty = true then none else some (46, 3)) = ET
  refine run_loop (fun k : Nat => hdS [(1, .bp 0 0), (2, .bp 1 0), (3, .bp 2 0), (4, i64 k)] [(poC p).map .c, [.c (.lit (.string (ByteArray.mk #[]))), .ow none [], .ow none [], .ow none []], [.c (.lit (.string p.name)), .ow ET (p.types.map tyC), .ow (if k = 0 then none else some (40, 3)) ((ssort cmRu (p.rules.take k)).map ruC), .ow none []]])
    (fun k => p.rules.length - k) (fun k => k ≤ p.rules.length) 0 (Nat.zero_le _) ?_ ?_
  · exact (le_hd (by simp only [leOk, List.all_cons, List.all_nil, all_ltB_c, List.length_cons, List.length_nil]; rfl) (Nat.zero_le _) (by simp) (by simp [FL, up_apply]) (by simp [BL, up_apply, bxs, ssort]))
  rintro k hk R hnorm hexit hret
  obtain ⟨S, hS⟩ : ∃ S, S = ssort cmRu (p.rules.take k) := ⟨_, rfl⟩
  have hlen : S.length = k := by rw [hS, ssort_len]; simp; omega
  simp only [← hS]
  simp -implicitDefEqProofs only [pkA, ptA, ↓reduceIte, Nat.reduceEqDiff, Nat.reduceAdd, Nat.reduceBEq, Nat.reduceMul, Nat.reduceLT, Nat.reduceLeDiff, pkP, List.length_map]
  refine vcond_of (fun hlt => ?_) (fun hge => ?_)
  · have hlt : k < p.rules.length := by simpa using hlt
    obtain ⟨x, hx⟩ : ∃ x, p.rules[k] = x := ⟨_, rfl⟩
    have hxx : (p.rules.map ruC)[(k : Int).toNat]? = some (ruC x) := by simp [hlt, hx]
    have hw := wrap_of (n := (k : Int) + 1) (k := k + 1) (by omega) (by omega)
    simp -implicitDefEqProofs only [pkA, ptA, ↓reduceIte, Nat.reduceEqDiff, Nat.reduceAdd, Nat.reduceBEq, Nat.reduceMul, Nat.reduceLT, Nat.reduceLeDiff, pkP, List.length_map, hlen]
    refine run_loop (fun at_ : Nat => hdS [(1, .bp 0 0), (2, .bp 1 0), (3, .bp 2 0), (4, i64 k), (5, i64 at_)] [(poC p).map .c, [.c (.lit (.string (ByteArray.mk #[]))), .ow none [], .ow none [], .ow none []], [.c (.lit (.string p.name)), .ow ET (p.types.map tyC), .ow (if k = 0 then none else some (40, 3)) (S.map ruC), .ow none []]])
      (fun a => a) (fun a => a ≤ k ∧ ∀ j (h : j < S.length), a ≤ j → cmRu x S[j] < 0) k ⟨Nat.le_refl _, fun j h hj => by omega⟩ ?_ ?_
    · exact (le_hd (by simp only [leOk, List.all_cons, List.all_nil, all_ltB_c, List.length_cons, List.length_nil]; rfl) (Nat.zero_le _) (by simp) (by simp [FL, up_apply]) (by simp [BL, up_apply, bxs]))
    rintro a ⟨ha, hno⟩ R2 hnorm2 hexit2 hret2
    have tail : (∀ h : 0 < a, ¬ cmRu x (S[a - 1]'(by omega)) < 0) → ∀ s', Vl.S.Le (extK [47, 53, 61, 98, 104, 112, 2500012, 2500014]) (hdS [(1, .bp 0 0), (2, .bp 1 0), (3, .bp 2 0), (4, i64 (k + 1 : Nat))] [(poC p).map .c, [.c (.lit (.string (ByteArray.mk #[]))), .ow none [], .ow none [], .ow none []], [.c (.lit (.string p.name)), .ow ET (p.types.map tyC), .ow (some (40, 3)) ((S.take a).map ruC ++ [ruC x] ++ (S.drop a).map ruC), .ow none []]]) s' → R .normal s' := fun hl s' hle => by
      refine hnorm (k + 1) s' (by omega) (by omega) ?_
      rw [← ins_fin cmRu_ok hlt hx hS (by omega) hno hl]
      simpa using hle
    clear hexit hret hnorm
    rcases Nat.eq_zero_or_pos a with h0 | h0
    · have d1 : decide ((0 : Int) < ((a : Nat) : Int)) = false := decide_eq_false (by omega)
      simp -implicitDefEqProofs only [pkA, ptA, ↓reduceIte, Nat.reduceEqDiff, Nat.reduceAdd, Nat.reduceBEq, Nat.reduceMul, Nat.reduceLT, Nat.reduceLeDiff, pkP, List.length_map, d1]
      refine hexit2 _ _ ?_
      simp -implicitDefEqProofs only [pkA, ptA, ↓reduceIte, Nat.reduceEqDiff, Nat.reduceAdd, Nat.reduceBEq, Nat.reduceMul, Nat.reduceLT, Nat.reduceLeDiff, pkP, List.length_map, Option.map_some, Option.map_none]
      refine slice_pre ti_23 rfl ti_40 (by simp; omega) (by simp [ruC_len]) ?_
      rw [take_map]
      simp -implicitDefEqProofs only [pkA, ptA, ↓reduceIte, Nat.reduceEqDiff, Nat.reduceAdd, Nat.reduceBEq, Nat.reduceMul, Nat.reduceLT, Nat.reduceLeDiff, pkP, List.length_map]
      rw [app_23]
      refine ⟨⟨.inl rfl, by simp⟩, ⟨by simp; omega, by simp; omega, len_map ruC_len _⟩, ?_⟩
      simp -implicitDefEqProofs only [pkA, ptA, ↓reduceIte, Nat.reduceEqDiff, Nat.reduceAdd, Nat.reduceBEq, Nat.reduceMul, Nat.reduceLT, Nat.reduceLeDiff, pkP, List.length_map]
      have hE1 := E_ok (b := (List.map ruC (List.take a S)).isEmpty) (x := (40, 3))
      generalize (if (List.map ruC (List.take a S)).isEmpty = true then none else some (40, 3)) = E1 at hE1 ⊢
      refine ia_of ti_23 rfl ti_40 (by decide) (Int.natCast_nonneg k) hxx rfl ?_
      simp -implicitDefEqProofs only [pkA, ptA, ↓reduceIte, Nat.reduceEqDiff, Nat.reduceAdd, Nat.reduceBEq, Nat.reduceMul, Nat.reduceLT, Nat.reduceLeDiff, pkP, List.length_map]
      rw [app_23]
      refine ⟨⟨hE1, len_map ruC_len _⟩, ⟨by simp; omega, by simp; omega, by simp [ruC_len]⟩, ?_⟩
      simp -implicitDefEqProofs only [pkA, ptA, ↓reduceIte, Nat.reduceEqDiff, Nat.reduceAdd, Nat.reduceBEq, Nat.reduceMul, Nat.reduceLT, Nat.reduceLeDiff, pkP, List.length_map, Option.map_some, Option.map_none]
      refine slice_suf ti_23 rfl ti_40 (by simp; omega) (by simp [ruC_len]) ?_
      rw [drop_map]
      simp -implicitDefEqProofs only [pkA, ptA, ↓reduceIte, Nat.reduceEqDiff, Nat.reduceAdd, Nat.reduceBEq, Nat.reduceMul, Nat.reduceLT, Nat.reduceLeDiff, pkP, List.length_map]
      rw [app_23]
      refine ⟨⟨.inr rfl, by intro q hq; simp only [List.mem_append, List.mem_map, List.mem_singleton] at hq; rcases hq with ⟨y, _, rfl⟩ | rfl <;> rfl⟩, ⟨by simp; omega, by simp; omega, len_map ruC_len _⟩, ?_⟩
      simp -implicitDefEqProofs only [pkA, ptA, ↓reduceIte, Nat.reduceEqDiff, Nat.reduceAdd, Nat.reduceBEq, Nat.reduceMul, Nat.reduceLT, Nat.reduceLeDiff, pkP, List.length_map, ite_self, hw]
      exact tail (fun h => by omega) _ (le_hd (by simp only [leOk, List.all_cons, List.all_nil, all_ltB_c, List.length_cons, List.length_nil]; rfl) (Nat.zero_le _) (by simp) (by simp [FL, up_apply]) (by simp [BL, up_apply, bxs]))
    · obtain ⟨m, rfl⟩ : ∃ m, a = m + 1 := ⟨a - 1, by omega⟩
      have hm : m < S.length := by omega
      have d1 : decide ((0 : Int) < ((m + 1 : Nat) : Int)) = true := decide_eq_true (by omega)
      have w1 := wrap_of (n := ((m + 1 : Nat) : Int) - 1) (k := m) (by omega) (by omega)
      simp -implicitDefEqProofs only [pkA, ptA, ↓reduceIte, Nat.reduceEqDiff, Nat.reduceAdd, Nat.reduceBEq, Nat.reduceMul, Nat.reduceLT, Nat.reduceLeDiff, pkP, List.length_map, d1]
      refine ia_of ti_23 rfl ti_40 (by decide) (Int.natCast_nonneg k) hxx rfl ?_
      simp -implicitDefEqProofs only [pkA, ptA, ↓reduceIte, Nat.reduceEqDiff, Nat.reduceAdd, Nat.reduceBEq, Nat.reduceMul, Nat.reduceLT, Nat.reduceLeDiff, pkP, List.length_map, w1]
      refine ia_of ti_23 rfl ti_40 (by decide) (Int.natCast_nonneg m) (c := ruC S[m]) (by simp [hm]) rfl ?_
      simp -implicitDefEqProofs only [pkA, ptA, ↓reduceIte, Nat.reduceEqDiff, Nat.reduceAdd, Nat.reduceBEq, Nat.reduceMul, Nat.reduceLT, Nat.reduceLeDiff, pkP, List.length_map, w1]
      refine call_fn rfl (before_ok x S[m]) (fun _ => rfl) ?_
      simp -implicitDefEqProofs only [pkA, ptA, ↓reduceIte, Nat.reduceEqDiff, Nat.reduceAdd, Nat.reduceBEq, Nat.reduceMul, Nat.reduceLT, Nat.reduceLeDiff, pkP, List.length_map]
      refine vcond_of (fun hy => ?_) (fun hn => ?_)
      · have hy : cmRu x S[m] < 0 := by simpa using hy
        simp -implicitDefEqProofs only [pkA, ptA, ↓reduceIte, Nat.reduceEqDiff, Nat.reduceAdd, Nat.reduceBEq, Nat.reduceMul, Nat.reduceLT, Nat.reduceLeDiff, pkP, List.length_map, w1]
        refine hnorm2 m _ ⟨by omega, fun j h hj => ?_⟩ (by omega) (le_hd (by simp only [leOk, List.all_cons, List.all_nil, all_ltB_c, List.length_cons, List.length_nil]; rfl) (Nat.zero_le _) (by simp) (by simp [FL, up_apply]) (by simp [BL, up_apply, bxs]))
        rcases Nat.lt_or_ge m j with q | q
        · exact hno j h q
        · have : j = m := by omega
          subst this; exact hy
      · have hn : ¬ cmRu x S[m] < 0 := by simpa using hn
        simp -implicitDefEqProofs only [pkA, ptA, ↓reduceIte, Nat.reduceEqDiff, Nat.reduceAdd, Nat.reduceBEq, Nat.reduceMul, Nat.reduceLT, Nat.reduceLeDiff, pkP, List.length_map]
        refine hexit2 _ _ ?_
        generalize ha1 : m + 1 = a at *
        have hl : ∀ h : 0 < a, ¬ cmRu x (S[a - 1]'(by omega)) < 0 := by
          subst ha1; intro _; simpa using hn
        simp -implicitDefEqProofs only [pkA, ptA, ↓reduceIte, Nat.reduceEqDiff, Nat.reduceAdd, Nat.reduceBEq, Nat.reduceMul, Nat.reduceLT, Nat.reduceLeDiff, pkP, List.length_map, Option.map_some, Option.map_none]
        refine slice_pre ti_23 rfl ti_40 (by simp; omega) (by simp [ruC_len]) ?_
        rw [take_map]
        simp -implicitDefEqProofs only [pkA, ptA, ↓reduceIte, Nat.reduceEqDiff, Nat.reduceAdd, Nat.reduceBEq, Nat.reduceMul, Nat.reduceLT, Nat.reduceLeDiff, pkP, List.length_map]
        rw [app_23]
        refine ⟨⟨.inl rfl, by simp⟩, ⟨by simp; omega, by simp; omega, len_map ruC_len _⟩, ?_⟩
        simp -implicitDefEqProofs only [pkA, ptA, ↓reduceIte, Nat.reduceEqDiff, Nat.reduceAdd, Nat.reduceBEq, Nat.reduceMul, Nat.reduceLT, Nat.reduceLeDiff, pkP, List.length_map]
        have hE1 := E_ok (b := (List.map ruC (List.take a S)).isEmpty) (x := (40, 3))
        generalize (if (List.map ruC (List.take a S)).isEmpty = true then none else some (40, 3)) = E1 at hE1 ⊢
        refine ia_of ti_23 rfl ti_40 (by decide) (Int.natCast_nonneg k) hxx rfl ?_
        simp -implicitDefEqProofs only [pkA, ptA, ↓reduceIte, Nat.reduceEqDiff, Nat.reduceAdd, Nat.reduceBEq, Nat.reduceMul, Nat.reduceLT, Nat.reduceLeDiff, pkP, List.length_map]
        rw [app_23]
        refine ⟨⟨hE1, len_map ruC_len _⟩, ⟨by simp; omega, by simp; omega, by simp [ruC_len]⟩, ?_⟩
        simp -implicitDefEqProofs only [pkA, ptA, ↓reduceIte, Nat.reduceEqDiff, Nat.reduceAdd, Nat.reduceBEq, Nat.reduceMul, Nat.reduceLT, Nat.reduceLeDiff, pkP, List.length_map, Option.map_some, Option.map_none]
        refine slice_suf ti_23 rfl ti_40 (by simp; omega) (by simp [ruC_len]) ?_
        rw [drop_map]
        simp -implicitDefEqProofs only [pkA, ptA, ↓reduceIte, Nat.reduceEqDiff, Nat.reduceAdd, Nat.reduceBEq, Nat.reduceMul, Nat.reduceLT, Nat.reduceLeDiff, pkP, List.length_map]
        rw [app_23]
        refine ⟨⟨.inr rfl, by intro q hq; simp only [List.mem_append, List.mem_map, List.mem_singleton] at hq; rcases hq with ⟨y, _, rfl⟩ | rfl <;> rfl⟩, ⟨by simp; omega, by simp; omega, len_map ruC_len _⟩, ?_⟩
        simp -implicitDefEqProofs only [pkA, ptA, ↓reduceIte, Nat.reduceEqDiff, Nat.reduceAdd, Nat.reduceBEq, Nat.reduceMul, Nat.reduceLT, Nat.reduceLeDiff, pkP, List.length_map, ite_self, hw]
        exact tail hl _ (le_hd (by simp only [leOk, List.all_cons, List.all_nil, all_ltB_c, List.length_cons, List.length_nil]; rfl) (Nat.zero_le _) (by simp) (by simp [FL, up_apply]) (by simp [BL, up_apply, bxs]))
  have : k = p.rules.length := by simp at hge; omega
  subst this
  rw [List.take_length] at hS
  subst hS
  simp -implicitDefEqProofs only [pkA, ptA, ↓reduceIte, Nat.reduceEqDiff, Nat.reduceAdd, Nat.reduceBEq, Nat.reduceMul, Nat.reduceLT, Nat.reduceLeDiff, pkP, List.length_map]
  refine hexit _ _ ?_
  clear hexit hret hnorm hge hk hlen
  simp -implicitDefEqProofs only [pkA, ptA, ↓reduceIte, Nat.reduceEqDiff, Nat.reduceAdd, Nat.reduceBEq, Nat.reduceMul, Nat.reduceLT, Nat.reduceLeDiff, pkP, List.length_map]
  generalize (if p.rules.length = 0 then none else some (40, 3)) = ER
  refine run_loop (fun k : Nat => hdS [(1, .bp 0 0), (2, .bp 1 0), (3, .bp 2 0), (7, i64 k)] [(poC p).map .c, [.c (.lit (.string (ByteArray.mk #[]))), .ow none [], .ow none [], .ow none []], [.c (.lit (.string p.name)), .ow ET (p.types.map tyC), .ow ER ((ssort cmRu p.rules).map ruC), .ow (if k = 0 then none else some (42, 5)) ((ssort cmQu (p.quorums.take k)).map quC)]])
    (fun k => p.quorums.length - k) (fun k => k ≤ p.quorums.length) 0 (Nat.zero_le _) ?_ ?_
  · exact (le_hd (by simp only [leOk, List.all_cons, List.all_nil, all_ltB_c, List.length_cons, List.length_nil]; rfl) (Nat.zero_le _) (by simp) (by simp [FL, up_apply]) (by simp [BL, up_apply, bxs, ssort]))
  rintro k hk R hnorm hexit hret
  obtain ⟨S, hS⟩ : ∃ S, S = ssort cmQu (p.quorums.take k) := ⟨_, rfl⟩
  have hlen : S.length = k := by rw [hS, ssort_len]; simp; omega
  simp only [← hS]
  simp -implicitDefEqProofs only [pkA, ptA, ↓reduceIte, Nat.reduceEqDiff, Nat.reduceAdd, Nat.reduceBEq, Nat.reduceMul, Nat.reduceLT, Nat.reduceLeDiff, pkP, List.length_map]
  refine vcond_of (fun hlt => ?_) (fun hge => ?_)
  · have hlt : k < p.quorums.length := by simpa using hlt
    obtain ⟨x, hx⟩ : ∃ x, p.quorums[k] = x := ⟨_, rfl⟩
    have hxx : (p.quorums.map quC)[(k : Int).toNat]? = some (quC x) := by simp [hlt, hx]
    have hw := wrap_of (n := (k : Int) + 1) (k := k + 1) (by omega) (by omega)
    simp -implicitDefEqProofs only [pkA, ptA, ↓reduceIte, Nat.reduceEqDiff, Nat.reduceAdd, Nat.reduceBEq, Nat.reduceMul, Nat.reduceLT, Nat.reduceLeDiff, pkP, List.length_map, hlen]
    refine run_loop (fun at_ : Nat => hdS [(1, .bp 0 0), (2, .bp 1 0), (3, .bp 2 0), (7, i64 k), (8, i64 at_)] [(poC p).map .c, [.c (.lit (.string (ByteArray.mk #[]))), .ow none [], .ow none [], .ow none []], [.c (.lit (.string p.name)), .ow ET (p.types.map tyC), .ow ER ((ssort cmRu p.rules).map ruC), .ow (if k = 0 then none else some (42, 5)) (S.map quC)]])
      (fun a => a) (fun a => a ≤ k ∧ ∀ j (h : j < S.length), a ≤ j → cmQu x S[j] < 0) k ⟨Nat.le_refl _, fun j h hj => by omega⟩ ?_ ?_
    · exact (le_hd (by simp only [leOk, List.all_cons, List.all_nil, all_ltB_c, List.length_cons, List.length_nil]; rfl) (Nat.zero_le _) (by simp) (by simp [FL, up_apply]) (by simp [BL, up_apply, bxs]))
    rintro a ⟨ha, hno⟩ R2 hnorm2 hexit2 hret2
    have tail : (∀ h : 0 < a, ¬ cmQu x (S[a - 1]'(by omega)) < 0) → ∀ s', Vl.S.Le (extK [47, 53, 61, 98, 104, 112, 2500012, 2500014]) (hdS [(1, .bp 0 0), (2, .bp 1 0), (3, .bp 2 0), (7, i64 (k + 1 : Nat))] [(poC p).map .c, [.c (.lit (.string (ByteArray.mk #[]))), .ow none [], .ow none [], .ow none []], [.c (.lit (.string p.name)), .ow ET (p.types.map tyC), .ow ER ((ssort cmRu p.rules).map ruC), .ow (some (42, 5)) ((S.take a).map quC ++ [quC x] ++ (S.drop a).map quC)]]) s' → R .normal s' := fun hl s' hle => by
      refine hnorm (k + 1) s' (by omega) (by omega) ?_
      rw [← ins_fin cmQu_ok hlt hx hS (by omega) hno hl]
      simpa using hle
    clear hexit hret hnorm
    rcases Nat.eq_zero_or_pos a with h0 | h0
    · have d1 : decide ((0 : Int) < ((a : Nat) : Int)) = false := decide_eq_false (by omega)
      simp -implicitDefEqProofs only [pkA, ptA, ↓reduceIte, Nat.reduceEqDiff, Nat.reduceAdd, Nat.reduceBEq, Nat.reduceMul, Nat.reduceLT, Nat.reduceLeDiff, pkP, List.length_map, d1]
      refine hexit2 _ _ ?_
      simp -implicitDefEqProofs only [pkA, ptA, ↓reduceIte, Nat.reduceEqDiff, Nat.reduceAdd, Nat.reduceBEq, Nat.reduceMul, Nat.reduceLT, Nat.reduceLeDiff, pkP, List.length_map, Option.map_some, Option.map_none]
      refine slice_pre ti_24 rfl ti_42 (by simp; omega) (by simp [quC_len]) ?_
      rw [take_map]
      simp -implicitDefEqProofs only [pkA, ptA, ↓reduceIte, Nat.reduceEqDiff, Nat.reduceAdd, Nat.reduceBEq, Nat.reduceMul, Nat.reduceLT, Nat.reduceLeDiff, pkP, List.length_map]
      rw [app_24]
      refine ⟨⟨.inl rfl, by simp⟩, ⟨by simp; omega, by simp; omega, len_map quC_len _⟩, ?_⟩
      simp -implicitDefEqProofs only [pkA, ptA, ↓reduceIte, Nat.reduceEqDiff, Nat.reduceAdd, Nat.reduceBEq, Nat.reduceMul, Nat.reduceLT, Nat.reduceLeDiff, pkP, List.length_map]
      have hE1 := E_ok (b := (List.map quC (List.take a S)).isEmpty) (x := (42, 5))
      generalize (if (List.map quC (List.take a S)).isEmpty = true then none else some (42, 5)) = E1 at hE1 ⊢
      refine ia_of ti_24 rfl ti_42 (by decide) (Int.natCast_nonneg k) hxx rfl ?_
      simp -implicitDefEqProofs only [pkA, ptA, ↓reduceIte, Nat.reduceEqDiff, Nat.reduceAdd, Nat.reduceBEq, Nat.reduceMul, Nat.reduceLT, Nat.reduceLeDiff, pkP, List.length_map]
      rw [app_24]
      refine ⟨⟨hE1, len_map quC_len _⟩, ⟨by simp; omega, by simp; omega, by simp [quC_len]⟩, ?_⟩
      simp -implicitDefEqProofs only [pkA, ptA, ↓reduceIte, Nat.reduceEqDiff, Nat.reduceAdd, Nat.reduceBEq, Nat.reduceMul, Nat.reduceLT, Nat.reduceLeDiff, pkP, List.length_map, Option.map_some, Option.map_none]
      refine slice_suf ti_24 rfl ti_42 (by simp; omega) (by simp [quC_len]) ?_
      rw [drop_map]
      simp -implicitDefEqProofs only [pkA, ptA, ↓reduceIte, Nat.reduceEqDiff, Nat.reduceAdd, Nat.reduceBEq, Nat.reduceMul, Nat.reduceLT, Nat.reduceLeDiff, pkP, List.length_map]
      rw [app_24]
      refine ⟨⟨.inr rfl, by intro q hq; simp only [List.mem_append, List.mem_map, List.mem_singleton] at hq; rcases hq with ⟨y, _, rfl⟩ | rfl <;> rfl⟩, ⟨by simp; omega, by simp; omega, len_map quC_len _⟩, ?_⟩
      simp -implicitDefEqProofs only [pkA, ptA, ↓reduceIte, Nat.reduceEqDiff, Nat.reduceAdd, Nat.reduceBEq, Nat.reduceMul, Nat.reduceLT, Nat.reduceLeDiff, pkP, List.length_map, ite_self, hw]
      exact tail (fun h => by omega) _ (le_hd (by simp only [leOk, List.all_cons, List.all_nil, all_ltB_c, List.length_cons, List.length_nil]; rfl) (Nat.zero_le _) (by simp) (by simp [FL, up_apply]) (by simp [BL, up_apply, bxs]))
    · obtain ⟨m, rfl⟩ : ∃ m, a = m + 1 := ⟨a - 1, by omega⟩
      have hm : m < S.length := by omega
      have d1 : decide ((0 : Int) < ((m + 1 : Nat) : Int)) = true := decide_eq_true (by omega)
      have w1 := wrap_of (n := ((m + 1 : Nat) : Int) - 1) (k := m) (by omega) (by omega)
      simp -implicitDefEqProofs only [pkA, ptA, ↓reduceIte, Nat.reduceEqDiff, Nat.reduceAdd, Nat.reduceBEq, Nat.reduceMul, Nat.reduceLT, Nat.reduceLeDiff, pkP, List.length_map, d1]
      refine ia_of ti_24 rfl ti_42 (by decide) (Int.natCast_nonneg k) hxx rfl ?_
      simp -implicitDefEqProofs only [pkA, ptA, ↓reduceIte, Nat.reduceEqDiff, Nat.reduceAdd, Nat.reduceBEq, Nat.reduceMul, Nat.reduceLT, Nat.reduceLeDiff, pkP, List.length_map, w1]
      refine ia_of ti_24 rfl ti_42 (by decide) (Int.natCast_nonneg m) (c := quC S[m]) (by simp [hm]) rfl ?_
      simp -implicitDefEqProofs only [pkA, ptA, ↓reduceIte, Nat.reduceEqDiff, Nat.reduceAdd, Nat.reduceBEq, Nat.reduceMul, Nat.reduceLT, Nat.reduceLeDiff, pkP, List.length_map, w1]
      refine vcond_of (fun hy => ?_) (fun hn => ?_)
      · have hy : cmQu x S[m] < 0 := (cmQu_lt _ _).2 (by simpa using hy)
        simp -implicitDefEqProofs only [pkA, ptA, ↓reduceIte, Nat.reduceEqDiff, Nat.reduceAdd, Nat.reduceBEq, Nat.reduceMul, Nat.reduceLT, Nat.reduceLeDiff, pkP, List.length_map, w1]
        refine hnorm2 m _ ⟨by omega, fun j h hj => ?_⟩ (by omega) (le_hd (by simp only [leOk, List.all_cons, List.all_nil, all_ltB_c, List.length_cons, List.length_nil]; rfl) (Nat.zero_le _) (by simp) (by simp [FL, up_apply]) (by simp [BL, up_apply, bxs]))
        rcases Nat.lt_or_ge m j with q | q
        · exact hno j h q
        · have : j = m := by omega
          subst this; exact hy
      · have hn : ¬ cmQu x S[m] < 0 := fun h => (by simpa using hn : ¬ x.cmd < S[m].cmd) ((cmQu_lt _ _).1 h)
        simp -implicitDefEqProofs only [pkA, ptA, ↓reduceIte, Nat.reduceEqDiff, Nat.reduceAdd, Nat.reduceBEq, Nat.reduceMul, Nat.reduceLT, Nat.reduceLeDiff, pkP, List.length_map]
        refine hexit2 _ _ ?_
        generalize ha1 : m + 1 = a at *
        have hl : ∀ h : 0 < a, ¬ cmQu x (S[a - 1]'(by omega)) < 0 := by
          subst ha1; intro _; simpa using hn
        simp -implicitDefEqProofs only [pkA, ptA, ↓reduceIte, Nat.reduceEqDiff, Nat.reduceAdd, Nat.reduceBEq, Nat.reduceMul, Nat.reduceLT, Nat.reduceLeDiff, pkP, List.length_map, Option.map_some, Option.map_none]
        refine slice_pre ti_24 rfl ti_42 (by simp; omega) (by simp [quC_len]) ?_
        rw [take_map]
        simp -implicitDefEqProofs only [pkA, ptA, ↓reduceIte, Nat.reduceEqDiff, Nat.reduceAdd, Nat.reduceBEq, Nat.reduceMul, Nat.reduceLT, Nat.reduceLeDiff, pkP, List.length_map]
        rw [app_24]
        refine ⟨⟨.inl rfl, by simp⟩, ⟨by simp; omega, by simp; omega, len_map quC_len _⟩, ?_⟩
        simp -implicitDefEqProofs only [pkA, ptA, ↓reduceIte, Nat.reduceEqDiff, Nat.reduceAdd, Nat.reduceBEq, Nat.reduceMul, Nat.reduceLT, Nat.reduceLeDiff, pkP, List.length_map]
        have hE1 := E_ok (b := (List.map quC (List.take a S)).isEmpty) (x := (42, 5))
        generalize (if (List.map quC (List.take a S)).isEmpty = true then none else some (42, 5)) = E1 at hE1 ⊢
        refine ia_of ti_24 rfl ti_42 (by decide) (Int.natCast_nonneg k) hxx rfl ?_
        simp -implicitDefEqProofs only [pkA, ptA, ↓reduceIte, Nat.reduceEqDiff, Nat.reduceAdd, Nat.reduceBEq, Nat.reduceMul, Nat.reduceLT, Nat.reduceLeDiff, pkP, List.length_map]
        rw [app_24]
        refine ⟨⟨hE1, len_map quC_len _⟩, ⟨by simp; omega, by simp; omega, by simp [quC_len]⟩, ?_⟩
        simp -implicitDefEqProofs only [pkA, ptA, ↓reduceIte, Nat.reduceEqDiff, Nat.reduceAdd, Nat.reduceBEq, Nat.reduceMul, Nat.reduceLT, Nat.reduceLeDiff, pkP, List.length_map, Option.map_some, Option.map_none]
        refine slice_suf ti_24 rfl ti_42 (by simp; omega) (by simp [quC_len]) ?_
        rw [drop_map]
        simp -implicitDefEqProofs only [pkA, ptA, ↓reduceIte, Nat.reduceEqDiff, Nat.reduceAdd, Nat.reduceBEq, Nat.reduceMul, Nat.reduceLT, Nat.reduceLeDiff, pkP, List.length_map]
        rw [app_24]
        refine ⟨⟨.inr rfl, by intro q hq; simp only [List.mem_append, List.mem_map, List.mem_singleton] at hq; rcases hq with ⟨y, _, rfl⟩ | rfl <;> rfl⟩, ⟨by simp; omega, by simp; omega, len_map quC_len _⟩, ?_⟩
        simp -implicitDefEqProofs only [pkA, ptA, ↓reduceIte, Nat.reduceEqDiff, Nat.reduceAdd, Nat.reduceBEq, Nat.reduceMul, Nat.reduceLT, Nat.reduceLeDiff, pkP, List.length_map, ite_self, hw]
        exact tail hl _ (le_hd (by simp only [leOk, List.all_cons, List.all_nil, all_ltB_c, List.length_cons, List.length_nil]; rfl) (Nat.zero_le _) (by simp) (by simp [FL, up_apply]) (by simp [BL, up_apply, bxs]))
  have : k = p.quorums.length := by simp at hge; omega
  subst this
  rw [List.take_length] at hS
  subst hS
  simp -implicitDefEqProofs only [pkA, ptA, ↓reduceIte, Nat.reduceEqDiff, Nat.reduceAdd, Nat.reduceBEq, Nat.reduceMul, Nat.reduceLT, Nat.reduceLeDiff, pkP, List.length_map]
  refine hexit _ _ ?_
  clear hexit hret hnorm hge hk hlen
  simp -implicitDefEqProofs only [pkA, ptA, ↓reduceIte, Nat.reduceEqDiff, Nat.reduceAdd, Nat.reduceBEq, Nat.reduceMul, Nat.reduceLT, Nat.reduceLeDiff, pkP, List.length_map, setV_all]
  rfl
end Go.Proofs.YtbhfbbfifmnniaaDoor

