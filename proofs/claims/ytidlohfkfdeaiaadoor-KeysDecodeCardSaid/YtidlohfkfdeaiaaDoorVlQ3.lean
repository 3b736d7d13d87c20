/- The specification's layer 1: byte strings and lists of integers. -/
import Derived.Test.YtidlohfkfdeaiaaDoorVlQ2
set_option linter.unusedSimpArgs false
set_option linter.unusedVariables false
namespace Go.Proofs.YtidlohfkfdeaiaaDoor
open Go Go.Vl

variable {G : Gl}
set_option maxRecDepth 100000 in
set_option maxHeartbeats 1500000 in
theorem rcount_ok (b : B) (hb : b.length ≤ 1000000000) : FnOK Tryd.prog G 90 [bv b, i64 1] (r3 (if (cnt b 1).2.2 ≠ 0 then (0, 0, (cnt b 1).2.2) else cnt b 1)) := by
  refine FnOK_by (rs := [.tmp 4, .tmp 5, .tmp 6]) false [] mixed Tryd.func90 rfl rfl rfl rfl (by kernel_rfl) (by simp) rfl rfl ?_
  simp -implicitDefEqProofs only [pkA, ↓reduceIte, Nat.reduceEqDiff, Nat.reduceAdd, Nat.zero_add]
  refine call_fn rfl (rGetInt_ok b hb) (fun _ => rfl) ?_
  have hc : cnt b 1 = ((getI b).1, (getI b).2.1, if (getI b).2.2 ≠ 0 then (getI b).2.2 else if (getI b).1 < 0 then 6 else if (((b.length - (getI b).2.1) / 1 : Nat) : Int) < (getI b).1 then 5 else 0) := rfl
  rw [hc]
  generalize hg : getI b = g
  obtain ⟨n, u, e⟩ := g
  obtain ⟨hu, hz, hn, hp⟩ := getI_used hg
  simp -implicitDefEqProofs only [pkA, ↓reduceIte, Nat.reduceEqDiff, Nat.reduceAdd]
  refine vcond_of (fun he => ?_) (fun he => ?_)
  · have he : e ≠ 0 := by simpa using he
    have hc : (if e ≠ 0 then e else if n < 0 then 6 else if (((b.length - u) / 1 : Nat) : Int) < n then 5 else 0) = e := if_pos he
    rw [hc, if_pos he]
    simp -implicitDefEqProofs only [pkA, ↓reduceIte, Nat.reduceEqDiff, Nat.reduceAdd]
    refine retV_three ?_ ?_ ?_ <;> rfl
  have he : e = 0 := by simpa using he
  subst he
  have hc : (if (0 : Int) ≠ 0 then 0 else if n < 0 then 6 else if (((b.length - u) / 1 : Nat) : Int) < n then 5 else 0) = if n < 0 then (6 : Int) else if b.length - u < n then 5 else 0 := by
    rw [if_neg (by simp), Nat.div_one]
    have : ((b.length - u : Nat) : Int) = b.length - u := by omega
    rw [this]
  rw [hc]
  simp -implicitDefEqProofs only [pkA, ↓reduceIte, Nat.reduceEqDiff, Nat.reduceAdd, decide_true]
  refine vcond_of (fun h0 => ?_) (fun h0 => ?_)
  · have h0 : n < 0 := of_decide_eq_true h0
    simp only [if_pos h0]
    simp -implicitDefEqProofs only [pkA, ↓reduceIte, Nat.reduceAdd]
    refine retV_three ?_ ?_ ?_ <;> rfl
  have h0 : ¬ n < 0 := of_decide_eq_false h0
  simp only [if_neg h0]
  have hw := wrap_of (n := (b.length : Int) - (u : Int)) (k := b.length - u) (by omega) (by omega)
  simp -implicitDefEqProofs only [pkA, ptA, ↓reduceIte, Nat.reduceEqDiff, Nat.reduceAdd, bC_len]
  cases d1 : decide ((b.length : Int) < n)
  case true =>
    have d1 := of_decide_eq_true d1
    have h5 : (b.length : Int) - u < n := by omega
    simp only [if_pos h5]
    simp -implicitDefEqProofs only [pkA, ↓reduceIte, Nat.reduceEqDiff, Nat.reduceAdd]
    refine retV_three ?_ ?_ ?_ <;> rfl
  have d1 := of_decide_eq_false d1
  have hm : IntKind.i64.wrap (n * 1) = n := by rw [Int.mul_one, IntKind.wrap_i64]; have := hn.1; have := hn.2; omega
  have he : ((b.length - u : Nat) : Int) = b.length - u := by omega
  simp -implicitDefEqProofs only [pkA, ptA, ↓reduceIte, Nat.reduceEqDiff, bC_len, hw, hm]
  rw [he]
  cases d2 : decide ((b.length : Int) - (u : Int) < n)
  case true =>
    have d2 := of_decide_eq_true d2
    simp only [if_pos d2]
    simp -implicitDefEqProofs only [pkA, ↓reduceIte, Nat.reduceAdd]
    refine retV_three ?_ ?_ ?_ <;> rfl
  have d2 := of_decide_eq_false d2
  simp only [if_neg d2]
  simp -implicitDefEqProofs only [pkA, ↓reduceIte, Nat.reduceEqDiff, Nat.reduceAdd]
  refine retV_three ?_ ?_ ?_ <;> rfl
set_option maxRecDepth 100000 in
theorem rBytes_ok (s : B) (hs : s.length ≤ 1000000000) : FnOK Tryd.prog G 49 [sv s] (.ow EB (bC (encB s))) := by
  refine FnOK_by (rs := [.tmp 2]) false [] mixed Tryd.func49 rfl rfl rfl rfl (by kernel_rfl) (by simp) rfl rfl ?_
  simp -implicitDefEqProofs only [pkA, ptA, ↓reduceIte, Nat.reduceEqDiff, Nat.reduceAdd, Nat.zero_add, bs8_size]
  refine call_fn rfl (rInt_ok _ (I64_nat (by omega))) (fun h => by cases h) ?_
  have hl := encI_len (s.length : Int)
  simp -implicitDefEqProofs only [pkA, ↓reduceIte, Nat.reduceEqDiff, Nat.reduceAdd, c_sb]
  refine apEB (by omega) ?_
  simp -implicitDefEqProofs only [pkA, ↓reduceIte, Nat.reduceEqDiff]
  rfl
set_option maxRecDepth 100000 in
set_option maxHeartbeats 1500000 in
theorem rGetBytes_ok (b : B) (hb : b.length ≤ 1000000000) : FnOK Tryd.prog G 57 [bv b] (rB (getB b)) := by
  refine FnOK_by (rs := [.tmp 2, .tmp 3, .tmp 4]) false [] mixed Tryd.func57 rfl rfl rfl rfl (by kernel_rfl) (by simp) rfl rfl ?_
  simp -implicitDefEqProofs only [pkA, ↓reduceIte, Nat.reduceEqDiff, Nat.reduceAdd, Nat.zero_add]
  refine call_fn rfl (rcount_ok b hb) (fun _ => rfl) ?_
  have hc : getB b = if (cnt b 1).2.2 ≠ 0 then ([], 0, (cnt b 1).2.2) else ((b.drop (cnt b 1).2.1).take (cnt b 1).1.toNat, (cnt b 1).2.1 + (cnt b 1).1.toNat, 0) := rfl
  rw [hc]
  generalize hg : cnt b 1 = g
  obtain ⟨n, u, e⟩ := g
  by_cases he : e = 0
  case neg =>
    have d : (!decide (e = 0)) = true := by simp [he]
    have he : e ≠ 0 := he
    simp only [if_pos he]
    simp -implicitDefEqProofs only [pkA, ↓reduceIte, Nat.reduceEqDiff, Nat.reduceAdd, d]
    refine retV_three ?_ ?_ ?_ <;> rfl
  subst he
  have h00 : ¬ ((0 : Int) ≠ 0) := by simp
  have d00 : (!decide ((0 : Int) = 0)) = false := rfl
  simp only [if_neg h00]
  obtain ⟨k, rfl, hk, _, _⟩ := cnt_ok hg
  have hw := wrap_of (n := (u : Int) + (k : Int)) (k := u + k) (by omega) (by omega)
  simp -implicitDefEqProofs only [pkA, ↓reduceIte, Nat.reduceEqDiff, Nat.reduceAdd, decide_true, hw]
  refine sl_bC ti_71 rfl ti_5 rfl (a := u) (b := u + k) rfl rfl (by omega) hk ?_
  have e1 : (b.take (u + k)).drop u = (b.drop u).take k := by rw [List.drop_take, show u + k - u = k by omega]
  simp -implicitDefEqProofs only [pkA, ↓reduceIte, Nat.reduceEqDiff, Nat.reduceAdd, c_bs, e1, hw, Int.toNat_natCast]
  refine retV_three ?_ ?_ ?_ <;> simp -implicitDefEqProofs only [pkA, ↓reduceIte, Nat.reduceEqDiff]
set_option maxRecDepth 100000 in
set_option maxHeartbeats 1500000 in
theorem rInts_ok (l : List Int) (hl : l.length ≤ 1000000000) (hI : ∀ x ∈ l, I64 x) : FnOK Tryd.prog G 51 [.c (.sl (mC ic l))] (.ow EB (bC (encIs l))) := by
  refine FnOK_by (rs := [.tmp 2]) false [14, 21] mixed Tryd.func51 rfl rfl rfl rfl (by kernel_rfl) (by simp) rfl rfl ?_
  simp -implicitDefEqProofs only [pkA, ptA, ↓reduceIte, Nat.reduceEqDiff, Nat.reduceAdd, Nat.reduceBEq, Nat.zero_add, mC_len]
  refine call_fn rfl (rInt_ok _ (I64_nat (by omega))) (fun h => by cases h) ?_
  simp -implicitDefEqProofs only [pkA, ↓reduceIte, Nat.reduceAdd, Nat.reduceBEq]
  have hel := encI_len (l.length : Int)
  refine run_loop (fun k : Nat => hdS [(0, .c (.sl (mC ic l))), (3, .ow EB (bC (encI (l.length : Int) ++ ((l.take k).map encI).flatten))), (4, i64 (k : Int))] []) (fun k => l.length - k) (fun k => k ≤ l.length) 0 (Nat.zero_le _) ?_ ?_
  · refine le_hd rfl (Nat.zero_le _) (by simp) (by simp [FL, up_apply]) trivial
  rintro k hk R hnorm hexit hret
  simp -implicitDefEqProofs only [pkA, ptA, ↓reduceIte, Nat.reduceEqDiff, Nat.reduceAdd, Nat.reduceBEq, mC_len]
  refine vcond_of (fun hp => ?_) (fun hz => ?_)
  · have hp : k < l.length := by have := dlt hp; omega
    obtain ⟨x, hx⟩ : ∃ x, l[k]? = some x := ⟨l[k], List.getElem?_eq_getElem hp⟩
    have hw1 := wrap_of (n := (k : Int) + 1) (k := k + 1) (by omega) (by omega)
    simp -implicitDefEqProofs only [pkA, ↓reduceIte, Nat.reduceEqDiff, Nat.reduceAdd, Nat.reduceBEq]
    refine ia_mC ti_34 rfl ti_3 rfl rfl hx ?_
    simp -implicitDefEqProofs only [pkA, ptA, ↓reduceIte, Nat.reduceAdd, Nat.reduceBEq]
    refine call_fn rfl (rInt_ok x (hI x (List.mem_of_getElem? hx))) (fun h => by cases h) ?_
    simp -implicitDefEqProofs only [pkA, ↓reduceIte, Nat.reduceEqDiff, Nat.reduceAdd, Nat.reduceBEq]
    have hf := flat_le (l.take k) (fun x => (encI_len x).2)
    have hx9 := encI_len x
    rw [List.length_take, Nat.min_eq_left hk] at hf
    refine apEB (by rw [List.length_append]; omega) ?_
    simp -implicitDefEqProofs only [pkA, ↓reduceIte, Nat.reduceEqDiff, Nat.reduceAdd, Nat.reduceBEq, hw1]
    refine hnorm (k + 1) _ hp (by omega) (le_hd rfl (Nat.zero_le _) (by simp) ?_ trivial)
    rw [take_snoc hx]
    simp [FL, up_apply]
  · have hz : k = l.length := by have := dge hz; omega
    subst hz
    simp -implicitDefEqProofs only [pkA]
    refine hexit _ _ ?_
    rw [List.take_length]
    simp -implicitDefEqProofs only [pkA, ↓reduceIte, Nat.reduceEqDiff, Nat.reduceAdd, Nat.reduceBEq]
    rfl
set_option maxRecDepth 100000 in
set_option maxHeartbeats 1500000 in
theorem rGetInts_ok (b : B) (hb : b.length ≤ 1000000000) : FnOK Tryd.prog G 58 [bv b] (rI (getIs b)) := by
  refine FnOK_by (rs := [.tmp 2, .tmp 3, .tmp 4]) false [38] mixed Tryd.func58 rfl rfl rfl rfl (by kernel_rfl) (by simp) rfl rfl ?_
  simp -implicitDefEqProofs only [pkA, ↓reduceIte, Nat.reduceEqDiff, Nat.reduceAdd, Nat.reduceBEq, Nat.zero_add]
  refine call_fn rfl (rcount_ok b hb) (fun _ => rfl) ?_
  have hc : getIs b = if (cnt b 1).2.2 ≠ 0 then ([], 0, (cnt b 1).2.2) else rdI b (cnt b 1).1.toNat (cnt b 1).2.1 [] := rfl
  rw [hc]
  generalize hg : cnt b 1 = g
  obtain ⟨n, u, e⟩ := g
  by_cases he : e = 0
  case neg =>
    have d : (!decide (e = 0)) = true := by simp [he]
    have he : e ≠ 0 := he
    simp only [if_pos he]
    simp -implicitDefEqProofs only [pkA, ↓reduceIte, Nat.reduceEqDiff, Nat.reduceAdd, Nat.reduceBEq, d]
    refine retV_three ?_ ?_ ?_ <;> rfl
  subst he
  have h00 : ¬ ((0 : Int) ≠ 0) := by simp
  have d00 : (!decide ((0 : Int) = 0)) = false := rfl
  simp only [if_neg h00]
  obtain ⟨k, rfl, hk, _, _⟩ := cnt_ok hg
  rw [Int.toNat_natCast]
  generalize hT : rdI b k u [] = T
  simp -implicitDefEqProofs only [pkA, ↓reduceIte, Nat.reduceEqDiff, Nat.reduceAdd, Nat.reduceBEq, decide_true]
  refine run_loop (fun x : Nat × Nat × List Int × Option (TypeId × Nat) => match x with | (j, at_, acc, E) => hdS [(0, bv b), (5, i64 (k : Nat)), (6, i64 (at_ : Nat)), (8, .ow E (mC ic acc)), (9, i64 (j : Nat))] []) (fun x => k - x.1)
    (fun x => x.1 ≤ k ∧ x.2.1 ≤ b.length ∧ x.2.2.1.length = x.1 ∧ (x.2.2.2 = none ∨ x.2.2.2 = EI) ∧ rdI b (k - x.1) x.2.1 x.2.2.1 = T) (0, u, [], none) ⟨Nat.zero_le _, (by omega : u ≤ b.length), rfl, Or.inl rfl, hT⟩ ?_ ?_
  · refine le_hd rfl (Nat.zero_le _) (by simp) (by simp [FL, up_apply]; rfl) (by simp [BL])
  rintro ⟨j, at_, acc, E⟩ ⟨hj, hat, hacc, hE, hR⟩ R hnorm hexit hret
  simp only at hj hat hacc hE hR
  simp -implicitDefEqProofs only [pkA, ↓reduceIte, Nat.reduceEqDiff, Nat.reduceAdd, Nat.reduceBEq]
  refine vcond_of (fun hp => ?_) (fun hz => ?_)
  · have hp : j < k := by have := of_decide_eq_true hp; omega
    have hw1 := wrap_of (n := (j : Int) + 1) (k := j + 1) (by omega) (by omega)
    have hkj : k - j = (k - (j + 1)) + 1 := by omega
    rw [hkj] at hR
    have hr := rGetInt_ok (G := G) (b.drop at_) (by rw [List.length_drop]; omega)
    unfold rdI at hR
    generalize hg2 : getI (b.drop at_) = g at hR hr
    obtain ⟨x, w, e⟩ := g
    obtain ⟨hu2, _, _, _⟩ := getI_used hg2
    rw [List.length_drop] at hu2
    simp only at hR
    simp -implicitDefEqProofs only [pkA, ↓reduceIte, Nat.reduceEqDiff, Nat.reduceAdd, Nat.reduceBEq]
    refine sl_bC ti_71 rfl ti_5 rfl (a := at_) (b := b.length) rfl rfl hat (Nat.le_refl _) ?_
    rw [List.take_length]
    simp -implicitDefEqProofs only [pkA, ↓reduceIte, Nat.reduceAdd, Nat.reduceBEq]
    refine call_fn rfl hr (fun _ => rfl) ?_
    simp -implicitDefEqProofs only [pkA, ↓reduceIte, Nat.reduceEqDiff, Nat.reduceAdd, Nat.reduceBEq]
    refine vcond_of (fun he => ?_) (fun he => ?_)
    · have he : e ≠ 0 := by simpa using he
      rw [if_pos he] at hR
      rw [← hR] at hret
      simp -implicitDefEqProofs only [pkA, ↓reduceIte, Nat.reduceEqDiff, Nat.reduceAdd, Nat.reduceBEq]
      refine hret _ ?_
      simp -implicitDefEqProofs only [pkA]
      refine retV_three ?_ ?_ ?_ <;> rfl
    have he : e = 0 := by simpa using he
    subst he
    rw [if_neg (by simp)] at hR
    have hw2 := wrap_of (n := (at_ : Int) + (w : Int)) (k := at_ + w) (by omega) (by omega)
    simp -implicitDefEqProofs only [pkA, ptA, ↓reduceIte, Nat.reduceEqDiff, Nat.reduceAdd, Nat.reduceBEq, Nat.reduceMul, Nat.reduceLeDiff, Nat.zero_add, decide_true]
    refine apI hE (by omega) ?_
    simp -implicitDefEqProofs only [pkA, ↓reduceIte, Nat.reduceEqDiff, Nat.reduceAdd, Nat.reduceBEq, hw1, hw2]
    refine hnorm (j + 1, at_ + w, acc ++ [x], EI) _ ⟨hp, (by omega : at_ + w ≤ b.length), by simp [hacc], Or.inr rfl, hR⟩ (show k - (j + 1) < k - j by omega) (le_hd rfl (Nat.zero_le _) (by simp) (by simp [FL, up_apply]) (by simp [BL]))
  have hz : j = k := by have := dge hz; omega
  subst hz
  rw [Nat.sub_self] at hR
  simp -implicitDefEqProofs only [pkA]
  refine hexit _ _ ?_
  rw [← hR]
  simp -implicitDefEqProofs only [pkA, ↓reduceIte, Nat.reduceEqDiff, Nat.reduceAdd, Nat.reduceBEq]
  refine retV_three ?_ ?_ ?_ <;> rfl
end Go.Proofs.YtidlohfkfdeaiaaDoor
