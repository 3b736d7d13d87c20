/- The specification's layer 1: an integer's encoding; equal bytes. -/
import Derived.Test.YtidlohfkfdeaiaaDoorVlW5
set_option linter.unusedSimpArgs false
set_option linter.unusedVariables false
namespace Go.Proofs.YtidlohfkfdeaiaaDoor
open Go Go.Vl

variable {G : Gl}
theorem digF_more : ∀ (f m : Nat), m < 256 ^ f → digF (f + 1) m = digF f m
  | 0, m, h => by
    have : m = 0 := by simpa using h
    subst this; rfl
  | f + 1, m, h => by
    rw [digF]
    conv => rhs; rw [digF]
    split
    · rfl
    · rw [digF_more f (m / 256) (by rw [Nat.pow_succ] at h; omega)]
theorem digs_step {m : Nat} (h0 : 0 < m) (h : m < 18446744073709551616) : digs m = digs (m / 256) ++ [UInt8.ofNat m] := by
  have e : digs m = if m = 0 then [] else digF 7 (m / 256) ++ [UInt8.ofNat m] := rfl
  rw [e, if_neg (by omega)]
  unfold digs
  rw [digF_more 7 (m / 256) (by omega)]
theorem c_i8 {n : Nat} {K : V → Prop} : vconv Tryd.prog 3 5 (i64 (n : Int)) K = K (.c (bc (UInt8.ofNat n))) := conv_q8 ti_3 ti_5 rfl
theorem ofNat_mod (m : Nat) : UInt8.ofNat (m % 256) = UInt8.ofNat m := by
  apply UInt8.toNat_inj.1; rw [UInt8.toNat_ofNat', UInt8.toNat_ofNat']; omega
theorem v_rem {m : Nat} {K : V → Prop} : vint .rem .i64 (m : Int) 256 K = K (i64 ((m % 256 : Nat) : Int)) := by
  have e : (m : Int).tmod 256 = ((m % 256 : Nat) : Int) := by rw [Int.tmod_eq_emod_of_nonneg (Int.natCast_nonneg m)]; rfl
  show ((256 : Int) ≠ 0 ∧ K (.c (.lit (.int .i64 ((m : Int).tmod 256))))) = _
  rw [e]
  have : ((256 : Int) ≠ 0) = True := by simp
  rw [this, true_and]
theorem v_quo {m : Nat} (h : m < 9223372036854775808) {K : V → Prop} : vint .quo .i64 (m : Int) 256 K = K (i64 ((m / 256 : Nat) : Int)) := by
  have e : IntKind.i64.wrap ((m : Int).tdiv 256) = ((m / 256 : Nat) : Int) := by
    rw [Int.tdiv_eq_ediv_of_nonneg (Int.natCast_nonneg m)]
    exact wrap_of (by rfl) (by omega)
  show ((256 : Int) ≠ 0 ∧ K (.c (.lit (.int .i64 (IntKind.i64.wrap ((m : Int).tdiv 256)))))) = _
  rw [e]
  have : ((256 : Int) ≠ 0) = True := by simp
  rw [this, true_and]
theorem w_255 {x : UInt8} : IntKind.u8.wrap (255 - (x.toNat : Int)) = ((x ^^^ 255).toNat : Int) := by
  have h := x.toNat_lt
  rw [xor_255]
  have hb : IntKind.u8.bits = 8 := rfl
  have hs : IntKind.u8.signed = false := rfl
  unfold IntKind.wrap
  simp only [hb, hs, Bool.false_and, Bool.false_eq_true, if_false]
  omega
set_option maxRecDepth 100000 in
set_option maxHeartbeats 2500000 in
theorem rInt_ok (n : Int) (hn : I64 n) : FnOK Tryd.prog G 69 [i64 n] (.ow EB (bC (encI n))) := by
  refine FnOK_by (rs := [.tmp 2]) false [16, 28, 34, 54, 58] mixed Tryd.func69 rfl rfl rfl rfl (by kernel_rfl) (by simp) rfl rfl ?_
  have hmag := magOf_lt hn
  have hI : -9223372036854775808 ≤ n ∧ n ≤ 9223372036854775807 := hn
  simp -implicitDefEqProofs only [pkA, ↓reduceIte, Nat.reduceEqDiff, Nat.reduceAdd, Nat.reduceBEq, Nat.zero_add]
  refine join_cond (fun s' => ∃ fr, s' = ⟨fr, fun _ => [], 0⟩ ∧ fr 0 = i64 n ∧ fr 3 = i64 (magOf n : Int)) ?_ ?_
  case refine_2 =>
    intro R hR _
    refine vcond_of (fun h => ?_) (fun h => ?_)
    · have h : n < 0 := of_decide_eq_true h
      have hw : IntKind.i64.wrap (-1 - n) = (magOf n : Int) := by
        have hm : (magOf n : Int) = -1 - n := by unfold magOf; rw [if_pos h]; omega
        rw [← hm]; exact wrap_of rfl (by omega)
      simp -implicitDefEqProofs only [pkA, ↓reduceIte, Nat.reduceEqDiff, Nat.reduceAdd, Nat.reduceBEq, hw]
      exact hR _ ⟨_, rfl, by simp [up_apply], by simp []⟩
    · have h : ¬ n < 0 := of_decide_eq_false h
      have hm : (magOf n : Int) = n := by unfold magOf; rw [if_neg h]; omega
      simp -implicitDefEqProofs only [pkA]
      exact hR _ ⟨_, rfl, by simp [up_apply], by simp [up_apply, hm]⟩
  rintro _ ⟨fr, rfl, h0, h3⟩
  have hE : encI n = (UInt8.ofNat (128 + (digs (magOf n)).length) ^^^ flipOf n) :: (digs (magOf n)).map (· ^^^ flipOf n) := rfl
  rw [hE]
  have hdl := digs_len (magOf n)
  generalize hd : digs (magOf n) = d at *
  generalize magOf n = m0 at *
  simp -implicitDefEqProofs only [pkA, ↓reduceIte, Nat.reduceAdd, Nat.reduceBEq]
  refine join_loop 0 (fun s' => ∃ fr E, s' = ⟨fr, fun _ => [], 0⟩ ∧ (E = none ∨ E = EB) ∧ fr 0 = i64 n ∧ fr 4 = .ow E (bC d.reverse)) ?_ ?_
  case refine_2 =>
    intro R0 hR0 _
    refine run_loop (fun y : Nat × B × Option (TypeId × Nat) => hdS [(0, i64 n), (3, i64 (y.1 : Int)), (4, .ow y.2.2 (bC y.2.1))] []) (fun y => y.1) (fun y => y.1 ≤ m0 ∧ d = digs y.1 ++ y.2.1.reverse ∧ (y.2.2 = none ∨ y.2.2 = EB)) (m0, [], none) ⟨Nat.le_refl _, by simp [hd], Or.inl rfl⟩ ?_ ?_
    · refine le_hd rfl (Nat.zero_le _) (by simp) (by simp [FL, up_apply, h3, h0]; rfl) trivial
    rintro ⟨m, D, E⟩ ⟨hm, hD, hE2⟩ R hnorm hexit hret
    simp only at hm hD hE2
    simp -implicitDefEqProofs only [pkA, ↓reduceIte, Nat.reduceEqDiff, Nat.reduceAdd, Nat.reduceBEq]
    refine vcond_of (fun hp => ?_) (fun hz => ?_)
    · have hp : 0 < m := by have := of_decide_eq_true hp; omega
      have hDl : D.length ≤ 8 := by have := congrArg List.length hD; simp at this; omega
      simp -implicitDefEqProofs only [pkA, ptA, ↓reduceIte, Nat.reduceEqDiff, Nat.reduceAdd, Nat.reduceBEq, Nat.reduceMul, Nat.reduceLeDiff, Nat.zero_add, v_rem, c_i8]
      refine ap1 hE2 (by omega) ?_
      simp -implicitDefEqProofs only [pkA, ↓reduceIte, Nat.reduceEqDiff, Nat.reduceAdd, Nat.reduceBEq, v_quo (show m < 9223372036854775808 by omega)]
      refine hnorm (m / 256, D ++ [UInt8.ofNat (m % 256)], EB) _ ⟨by simp only; omega, ?_, Or.inr rfl⟩ (show m / 256 < m by omega) (le_hd rfl (Nat.zero_le _) (by simp) (by simp [FL, up_apply]) trivial)
      rw [hD, digs_step hp (by omega), ofNat_mod]; simp
    · have hz : m = 0 := by have := of_decide_eq_false hz; omega
      subst hz
      simp -implicitDefEqProofs only [pkA]
      refine hexit _ _ (hR0 _ ⟨_, E, rfl, hE2, by simp [up_apply], ?_⟩)
      rw [hD, digs_zero]; simp [up_apply]
  rintro _ ⟨fr, E, rfl, hE2, h0, h4⟩
  have hdr : ((bC d.reverse).length : Int) = (d.length : Nat) := by rw [bC_len, List.length_reverse]
  simp -implicitDefEqProofs only [pkA, ptA, ↓reduceIte, Nat.reduceEqDiff, Nat.reduceAdd, Nat.reduceBEq, h0, h4, hdr]
  refine join_cond (fun s' => ∃ fr, s' = ⟨fr, fun _ => [], 0⟩ ∧ fr 0 = i64 n ∧ fr 4 = .ow E (bC d.reverse) ∧ fr 5 = i64 (d.length : Int) ∧ fr 6 = .ow EB (bC [UInt8.ofNat (128 + d.length) ^^^ flipOf n])) ?_ ?_
  case refine_2 =>
    intro R hR _
    obtain ⟨hs1, _⟩ := head_small d.length hdl
    refine vcond_of (fun h => ?_) (fun h => ?_)
    · have h : ¬ n < 0 := by have := of_decide_eq_true h; omega
      have hf : flipOf n = 0 := by simp [flipOf, h]
      have hw := wrap_of (n := 128 + (d.length : Int)) (k := 128 + d.length) (by omega) (by omega)
      simp -implicitDefEqProofs only [pkA, ptA, ↓reduceIte, Nat.reduceEqDiff, Nat.reduceAdd, Nat.reduceBEq, Nat.reduceMul, Nat.reduceLeDiff, Nat.zero_add, hw, c_i8]
      refine ap1 (l := []) (Or.inl rfl) (by simp) ?_
      simp -implicitDefEqProofs only [pkA, ↓reduceIte, Nat.reduceEqDiff]
      refine hR _ ⟨_, rfl, by simp [up_apply, h0], by simp [up_apply, h4], by simp [up_apply], ?_⟩
      rw [hf, UInt8.xor_zero]; simp []
    · have h : n < 0 := by have := of_decide_eq_false h; omega
      have hf : flipOf n = 255 := by simp [flipOf, h]
      have hw := wrap_of (n := 127 - (d.length : Int)) (k := 127 - d.length) (by omega) (by omega)
      have hx : UInt8.ofNat (127 - d.length) = UInt8.ofNat (128 + d.length) ^^^ 255 := by
        apply UInt8.toNat_inj.1; rw [hs1, UInt8.toNat_ofNat']; omega
      simp -implicitDefEqProofs only [pkA, ptA, ↓reduceIte, Nat.reduceEqDiff, Nat.reduceAdd, Nat.reduceBEq, Nat.reduceMul, Nat.reduceLeDiff, Nat.zero_add, hw, c_i8]
      refine ap1 (l := []) (Or.inl rfl) (by simp) ?_
      simp -implicitDefEqProofs only [pkA, ↓reduceIte, Nat.reduceEqDiff]
      refine hR _ ⟨_, rfl, by simp [up_apply, h0], by simp [up_apply, h4], by simp [up_apply], ?_⟩
      rw [hf, ← hx]; simp []
  rintro _ ⟨fr, rfl, h0, h4, h5, h6⟩
  have hwd : IntKind.i64.wrap ((d.length : Int) - 1) = (d.length : Int) - 1 := by rw [IntKind.wrap_i64]; omega
  simp -implicitDefEqProofs only [pkA, ↓reduceIte, Nat.reduceAdd, Nat.reduceBEq, h5, hwd]
  generalize hff : flipOf n = f at *
  refine run_loop (fun j : Nat => hdS [(0, i64 n), (4, .ow E (bC d.reverse)), (6, .ow EB (bC ((UInt8.ofNat (128 + d.length) ^^^ f) :: (d.map (· ^^^ f)).take j))), (7, i64 ((d.length : Int) - 1 - j))] []) (fun j => d.length - j) (fun j => j ≤ d.length) 0 (Nat.zero_le _) ?_ ?_
  · refine le_hd rfl (Nat.zero_le _) (by simp) (by simp [FL, up_apply, h0, h4, h6]) trivial
  rintro j hj R hnorm hexit hret
  simp -implicitDefEqProofs only [pkA, ↓reduceIte, Nat.reduceEqDiff, Nat.reduceAdd, Nat.reduceBEq]
  refine vcond_of (fun hp => ?_) (fun hz => ?_)
  · have hp : j < d.length := by have := of_decide_eq_true hp; omega
    have hw3 : IntKind.i64.wrap ((d.length : Int) - 1 - j - 1) = (d.length : Int) - 1 - (j + 1 : Nat) := by rw [IntKind.wrap_i64]; omega
    obtain ⟨x, hx⟩ : ∃ x, d[j]? = some x := ⟨d[j], List.getElem?_eq_getElem hp⟩
    have hxr : d.reverse[d.length - 1 - j]? = some x := by rw [List.getElem?_reverse (by omega), show d.length - 1 - (d.length - 1 - j) = j by omega, hx]
    have hat : (d.map (· ^^^ f))[j]? = some (x ^^^ f) := by rw [List.getElem?_map, hx]; rfl
    simp -implicitDefEqProofs only [pkA, ↓reduceIte, Nat.reduceEqDiff, Nat.reduceAdd, Nat.reduceBEq]
    refine ia_bC ti_71 rfl ti_5 rfl (k := d.length - 1 - j) (by omega) hxr ?_
    simp -implicitDefEqProofs only [pkA, ptA, ↓reduceIte, Nat.reduceEqDiff, Nat.reduceAdd, Nat.reduceBEq]
    have hlen : ((UInt8.ofNat (128 + d.length) ^^^ f) :: (d.map (· ^^^ f)).take j).length + 1 ≤ 140737488355328 := by simp only [List.length_cons, List.length_take]; omega
    refine vcond_of (fun h => ?_) (fun h => ?_)
    · have h : n < 0 := of_decide_eq_true h
      have hf : f = 255 := by rw [← hff]; simp [flipOf, h]
      have hx255 : x ^^^ 255 = x ^^^ f := by rw [hf]
      simp -implicitDefEqProofs only [pkA, ptA, ↓reduceIte, Nat.reduceEqDiff, Nat.reduceAdd, Nat.reduceBEq, Nat.reduceMul, Nat.reduceLeDiff, Nat.zero_add, w_255, hx255]
      refine ap1 (Or.inr rfl) hlen ?_
      simp -implicitDefEqProofs only [pkA, ↓reduceIte, Nat.reduceEqDiff, Nat.reduceAdd, Nat.reduceBEq, hw3]
      refine hnorm (j + 1) _ hp (by omega) (le_hd rfl (Nat.zero_le _) (by simp) ?_ trivial)
      rw [take_snoc hat]
      simp [FL, up_apply]
    · have h : ¬ n < 0 := of_decide_eq_false h
      have hf : f = 0 := by rw [← hff]; simp [flipOf, h]
      rw [hf, UInt8.xor_zero, ← hf] at hat
      simp -implicitDefEqProofs only [pkA, ptA, ↓reduceIte, Nat.reduceEqDiff, Nat.reduceAdd, Nat.reduceBEq, Nat.reduceMul, Nat.reduceLeDiff, Nat.zero_add]
      refine ap1 (Or.inr rfl) hlen ?_
      simp -implicitDefEqProofs only [pkA, ↓reduceIte, Nat.reduceEqDiff, Nat.reduceAdd, Nat.reduceBEq, hw3]
      refine hnorm (j + 1) _ hp (by omega) (le_hd rfl (Nat.zero_le _) (by simp) ?_ trivial)
      rw [take_snoc hat]
      simp [FL, up_apply]
  · have hz : j = d.length := by have := of_decide_eq_false hz; omega
    subst hz
    simp -implicitDefEqProofs only [pkA]
    refine hexit _ _ ?_
    rw [List.take_of_length_le (by simp)]
    simp -implicitDefEqProofs only [pkA, ↓reduceIte, Nat.reduceEqDiff, Nat.reduceAdd, Nat.reduceBEq]
set_option maxRecDepth 100000 in
theorem rSame1_ok (a b : B) (ha : a.length ≤ 1000000000) : FnOK Tryd.prog G 91 [bv a, bv b] (bo (decide (a = b))) := by
  refine FnOK_by (rs := [.tmp 4]) false [] mixed Tryd.func91 rfl rfl rfl rfl (by kernel_rfl) (by simp) rfl rfl ?_
  simp -implicitDefEqProofs only [pkA, ptA, ↓reduceIte, Nat.reduceEqDiff, Nat.reduceAdd, Nat.zero_add, bC_len]
  refine vcond_of (fun h => ?_) (fun h => ?_)
  · have h : a ≠ b := by rintro rfl; simp at h
    simp -implicitDefEqProofs only [pkA, ↓reduceIte, Nat.reduceAdd]
    rw [decide_eq_false h]
  have hl : a.length = b.length := by
    have h := of_decide_eq_false (by simpa using h : decide ((a.length : Int) ≠ (b.length : Int)) = false)
    omega
  simp -implicitDefEqProofs only [pkA, ↓reduceIte, Nat.reduceAdd]
  refine run_loop (fun i : Nat => hdS [(0, bv a), (1, bv b), (5, i64 (i : Nat))] []) (fun i => a.length - i) (fun i => i ≤ a.length ∧ a.take i = b.take i) 0 ⟨Nat.zero_le _, rfl⟩ ?_ ?_
  · exact le_hd rfl (Nat.zero_le _) (by simp) (by simp [FL, up_apply]) trivial
  rintro i ⟨hi, he⟩ R hnorm hexit hret
  simp -implicitDefEqProofs only [pkA, ptA, ↓reduceIte, Nat.reduceEqDiff, Nat.reduceAdd, bC_len]
  refine vcond_of (fun hp => ?_) (fun hz => ?_)
  · have hp : i < a.length := by have := dlt hp; omega
    have hwi := wrap_of (n := (i : Int) + 1) (k := i + 1) (by omega) (by omega)
    obtain ⟨x, hx⟩ : ∃ x, a[i]? = some x := ⟨a[i], List.getElem?_eq_getElem hp⟩
    obtain ⟨y, hy⟩ : ∃ y, b[i]? = some y := ⟨b[i]'(by omega), List.getElem?_eq_getElem _⟩
    simp -implicitDefEqProofs only [pkA, ↓reduceIte, Nat.reduceEqDiff, Nat.reduceAdd]
    refine ia_bC ti_71 rfl ti_5 rfl rfl hx ?_
    simp -implicitDefEqProofs only [pkA, ptA, ↓reduceIte, Nat.reduceEqDiff, Nat.reduceAdd]
    refine ia_bC ti_71 rfl ti_5 rfl rfl hy ?_
    simp -implicitDefEqProofs only [pkA, ptA, ↓reduceIte, Nat.reduceEqDiff, Nat.reduceAdd]
    refine vcond_of (fun h => ?_) (fun h => ?_)
    · have hxy : x ≠ y := by rintro rfl; simp at h
      have hab : a ≠ b := by rintro rfl; rw [hx] at hy; exact hxy (Option.some.inj hy)
      simp -implicitDefEqProofs only [pkA, ↓reduceIte, Nat.reduceAdd]
      refine hret _ ?_
      rw [decide_eq_false hab]
      simp -implicitDefEqProofs only [pkA, ↓reduceIte]
    · have hxy : x = y := by
        have h : (x.toNat : Int) = y.toNat := by simpa using h
        exact UInt8.toNat_inj.1 (by omega)
      subst hxy
      simp -implicitDefEqProofs only [pkA, ↓reduceIte, Nat.reduceEqDiff, Nat.reduceAdd, decide_true, hwi]
      exact hnorm (i + 1) _ ⟨hp, by rw [take_snoc hx, take_snoc hy, he]⟩ (by omega) (le_hd rfl (Nat.zero_le _) (by simp) (by simp [FL, up_apply]) trivial)
  · have hz : i = a.length := by have := dge hz; omega
    subst hz
    have hab : a = b := by rw [List.take_length] at he; rw [he, hl, List.take_length]
    simp -implicitDefEqProofs only [pkA]
    refine hexit _ _ ?_
    simp -implicitDefEqProofs only [pkA, ↓reduceIte, Nat.reduceAdd]
    rw [decide_eq_true hab]
end Go.Proofs.YtidlohfkfdeaiaaDoor

/- The specification's layer 1: an integer is read. -/
namespace Go.Proofs.YtidlohfkfdeaiaaDoor
open Go Go.Vl

variable {G : Gl}
/-- What the specification asks of an integer's encoding. -/
theorem getI_cons (c : UInt8) (r : B) {f : UInt8} {k : Nat} {d : B} {n : Int} (hf : flipB c = f) (hk : (c ^^^ f).toNat - 128 = k) (hd : (r.take k).map (· ^^^ f) = d) (hn : (if c.toNat < 128 then -1 - (val d : Int) else val d) = n) :
    getI (c :: r) = if 8 < k then (0, 0, 6) else if r.length < k then (0, 0, 5) else if 9223372036854775808 ≤ val d then (0, 0, 6) else if encI n = c :: r.take k then (n, k + 1, 0) else (0, 0, 6) := by
  have e : getI (c :: r) = if 8 < (c ^^^ flipB c).toNat - 128 then (0, 0, 6) else if r.length < (c ^^^ flipB c).toNat - 128 then (0, 0, 5) else
    if ((r.take ((c ^^^ flipB c).toNat - 128)).map (· ^^^ flipB c)).head? = some 0 then (0, 0, 6) else if 9223372036854775808 ≤ val ((r.take ((c ^^^ flipB c).toNat - 128)).map (· ^^^ flipB c)) then (0, 0, 6) else
    (if c.toNat < 128 then -1 - (val ((r.take ((c ^^^ flipB c).toNat - 128)).map (· ^^^ flipB c)) : Int) else val ((r.take ((c ^^^ flipB c).toNat - 128)).map (· ^^^ flipB c)), (c ^^^ flipB c).toNat - 128 + 1, 0) := rfl
  rw [e, hf, hk, hd, hn]
  split
  · rfl
  rename_i h8
  split
  · rfl
  rename_i hr
  have hlen : d.length = k := by rw [← hd, List.length_map, List.length_take]; omega
  have hback : d.map (· ^^^ f) = r.take k := by rw [← hd, map_flip]
  by_cases hv : 9223372036854775808 ≤ val d
  · simp only [hv, if_true]
    split <;> rfl
  simp only [hv, if_false]
  have hmag : magOf n = val d := by
    rw [← hn]; unfold magOf
    by_cases hcl : c.toNat < 128
    · rw [if_pos hcl, if_pos (by omega)]; omega
    · rw [if_neg hcl, if_neg (by omega)]; omega
  have hneg : (n < 0) = (c.toNat < 128) := by
    rw [← hn]; split <;> simp_all <;> omega
  have hflip : flipOf n = f := by unfold flipOf; rw [← hf]; unfold flipB; simp only [hneg]
  have hge := flipB_ge c
  rw [hf] at hge
  have hhead : UInt8.ofNat (128 + k) ^^^ f = c := by
    have : UInt8.ofNat (128 + k) = c ^^^ f := by
      apply UInt8.toNat_inj.1
      rw [UInt8.toNat_ofNat']; omega
    rw [this, xor_flip]
  by_cases hz : d.head? = some 0
  · rw [if_pos hz]
    refine (if_neg fun he => ?_).symm
    unfold encI at he
    rw [hmag, hflip, ← hback] at he
    have h2 := (List.cons.inj he).2
    have h3 : digs (val d) = d := by
      have := congrArg (List.map (· ^^^ f)) h2
      rwa [map_flip, map_flip] at this
    exact digs_head (m := val d) (by omega) (by rw [h3]; exact hz)
  · rw [if_neg hz]
    refine (if_pos ?_).symm
    have hdd := digs_of (l := d) (by omega) hz
    unfold encI
    rw [hmag, hdd, hflip, hlen, hhead, hback]
theorem k_neg {c : UInt8} (h : c.toNat < 128) : flipB c = 255 ∧ (c ^^^ 255).toNat - 128 = 127 - c.toNat := by
  refine ⟨by unfold flipB; rw [if_pos h], ?_⟩
  rw [xor_255]; omega
theorem k_pos {c : UInt8} (h : ¬ c.toNat < 128) : flipB c = 0 ∧ (c ^^^ 0).toNat - 128 = c.toNat - 128 := by
  refine ⟨by unfold flipB; rw [if_neg h], ?_⟩
  rw [UInt8.xor_zero]
theorem val_mono (a b : B) : val a ≤ val (a ++ b) := by
  induction b using snocInd with
  | nil => simp
  | snoc l c ih => rw [← List.append_assoc, val_snoc]; omega
theorem val_take (d : B) (i : Nat) : val (d.take i) ≤ val d := by
  have := val_mono (d.take i) (d.drop i)
  rwa [List.take_append_drop] at this
set_option maxRecDepth 100000 in
set_option maxHeartbeats 2500000 in
theorem rGetInt_ok (b : B) (hb : b.length ≤ 1000000000) : FnOK Tryd.prog G 67 [bv b] (r3 (getI b)) := by
  refine FnOK_by (rs := [.tmp 2, .tmp 3, .tmp 4]) false [] mixed Tryd.func67 rfl rfl rfl rfl (by kernel_rfl) (by simp) rfl rfl ?_
  simp -implicitDefEqProofs only [pkA, ptA, ↓reduceIte, Nat.reduceEqDiff, Nat.reduceAdd, Nat.zero_add, bC_len]
  cases b with
  | nil =>
    refine vcond_of (fun _ => ?_) (fun h => ?_)
    · simp -implicitDefEqProofs only [pkA, ↓reduceIte, Nat.reduceAdd]
      refine retV_three ?_ ?_ ?_ <;> simp -implicitDefEqProofs only [pkA, ↓reduceIte, Nat.reduceEqDiff] <;> rfl
    · simp at h
  | cons c r =>
  refine vcond_of (fun h => ?_) (fun _ => ?_)
  · exact absurd (of_decide_eq_true h) (by rw [List.length_cons]; omega)
  have hc := c.toNat_lt
  have hgi := fun f k d n => @getI_cons c r f k d n
  simp -implicitDefEqProofs only [pkA, ↓reduceIte, Nat.reduceEqDiff, Nat.reduceAdd]
  refine ia_bC ti_71 rfl ti_5 rfl (k := 0) rfl rfl ?_
  simp -implicitDefEqProofs only [pkA, ptA, ↓reduceIte, Nat.reduceAdd, conv_b64]
  cases d1 : decide ((c.toNat : Int) < 119)
  case true =>
    have h1 : (c.toNat : Int) < 119 := of_decide_eq_true d1
    obtain ⟨hf, hk⟩ := k_neg (c := c) (by omega)
    rw [hgi _ _ _ _ hf hk rfl rfl, if_pos (by omega)]
    simp -implicitDefEqProofs only [pkA, ↓reduceIte, Nat.reduceEqDiff, Nat.reduceAdd]
    refine retV_three ?_ ?_ ?_ <;> rfl
  have h1 : ¬ (c.toNat : Int) < 119 := of_decide_eq_false d1
  simp -implicitDefEqProofs only [pkA, ↓reduceIte, Nat.reduceEqDiff]
  cases d2 : decide ((136 : Int) < (c.toNat : Int))
  case true =>
    have h2 : (136 : Int) < (c.toNat : Int) := of_decide_eq_true d2
    obtain ⟨hf, hk⟩ := k_pos (c := c) (by omega)
    rw [hgi _ _ _ _ hf hk rfl rfl, if_pos (by omega)]
    simp -implicitDefEqProofs only [pkA, ↓reduceIte, Nat.reduceAdd]
    refine retV_three ?_ ?_ ?_ <;> rfl
  have h2 : ¬ (136 : Int) < (c.toNat : Int) := of_decide_eq_false d2
  have hk8 : ∃ f k, flipB c = f ∧ (c ^^^ f).toNat - 128 = k ∧ k ≤ 8 ∧ ((c.toNat < 128 ∧ k = 127 - c.toNat ∧ f = 255) ∨ (¬ c.toNat < 128 ∧ k = c.toNat - 128 ∧ f = 0)) := by
    by_cases h : c.toNat < 128
    · obtain ⟨hf, hk⟩ := k_neg h
      exact ⟨_, _, hf, hk, by omega, .inl ⟨h, rfl, rfl⟩⟩
    · obtain ⟨hf, hk⟩ := k_pos h
      exact ⟨_, _, hf, hk, by omega, .inr ⟨h, rfl, rfl⟩⟩
  obtain ⟨f, k, hf, hk, hk8, hcs⟩ := hk8
  rw [hgi _ _ _ _ hf hk rfl rfl, if_neg (by omega)]
  have hw128 : IntKind.i64.wrap ((c.toNat : Int) - 128) = (c.toNat : Int) - 128 := by rw [IntKind.wrap_i64]; omega
  simp -implicitDefEqProofs only [pkA, ↓reduceIte, Nat.reduceEqDiff, Nat.reduceAdd, hw128]
  refine join_cond (fun s' => ∃ fr, s' = ⟨fr, fun _ => [], 0⟩ ∧ fr 0 = bv (c :: r) ∧ fr 5 = i64 (c.toNat : Int) ∧ fr 6 = i64 (k : Int)) ?_ ?_
  case refine_2 =>
    intro R hR _
    refine vcond_of (fun h => ?_) (fun h => ?_)
    · have h : c.toNat < 128 := by have := of_decide_eq_true h; omega
      have hw := wrap_of (n := 127 - (c.toNat : Int)) (k := k) (by omega) (by omega)
      simp -implicitDefEqProofs only [pkA, ↓reduceIte, Nat.reduceEqDiff, Nat.reduceAdd, hw]
      exact hR _ ⟨_, rfl, by simp [up_apply], by simp [up_apply], by simp []⟩
    · have h : ¬ c.toNat < 128 := by have := of_decide_eq_false h; omega
      simp -implicitDefEqProofs only [pkA]
      exact hR _ ⟨_, rfl, by simp [up_apply], by simp [up_apply], by simp [up_apply]; omega⟩
  rintro _ ⟨fr, rfl, h0, h5, h6⟩
  have hwk := wrap_of (n := (k : Int) + 1) (k := k + 1) (by omega) (by omega)
  simp -implicitDefEqProofs only [pkA, ptA, ↓reduceIte, Nat.reduceEqDiff, Nat.reduceAdd, h0, h6, bC_len, hwk]
  refine vcond_of (fun h => ?_) (fun h => ?_)
  · have h : r.length < k := by have := of_decide_eq_true h; omega
    rw [if_pos h]
    simp -implicitDefEqProofs only [pkA, ↓reduceIte, Nat.reduceAdd]
    refine retV_three ?_ ?_ ?_ <;> rfl
  have hr : ¬ r.length < k := by have := of_decide_eq_false h; omega
  rw [if_neg hr]
  have hlen : ((r.take k).map (· ^^^ f)).length = k := by rw [List.length_map, List.length_take]; omega
  have hdat : ∀ i x, r[i]? = some x → i < k → ((r.take k).map (· ^^^ f))[i]? = some (x ^^^ f) := fun i x hx hi => by
    rw [List.getElem?_map, List.getElem?_take, if_pos hi, hx]; rfl
  generalize (r.take k).map (· ^^^ f) = d at *
  simp -implicitDefEqProofs only [pkA, ↓reduceIte, Nat.reduceAdd]
  have hdt : ∀ i x, d[i]? = some x → val (d.take (i + 1)) = 256 * val (d.take i) + x.toNat := fun i x hx => by rw [take_snoc hx, val_snoc]
  refine join_loop 0 (fun s' => ∃ fr, s' = ⟨fr, fun _ => [], 0⟩ ∧ fr 0 = bv (c :: r) ∧ fr 5 = i64 (c.toNat : Int) ∧ fr 6 = i64 (k : Int) ∧ fr 7 = i64 (val d : Int) ∧ val d < 9223372036854775808) ?_ ?_
  case refine_2 =>
    intro R0 hR0 hret0
    refine run_loop (fun i : Nat => hdS [(0, bv (c :: r)), (5, i64 (c.toNat : Int)), (6, i64 (k : Int)), (7, i64 (val (d.take i) : Int)), (8, i64 ((i + 1 : Nat) : Int))] []) (fun i => k - i) (fun i => i ≤ k ∧ val (d.take i) < 9223372036854775808) 0 ⟨Nat.zero_le _, by simp [val_nil]⟩ ?_ ?_
    · refine le_hd rfl (Nat.zero_le _) (by simp) (by simp [FL, up_apply, h0, h5, h6, val_nil]) trivial
    rintro i ⟨hi, hv⟩ R hnorm hexit hret
    simp -implicitDefEqProofs only [pkA, ↓reduceIte, Nat.reduceEqDiff, Nat.reduceAdd]
    refine vcond_of (fun hp => ?_) (fun hz => ?_)
    · have hp : i < k := by have := of_decide_eq_true hp; omega
      obtain ⟨x, hx⟩ : ∃ x, r[i]? = some x := ⟨r[i]'(by omega), List.getElem?_eq_getElem _⟩
      have hdx := hdat i x hx hp
      have hxt := x.toNat_lt
      have hft := (x ^^^ f).toNat_lt
      have hwi := wrap_of (n := ((i + 1 : Nat) : Int) + 1) (k := i + 1 + 1) (by omega) (by omega)
      simp -implicitDefEqProofs only [pkA, ↓reduceIte, Nat.reduceEqDiff, Nat.reduceAdd]
      refine ia_bC ti_71 rfl ti_5 rfl (k := i + 1) rfl (by rw [List.getElem?_cons_succ]; exact hx) ?_
      simp -implicitDefEqProofs only [pkA, ptA, ↓reduceIte, Nat.reduceEqDiff, Nat.reduceAdd, conv_b64]
      refine join_cond (fun s' => ∃ fr, s' = ⟨fr, fun _ => [], 0⟩ ∧ fr 0 = bv (c :: r) ∧ fr 5 = i64 (c.toNat : Int) ∧ fr 6 = i64 (k : Int) ∧ fr 7 = i64 (val (d.take i) : Int) ∧ fr 8 = i64 ((i + 1 : Nat) : Int) ∧ fr 9 = i64 ((x ^^^ f).toNat : Int)) ?_ ?_
      case refine_2 =>
        intro R1 hR1 _
        refine vcond_of (fun h => ?_) (fun h => ?_)
        · have h : c.toNat < 128 := by have := of_decide_eq_true h; omega
          have hfe : f = 255 := by rcases hcs with h1 | h1; exact h1.2.2; exact absurd h h1.1
          have hxx := xor_255 x
          rw [← hfe] at hxx
          have hw := wrap_of (n := 255 - (x.toNat : Int)) (k := (x ^^^ f).toNat) (by omega) (by omega)
          simp -implicitDefEqProofs only [pkA, ↓reduceIte, Nat.reduceEqDiff, Nat.reduceAdd, hw]
          exact hR1 _ ⟨_, rfl, by simp [up_apply], by simp [up_apply], by simp [up_apply], by simp [up_apply], by simp [up_apply], by simp []⟩
        · have h : ¬ c.toNat < 128 := by have := of_decide_eq_false h; omega
          have hfe : f = 0 := by rcases hcs with h1 | h1; exact absurd h1.1 h; exact h1.2.2
          have hxx : x ^^^ f = x := by rw [hfe, UInt8.xor_zero]
          simp -implicitDefEqProofs only [pkA]
          exact hR1 _ ⟨_, rfl, by simp [up_apply], by simp [up_apply], by simp [up_apply], by simp [up_apply], by simp [up_apply], by simp [up_apply, hxx]⟩
      rintro _ ⟨fr, rfl, h0, h5, h6, h7, h8, h9⟩
      have hs := hdt i _ hdx
      have hvt := val_take d (i + 1)
      simp -implicitDefEqProofs only [pkA, ↓reduceIte, Nat.reduceAdd, h7]
      refine vcond_of (fun h => ?_) (fun h => ?_)
      · have h : 36028797018963967 < val (d.take i) := by have := of_decide_eq_true h; omega
        simp -implicitDefEqProofs only [pkA, ↓reduceIte, Nat.reduceAdd]
        refine hret _ (hret0 .ret _ (fun h => by cases h) ?_)
        rw [if_pos (by omega)]
        simp -implicitDefEqProofs only [pkA]
        refine retV_three ?_ ?_ ?_ <;> rfl
      · have h : ¬ 36028797018963967 < val (d.take i) := by have := of_decide_eq_false h; omega
        have hm1 := wrap_of (n := 256 * (val (d.take i) : Int)) (k := 256 * val (d.take i)) (by omega) (by omega)
        have hm2 := wrap_of (n := ((256 * val (d.take i) : Nat) : Int) + ((x ^^^ f).toNat : Int)) (k := val (d.take (i + 1))) (by omega) (by omega)
        simp -implicitDefEqProofs only [pkA, ↓reduceIte, Nat.reduceEqDiff, Nat.reduceAdd, h7, h8, h9, hm1, hm2, hwi]
        exact hnorm (i + 1) _ ⟨hp, by omega⟩ (by omega) (le_hd rfl (Nat.zero_le _) (by simp) (by simp [FL, up_apply, h0, h5, h6]) trivial)
    · have hz : i = k := by have := of_decide_eq_false hz; omega
      subst hz
      rw [List.take_of_length_le (by omega)] at hv
      simp -implicitDefEqProofs only [pkA]
      refine hexit _ _ (hR0 _ ⟨_, rfl, by simp [up_apply], by simp [up_apply], by simp [up_apply], ?_, hv⟩)
      rw [List.take_of_length_le (by omega)]; simp [up_apply]
  rintro _ ⟨fr, rfl, h0, h5, h6, h7, hv⟩
  rw [if_neg (by omega)]
  have hn : ∃ n : Int, (if c.toNat < 128 then -1 - (val d : Int) else (val d : Int)) = n ∧ I64 n := ⟨_, rfl, by unfold I64; split <;> omega⟩
  obtain ⟨n, hn, hnI⟩ := hn
  rw [hn]
  simp -implicitDefEqProofs only [pkA, ↓reduceIte, Nat.reduceEqDiff, Nat.reduceAdd, h5, h7]
  refine join_cond (fun s' => ∃ fr, s' = ⟨fr, fun _ => [], 0⟩ ∧ fr 0 = bv (c :: r) ∧ fr 6 = i64 (k : Int) ∧ fr 10 = i64 n) ?_ ?_
  case refine_2 =>
    intro R1 hR1 _
    refine vcond_of (fun h => ?_) (fun h => ?_)
    · have h : c.toNat < 128 := by have := of_decide_eq_true h; omega
      rw [if_pos h] at hn
      have hw : IntKind.i64.wrap (-1 - (val d : Int)) = n := by rw [hn]; exact wrap_i64 _ hnI
      simp -implicitDefEqProofs only [pkA, ↓reduceIte, Nat.reduceEqDiff, Nat.reduceAdd, h7, hw]
      exact hR1 _ ⟨_, rfl, by simp [up_apply, h0], by simp [up_apply, h6], by simp []⟩
    · have h : ¬ c.toNat < 128 := by have := of_decide_eq_false h; omega
      rw [if_neg h] at hn
      simp -implicitDefEqProofs only [pkA]
      exact hR1 _ ⟨_, rfl, by simp [up_apply, h0], by simp [up_apply, h6], by simp [up_apply, hn]⟩
  rintro _ ⟨fr, rfl, h0, h6, h10⟩
  simp -implicitDefEqProofs only [pkA, ↓reduceIte, Nat.reduceAdd, h10]
  refine call_fn rfl (rInt_ok n hnI) (fun h => by cases h) ?_
  simp -implicitDefEqProofs only [pkA, ↓reduceIte, Nat.reduceEqDiff, h0, h6, hwk]
  refine sl_bC ti_71 rfl ti_5 rfl (a := 0) (b := k + 1) rfl rfl (Nat.zero_le _) (by rw [List.length_cons]; omega) ?_
  rw [List.drop_zero, List.take_succ_cons]
  simp -implicitDefEqProofs only [pkA, ↓reduceIte, Nat.reduceEqDiff, Nat.reduceAdd]
  have hel := encI_len n
  refine call_fn («as» := [bv (encI n), bv (c :: r.take k)]) rfl (rSame1_ok _ _ (by omega)) (fun _ => rfl) ?_
  by_cases he : encI n = c :: r.take k
  · rw [if_pos he, decide_eq_true he]
    simp -implicitDefEqProofs only [pkA, ↓reduceIte, Nat.reduceEqDiff, Nat.reduceAdd, h6, h10, hwk]
    refine retV_three ?_ ?_ ?_ <;> rfl
  · rw [if_neg he, decide_eq_false he]
    simp -implicitDefEqProofs only [pkA, ↓reduceIte, Nat.reduceAdd]
    refine retV_three ?_ ?_ ?_ <;> rfl
end Go.Proofs.YtidlohfkfdeaiaaDoor
