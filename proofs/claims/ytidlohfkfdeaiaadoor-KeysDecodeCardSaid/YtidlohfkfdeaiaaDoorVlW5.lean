/- Layer 1: an integer's encoding. -/
import Derived.Test.YtidlohfkfdeaiaaDoorVlH5
import Derived.Test.YtidlohfkfdeaiaaDoorVlStream
set_option linter.unusedSimpArgs false
set_option linter.unusedVariables false
namespace Go.Proofs.YtidlohfkfdeaiaaDoor
open Go Go.Vl

variable {G : Gl}
theorem digs_uniq {m k : Nat} (hm : m < 18446744073709551616) (h1 : m < 256 ^ k) (h2 : k = 0 ∨ 256 ^ (k - 1) ≤ m) : (digs m).length = k := by
  have a1 := digs_lt hm
  rcases Nat.lt_trichotomy (digs m).length k with h | h | h
  · exfalso
    have : 256 ^ (digs m).length ≤ 256 ^ (k - 1) := Nat.pow_le_pow_right (by decide) (by omega)
    omega
  · exact h
  · exfalso
    rcases Nat.eq_zero_or_pos m with h0 | h0
    · subst h0; simp [digs_zero] at h
    · obtain ⟨a2, a3⟩ := digs_ge hm (by omega)
      have : 256 ^ k ≤ 256 ^ ((digs m).length - 1) := Nat.pow_le_pow_right (by decide) (by omega)
      omega
set_option maxRecDepth 100000 in
set_option maxHeartbeats 1500000 in
theorem Int_ok (n : Int) (hn : I64 n) : FnOK Tryd.prog G 68 [i64 n] (.ow EB (bC (encI n))) := by
  refine FnOK_by (rs := [.tmp 2]) false [36, 46] mixed Tryd.func68 rfl rfl rfl rfl (by kernel_rfl) (by simp) rfl rfl ?_
  have hmag := magOf_lt hn
  have hI : -9223372036854775808 ≤ n ∧ n ≤ 9223372036854775807 := hn
  have hc : ∀ K, vconv Tryd.prog 3 104 (i64 n) K = K (.c (.lit (.int .u64 (IntKind.u64.wrap n)))) := fun K => by
    simp only [vconv, ti_3, ti_104]
  simp -implicitDefEqProofs only [pkA, ↓reduceIte, Nat.reduceEqDiff, Nat.reduceAdd, Nat.reduceBEq, Nat.zero_add, hc]
  have hneg : ∀ K, n < 0 → vun .xor (.c (.lit (.int .u64 (IntKind.u64.wrap n)))) K = K (.c (.lit (.int .u64 (magOf n : Int)))) := fun K h => by
    have e : IntKind.u64.wrap n = ((18446744073709551615 - magOf n : Nat) : Int) := by
      have hm : (magOf n : Int) = -1 - n := by unfold magOf; rw [if_pos h]; omega
      rw [IntKind.wrap_u64]; omega
    rw [e, q_not (by omega), show 18446744073709551615 - (18446744073709551615 - magOf n) = magOf n by omega]
  refine join_cond (fun s' => ∃ fr, s' = ⟨fr, fun _ => [], 0⟩ ∧ fr 0 = i64 n ∧ fr 3 = .c (.lit (.int .u64 (magOf n : Int))) ∧ fr 4 = .c (bc (flipOf n))) ?_ ?_
  case refine_2 =>
    intro R hR _
    refine vcond_of (fun h => ?_) (fun h => ?_)
    · have h : n < 0 := of_decide_eq_true h
      simp -implicitDefEqProofs only [pkA, ↓reduceIte, Nat.reduceEqDiff, Nat.reduceAdd, Nat.reduceBEq, hneg _ h]
      refine hR _ ⟨_, rfl, by simp [up_apply], by simp [up_apply], ?_⟩
      unfold flipOf; rw [if_pos h]; rfl
    · have h : ¬ n < 0 := of_decide_eq_false h
      have e : IntKind.u64.wrap n = (magOf n : Int) := by unfold magOf; rw [if_neg h, IntKind.wrap_u64]; omega
      simp -implicitDefEqProofs only [pkA]
      refine hR _ ⟨_, rfl, by simp [up_apply], by simp [up_apply, e], ?_⟩
      unfold flipOf; rw [if_neg h]; rfl
  rintro _ ⟨fr, rfl, h0, h3, h4⟩
  have hE : encI n = (UInt8.ofNat (128 + (digs (magOf n)).length) ^^^ flipOf n) :: (digs (magOf n)).map (· ^^^ flipOf n) := rfl
  rw [hE]
  have hdl := digs_len (magOf n)
  have hdg := fun i h => digs_get (m := magOf n) (i := i) h
  have hun := fun k => digs_uniq (m := magOf n) (k := k) (by omega)
  generalize digs (magOf n) = d at *
  generalize magOf n = m at *
  generalize flipOf n = f at *
  simp -implicitDefEqProofs only [pkA, ↓reduceIte, Nat.reduceAdd, Nat.reduceBEq]
  refine join_loop 0 (fun s' => ∃ fr, s' = ⟨fr, fun _ => [], 0⟩ ∧ fr 3 = .c (.lit (.int .u64 (m : Int))) ∧ fr 4 = .c (bc f) ∧ fr 5 = i64 (d.length : Int)) ?_ ?_
  case refine_2 =>
    intro R0 hR0 _
    refine run_loop (fun k : Nat => hdS [(3, .c (.lit (.int .u64 (m : Int)))), (4, .c (bc f)), (5, i64 (k : Int))] []) (fun k => k) (fun k => k ≤ 8 ∧ m < 256 ^ k) 8 ⟨Nat.le_refl _, by omega⟩ ?_ ?_
    · refine le_hd rfl (Nat.zero_le _) (by simp) (by simp [FL, up_apply, h3, h4]) trivial
    rintro k ⟨hk8, hk⟩ R hnorm hexit hret
    simp -implicitDefEqProofs only [pkA, ↓reduceIte, Nat.reduceEqDiff, Nat.reduceAdd, Nat.reduceBEq]
    refine vcond_of (fun hp => ?_) (fun hz => ?_)
    · have hp : 0 < k := by have := of_decide_eq_true hp; omega
      have hw1 := wrap_of (n := (k : Int) - 1) (k := k - 1) (by omega) (by omega)
      have hw2 := wrap_of (n := 8 * ((k - 1 : Nat) : Int)) (k := 8 * (k - 1)) (by omega) (by omega)
      have hsh := fun K => q_shr (K := K) (a := m) (n := 8 * (k - 1)) (by omega)
      have hpw : 2 ^ (8 * (k - 1)) = 256 ^ (k - 1) := Nat.pow_mul 2 8 (k - 1)
      simp -implicitDefEqProofs only [pkA, ↓reduceIte, Nat.reduceEqDiff, Nat.reduceAdd, Nat.reduceBEq, vbin_shr, hw1, hw2, hsh]
      have hd0 : 0 < 256 ^ (k - 1) := Nat.pow_pos (by decide)
      rw [hpw]
      refine vcond_of (fun hy => ?_) (fun hn => ?_)
      · have hy : 0 < m / 256 ^ (k - 1) := Int.ofNat_lt.1 (of_decide_eq_true hy)
        have hge : 256 ^ (k - 1) ≤ m := by
          rcases Nat.lt_or_ge m (256 ^ (k - 1)) with h | h
          · rw [Nat.div_eq_of_lt h] at hy; omega
          · exact h
        simp -implicitDefEqProofs only [pkA, ↓reduceIte, Nat.reduceEqDiff]
        refine hexit _ _ (hR0 _ ⟨_, rfl, by simp [up_apply], by simp [up_apply], ?_⟩)
        rw [hun k hk (Or.inr hge)]; simp [up_apply]
      · have hy : m / 256 ^ (k - 1) = 0 := Nat.le_zero.1 (Int.ofNat_le.1 (Int.not_lt.1 (of_decide_eq_false hn)))
        have hlt : m < 256 ^ (k - 1) := by
          rcases Nat.lt_or_ge m (256 ^ (k - 1)) with h | h
          · exact h
          · have := Nat.div_pos h hd0; omega
        simp -implicitDefEqProofs only [pkA, ↓reduceIte, Nat.reduceEqDiff, Nat.reduceAdd, Nat.reduceBEq, hw1]
        exact hnorm (k - 1) _ ⟨by omega, hlt⟩ (by omega) (le_hd rfl (Nat.zero_le _) (by simp) (by simp [FL, up_apply]) trivial)
    · have hz : k = 0 := by have := of_decide_eq_false hz; omega
      subst hz
      simp -implicitDefEqProofs only [pkA]
      refine hexit _ _ (hR0 _ ⟨_, rfl, by simp [up_apply], by simp [up_apply], ?_⟩)
      rw [hun 0 hk (Or.inl rfl)]; simp [up_apply]
  rintro _ ⟨fr, rfl, h3, h4, h5⟩
  have hw0 := wrap_of (n := 128 + (d.length : Int)) (k := 128 + d.length) (by omega) (by omega)
  have hcv : ∀ K, vconv Tryd.prog 3 5 (.c (.lit (.int .i64 ((128 + d.length : Nat) : Int)))) K = K (.c (bc (UInt8.ofNat (128 + d.length)))) := fun K => conv_q8 ti_3 ti_5 rfl
  have hwd : IntKind.i64.wrap ((d.length : Int) - 1) = (d.length : Int) - 1 := by rw [IntKind.wrap_i64]; omega
  simp -implicitDefEqProofs only [pkA, ptA, ↓reduceIte, Nat.reduceEqDiff, Nat.reduceAdd, Nat.reduceBEq, Nat.reduceMul, Nat.reduceLeDiff, Nat.zero_add, h4, h5, hw0, hcv, b_xor, hwd]
  refine run_loop (fun j : Nat => hdS [(3, .c (.lit (.int .u64 (m : Int)))), (4, .c (bc f)), (6, .ow EB (bC ((UInt8.ofNat (128 + d.length) ^^^ f) :: (d.map (· ^^^ f)).take j))), (7, i64 ((d.length : Int) - 1 - j))] []) (fun j => d.length - j) (fun j => j ≤ d.length) 0 (Nat.zero_le _) ?_ ?_
  · refine le_hd rfl (Nat.zero_le _) (by simp) (by simp [FL, up_apply, h3, h4]; rfl) trivial
  rintro j hj R hnorm hexit hret
  simp -implicitDefEqProofs only [pkA, ↓reduceIte, Nat.reduceEqDiff, Nat.reduceAdd, Nat.reduceBEq]
  refine vcond_of (fun hp => ?_) (fun hz => ?_)
  · have hp : j < d.length := by have := of_decide_eq_true hp; omega
    have hw2 := wrap_of (n := 8 * ((d.length : Int) - 1 - j)) (k := 8 * (d.length - 1 - j)) (by omega) (by omega)
    have hw3 : IntKind.i64.wrap ((d.length : Int) - 1 - j - 1) = (d.length : Int) - 1 - (j + 1 : Nat) := by rw [IntKind.wrap_i64]; omega
    have hsh := fun K => q_shr (K := K) (a := m) (n := 8 * (d.length - 1 - j)) (by omega)
    have hcw : ∀ (n : Nat) K, vconv Tryd.prog 104 5 (.c (.lit (.int .u64 (n : Int)))) K = K (.c (bc (UInt8.ofNat n))) := fun n K => conv_q8 ti_104 ti_5 rfl
    have hpw : 2 ^ (8 * (d.length - 1 - j)) = 256 ^ (d.length - 1 - j) := Nat.pow_mul 2 8 _
    have hat := hdg (d.length - 1 - j) (by omega)
    rw [show d.length - 1 - (d.length - 1 - j) = j by omega] at hat
    have hat2 : (d.map (· ^^^ f))[j]? = some (UInt8.ofNat (m / 256 ^ (d.length - 1 - j)) ^^^ f) := by rw [List.getElem?_map, hat]; rfl
    simp -implicitDefEqProofs only [pkA, ptA, ↓reduceIte, Nat.reduceEqDiff, Nat.reduceAdd, Nat.reduceBEq, Nat.reduceMul, Nat.reduceLeDiff, Nat.zero_add, vbin_shr, hw2, hsh, hcw, hpw, b_xor]
    refine ap1 (Or.inr rfl) (by simp only [List.length_cons, List.length_take]; omega) ?_
    simp -implicitDefEqProofs only [pkA, ↓reduceIte, Nat.reduceEqDiff, Nat.reduceAdd, Nat.reduceBEq, hw3]
    refine hnorm (j + 1) _ hp (by omega) (le_hd rfl (Nat.zero_le _) (by simp) ?_ trivial)
    rw [take_snoc hat2]
    simp [FL, up_apply]
  · have hz : j = d.length := by have := of_decide_eq_false hz; omega
    subst hz
    simp -implicitDefEqProofs only [pkA]
    refine hexit _ _ ?_
    rw [List.take_of_length_le (by simp)]
    simp -implicitDefEqProofs only [pkA, ↓reduceIte, Nat.reduceEqDiff, Nat.reduceAdd, Nat.reduceBEq]
end Go.Proofs.YtidlohfkfdeaiaaDoor

/- Layer 1: byte strings and lists of integers. -/
namespace Go.Proofs.YtidlohfkfdeaiaaDoor
open Go Go.Vl

variable {G : Gl}
def encB (s : B) : B := encI (s.length : Int) ++ s
def encIs (l : List Int) : B := encI (l.length : Int) ++ (l.map encI).flatten
/-- A list's cells. -/
def mC {α : Type} (f : α → C) (l : List α) : List (List C) := l.map fun x => [f x]
theorem mC_len {α : Type} {f : α → C} (l : List α) : (mC f l).length = l.length := by simp [mC]
theorem mC_one {α : Type} {f : α → C} {l : List α} : ∀ x ∈ mC f l, x.length = 1 := by simp [mC]
theorem mC_append {α : Type} {f : α → C} (a b : List α) : mC f a ++ mC f b = mC f (a ++ b) := by simp [mC]
theorem ia_mC {α : Type} {f : α → C} {P : Program} {KV : V → Prop} {T e : TypeId} {i j : TI} {kd : IntKind} {n : Int} {k : Nat} {l : List α} {x : α} (hT : ti P T = some i) (hk : i.kd = .slice e) (hj : ti P e = some j) (hs : j.size = 1) (hn : n = (k : Nat)) (h : l[k]? = some x)
    (hK : KV (.c (.rp [f x] 0))) : vindexAddr P T (.c (.sl (mC f l))) (.c (.lit (.int kd n))) KV := by
  subst hn
  refine ia_of (c := [f x]) hT hk hj (by omega) (Int.natCast_nonneg k) ?_ (by simp [hs]) hK
  unfold mC; rw [Int.toNat_natCast, List.getElem?_map, h]; rfl
abbrev ic (x : Int) : C := .lit (.int .i64 x)
abbrev sc (x : B) : C := .lit (.string (bs8 x))
theorem I64_nat {n : Nat} (h : n ≤ 9223372036854775807) : I64 (n : Int) := by unfold I64; omega
set_option maxRecDepth 100000 in
theorem apEB {l m : B} {K : V → Prop} (hl : l.length + m.length ≤ 140737488355328) (hK : K (.ow EB (bC (l ++ m)))) : vappend Tryd.prog 71 (.ow EB (bC l)) (.c (.sl (bC m))) K := by
  refine app_bC (m := m) ti_71 rfl ti_5 rfl rfl rfl (Or.inr rfl) hl ?_
  cases m with
  | nil => exact hK
  | cons x m => exact hK
set_option maxRecDepth 100000 in
set_option maxHeartbeats 1500000 in
theorem Bytes_ok (s : B) (hs : s.length ≤ 1000000000) : FnOK Tryd.prog G 47 [sv s] (.ow EB (bC (encB s))) := by
  refine FnOK_by (rs := [.tmp 2]) false [] mixed Tryd.func47 rfl rfl rfl rfl (by kernel_rfl) (by simp) rfl rfl ?_
  simp -implicitDefEqProofs only [pkA, ptA, ↓reduceIte, Nat.reduceEqDiff, Nat.reduceAdd, Nat.zero_add, bs8_size]
  refine call_fn rfl (Int_ok _ (I64_nat (by omega))) (fun h => by cases h) ?_
  have hl := encI_len (s.length : Int)
  simp -implicitDefEqProofs only [pkA, ↓reduceIte, Nat.reduceEqDiff, Nat.reduceAdd, appStr_of ti_71 rfl ti_9 rfl ti_5 rfl, strC_bs8]
  refine apEB (by omega) ?_
  simp -implicitDefEqProofs only [pkA, ↓reduceIte, Nat.reduceEqDiff]
  rfl
theorem flat_le {f : Int → B} : ∀ l : List Int, (∀ x, (f x).length ≤ 9) → (l.map f).flatten.length ≤ 9 * l.length
  | [], _ => Nat.le_refl _
  | x :: l, h => by
    have := flat_le l h
    have := h x
    simp only [List.map_cons, List.flatten_cons, List.length_append, List.length_cons]; omega
set_option maxRecDepth 100000 in
set_option maxHeartbeats 1500000 in
theorem Ints_ok (l : List Int) (hl : l.length ≤ 1000000000) (hI : ∀ x ∈ l, I64 x) : FnOK Tryd.prog G 50 [.c (.sl (mC ic l))] (.ow EB (bC (encIs l))) := by
  refine FnOK_by (rs := [.tmp 2]) false [15, 20] mixed Tryd.func50 rfl rfl rfl rfl (by kernel_rfl) (by simp) rfl rfl ?_
  simp -implicitDefEqProofs only [pkA, ptA, ↓reduceIte, Nat.reduceEqDiff, Nat.reduceAdd, Nat.reduceBEq, Nat.zero_add, mC_len]
  refine call_fn rfl (Int_ok _ (I64_nat (by omega))) (fun h => by cases h) ?_
  simp -implicitDefEqProofs only [pkA, ptA, ↓reduceIte, Nat.reduceEqDiff, Nat.reduceAdd, Nat.reduceBEq, mC_len]
  have hel := encI_len (l.length : Int)
  refine run_loop (fun k : Nat => hdS [(3, .ow EB (bC (encI (l.length : Int) ++ ((l.take k).map encI).flatten))), (9, .c (.sl (mC ic l))), (10, i64 (l.length : Int)), (11, i64 (k : Int))] []) (fun k => l.length - k) (fun k => k ≤ l.length) 0 (Nat.zero_le _) ?_ ?_
  · refine le_hd rfl (Nat.zero_le _) (by simp) (by simp [FL, up_apply]) trivial
  rintro k hk R hnorm hexit hret
  simp -implicitDefEqProofs only [pkA, ↓reduceIte, Nat.reduceEqDiff, Nat.reduceAdd, Nat.reduceBEq]
  refine vcond_of (fun hp => ?_) (fun hz => ?_)
  · have hp : k < l.length := by have := dlt hp; omega
    obtain ⟨x, hx⟩ : ∃ x, l[k]? = some x := ⟨l[k], List.getElem?_eq_getElem hp⟩
    have hw1 := wrap_of (n := (k : Int) + 1) (k := k + 1) (by omega) (by omega)
    simp -implicitDefEqProofs only [pkA, ↓reduceIte, Nat.reduceEqDiff, Nat.reduceAdd, Nat.reduceBEq]
    refine ia_mC ti_34 rfl ti_3 rfl rfl hx ?_
    simp -implicitDefEqProofs only [pkA, ptA, ↓reduceIte, Nat.reduceEqDiff, Nat.reduceAdd, Nat.reduceBEq]
    refine call_fn rfl (Int_ok x (hI x (List.mem_of_getElem? hx))) (fun h => by cases h) ?_
    simp -implicitDefEqProofs only [pkA, ↓reduceIte, Nat.reduceEqDiff, Nat.reduceAdd, Nat.reduceBEq]
    have hf := flat_le (l.take k) (fun x => (encI_len x).2)
    have hx9 := encI_len x
    rw [List.length_take, Nat.min_eq_left hk] at hf
    refine apEB (by rw [List.length_append]; omega) ?_
    simp -implicitDefEqProofs only [pkA, ↓reduceIte, Nat.reduceEqDiff, Nat.reduceAdd, Nat.reduceBEq, hw1]
    refine hnorm (k + 1) _ hp (by omega) (le_hd rfl (Nat.zero_le _) (by simp) ?_ trivial)
    rw [take_snoc hx]
    simp [FL, up_apply]
  · have hz : k = l.length := by have := dge hz; omega
    subst hz
    simp -implicitDefEqProofs only [pkA]
    refine hexit _ _ ?_
    rw [List.take_length]
    simp -implicitDefEqProofs only [pkA, ↓reduceIte, Nat.reduceEqDiff, Nat.reduceAdd, Nat.reduceBEq]
    rfl
end Go.Proofs.YtidlohfkfdeaiaaDoor

/- Layer 1: an integer is read. -/
namespace Go.Proofs.YtidlohfkfdeaiaaDoor
open Go Go.Vl

variable {G : Gl}
abbrev r3 (r : Int × Nat × Int) : V := .tup [i64 r.1, i64 (r.2.1 : Int), i64 r.2.2]
theorem q_shl8 {a : Nat} {K : V → Prop} (h : a < 72057594037927936) : vint .shl .u64 (a : Int) 8 K = K (.c (.lit (.int .u64 ((256 * a : Nat) : Int)))) := by
  have hm : min ((8 : Int)).toNat IntKind.u64.bits = 8 := rfl
  have e : IntKind.u64.wrap ((a : Int) * 2 ^ 8) = ((256 * a : Nat) : Int) := by rw [IntKind.wrap_u64]; omega
  have h0 : (0 : Int) ≤ 8 := by decide
  show ((0 : Int) ≤ 8 ∧ K (.c (.lit (.int .u64 (IntKind.u64.wrap ((a : Int) * 2 ^ (min ((8 : Int)).toNat IntKind.u64.bits))))))) = _
  rw [hm, e, eq_true h0, true_and]
theorem q_or {a : Nat} {c : UInt8} {K : V → Prop} (h : a < 72057594037927936) : vint .or .u64 ((256 * a : Nat) : Int) (c.toNat : Int) K = K (.c (.lit (.int .u64 ((256 * a + c.toNat : Nat) : Int)))) := by
  have hc := c.toNat_lt
  show K (.c (.lit (.int .u64 (bits .or .u64 _ _)))) = _
  rw [u64_or_nat _ _ (by omega) (by omega)]
  have : 256 * a ||| c.toNat = 256 * a + c.toNat := by
    rw [show 256 * a = a <<< 8 by rw [Nat.shiftLeft_eq]; omega]
    exact (Nat.shiftLeft_add_eq_or_of_lt (by omega) a).symm
  rw [this]
theorem retV_three {P : Program} {fr : Nat → V} {bx : Nat → List V} {nb : Nat} {d e f : V} {t u v : Tmp} (h1 : (fr t).fz = d) (h2 : (fr u).fz = e) (h3 : (fr v).fz = f) : retV P false ⟨fr, bx, nb⟩ (.tup [d, e, f]) [.tmp t, .tmp u, .tmp v] := by
  refine ⟨_, rfl, rfl, fun i R x hR hx => ?_⟩
  match i with
  | 0 => simp only [List.getElem?_cons_zero, Option.some.injEq] at hR hx; subst hR; subst hx; exact h1
  | 1 => simp only [List.getElem?_cons_succ, List.getElem?_cons_zero, Option.some.injEq] at hR hx; subst hR; subst hx; exact h2
  | 2 => simp only [List.getElem?_cons_succ, List.getElem?_cons_zero, Option.some.injEq] at hR hx; subst hR; subst hx; exact h3
  | n + 3 => simp at hR
def flipB (c : UInt8) : UInt8 := if c.toNat < 128 then 255 else 0
theorem flipB_ge (c : UInt8) : 128 ≤ (c ^^^ flipB c).toNat ∧ (c ^^^ flipB c).toNat < 256 := by
  have hc := c.toNat_lt
  unfold flipB; split
  · rw [xor_255]; omega
  · rw [UInt8.xor_zero]; omega
theorem conv_b64 {x : UInt8} {K : V → Prop} : vconv Tryd.prog 5 3 (.c (bc x)) K = K (i64 (x.toNat : Nat)) := by
  have h := x.toNat_lt
  have e : IntKind.i64.wrap ((x.toNat : Nat) : Int) = (x.toNat : Int) := wrap_of rfl (by omega)
  simp only [vconv, ti_5, ti_3, e]
theorem conv_bq {x : UInt8} {K : V → Prop} : vconv Tryd.prog 5 104 (.c (bc x)) K = K (.c (.lit (.int .u64 (x.toNat : Int)))) := by
  have h := x.toNat_lt
  have e : IntKind.u64.wrap ((x.toNat : Nat) : Int) = (x.toNat : Int) := by rw [IntKind.wrap_u64]; omega
  simp only [vconv, ti_5, ti_104, e]
set_option maxRecDepth 100000 in
set_option maxHeartbeats 1500000 in
theorem GetInt_ok (b : B) (hb : b.length ≤ 1000000000) : FnOK Tryd.prog G 62 [bv b] (r3 (getI b)) := by
  refine FnOK_by (rs := [.tmp 2, .tmp 3, .tmp 4]) false [] mixed Tryd.func62 rfl rfl rfl rfl (by kernel_rfl) (by simp) rfl rfl ?_
  simp -implicitDefEqProofs only [pkA, ptA, ↓reduceIte, Nat.reduceEqDiff, Nat.reduceAdd, Nat.zero_add, bC_len]
  cases b with
  | nil =>
    refine vcond_of (fun _ => ?_) (fun h => ?_)
    · simp -implicitDefEqProofs only [pkA, ↓reduceIte, Nat.reduceAdd]
      refine retV_three ?_ ?_ ?_ <;> simp -implicitDefEqProofs only [pkA, ↓reduceIte, Nat.reduceEqDiff] <;> rfl
    · simp at h
  | cons c r =>
  refine vcond_of (fun h => ?_) (fun _ => ?_)
  · exact absurd (of_decide_eq_true h) (by rw [List.length_cons]; omega)
  simp -implicitDefEqProofs only [pkA, ↓reduceIte, Nat.reduceEqDiff, Nat.reduceAdd]
  refine ia_bC ti_71 rfl ti_5 rfl (k := 0) rfl rfl ?_
  simp -implicitDefEqProofs only [pkA, ptA, ↓reduceIte, Nat.reduceAdd]
  refine join_cond (fun s' => ∃ fr, s' = ⟨fr, fun _ => [], 0⟩ ∧ fr 0 = bv (c :: r) ∧ fr 5 = .c (bc (flipB c))) ?_ ?_
  case refine_2 =>
    intro R hR _
    refine vcond_of (fun h => ?_) (fun h => ?_)
    · have h : c.toNat < 128 := by have := of_decide_eq_true h; omega
      simp -implicitDefEqProofs only [pkA, ↓reduceIte, Nat.reduceAdd]
      refine hR _ ⟨_, rfl, by simp [up_apply], ?_⟩
      unfold flipB; rw [if_pos h]; rfl
    · have h : ¬ c.toNat < 128 := by have := of_decide_eq_false h; omega
      simp -implicitDefEqProofs only [pkA]
      refine hR _ ⟨_, rfl, by simp [up_apply], ?_⟩
      unfold flipB; rw [if_neg h]; rfl
  rintro _ ⟨fr, rfl, h0, h5⟩
  simp -implicitDefEqProofs only [pkA, ↓reduceIte, Nat.reduceAdd, h0]
  refine ia_bC ti_71 rfl ti_5 rfl (k := 0) rfl rfl ?_
  obtain ⟨hx1, hx2⟩ := flipB_ge c
  have hk : ∃ k, (c ^^^ flipB c).toNat = 128 + k := ⟨(c ^^^ flipB c).toNat - 128, by omega⟩
  obtain ⟨k, hk⟩ := hk
  have hgi : getI (c :: r) = if 8 < k then (0, 0, 6) else if r.length < k then (0, 0, 5) else
    if ((r.take k).map (· ^^^ flipB c)).head? = some 0 then (0, 0, 6) else if 9223372036854775808 ≤ val ((r.take k).map (· ^^^ flipB c)) then (0, 0, 6) else
    (if c.toNat < 128 then -1 - (val ((r.take k).map (· ^^^ flipB c)) : Int) else val ((r.take k).map (· ^^^ flipB c)), k + 1, 0) := by
    have e : (c ^^^ flipB c).toNat - 128 = k := by omega
    rw [← e]; rfl
  rw [hgi]
  have hw1 := wrap_of (n := ((128 + k : Nat) : Int) - 128) (k := k) (by omega) (by omega)
  simp -implicitDefEqProofs only [pkA, ptA, ↓reduceIte, Nat.reduceEqDiff, Nat.reduceAdd, h5, b_xor, conv_b64, hk, hw1]
  refine vcond_of (fun h8 => ?_) (fun h8 => ?_)
  · have h8 : 8 < k := by have := of_decide_eq_true h8; omega
    rw [if_pos h8]
    simp -implicitDefEqProofs only [pkA, ↓reduceIte, Nat.reduceAdd]
    refine retV_three ?_ ?_ ?_ <;> simp -implicitDefEqProofs only [pkA, ↓reduceIte, Nat.reduceEqDiff] <;> rfl
  have h8 : ¬ 8 < k := by have := of_decide_eq_false h8; omega
  rw [if_neg h8]
  simp -implicitDefEqProofs only [pkA, ptA, ↓reduceIte, Nat.reduceEqDiff, Nat.reduceAdd, h0, bC_len]
  refine vcond_of (fun hl => ?_) (fun hl => ?_)
  · have hl : r.length < k := by have := of_decide_eq_true hl; omega
    rw [if_pos hl]
    simp -implicitDefEqProofs only [pkA, ↓reduceIte, Nat.reduceAdd]
    refine retV_three ?_ ?_ ?_ <;> simp -implicitDefEqProofs only [pkA, ↓reduceIte, Nat.reduceEqDiff] <;> rfl
  have hl : ¬ r.length < k := by have := of_decide_eq_false hl; omega
  rw [if_neg hl]
  simp -implicitDefEqProofs only [pkA, ↓reduceIte, Nat.reduceEqDiff, Nat.reduceAdd]
  refine join_vgd (fun s' => ∃ fr, s' = ⟨fr, fun _ => [], 0⟩ ∧ ((r.take k).map (· ^^^ flipB c)).head? ≠ some 0 ∧ fr 0 = bv (c :: r) ∧ fr 5 = .c (bc (flipB c)) ∧ fr 6 = i64 (k : Nat)) ?_ ?_
  case refine_2 =>
    intro R hR hR'
    refine vgd_of (fun hp => ?_) (fun hz => ?_)
    · have hp : 0 < k := by have := of_decide_eq_true hp; omega
      obtain ⟨x, hx⟩ : ∃ x, r[0]? = some x := ⟨r[0]'(by omega), List.getElem?_eq_getElem _⟩
      have hhd : ((r.take k).map (· ^^^ flipB c)).head? = some (x ^^^ flipB c) := by
        rw [List.head?_map, List.head?_take, if_neg (by omega), List.head?_eq_getElem?, hx]; rfl
      rw [hhd] at hR hR'
      simp -implicitDefEqProofs only [pkA, ↓reduceIte, Nat.reduceEqDiff, h0]
      refine ia_bC ti_71 rfl ti_5 rfl (k := 1) rfl (show (c :: r)[1]? = some x from hx) ?_
      simp -implicitDefEqProofs only [pkA, ptA, ↓reduceIte, Nat.reduceEqDiff, Nat.reduceAdd, h5, b_xor]
      refine vcond_of (fun he => ?_) (fun he => ?_)
      · have he : (x ^^^ flipB c) = 0 := UInt8.toNat_inj.1 (by have := of_decide_eq_true he; show (x ^^^ flipB c).toNat = 0; omega)
        simp -implicitDefEqProofs only [pkA, ↓reduceIte, Nat.reduceAdd]
        refine hR' _ _ (by simp) ?_
        rw [if_pos (by rw [he])]
        simp -implicitDefEqProofs only [pkA]
        refine retV_three ?_ ?_ ?_ <;> simp -implicitDefEqProofs only [pkA, ↓reduceIte, Nat.reduceEqDiff] <;> rfl
      · have he : (x ^^^ flipB c) ≠ 0 := fun h => by have := of_decide_eq_false he; rw [h] at this; exact this rfl
        simp -implicitDefEqProofs only [pkA]
        exact hR _ ⟨_, rfl, fun h => he (Option.some.inj h), by simp [up_apply, h0], by simp [up_apply, h5], by simp [up_apply]⟩
    · have hz : k = 0 := by
        have : decide (0 < (k : Int)) = false := by simpa using hz
        have := of_decide_eq_false this; omega
      subst hz
      simp -implicitDefEqProofs only [pkA, ↓reduceIte, Nat.reduceEqDiff, Nat.reduceAdd]
      exact hR _ ⟨_, rfl, by simp, by simp [up_apply, h0], by simp [up_apply, h5], by simp [up_apply]⟩
  rintro _ ⟨fr, rfl, hhd, h0, h5, h6⟩
  rw [if_neg hhd]
  have hwk := wrap_of (n := (k : Int) + 1) (k := k + 1) (by omega) (by omega)
  simp -implicitDefEqProofs only [pkA, ↓reduceIte, Nat.reduceEqDiff, Nat.reduceAdd, h0, h6, hwk]
  refine sl_bC ti_71 rfl ti_5 rfl (a := 1) (b := k + 1) rfl rfl (by omega) (by rw [List.length_cons]; omega) ?_
  have hsl : ((c :: r).take (k + 1)).drop 1 = r.take k := by rw [List.take_succ_cons, List.drop_succ_cons, List.drop_zero]
  rw [hsl]
  generalize hd : r.take k = d at *
  have hdl : d.length = k := by rw [← hd, List.length_take]; omega
  have hvl : ∀ j, j ≤ 7 → val ((d.take j).map (· ^^^ flipB c)) < 72057594037927936 := fun j hj => by
    have h1 := val_lt ((d.take j).map (· ^^^ flipB c))
    have h2 : 256 ^ ((d.take j).map (· ^^^ flipB c)).length ≤ 256 ^ 7 := Nat.pow_le_pow_right (by decide) (by simp only [List.length_map, List.length_take]; omega)
    omega
  simp -implicitDefEqProofs only [pkA, ptA, ↓reduceIte, bC_len, hdl]
  refine run_loop (fun j : Nat => hdS [(0, bv (c :: r)), (5, .c (bc (flipB c))), (6, i64 (k : Nat)), (7, .c (.lit (.int .u64 (val ((d.take j).map (· ^^^ flipB c)) : Int)))), (46, bv d), (47, i64 (k : Nat)), (48, i64 (j : Nat))] []) (fun j => k - j) (fun j => j ≤ k) 0 (Nat.zero_le _) ?_ ?_
  · refine le_hd rfl (Nat.zero_le _) (by simp) (by simp [FL, up_apply, h0, h5, h6, val_nil]) trivial
  rintro j hj R hnorm hexit hret
  simp -implicitDefEqProofs only [pkA, ↓reduceIte, Nat.reduceEqDiff, Nat.reduceAdd]
  refine vcond_of (fun hp => ?_) (fun hz => ?_)
  · have hp : j < k := by have := of_decide_eq_true hp; omega
    obtain ⟨x, hx⟩ : ∃ x, d[j]? = some x := ⟨d[j]'(by omega), List.getElem?_eq_getElem _⟩
    have hv := hvl j (by omega)
    have hw1 := wrap_of (n := (j : Int) + 1) (k := j + 1) (by omega) (by omega)
    have hsn : val ((d.take (j + 1)).map (· ^^^ flipB c)) = 256 * val ((d.take j).map (· ^^^ flipB c)) + (x ^^^ flipB c).toNat := by
      rw [take_snoc hx, List.map_append]; exact val_snoc _ _
    simp -implicitDefEqProofs only [pkA, ↓reduceIte, Nat.reduceEqDiff, Nat.reduceAdd]
    refine ia_bC ti_71 rfl ti_5 rfl rfl hx ?_
    simp -implicitDefEqProofs only [pkA, ptA, ↓reduceIte, Nat.reduceEqDiff, Nat.reduceAdd, q_shl8 hv, b_xor, conv_bq, q_or hv, hw1]
    refine hnorm (j + 1) _ hp (by omega) (le_hd rfl (Nat.zero_le _) (by simp) ?_ trivial)
    rw [hsn]
    simp [FL, up_apply]
  have hz : j = k := by have := dge hz; omega
  subst hz
  simp -implicitDefEqProofs only [pkA]
  refine hexit _ _ ?_
  rw [List.take_of_length_le (by omega)]
  have hv8 : val (d.map (· ^^^ flipB c)) < 18446744073709551616 := by
    have h1 := val_lt (d.map (· ^^^ flipB c))
    have h2 : 256 ^ (d.map (· ^^^ flipB c)).length ≤ 256 ^ 8 := Nat.pow_le_pow_right (by decide) (by simp only [List.length_map]; omega)
    omega
  clear hexit hnorm hret hvl hgi hhd R hj hk hx1 hx2
  generalize val (d.map (· ^^^ flipB c)) = m at *
  have hsh : ∀ K, vint .shr .u64 (m : Int) 63 K = K (.c (.lit (.int .u64 ((m / 9223372036854775808 : Nat) : Int)))) := fun K => q_shr (n := 63) (by decide)
  simp -implicitDefEqProofs only [pkA, ↓reduceIte, Nat.reduceEqDiff, Nat.reduceAdd, hsh]
  refine vcond_of (fun hb => ?_) (fun hs => ?_)
  · have hb : 9223372036854775808 ≤ m := by have := of_decide_eq_true hb; omega
    rw [if_pos hb]
    simp -implicitDefEqProofs only [pkA, ↓reduceIte, Nat.reduceAdd]
    refine retV_three ?_ ?_ ?_ <;> simp -implicitDefEqProofs only [pkA, ↓reduceIte, Nat.reduceEqDiff] <;> rfl
  have hs : ¬ 9223372036854775808 ≤ m := by have := of_decide_eq_false hs; omega
  rw [if_neg hs]
  simp -implicitDefEqProofs only [pkA, ↓reduceIte, Nat.reduceEqDiff, Nat.reduceAdd]
  refine join_cond (fun s' => ∃ fr, s' = ⟨fr, fun _ => [], 0⟩ ∧ fr 6 = i64 (j : Nat) ∧ fr 7 = .c (.lit (.int .u64 ((if c.toNat < 128 then 18446744073709551615 - m else m : Nat) : Int)))) ?_ ?_
  case refine_2 =>
    intro R hR _
    have hfl : (0 : Int) < (flipB c).toNat ↔ c.toNat < 128 := by
      unfold flipB; split <;> simp_all
    refine vcond_of (fun h => ?_) (fun h => ?_)
    · have h := hfl.1 (of_decide_eq_true h)
      simp -implicitDefEqProofs only [pkA, ↓reduceIte, Nat.reduceEqDiff, Nat.reduceAdd, q_not hv8]
      exact hR _ ⟨_, rfl, by simp [up_apply], by simp [h]⟩
    · have h : ¬ c.toNat < 128 := fun q => of_decide_eq_false h (hfl.2 q)
      simp -implicitDefEqProofs only [pkA]
      exact hR _ ⟨_, rfl, by simp [up_apply], by simp [up_apply, h]⟩
  rintro _ ⟨fr, rfl, h6, h7⟩
  have hw1 := wrap_of (n := (j : Int) + 1) (k := j + 1) (by omega) (by omega)
  have hcv : ∀ (x : Nat) K, vconv Tryd.prog 104 3 (.c (.lit (.int .u64 (x : Int)))) K = K (i64 (IntKind.i64.wrap (x : Int))) := fun x K => by
    simp only [vconv, ti_104, ti_3]
  have hwm : IntKind.i64.wrap ((if c.toNat < 128 then 18446744073709551615 - m else m : Nat) : Int) = if c.toNat < 128 then -1 - (m : Int) else (m : Int) := by
    rw [IntKind.wrap_i64]; split <;> omega
  simp -implicitDefEqProofs only [pkA, ↓reduceIte, Nat.reduceEqDiff, Nat.reduceAdd, h6, h7, hcv, hw1, hwm]
  refine retV_three ?_ ?_ ?_ <;> simp -implicitDefEqProofs only [pkA, ↓reduceIte, Nat.reduceEqDiff] <;> rfl
end Go.Proofs.YtidlohfkfdeaiaaDoor

/- Layer 1: lengths and byte strings are read. -/
namespace Go.Proofs.YtidlohfkfdeaiaaDoor
open Go Go.Vl

variable {G : Gl}
def cnt (b : B) (size : Nat) : Int × Nat × Int :=
  ((getI b).1, (getI b).2.1, if (getI b).2.2 ≠ 0 then (getI b).2.2 else if (getI b).1 < 0 then 6 else if (((b.length - (getI b).2.1) / size : Nat) : Int) < (getI b).1 then 5 else 0)
set_option maxRecDepth 100000 in
set_option maxHeartbeats 1500000 in
theorem count_ok (b : B) (size : Nat) (hb : b.length ≤ 1000000000) (hs : 0 < size ∧ size ≤ 1000) : FnOK Tryd.prog G 88 [bv b, i64 (size : Int)] (r3 (cnt b size)) := by
  refine FnOK_by (rs := [.tmp 4, .tmp 5, .tmp 6]) false [] mixed Tryd.func88 rfl rfl rfl rfl (by kernel_rfl) (by simp) rfl rfl ?_
  simp -implicitDefEqProofs only [pkA, ↓reduceIte, Nat.reduceEqDiff, Nat.reduceAdd, Nat.zero_add]
  refine call_fn rfl (GetInt_ok b hb) (fun _ => rfl) ?_
  have hc : cnt b size = ((getI b).1, (getI b).2.1, if (getI b).2.2 ≠ 0 then (getI b).2.2 else if (getI b).1 < 0 then 6 else if (((b.length - (getI b).2.1) / size : Nat) : Int) < (getI b).1 then 5 else 0) := rfl
  rw [hc]
  generalize hg : getI b = g
  obtain ⟨n, u, e⟩ := g
  obtain ⟨hu, hz, hn, hp⟩ := getI_used hg
  simp -implicitDefEqProofs only [pkA, ↓reduceIte, Nat.reduceEqDiff, Nat.reduceAdd]
  refine vcond_of (fun he => ?_) (fun he => ?_)
  · have he : e ≠ 0 := by simpa using he
    rw [if_pos he]
    simp -implicitDefEqProofs only [pkA, ↓reduceIte, Nat.reduceEqDiff, Nat.reduceAdd]
    refine retV_three ?_ ?_ ?_ <;> simp -implicitDefEqProofs only [pkA, ↓reduceIte, Nat.reduceEqDiff]
  have he : e = 0 := by simpa using he
  subst he
  rw [if_neg (by simp)]
  simp -implicitDefEqProofs only [pkA, ↓reduceIte, Nat.reduceEqDiff, Nat.reduceAdd, decide_true]
  refine vcond_of (fun h0 => ?_) (fun h0 => ?_)
  · have h0 : n < 0 := of_decide_eq_true h0
    rw [if_pos h0]
    simp -implicitDefEqProofs only [pkA, ↓reduceIte, Nat.reduceEqDiff, Nat.reduceAdd]
    refine retV_three ?_ ?_ ?_ <;> simp -implicitDefEqProofs only [pkA, ↓reduceIte, Nat.reduceEqDiff]
  have h0 : ¬ n < 0 := of_decide_eq_false h0
  rw [if_neg h0]
  have hw := wrap_of (n := (b.length : Int) - (u : Int)) (k := b.length - u) (by omega) (by omega)
  have hq : ∀ K, vint .quo .i64 ((b.length - u : Nat) : Int) (size : Int) K = K (i64 (((b.length - u) / size : Nat) : Int)) := fun K => by
    have hd : (((b.length - u : Nat) : Int)).tdiv (size : Int) = (((b.length - u) / size : Nat) : Int) := by rw [Int.tdiv_eq_ediv_of_nonneg (by omega)]; exact (Int.natCast_ediv _ _).symm
    have hle := Nat.div_le_self (b.length - u) size
    have hw := wrap_of (n := (((b.length - u) / size : Nat) : Int)) (k := (b.length - u) / size) rfl (by omega)
    simp only [vint, hd, hw]
    exact propext ⟨fun h => h.2, fun h => ⟨by omega, h⟩⟩
  simp -implicitDefEqProofs only [pkA, ptA, ↓reduceIte, Nat.reduceEqDiff, Nat.reduceAdd, bC_len, hw, hq]
  refine vcond_of (fun h1 => ?_) (fun h1 => ?_)
  · have h1 := of_decide_eq_true h1
    rw [if_pos h1]
    simp -implicitDefEqProofs only [pkA, ↓reduceIte, Nat.reduceEqDiff, Nat.reduceAdd]
    refine retV_three ?_ ?_ ?_ <;> simp -implicitDefEqProofs only [pkA, ↓reduceIte, Nat.reduceEqDiff]
  have h1 := of_decide_eq_false h1
  rw [if_neg h1]
  simp -implicitDefEqProofs only [pkA, ↓reduceIte, Nat.reduceEqDiff, Nat.reduceAdd]
  refine retV_three ?_ ?_ ?_ <;> simp -implicitDefEqProofs only [pkA, ↓reduceIte, Nat.reduceEqDiff]

def getB (b : B) : B × Nat × Int := if (cnt b 1).2.2 ≠ 0 then ([], 0, (cnt b 1).2.2) else ((b.drop (cnt b 1).2.1).take (cnt b 1).1.toNat, (cnt b 1).2.1 + (cnt b 1).1.toNat, 0)
abbrev rB (r : B × Nat × Int) : V := .tup [sv r.1, i64 (r.2.1 : Int), i64 r.2.2]
theorem cnt_ok {b : B} {n : Int} {u : Nat} (h : cnt b 1 = (n, u, 0)) : ∃ k : Nat, n = k ∧ u + k ≤ b.length ∧ getI b = (n, u, 0) ∧ 0 < u := by
  unfold cnt at h
  generalize hg : getI b = g at h
  obtain ⟨n', u', e⟩ := g
  obtain ⟨hu, hz, hn, hp⟩ := getI_used hg
  simp only [Prod.mk.injEq] at h
  obtain ⟨rfl, rfl, h3⟩ := h
  by_cases he : e = 0
  · subst he
    rw [if_neg (by simp)] at h3
    by_cases h0 : n' < 0
    · rw [if_pos h0] at h3; cases h3
    · rw [if_neg h0] at h3
      by_cases h1 : (((b.length - u') / 1 : Nat) : Int) < n'
      · rw [if_pos h1] at h3; cases h3
      · rw [Nat.div_one] at h1
        exact ⟨n'.toNat, by omega, by omega, rfl, hp rfl⟩
  · rw [if_pos he] at h3; exact absurd h3 he
set_option maxRecDepth 100000 in
set_option maxHeartbeats 1500000 in
theorem GetBytes_ok (b : B) (hb : b.length ≤ 1000000000) : FnOK Tryd.prog G 54 [bv b] (rB (getB b)) := by
  refine FnOK_by (rs := [.tmp 2, .tmp 3, .tmp 4]) false [] mixed Tryd.func54 rfl rfl rfl rfl (by kernel_rfl) (by simp) rfl rfl ?_
  simp -implicitDefEqProofs only [pkA, ↓reduceIte, Nat.reduceEqDiff, Nat.reduceAdd, Nat.zero_add]
  refine call_fn rfl (count_ok b 1 hb ⟨by decide, by decide⟩) (fun _ => rfl) ?_
  have hc : getB b = if (cnt b 1).2.2 ≠ 0 then ([], 0, (cnt b 1).2.2) else ((b.drop (cnt b 1).2.1).take (cnt b 1).1.toNat, (cnt b 1).2.1 + (cnt b 1).1.toNat, 0) := rfl
  rw [hc]
  generalize hg : cnt b 1 = g
  obtain ⟨n, u, e⟩ := g
  simp -implicitDefEqProofs only [pkA, ↓reduceIte, Nat.reduceEqDiff, Nat.reduceAdd]
  refine vcond_of (fun he => ?_) (fun he => ?_)
  · have he : e ≠ 0 := by simpa using he
    rw [if_pos he]
    simp -implicitDefEqProofs only [pkA, ↓reduceIte, Nat.reduceEqDiff, Nat.reduceAdd]
    refine retV_three ?_ ?_ ?_ <;> simp -implicitDefEqProofs only [pkA, ↓reduceIte, Nat.reduceEqDiff] <;> rfl
  have he : e = 0 := by simpa using he
  subst he
  rw [if_neg (by simp)]
  obtain ⟨k, rfl, hk, _, _⟩ := cnt_ok hg
  have hw := wrap_of (n := (u : Int) + (k : Int)) (k := u + k) (by omega) (by omega)
  simp -implicitDefEqProofs only [pkA, ↓reduceIte, Nat.reduceEqDiff, Nat.reduceAdd, decide_true, hw]
  refine sl_bC ti_71 rfl ti_5 rfl (a := u) (b := u + k) rfl rfl (by omega) hk ?_
  have e1 : (b.take (u + k)).drop u = (b.drop u).take k := by rw [List.drop_take, show u + k - u = k by omega]
  simp -implicitDefEqProofs only [pkA, ↓reduceIte, Nat.reduceEqDiff, Nat.reduceAdd, c_bs, e1, hw, Int.toNat_natCast]
  refine retV_three ?_ ?_ ?_ <;> simp -implicitDefEqProofs only [pkA, ↓reduceIte, Nat.reduceEqDiff]
end Go.Proofs.YtidlohfkfdeaiaaDoor

/- Layer 1: lists of integers are read. -/
namespace Go.Proofs.YtidlohfkfdeaiaaDoor
open Go Go.Vl

variable {G : Gl}
set_option maxRecDepth 100000 in
theorem reader_ok (b : B) (at_ : Nat) : FnB Tryd.prog G 89 [bv b, i64 (at_ : Int)] [] (.clo (.func 104) [] [.bp 0 0, .bp 1 0]) [[bv b], [i64 (at_ : Int)]] := by
  refine FnB_by (rs := [.tmp 4]) (k := 0) [] mixed Tryd.func89 rfl rfl rfl rfl (by kernel_rfl) (by simp) rfl rfl rfl rfl (by simp) ?_
  simp -implicitDefEqProofs only [pkA, ↓reduceIte, Nat.reduceEqDiff, Nat.reduceAdd, Nat.zero_add]
  exact end_B [(4, .clo (.func 104) [] [.bp 0 0, .bp 1 0])] rfl rfl (by simp) (by simp) (by simp [FL]) (by simp [BL, up_apply]) rfl
set_option maxRecDepth 100000 in
set_option maxHeartbeats 1500000 in
theorem reader1_ok (b : B) (at_ n u : Nat) (hb : b.length ≤ 1000000000) (ha : at_ ≤ b.length) : FnB Tryd.prog G 104 [.bp 0 0, .bp 1 0] [[bv b], [i64 (at_ : Int)]]
    (r3 ((getI (b.drop at_)).1, at_ + (getI (b.drop at_)).2.1, (getI (b.drop at_)).2.2)) [[bv b], [i64 ((at_ + (getI (b.drop at_)).2.1 : Nat) : Int)]] := by
  refine FnB_by (rs := [.tmp 2, .tmp 3, .tmp 4]) (k := 2) [3000002] mixed Tryd.func104 rfl rfl rfl rfl (by kernel_rfl) (by simp) rfl rfl rfl rfl (by simp) ?_
  simp -implicitDefEqProofs only [pkA, ptA, ↓reduceIte, Nat.reduceEqDiff, Nat.reduceAdd, Nat.reduceBEq, Nat.reduceMul, Nat.reduceLT, Nat.zero_add, decide_true]
  refine sl_bC ti_71 rfl ti_5 rfl (a := at_) (b := b.length) rfl rfl (by omega) (Nat.le_refl _) ?_
  rw [List.take_length]
  simp -implicitDefEqProofs only [pkA, ↓reduceIte, Nat.reduceAdd, Nat.reduceBEq]
  refine call_fn rfl (GetInt_ok (b.drop at_) (by rw [List.length_drop]; omega)) (fun _ => rfl) ?_
  generalize hg : getI (b.drop at_) = g
  obtain ⟨n, u, e⟩ := g
  obtain ⟨hu, hz, hn, hp⟩ := getI_used hg
  rw [List.length_drop] at hu
  have hw := wrap_of (n := (at_ : Int) + (u : Int)) (k := at_ + u) (by omega) (by omega)
  simp -implicitDefEqProofs only [pkA, ptA, ↓reduceIte, Nat.reduceEqDiff, Nat.reduceAdd, Nat.reduceBEq, Nat.reduceMul, Nat.reduceLT, Nat.reduceLeDiff, Nat.zero_add, decide_true, hw]
  exact end_B [(2, i64 n), (3, i64 ((at_ + u : Nat) : Int)), (4, i64 e)] rfl rfl (by simp) (by simp) (by simp [FL, up_apply]) (by simp [BL, up_apply, bxs]) (retV_three rfl rfl rfl)

theorem ren_c {ρ : Nat → Nat} {x : C} : V.ren ρ (.c x) = .c x := rfl
theorem ren_clo2 {ρ : Nat → Nat} {g : Fn} {i j a c : Nat} : V.ren ρ (.clo g [] [.bp i a, .bp j c]) = .clo g [] [.bp (ρ i) a, .bp (ρ j) c] := rfl
def rdI (b : B) : Nat → Nat → List Int → List Int × Nat × Int
  | 0, at_, acc => (acc, at_, 0)
  | n + 1, at_, acc => if (getI (b.drop at_)).2.2 ≠ 0 then ([], 0, (getI (b.drop at_)).2.2) else rdI b n (at_ + (getI (b.drop at_)).2.1) (acc ++ [(getI (b.drop at_)).1])
def getIs (b : B) : List Int × Nat × Int := if (cnt b 1).2.2 ≠ 0 then ([], 0, (cnt b 1).2.2) else rdI b (cnt b 1).1.toNat (cnt b 1).2.1 []
abbrev rI (r : List Int × Nat × Int) : V := .tup [.c (.sl (mC ic r.1)), i64 (r.2.1 : Int), i64 r.2.2]
abbrev EI : Option (TypeId × Nat) := some (3, 1)
set_option maxRecDepth 100000 in
theorem apI {E : Option (TypeId × Nat)} {l : List Int} {x : Int} {K : V → Prop} (h0 : E = none ∨ E = EI) (hl : l.length + 1 ≤ 17592186044416) (hK : K (.ow EI (mC ic (l ++ [x])))) : vappend Tryd.prog 34 (.ow E (mC ic l)) (.c (.sl [[ic x]])) K := by
  simp only [vappend, ti_34, ti_3]
  refine ⟨⟨by decide, rfl, h0, mC_one⟩, ⟨?_, ?_, by simp⟩, ?_⟩
  · rw [mC_len]; simp only [List.length_cons, List.length_nil]; omega
  · rw [mC_len]; simp only [List.length_cons, List.length_nil]; omega
  · rw [← mC_append] at hK; exact hK
set_option maxRecDepth 100000 in
set_option maxHeartbeats 1500000 in
theorem GetInts_ok (b : B) (hb : b.length ≤ 1000000000) : FnOK Tryd.prog G 55 [bv b] (rI (getIs b)) := by
  refine FnOK_by (rs := [.tmp 2, .tmp 3, .tmp 4]) false [37, 1000024, 1000030] mixed Tryd.func55 rfl rfl rfl rfl (by kernel_rfl) (by simp) rfl rfl ?_
  simp -implicitDefEqProofs only [pkA, ↓reduceIte, Nat.reduceEqDiff, Nat.reduceAdd, Nat.reduceBEq, Nat.zero_add]
  refine call_fn rfl (count_ok b 1 hb ⟨by decide, by decide⟩) (fun _ => rfl) ?_
  have hc : getIs b = if (cnt b 1).2.2 ≠ 0 then ([], 0, (cnt b 1).2.2) else rdI b (cnt b 1).1.toNat (cnt b 1).2.1 [] := rfl
  rw [hc]
  generalize hg : cnt b 1 = g
  obtain ⟨n, u, e⟩ := g
  simp -implicitDefEqProofs only [pkA, ↓reduceIte, Nat.reduceEqDiff, Nat.reduceAdd, Nat.reduceBEq]
  refine vcond_of (fun he => ?_) (fun he => ?_)
  · have he : e ≠ 0 := by simpa using he
    rw [if_pos he]
    simp -implicitDefEqProofs only [pkA, ↓reduceIte, Nat.reduceEqDiff, Nat.reduceAdd, Nat.reduceBEq]
    refine retV_three ?_ ?_ ?_ <;> simp -implicitDefEqProofs only [pkA, ↓reduceIte, Nat.reduceEqDiff] <;> rfl
  have he : e = 0 := by simpa using he
  subst he
  rw [if_neg (by simp)]
  obtain ⟨k, rfl, hk, _, _⟩ := cnt_ok hg
  rw [Int.toNat_natCast]
  generalize hT : rdI b k u [] = T
  simp -implicitDefEqProofs only [pkA, ↓reduceIte, Nat.reduceEqDiff, Nat.reduceAdd, Nat.reduceBEq, decide_true]
  refine callB_new rfl (reader_ok b u) rfl ?_
  simp -implicitDefEqProofs only [pkA, ↓reduceIte, Nat.reduceEqDiff, Nat.reduceAdd, Nat.reduceBEq, Nat.zero_add, setBx, ren_c, ren_clo2]
  refine run_loop (fun x : Nat × Nat × List Int × Option (TypeId × Nat) => match x with | (j, at_, acc, E) => hdS [(6, i64 (at_ : Nat)), (8, .clo (.func 104) [] [.bp 0 0, .bp 1 0]), (9, .ow E (mC ic acc)), (25, i64 (k : Nat)), (26, i64 (j : Nat))] [[bv b], [i64 (at_ : Nat)]]) (fun x => k - x.1)
    (fun x => x.1 ≤ k ∧ x.2.1 ≤ b.length ∧ x.2.2.1.length = x.1 ∧ (x.2.2.2 = none ∨ x.2.2.2 = EI) ∧ rdI b (k - x.1) x.2.1 x.2.2.1 = T) (0, u, [], none) ⟨Nat.zero_le _, (by omega : u ≤ b.length), rfl, Or.inl rfl, hT⟩ ?_ ?_
  · refine le_hd rfl (Nat.zero_le _) (by simp) (by simp [FL, up_apply]; rfl) (by simp [BL, up_apply])
  rintro ⟨j, at_, acc, E⟩ ⟨hj, hat, hacc, hE, hR⟩ R hnorm hexit hret
  simp only at hj hat hacc hE hR
  simp -implicitDefEqProofs only [pkA, ↓reduceIte, Nat.reduceEqDiff, Nat.reduceAdd, Nat.reduceBEq, Nat.zero_add]
  refine vcond_of (fun hp => ?_) (fun hz => ?_)
  · have hp : j < k := by have := of_decide_eq_true hp; omega
    have hw1 := wrap_of (n := (j : Int) + 1) (k := j + 1) (by omega) (by omega)
    have hkj : k - j = (k - (j + 1)) + 1 := by omega
    rw [hkj] at hR
    have hr := reader1_ok (G := G) b at_ 0 0 hb hat
    unfold rdI at hR
    generalize hg2 : getI (b.drop at_) = g at hR hr
    obtain ⟨x, w, e⟩ := g
    obtain ⟨hu2, _, _, _⟩ := getI_used hg2
    rw [List.length_drop] at hu2
    simp only at hR hr
    simp -implicitDefEqProofs only [pkA, ↓reduceIte, Nat.reduceEqDiff, Nat.reduceAdd, Nat.reduceBEq]
    refine callB_all rfl hr rfl rfl ?_ ?_
    · simp [BL, bxs]
    simp -implicitDefEqProofs only [pkA, ↓reduceIte, Nat.reduceEqDiff, Nat.reduceAdd, Nat.reduceBEq, Nat.zero_add]
    refine vcond_of (fun he => ?_) (fun he => ?_)
    · have he : e ≠ 0 := by simpa using he
      rw [if_pos he] at hR
      rw [← hR] at hret
      simp -implicitDefEqProofs only [pkA, ↓reduceIte, Nat.reduceEqDiff, Nat.reduceAdd, Nat.reduceBEq]
      refine hret _ ?_
      simp -implicitDefEqProofs only [pkA]
      refine retV_three ?_ ?_ ?_ <;> simp -implicitDefEqProofs only [pkA, ↓reduceIte, Nat.reduceEqDiff] <;> rfl
    have he : e = 0 := by simpa using he
    subst he
    rw [if_neg (by simp)] at hR
    simp -implicitDefEqProofs only [pkA, ptA, ↓reduceIte, Nat.reduceEqDiff, Nat.reduceAdd, Nat.reduceBEq, Nat.reduceMul, Nat.reduceLeDiff, Nat.zero_add, decide_true]
    refine apI hE (by omega) ?_
    simp -implicitDefEqProofs only [pkA, ↓reduceIte, Nat.reduceEqDiff, Nat.reduceAdd, Nat.reduceBEq, hw1]
    refine hnorm (j + 1, at_ + w, acc ++ [x], EI) _ ⟨hp, (by omega : at_ + w ≤ b.length), by simp [hacc], Or.inr rfl, hR⟩ (show k - (j + 1) < k - j by omega) (le_hd rfl (Nat.zero_le _) (by simp) (by simp [FL, up_apply]) (by simp [BL]))
  have hz : j = k := by have := dge hz; omega
  subst hz
  rw [Nat.sub_self] at hR
  simp -implicitDefEqProofs only [pkA]
  refine hexit _ _ ?_
  rw [← hR]
  simp -implicitDefEqProofs only [pkA, ↓reduceIte, Nat.reduceEqDiff, Nat.reduceAdd, Nat.reduceBEq]
  refine retV_three ?_ ?_ ?_ <;> simp -implicitDefEqProofs only [pkA, ↓reduceIte, Nat.reduceEqDiff] <;> rfl
end Go.Proofs.YtidlohfkfdeaiaaDoor
