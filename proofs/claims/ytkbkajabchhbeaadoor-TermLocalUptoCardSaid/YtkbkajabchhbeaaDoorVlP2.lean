/- Layer 15, plain: terms, their order, their texts. -/
import Derived.Test.YtkbkajabchhbeaaDoorVlTypes
import Derived.Test.YtkbkajabchhbeaaDoorVlRunB
import Derived.Test.YtkbkajabchhbeaaDoorVlFlb
import Derived.Eval
set_option linter.unusedSimpArgs false
set_option linter.unusedVariables false
namespace Go.Proofs.YtkbkajabchhbeaaDoor
open Go Go.Vl
inductive Tm where
 | mk (kind n : Int) (l : List Tm)
def Tm.kind : Tm → Int | .mk k _ _ => k
def Tm.n : Tm → Int | .mk _ n _ => n
def Tm.l : Tm → List Tm | .mk _ _ l => l
abbrev By := List UInt8
mutual
def sizeT : Tm → Nat
 | .mk _ _ l => 1 + sizeL l
def sizeL : List Tm → Nat
 | [] => 0
 | t :: l => sizeT t + sizeL l
end
theorem Tm.ind {p : Tm → Prop} (h : ∀ k n l, (∀ t ∈ l, p t) → p (.mk k n l)) : ∀ t, p t := fun t =>
 Tm.rec (motive_1 := p) (motive_2 := fun l => ∀ t ∈ l, p t) (fun k n l ih => h k n l ih) (fun t ht => by cases ht) (fun t l h1 h2 u hu => by
  rcases List.mem_cons.1 hu with rfl | hu
  ·exact h1
  ·exact h2 u hu) t
def arityI (k : Int) : Int := if k = 1 ∨ k = 2 then 0 else if k = 3 ∨ k = 4 ∨ k = 6 then 2 else if k = 5 then 1 else -1
mutual
def validT : Tm → Bool
 | .mk k n l => decide (0 ≤ n) && decide (n ≤ 2147483647) && decide ((l.length : Int) = arityI k) && (!decide (k = 3 ∨ k = 6) || decide (n = 0)) && validL l
def validL : List Tm → Bool
 | [] => true
 | t :: l => validT t && validL l
end
theorem validL_iff {l : List Tm} : validL l = true ↔ ∀ t ∈ l, validT t = true := by
 induction l with
 | nil => simp [validL]
 | cons t l ih => simp [validL, ih]
def cmpJ (a b : Int) : Int := if a < b then -1 else if b < a then 1 else 0
def orJ (a b : Int) : Int := if a = 0 then b else a
mutual
def cmpT : Tm → Tm → Int
 | .mk k n l, .mk k' n' l' => orJ (cmpJ k k') (orJ (cmpJ n n') (cmpL l l'))
def cmpL : List Tm → List Tm → Int
 | [], [] => 0
 | [], _ :: _ => -1
 | _ :: _, [] => 1
 | a :: l, b :: m => orJ (cmpT a b) (cmpL l m)
end
theorem cmpJ_zero {a b : Int} : cmpJ a b = 0 ↔ a = b := by unfold cmpJ; split <;> (try split) <;> omega
theorem cmpJ_neg {a b : Int} : cmpJ a b = - cmpJ b a := by unfold cmpJ; split <;> (try split) <;> (try split) <;> omega
theorem orJ_zero {a b : Int} : orJ a b = 0 ↔ a = 0 ∧ b = 0 := by unfold orJ; split <;> simp_all
theorem orJ_neg {a b : Int} : orJ (-a) (-b) = - orJ a b := by unfold orJ; split <;> split <;> omega
theorem cmpL_of {l : List Tm} (h : ∀ t ∈ l, ∀ u, (cmpT t u = 0 ↔ t = u) ∧ cmpT t u = - cmpT u t) : ∀ m, (cmpL l m = 0 ↔ l = m) ∧ cmpL l m = - cmpL m l := by
 induction l with
 | nil => intro m; cases m <;> simp [cmpL]
 | cons t l ih =>
  intro m
  cases m with
  | nil => simp [cmpL]
  | cons u m =>
   obtain ⟨h1, h2⟩ := h t (List.mem_cons_self ..) u
   obtain ⟨i1, i2⟩ := ih (fun t ht => h t (List.mem_cons_of_mem _ ht)) m
   simp only [cmpL]
   refine ⟨?_, ?_⟩
   ·rw [orJ_zero, h1, i1]; simp
   ·rw [h2, i2, orJ_neg]
theorem cmpT_both : ∀ t u : Tm, (cmpT t u = 0 ↔ t = u) ∧ cmpT t u = - cmpT u t := by
 refine Tm.ind fun k n l ih => ?_
 intro u
 obtain ⟨k', n', l'⟩ := u
 obtain ⟨h1, h2⟩ := cmpL_of ih l'
 simp only [cmpT]
 refine ⟨?_, ?_⟩
 ·rw [orJ_zero, orJ_zero, cmpJ_zero, cmpJ_zero, h1]
  simp
 ·rw [h2, @cmpJ_neg k k', @cmpJ_neg n n', orJ_neg, orJ_neg]
theorem cmpT_zero {t u : Tm} : cmpT t u = 0 ↔ t = u := (cmpT_both t u).1
theorem cmpT_neg {t u : Tm} : cmpT t u = - cmpT u t := (cmpT_both t u).2
theorem cmpT_self {t : Tm} : cmpT t t = 0 := cmpT_zero.2 rfl
instance : DecidableEq Tm := fun t u => decidable_of_iff (cmpT t u = 0) cmpT_zero
theorem orJ_cases (a b : Int) : (a = 0 ∧ orJ a b = b) ∨ (a ≠ 0 ∧ orJ a b = a) := by unfold orJ; split <;> simp_all
theorem cmpJ_vals (a b : Int) : cmpJ a b = -1 ∧ a < b ∨ cmpJ a b = 0 ∧ a = b ∨ cmpJ a b = 1 ∧ b < a := by unfold cmpJ; split <;> (try split) <;> omega
def sgn (a : Int) : Prop := a = -1 ∨ a = 0 ∨ a = 1
theorem cmpL_sgn {l : List Tm} (h : ∀ t ∈ l, ∀ u, sgn (cmpT t u)) : ∀ m, sgn (cmpL l m) := by
 induction l with
 | nil => intro m; cases m <;> simp [cmpL, sgn]
 | cons t l ih =>
  intro m
  cases m with
  | nil => simp [cmpL, sgn]
  | cons u m =>
   have h1 := h t (List.mem_cons_self ..) u
   have h2 := ih (fun t ht => h t (List.mem_cons_of_mem _ ht)) m
   simp only [cmpL]
   rcases orJ_cases (cmpT t u) (cmpL l m) with ⟨_, e⟩ | ⟨_, e⟩ <;> rw [e] <;> assumption
theorem cmpT_sgn : ∀ t u : Tm, sgn (cmpT t u) := by
 refine Tm.ind fun k n l ih => ?_
 intro u
 obtain ⟨k', n', l'⟩ := u
 have h := cmpL_sgn ih l'
 simp only [cmpT]
 rcases orJ_cases (cmpJ k k') (orJ (cmpJ n n') (cmpL l l')) with ⟨_, e⟩ | ⟨_, e⟩ <;> rw [e]
 ·rcases orJ_cases (cmpJ n n') (cmpL l l') with ⟨_, e⟩ | ⟨_, e⟩ <;> rw [e]
  ·exact h
  ·rcases cmpJ_vals n n' with h | h | h <;> simp [sgn, h.1]
 ·rcases cmpJ_vals k k' with h | h | h <;> simp [sgn, h.1]
theorem or_lt {a b c a' b' c' : Int} (h1 : orJ a b < 0) (h2 : orJ a' b' < 0) (ha : a < 0 → a' ≤ 0 → c < 0) (ha' : a = 0 → a' < 0 → c < 0) (h0 : a = 0 → a' = 0 → c = 0) (hb : b < 0 → b' < 0 → c' < 0) : orJ c c' < 0 := by
 unfold orJ at *
 split at h1 <;> split at h2
 ·rename_i e1 e2
  rw [if_pos (h0 e1 e2)]; exact hb h1 h2
 ·rename_i e1 e2
  have := ha' e1 h2
  rw [if_neg (by omega)]; exact this
 ·rename_i e1 e2
  have := ha h1 (by omega)
  rw [if_neg (by omega)]; exact this
 ·rename_i e1 e2
  have := ha h1 (by omega)
  rw [if_neg (by omega)]; exact this
theorem cmpJ_lt {a b : Int} : cmpJ a b < 0 ↔ a < b := by rcases cmpJ_vals a b with h | h | h <;> omega
theorem cmpJ_le {a b : Int} : cmpJ a b ≤ 0 ↔ a ≤ b := by rcases cmpJ_vals a b with h | h | h <;> omega
theorem cmpT_trans : ∀ t u v : Tm, cmpT t u < 0 → cmpT u v < 0 → cmpT t v < 0 := by
 refine Tm.ind fun k n l ih => ?_
 intro u v
 obtain ⟨k1, n1, l1⟩ := u
 obtain ⟨k2, n2, l2⟩ := v
 simp only [cmpT]
 have hl : ∀ (l : List Tm), (∀ t ∈ l, ∀ u v, cmpT t u < 0 → cmpT u v < 0 → cmpT t v < 0) → ∀ m o, cmpL l m < 0 → cmpL m o < 0 → cmpL l o < 0 := by
  intro l
  induction l with
  | nil =>
   intro _ m o h1 h2
   cases m with
   | nil => simp [cmpL] at h1
   | cons u m => cases o with
    | nil => simp [cmpL] at h2
    | cons v o => simp [cmpL]
  | cons t l ihl =>
   intro h m o h1 h2
   cases m with
   | nil => simp [cmpL] at h1
   | cons u m => cases o with
    | nil => simp [cmpL] at h2
    | cons v o =>
     simp only [cmpL] at h1 h2 ⊢
     refine or_lt h1 h2 (fun a b => ?_) (fun a b => ?_) (fun a b => ?_) (fun a b => ihl (fun t ht => h t (List.mem_cons_of_mem _ ht)) m o a b)
     ·rcases Int.lt_or_eq_of_le b with b | b
      ·exact h t (List.mem_cons_self ..) u v a b
      ·rw [cmpT_zero] at b; subst b; exact a
     ·rw [cmpT_zero] at a; subst a; exact b
     ·rw [cmpT_zero] at a b; subst a; subst b; exact cmpT_self
 intro h1 h2
 refine or_lt h1 h2 (fun a b => ?_) (fun a b => ?_) (fun a b => ?_) (fun a b => or_lt a b (fun a b => ?_) (fun a b => ?_) (fun a b => ?_) (fun a b => hl l ih l1 l2 a b))
 ·rw [cmpJ_lt] at a ⊢; rw [cmpJ_le] at b; omega
 ·rw [cmpJ_zero] at a; rw [cmpJ_lt] at b ⊢; omega
 ·rw [cmpJ_zero] at a b ⊢; omega
 ·rw [cmpJ_lt] at a ⊢; rw [cmpJ_le] at b; omega
 ·rw [cmpJ_zero] at a; rw [cmpJ_lt] at b ⊢; omega
 ·rw [cmpJ_zero] at a b ⊢; omega
def ltT (t u : Tm) : Bool := decide (cmpT t u < 0)
theorem ltT_irrefl (t : Tm) : ltT t t = false := by simp [ltT, cmpT_self]
theorem ltT_trans {t u v : Tm} (h1 : ltT t u = true) (h2 : ltT u v = true) : ltT t v = true := by
 simp only [ltT, decide_eq_true_eq] at *; exact cmpT_trans _ _ _ h1 h2
theorem ltT_tot {t u : Tm} (h1 : ltT t u = false) (h2 : ltT u t = false) : t = u := by
 simp only [ltT, decide_eq_false_iff_not] at *
 rw [← cmpT_zero]
 have := @cmpT_neg t u
 omega
theorem ltT_asymm {t u : Tm} (h : ltT t u = true) : ltT u t = false := by
 simp only [ltT, decide_eq_true_eq, decide_eq_false_iff_not] at *
 have := @cmpT_neg t u
 omega
end Go.Proofs.YtkbkajabchhbeaaDoor
/- Layer 15, plain: a term's text tells the term. -/
namespace Go.Proofs.YtkbkajabchhbeaaDoor
open Go Go.Vl
def decF : Nat → Nat → By
 | 0, _ => []
 | f + 1, n => if n < 10 then [UInt8.ofNat (48 + n)] else decF f (n / 10) ++ [UInt8.ofNat (48 + n % 10)]
def dec (n : Nat) : By := decF 20 n
def isDig (c : UInt8) : Bool := decide (48 ≤ c.toNat) && decide (c.toNat ≤ 57)
def valD (l : By) : Nat := l.foldl (fun a c => a * 10 + (c.toNat - 48)) 0
theorem dig_of {d : Nat} (h : d < 10) : isDig (UInt8.ofNat (48 + d)) = true ∧ (UInt8.ofNat (48 + d)).toNat - 48 = d := by
 have : (UInt8.ofNat (48 + d)).toNat = 48 + d := by rw [UInt8.toNat_ofNat']; omega
 unfold isDig
 rw [this]
 simp; omega
theorem decF_dig : ∀ (f n : Nat), ∀ c ∈ decF f n, isDig c = true
 | 0, _, c, h => by cases h
 | f + 1, n, c, h => by
  unfold decF at h
  split at h
  ·rename_i hn
   rw [List.mem_singleton] at h; subst h; exact (dig_of hn).1
  ·rcases List.mem_append.1 h with h | h
   ·exact decF_dig f _ c h
   ·rw [List.mem_singleton] at h; subst h; exact (dig_of (Nat.mod_lt _ (by decide))).1
theorem decF_val : ∀ (f n : Nat), n < 10 ^ f → valD (decF f n) = n
 | 0, n, h => by simp at h; subst h; rfl
 | f + 1, n, h => by
  unfold decF
  split
  ·rename_i hn
   show 0 * 10 + ((UInt8.ofNat (48 + n)).toNat - 48) = n
   rw [(dig_of hn).2, Nat.zero_mul, Nat.zero_add]
  ·unfold valD
   rw [List.foldl_append, ← valD, decF_val f (n / 10) (by rw [Nat.pow_succ] at h; omega)]
   simp only [List.foldl_cons, List.foldl_nil, (dig_of (Nat.mod_lt n (by decide : 0 < 10))).2]
   omega
theorem decF_ne : ∀ (f n : Nat), decF (f + 1) n ≠ []
 | f, n => by unfold decF; split <;> simp
def stopB (s : By) : Prop := ∀ c, s.head? = some c → isDig c = false
theorem stop_nil : stopB [] := fun c h => by cases h
theorem stop_cons {c : UInt8} {s : By} (h : isDig c = false) : stopB (c :: s) := fun d hd => by simp at hd; subst hd; exact h
theorem tw_dec {l s : By} (hl : ∀ c ∈ l, isDig c = true) (hs : stopB s) : (l ++ s).takeWhile isDig = l ∧ (l ++ s).dropWhile isDig = s := by
 induction l with
 | nil =>
  cases s with
  | nil => exact ⟨rfl, rfl⟩
  | cons c s => simp [List.takeWhile, List.dropWhile, hs c rfl]
 | cons d l ih =>
  obtain ⟨i1, i2⟩ := ih fun c hc => hl c (List.mem_cons_of_mem _ hc)
  have hd := hl d (List.mem_cons_self ..)
  simp only [List.cons_append, List.takeWhile_cons, List.dropWhile_cons, hd, if_true, i1, i2, and_self]
theorem dec_split {n m : Nat} {s s' : By} (hn : n ≤ 2147483647) (hm : m ≤ 2147483647) (hs : stopB s) (hs' : stopB s') (h : dec n ++ s = dec m ++ s') : n = m ∧ s = s' := by
 obtain ⟨a1, a2⟩ := tw_dec (l := dec n) (decF_dig 20 n) hs
 obtain ⟨b1, b2⟩ := tw_dec (l := dec m) (decF_dig 20 m) hs'
 rw [h] at a1 a2
 refine ⟨?_, a2.symm.trans b2⟩
 have e : dec n = dec m := a1.symm.trans b1
 have := congrArg valD e
 unfold dec at this
 have h20 : (10 : Nat) ^ 20 = 100000000000000000000 := by decide
 rw [decF_val 20 n (by omega), decF_val 20 m (by omega)] at this
 exact this
def nameK (k : Int) : By :=
 if k = 1 then [100] else if k = 2 then [107] else if k = 3 then [115, 101, 97, 108] else if k = 4 then [98, 111, 120] else if k = 5 then [107, 100, 102] else if k = 6 then [109, 97, 99] else []
def countK (k : Int) : Bool := decide (k = 1 ∨ k = 2 ∨ k = 4 ∨ k = 5)
def joinB : List By → By
 | [] => []
 | [a] => a
 | a :: b :: l => a ++ (44 :: joinB (b :: l))
def headK (k n : Int) : By := nameK k ++ (if countK k = true then dec n.toNat else [])
mutual
def textT : Tm → By
 | .mk k n l => headK k n ++ (if decide (arityI k = 0) = true then [] else 40 :: (joinB (textL l) ++ [41]))
def textL : List Tm → List By
 | [] => []
 | t :: l => textT t :: textL l
end
theorem textL_eq {l : List Tm} : textL l = l.map textT := by
 induction l with
 | nil => rfl
 | cons t l ih => simp [textL, ih]
theorem dec_head (n : Nat) : ∃ c l, dec n = c :: l ∧ isDig c = true := by
 have h := decF_ne 19 n
 have hd := decF_dig 20 n
 unfold dec
 generalize decF 20 n = x at h hd
 cases x with
 | nil => exact absurd rfl h
 | cons c l => exact ⟨c, l, rfl, hd c (List.mem_cons_self ..)⟩
def okK (k : Int) : Prop := k = 1 ∨ k = 2 ∨ k = 3 ∨ k = 4 ∨ k = 5 ∨ k = 6
theorem head_split {k n k' n' : Int} {s s' : By} (hk : okK k) (hk' : okK k') (hn : 0 ≤ n ∧ n ≤ 2147483647 ∧ (countK k = false → n = 0)) (hn' : 0 ≤ n' ∧ n' ≤ 2147483647 ∧ (countK k' = false → n' = 0))
  (hs : stopB s) (hs' : stopB s') (h : headK k n ++ s = headK k' n' ++ s') : k = k' ∧ n = n' ∧ s = s' := by
 have num : ∀ {r r' : By}, countK k = true → dec n.toNat ++ r = dec n'.toNat ++ r' → stopB r → stopB r' → n = n' ∧ r = r' := fun hc h h1 h2 => by
  obtain ⟨e1, e2⟩ := dec_split (by omega) (by omega) h1 h2 h
  exact ⟨by omega, e2⟩
 have key : ∀ (m : Nat) (r : By) (r' : By), dec m ++ r ≠ 100 :: r' := fun m r r' h => by
  obtain ⟨c, l, e, hd⟩ := dec_head m
  rw [e, List.cons_append, List.cons.injEq] at h
  rw [h.1] at hd; revert hd; decide
 unfold headK at h
 rcases hk with rfl | rfl | rfl | rfl | rfl | rfl <;> rcases hk' with rfl | rfl | rfl | rfl | rfl | rfl <;> simp [nameK, countK] at h hn hn' <;>
  first
  | (exact absurd h (key _ _ _))
  | (exact absurd h.symm (key _ _ _))
  | (obtain ⟨e1, e2⟩ := num rfl h hs hs'; exact ⟨rfl, e1, e2⟩)
  | (exact ⟨rfl, by omega, h⟩)
theorem valid_parts {k n : Int} {l : List Tm} (h : validT (.mk k n l) = true) : okK k ∧ (0 ≤ n ∧ n ≤ 2147483647 ∧ (countK k = false → n = 0)) ∧ (l.length : Int) = arityI k ∧ ∀ t ∈ l, validT t = true := by
 simp only [validT, Bool.and_eq_true, decide_eq_true_eq, Bool.or_eq_true, Bool.not_eq_true', decide_eq_false_iff_not, validL_iff] at h
 obtain ⟨⟨⟨⟨h1, h2⟩, h3⟩, h4⟩, h5⟩ := h
 have hk : okK k := by
  unfold arityI at h3
  unfold okK
  split at h3
  ·omega
  ·split at h3
   ·omega
   ·split at h3
    ·omega
    ·omega
 refine ⟨hk, ⟨h1, h2, fun hc => ?_⟩, h3, h5⟩
 rcases h4 with h4 | h4
 ·rcases hk with rfl | rfl | rfl | rfl | rfl | rfl <;> simp [countK] at hc h4
 ·exact h4
theorem stop40 {s : By} : stopB (40 :: s) := stop_cons (by decide)
theorem stop41 {s : By} : stopB (41 :: s) := stop_cons (by decide)
theorem stop44 {s : By} : stopB (44 :: s) := stop_cons (by decide)
theorem text_split : ∀ (t u : Tm) (s s' : By), validT t = true → validT u = true → stopB s → stopB s' → textT t ++ s = textT u ++ s' → t = u ∧ s = s' := by
 refine Tm.ind fun k n l ih => ?_
 intro u s s' hv hu hs hs' h
 obtain ⟨k', n', l'⟩ := u
 obtain ⟨hk, hn, hl, hvl⟩ := valid_parts hv
 obtain ⟨hk', hn', hl', hul⟩ := valid_parts hu
 simp only [textT, List.append_assoc] at h
 have st : ∀ (k : Int) (l : List Tm) (s : By), stopB s → stopB ((if decide (arityI k = 0) = true then [] else 40 :: (joinB (textL l) ++ [41])) ++ s) := fun k l s hs => by
  split
  ·exact hs
  ·exact stop40
 obtain ⟨rfl, rfl, hr⟩ := head_split hk hk' hn hn' (st k l s hs) (st k' l' s' hs') h
 by_cases ha : arityI k = 0
 ·rw [if_pos (decide_eq_true ha), if_pos (decide_eq_true ha)] at hr
  have e1 : l = [] := List.eq_nil_of_length_eq_zero (by omega)
  have e2 : l' = [] := List.eq_nil_of_length_eq_zero (by omega)
  subst e1; subst e2
  exact ⟨rfl, hr⟩
 ·rw [if_neg (by simpa using ha), if_neg (by simpa using ha)] at hr
  simp only [List.cons_append, List.append_assoc, List.cons.injEq, true_and, List.nil_append] at hr
  have hc : (l.length = 1 ∧ l'.length = 1) ∨ (l.length = 2 ∧ l'.length = 2) := by
   rcases hk with rfl | rfl | rfl | rfl | rfl | rfl <;> simp [arityI] at hl hl' ha <;> omega
  rcases hc with ⟨c1, c2⟩ | ⟨c1, c2⟩
  ·obtain ⟨a, rfl⟩ := List.length_eq_one_iff.1 c1
   obtain ⟨b, rfl⟩ := List.length_eq_one_iff.1 c2
   simp only [textL, joinB] at hr
   obtain ⟨rfl, e⟩ := ih a (List.mem_cons_self ..) b _ _ (hvl _ (List.mem_cons_self ..)) (hul _ (List.mem_cons_self ..)) stop41 stop41 hr
   simp only [List.nil_append, List.cons_append, List.cons.injEq, true_and] at e
   exact ⟨rfl, e⟩
  ·match l, l', c1, c2 with
   | [a, a2], [b, b2], _, _ =>
    simp only [textL, joinB, List.append_assoc, List.cons_append] at hr
    obtain ⟨rfl, e⟩ := ih a (by simp) b _ _ (hvl _ (by simp)) (hul _ (by simp)) stop44 stop44 hr
    simp only [List.cons.injEq, true_and] at e
    obtain ⟨rfl, e2⟩ := ih a2 (by simp) b2 _ _ (hvl _ (by simp)) (hul _ (by simp)) stop41 stop41 e
    simp only [List.nil_append, List.cons_append, List.cons.injEq, true_and] at e2
    exact ⟨rfl, e2⟩
theorem text_inj {t u : Tm} (ht : validT t = true) (hu : validT u = true) (h : textT t = textT u) : t = u :=
 (text_split t u [] [] ht hu stop_nil stop_nil (by rw [h])).1
