/- Layer 1 without a program: the encoding of integers, byte strings and lists, and what is read back. -/
import Derived.Test.YtidlohfkfdeaiaaDoorVlWord
set_option linter.unusedSimpArgs false
set_option linter.unusedVariables false
namespace Go.Vl
open Go

/-- The base-256 digits, the greatest first. -/
def digF : Nat → Nat → B
  | 0, _ => []
  | f + 1, m => if m = 0 then [] else digF f (m / 256) ++ [UInt8.ofNat m]
def digs (m : Nat) : B := digF 8 m
def val (l : B) : Nat := l.foldl (fun m c => 256 * m + c.toNat) 0

theorem val_snoc (l : B) (c : UInt8) : val (l ++ [c]) = 256 * val l + c.toNat := by simp [val]
theorem val_nil : val [] = 0 := rfl
theorem digF_val : ∀ (f m : Nat), m < 256 ^ f → val (digF f m) = m
  | 0, m, h => by simp at h; subst h; rfl
  | f + 1, m, h => by
    unfold digF
    split
    · rename_i h0; subst h0; rfl
    · rw [val_snoc, digF_val f (m / 256) (by rw [Nat.pow_succ] at h; omega), UInt8.toNat_ofNat']
      omega
theorem digF_len : ∀ (f m : Nat), (digF f m).length ≤ f
  | 0, m => by simp [digF]
  | f + 1, m => by
    unfold digF
    split
    · simp
    · have := digF_len f (m / 256); simp; omega
theorem digF_head : ∀ (f m : Nat), m < 256 ^ f → (digF f m).head? ≠ some 0
  | 0, m, _ => by simp [digF]
  | f + 1, m, h => by
    unfold digF
    split
    · simp
    · rename_i hm
      have ih := digF_head f (m / 256) (by rw [Nat.pow_succ] at h; omega)
      have hv := digF_val f (m / 256) (by rw [Nat.pow_succ] at h; omega)
      cases hd : digF f (m / 256) with
      | nil =>
        rw [hd] at hv
        have hlt : m < 256 := by simp [val] at hv; omega
        simp only [List.nil_append, List.head?_cons, ne_eq, Option.some.injEq]
        intro e
        have := congrArg UInt8.toNat e
        rw [UInt8.toNat_ofNat'] at this
        simp at this; omega
      | cons c r => rw [hd] at ih; simpa using ih
theorem snocInd {p : B → Prop} (nil : p []) (snoc : ∀ l c, p l → p (l ++ [c])) (l : B) : p l := by
  have : ∀ l : B, p l.reverse := by
    intro l
    induction l with
    | nil => exact nil
    | cons c l ih => rw [List.reverse_cons]; exact snoc _ _ ih
  have h := this l.reverse
  rwa [List.reverse_reverse] at h
theorem snocCases (l : B) : l = [] ∨ ∃ a c, l = a ++ [c] := snocInd (p := fun l => l = [] ∨ ∃ a c, l = a ++ [c]) (.inl rfl) (fun l c _ => .inr ⟨l, c, rfl⟩) l
theorem val_lt : ∀ (l : B), val l < 256 ^ l.length := by
  intro l
  induction l using snocInd with
  | nil => simp [val]
  | snoc l c ih =>
    rw [val_snoc, List.length_append, List.length_singleton, Nat.pow_succ]
    have := c.toNat_lt; omega
theorem val_pos {c : UInt8} {r : B} (h : c ≠ 0) : 256 ^ r.length ≤ val (c :: r) := by
  have : ∀ r : B, val (c :: r) = c.toNat * 256 ^ r.length + val r := by
    intro r
    refine snocInd (p := fun r => val (c :: r) = c.toNat * 256 ^ r.length + val r) ?_ ?_ r
    · simp [val]
    · intro l d ih
      rw [← List.cons_append, val_snoc, val_snoc, ih, List.length_append, List.length_singleton, Nat.pow_succ, Nat.mul_add]
      have : c.toNat * (256 ^ l.length * 256) = 256 * (c.toNat * 256 ^ l.length) := by
        rw [← Nat.mul_assoc, Nat.mul_comm]
      omega
  rw [this]
  have hc : 1 ≤ c.toNat := by
    rcases Nat.eq_zero_or_pos c.toNat with h0 | h0
    · exact absurd (UInt8.toNat_inj.1 (by simpa using h0)) h
    · exact h0
  have := Nat.mul_le_mul_right (256 ^ r.length) hc
  omega
theorem digF_of_val : ∀ (f : Nat) (l : B), l.length ≤ f → l.head? ≠ some 0 → digF f (val l) = l := by
  intro f
  induction f with
  | zero => intro l h _; have : l = [] := List.eq_nil_of_length_eq_zero (by omega); subst this; rfl
  | succ f ih =>
    intro l h h0
    rcases snocCases l with rfl | ⟨l', c, rfl⟩
    · rfl
    · have hne : val (l' ++ [c]) ≠ 0 := by
        cases l' with
        | nil =>
          simp only [List.nil_append, List.head?_cons, ne_eq, Option.some.injEq] at h0
          have := val_pos (r := []) h0; simp at this ⊢; omega
        | cons d r =>
          simp only [List.cons_append, List.head?_cons, ne_eq, Option.some.injEq] at h0
          have := val_pos (r := r ++ [c]) h0
          have := Nat.pow_pos (n := (r ++ [c]).length) (show 0 < 256 by decide)
          rw [List.cons_append]; omega
      unfold digF
      rw [if_neg hne]
      have hv := val_snoc l' c
      have hc := c.toNat_lt
      have e1 : val (l' ++ [c]) / 256 = val l' := by rw [hv]; omega
      rw [e1, ih l' (by simp at h; omega) (by cases l' with | nil => simp | cons d r => simpa using h0), hv]
      congr 2
      apply UInt8.toNat_inj.1
      rw [UInt8.toNat_ofNat']; omega

theorem digs_val {m : Nat} (h : m < 18446744073709551616) : val (digs m) = m := digF_val 8 m (by simpa using h)
theorem digs_len (m : Nat) : (digs m).length ≤ 8 := digF_len 8 m
theorem digs_head {m : Nat} (h : m < 18446744073709551616) : (digs m).head? ≠ some 0 := digF_head 8 m (by simpa using h)
theorem digs_of {l : B} (h : l.length ≤ 8) (h0 : l.head? ≠ some 0) : digs (val l) = l := digF_of_val 8 l h h0
/-- How many digits. -/
theorem digs_lt {m : Nat} (h : m < 18446744073709551616) : m < 256 ^ (digs m).length := by
  have := val_lt (digs m); rwa [digs_val h] at this
theorem digs_ge {m : Nat} (h : m < 18446744073709551616) (h0 : m ≠ 0) : 0 < (digs m).length ∧ 256 ^ ((digs m).length - 1) ≤ m := by
  have hv := digs_val h
  have hh := digs_head h
  cases hd : digs m with
  | nil => rw [hd] at hv; exact absurd hv.symm h0
  | cons c r =>
    rw [hd] at hv hh
    refine ⟨by simp, ?_⟩
    have := val_pos (r := r) (c := c) (by simpa using hh)
    rw [hv] at this; simpa using this
theorem digs_zero : digs 0 = [] := rfl
/-- Digit number i, counted from the last one. -/
theorem digF_get : ∀ (f m i : Nat), i < (digF f m).length → (digF f m)[(digF f m).length - 1 - i]? = some (UInt8.ofNat (m / 256 ^ i))
  | 0, m, i, h => by simp [digF] at h
  | f + 1, m, i, h => by
    unfold digF at h ⊢
    split at h
    · simp at h
    · rename_i hm
      rw [if_neg hm]
      rw [List.length_append, List.length_singleton] at h ⊢
      cases i with
      | zero => rw [List.getElem?_append_right (by omega)]; simp
      | succ i =>
        rw [List.getElem?_append_left (by omega)]
        have := digF_get f (m / 256) i (by omega)
        rw [show (digF f (m / 256)).length + 1 - 1 - (i + 1) = (digF f (m / 256)).length - 1 - i by omega, this, Nat.pow_succ, Nat.mul_comm, Nat.div_div_eq_div_mul]
theorem digs_get {m i : Nat} (h : i < (digs m).length) : (digs m)[(digs m).length - 1 - i]? = some (UInt8.ofNat (m / 256 ^ i)) := digF_get 8 m i h

/-! Integers. -/
def flipOf (n : Int) : UInt8 := if n < 0 then 255 else 0
def magOf (n : Int) : Nat := if n < 0 then (-1 - n).toNat else n.toNat
def encI (n : Int) : B := (UInt8.ofNat (128 + (digs (magOf n)).length) ^^^ flipOf n) :: (digs (magOf n)).map (· ^^^ flipOf n)
def getI : B → Int × Nat × Int
  | [] => (0, 0, 5)
  | c :: r =>
    let f : UInt8 := if c.toNat < 128 then 255 else 0
    let k := (c ^^^ f).toNat - 128
    if 8 < k then (0, 0, 6) else if r.length < k then (0, 0, 5) else
    let d := (r.take k).map (· ^^^ f)
    if d.head? = some 0 then (0, 0, 6) else if 9223372036854775808 ≤ val d then (0, 0, 6) else
    (if c.toNat < 128 then -1 - (val d : Int) else val d, k + 1, 0)
def I64 (n : Int) : Prop := -9223372036854775808 ≤ n ∧ n ≤ 9223372036854775807
theorem magOf_lt {n : Int} (h : I64 n) : magOf n < 9223372036854775808 := by unfold I64 at h; unfold magOf; split <;> omega
theorem xor_flip (x f : UInt8) : x ^^^ f ^^^ f = x := by rw [UInt8.xor_assoc, UInt8.xor_self, UInt8.xor_zero]
theorem map_flip (l : B) (f : UInt8) : (l.map (· ^^^ f)).map (· ^^^ f) = l := by
  rw [List.map_map]; conv => rhs; rw [← List.map_id l]
  apply List.map_congr_left; intro x _; exact xor_flip x f
theorem xor_255 (c : UInt8) : (c ^^^ 255).toNat = 255 - c.toNat := by
  rw [show (255 : UInt8) = -1 from rfl, UInt8.xor_neg_one, UInt8.toNat_not]; rfl
theorem encI_len (n : Int) : 1 ≤ (encI n).length ∧ (encI n).length ≤ 9 := by
  have := digs_len (magOf n); unfold encI; rw [List.length_cons, List.length_map]; omega
theorem head_small : ∀ k, k ≤ 8 → ((UInt8.ofNat (128 + k) ^^^ 255).toNat = 127 - k ∧ (UInt8.ofNat (128 + k)).toNat = 128 + k) := by decide
theorem getI_enc {n : Int} (h : I64 n) (r : B) : getI (encI n ++ r) = (n, (encI n).length, 0) := by
  have hm := magOf_lt h
  have hl := digs_len (magOf n)
  obtain ⟨h1, h2⟩ := head_small _ hl
  have hv := digs_val (m := magOf n) (by omega)
  have hh := digs_head (m := magOf n) (by omega)
  by_cases hn : n < 0
  · have hf : flipOf n = 255 := by simp [flipOf, hn]
    have hlt : (UInt8.ofNat (128 + (digs (magOf n)).length) ^^^ 255).toNat < 128 := by omega
    unfold encI getI
    simp only [hf, List.cons_append, hlt, if_true, xor_flip, h2, Nat.add_sub_cancel_left, List.length_append, List.length_map, List.length_cons]
    rw [if_neg (by omega), if_neg (by omega), List.take_left' (by simp), map_flip, if_neg hh, hv, if_neg (by omega)]
    have : -1 - (magOf n : Int) = n := by unfold magOf; rw [if_pos hn]; omega
    rw [this]
  · have hf : flipOf n = 0 := by simp [flipOf, hn]
    have hlt : ¬ (128 + (digs (magOf n)).length < 128) := by omega
    unfold encI getI
    simp only [hf, List.cons_append, UInt8.xor_zero, hlt, if_false, h2, Nat.add_sub_cancel_left, List.length_append, List.length_cons, List.map_id_fun', id_eq]
    rw [if_neg (by omega), if_neg (by omega), List.take_left' rfl, if_neg hh, hv, if_neg (by omega)]
    have : (magOf n : Int) = n := by unfold magOf; rw [if_neg hn]; omega
    rw [this]
theorem enc_getI {b : B} {n : Int} {u : Nat} (h : getI b = (n, u, 0)) : I64 n ∧ u = (encI n).length ∧ b.take u = encI n ∧ u ≤ b.length := by
  cases b with
  | nil => simp [getI] at h
  | cons c r =>
    unfold getI at h
    simp only at h
    generalize hf : (if c.toNat < 128 then (255 : UInt8) else 0) = f at h
    generalize hk : (c ^^^ f).toNat - 128 = k at h
    split at h
    · simp at h
    · split at h
      · simp at h
      · split at h
        · simp at h
        · split at h
          · simp at h
          · rename_i h1 h2 h3 h4
            simp only [Prod.mk.injEq, and_true] at h
            obtain ⟨hn, rfl⟩ := h
            generalize hd : (r.take k).map (· ^^^ f) = d at *
            have hlen : d.length = k := by rw [← hd]; simp; omega
            have hdd := digs_of (l := d) (by omega) h3
            have hc := c.toNat_lt
            have hback : d.map (· ^^^ f) = r.take k := by rw [← hd, map_flip]
            have hneg : (n < 0) = (c.toNat < 128) := by
              rw [← hn]; split <;> simp_all <;> omega
            have hmag : magOf n = val d := by
              unfold magOf
              by_cases hcl : c.toNat < 128
              · rw [if_pos hcl] at hn; rw [if_pos (by omega)]; omega
              · rw [if_neg hcl] at hn; rw [if_neg (by omega)]; omega
            have hflip : flipOf n = f := by unfold flipOf; rw [← hf]; simp only [hneg]
            have hhead : UInt8.ofNat (128 + k) ^^^ f = c := by
              have hx : 128 ≤ (c ^^^ f).toNat := by
                rw [← hf]
                split
                · rename_i hlt
                  rw [xor_255]; omega
                · rw [UInt8.xor_zero]; omega
              have : UInt8.ofNat (128 + k) = c ^^^ f := by
                apply UInt8.toNat_inj.1
                rw [UInt8.toNat_ofNat']
                have := (c ^^^ f).toNat_lt
                omega
              rw [this, xor_flip]
            have henc : encI n = c :: r.take k := by
              unfold encI
              rw [hmag, hdd, hflip, hlen, hhead, hback]
            have hvd : (val d : Int) < 9223372036854775808 := by omega
            refine ⟨by unfold I64; rw [← hn]; split <;> omega, by rw [henc]; simp; omega, by rw [henc]; simp, by simp; omega⟩
theorem zz_used {n : Int} {u : Nat} {e q : Int} {m : Nat} (h : ((0 : Int), (0 : Nat), q) = (n, u, e)) (hq : q ≠ 0) : u ≤ m ∧ (e ≠ 0 → n = 0 ∧ u = 0) ∧ I64 n ∧ (e = 0 → 0 < u) := by
  simp only [Prod.mk.injEq] at h
  obtain ⟨rfl, rfl, rfl⟩ := h
  exact ⟨Nat.zero_le _, fun _ => ⟨rfl, rfl⟩, by unfold I64; omega, fun h => absurd h hq⟩
theorem getI_used {b : B} {n : Int} {u : Nat} {e : Int} (h : getI b = (n, u, e)) : u ≤ b.length ∧ (e ≠ 0 → n = 0 ∧ u = 0) ∧ I64 n ∧ (e = 0 → 0 < u) := by
  by_cases he : e = 0
  · subst he
    obtain ⟨h1, h2, h3, h4⟩ := enc_getI h
    exact ⟨h4, fun h5 => (h5 rfl).elim, h1, fun _ => by rw [h2]; have := encI_len n; omega⟩
  · cases b with
    | nil => exact zz_used h (by decide)
    | cons c r =>
      unfold getI at h
      simp only at h
      generalize hf : (if c.toNat < 128 then (255 : UInt8) else 0) = f at h
      generalize hk : (c ^^^ f).toNat - 128 = k at h
      split at h
      · exact zz_used h (by decide)
      · split at h
        · exact zz_used h (by decide)
        · split at h
          · exact zz_used h (by decide)
          · split at h
            · exact zz_used h (by decide)
            · simp only [Prod.mk.injEq] at h; exact absurd h.2.2.symm he
end Go.Vl

/- Layer 2 without a program: SHA-256 piece by piece, as the program computes it; and the same on natural numbers, to be computed. -/
namespace Go.Vl
open Go

def rr (x : W) (n : Nat) : W := (x <<< (32 - n)) ||| (x >>> n)
def mix (x : W) (i j k : Nat) : W := rr x i ^^^ rr x j ^^^ rr x k
/-- Bytes as a word. -/
def foldW (l : B) : W := l.foldl (fun a x => (a <<< 8) ||| w8 x) 0
theorem foldW_snoc (l : B) (x : UInt8) : foldW (l ++ [x]) = (foldW l <<< 8) ||| w8 x := by simp [foldW]
def sg0 (p : W) : W := rr p 7 ^^^ rr p 18 ^^^ (p >>> 3)
def sg1 (q : W) : W := rr q 17 ^^^ rr q 19 ^^^ (q >>> 10)
/-- The message schedule, the newest word first. -/
def schR (b : B) : Nat → List W
  | 0 => []
  | t + 1 => let l := schR b t
    (if t < 16 then foldW ((b.drop (4 * t)).take 4) else l.getD 15 0 + sg0 (l.getD 14 0) + l.getD 6 0 + sg1 (l.getD 1 0)) :: l
theorem schR_len (b : B) : ∀ t, (schR b t).length = t
  | 0 => rfl
  | t + 1 => by simp [schR, schR_len b t]
theorem schR_lo (b : B) {t : Nat} (h : t < 16) : schR b (t + 1) = foldW ((b.drop (4 * t)).take 4) :: schR b t := by
  conv => lhs; unfold schR
  simp only [h, if_true]
theorem schR_hi (b : B) {t : Nat} (h : ¬ t < 16) : schR b (t + 1) = ((schR b t).getD 15 0 + sg0 ((schR b t).getD 14 0) + (schR b t).getD 6 0 + sg1 ((schR b t).getD 1 0)) :: schR b t := by
  conv => lhs; unfold schR
  simp only [h, if_false]
structure R8 where
  v0 : W
  v1 : W
  v2 : W
  v3 : W
  e0 : W
  e1 : W
  e2 : W
  e3 : W
def stepR (r : R8) (k w : W) : R8 :=
  let x := r.e3 + mix r.e0 6 11 25 + ((r.e0 &&& r.e1) ^^^ (~~~r.e0 &&& r.e2)) + k + w
  let y := mix r.v0 2 13 22 + ((r.v0 &&& r.v1) ^^^ (r.v0 &&& r.v2) ^^^ (r.v1 &&& r.v2))
  ⟨x + y, r.v0, r.v1, r.v2, r.v3 + x, r.e0, r.e1, r.e2⟩
def k256 : List Nat := [0x428a2f98, 0x71374491, 0xb5c0fbcf, 0xe9b5dba5, 0x3956c25b, 0x59f111f1, 0x923f82a4, 0xab1c5ed5,
  0xd807aa98, 0x12835b01, 0x243185be, 0x550c7dc3, 0x72be5d74, 0x80deb1fe, 0x9bdc06a7, 0xc19bf174,
  0xe49b69c1, 0xefbe4786, 0x0fc19dc6, 0x240ca1cc, 0x2de92c6f, 0x4a7484aa, 0x5cb0a9dc, 0x76f988da,
  0x983e5152, 0xa831c66d, 0xb00327c8, 0xbf597fc7, 0xc6e00bf3, 0xd5a79147, 0x06ca6351, 0x14292967,
  0x27b70a85, 0x2e1b2138, 0x4d2c6dfc, 0x53380d13, 0x650a7354, 0x766a0abb, 0x81c2c92e, 0x92722c85,
  0xa2bfe8a1, 0xa81a664b, 0xc24b8b70, 0xc76c51a3, 0xd192e819, 0xd6990624, 0xf40e3585, 0x106aa070,
  0x19a4c116, 0x1e376c08, 0x2748774c, 0x34b0bcb5, 0x391c0cb3, 0x4ed8aa4a, 0x5b9cca4f, 0x682e6ff3,
  0x748f82ee, 0x78a5636f, 0x84c87814, 0x8cc70208, 0x90befffa, 0xa4506ceb, 0xbef9a3f7, 0xc67178f2]
def kW : List W := k256.map (BitVec.ofNat 32)
theorem kW_len : kW.length = 64 := rfl
/-- The rounds. -/
def rounds : List W → List W → R8 → R8
  | k :: ks, w :: ws, r => rounds ks ws (stepR r k w)
  | _, _, r => r
def ofL : List W → R8
  | [a, b, c, d, e, f, g, h] => ⟨a, b, c, d, e, f, g, h⟩
  | _ => ⟨0, 0, 0, 0, 0, 0, 0, 0⟩
def R8.toL (r : R8) : List W := [r.v0, r.v1, r.v2, r.v3, r.e0, r.e1, r.e2, r.e3]
def addL (a b : List W) : List W := List.zipWith (· + ·) a b
def compress (s : List W) (b : B) : List W := addL s (rounds kW (schR b 64).reverse (ofL s)).toL
def ivL : List Nat := [0x6a09e667, 0xbb67ae85, 0x3c6ef372, 0xa54ff53a, 0x510e527f, 0x9b05688c, 0x1f83d9ab, 0x5be0cd19]
def iv : List W := ivL.map (BitVec.ofNat 32)
theorem toL_len (r : R8) : r.toL.length = 8 := rfl
theorem compress_len {s : List W} {b : B} (h : s.length = 8) : (compress s b).length = 8 := by simp [compress, addL, h, toL_len]

/-! The hash of a message. -/
def hst (fuel : Nat) (s : List W) (m : B) : List W := match fuel with
  | 0 => s
  | f + 1 => if m.length < 64 then s else hst f (compress s (m.take 64)) (m.drop 64)
def u64be (n : Nat) : B := (List.range 8).map fun i => UInt8.ofNat (n / 2 ^ (56 - 8 * i))
def outW (w : W) : B := [lo8 (w >>> 24), lo8 (w >>> 16), lo8 (w >>> 8), lo8 w]
def outL (s : List W) : B := (s.map outW).flatten
/-! The same on natural numbers. -/
def fo {α : Type} (n : Nat) (f : Nat → α) : α := match n with
  | 0 => f 0
  | m + 1 => f (m + 1)
theorem fo_eq {α : Type} (n : Nat) (f : Nat → α) : fo n f = f n := by cases n <;> rfl
def rrN (x n : Nat) : Nat := Nat.lor ((Nat.shiftLeft x (32 - n)) % 4294967296) (Nat.shiftRight x n)
def mixN (x i j k : Nat) : Nat := Nat.xor (Nat.xor (rrN x i) (rrN x j)) (rrN x k)
def foldN (l : List Nat) : Nat := l.foldl (fun a x => Nat.lor ((Nat.shiftLeft a 8) % 4294967296) x) 0
def sg0N (p : Nat) : Nat := Nat.xor (Nat.xor (rrN p 7) (rrN p 18)) (Nat.shiftRight p 3)
def sg1N (q : Nat) : Nat := Nat.xor (Nat.xor (rrN q 17) (rrN q 19)) (Nat.shiftRight q 10)
def schN (b : List Nat) : Nat → List Nat
  | 0 => []
  | t + 1 => (fun l => fo (cond (Nat.ble (t + 1) 16) (foldN ((b.drop (4 * t)).take 4)) (Nat.mod (l.getD 15 0 + sg0N (l.getD 14 0) + l.getD 6 0 + sg1N (l.getD 1 0)) 4294967296)) fun w => w :: l) (schN b t)
def roundsN : List Nat → List Nat → Nat → Nat → Nat → Nat → Nat → Nat → Nat → Nat → List Nat
  | k :: ks, w :: ws, a, b, c, d, e, f, g, h =>
    fo (Nat.mod (h + mixN e 6 11 25 + Nat.xor (Nat.land e f) (Nat.land (4294967295 - e) g) + k + w) 4294967296) fun x =>
    fo (Nat.mod (x + (mixN a 2 13 22 + Nat.xor (Nat.xor (Nat.land a b) (Nat.land a c)) (Nat.land b c))) 4294967296) fun y =>
    fo (Nat.mod (d + x) 4294967296) fun z => roundsN ks ws y a b c z e f g
  | _, _, a, b, c, d, e, f, g, h => [a, b, c, d, e, f, g, h]
def addN : List Nat → List Nat → List Nat
  | a :: s, b :: t => fo (Nat.mod (a + b) 4294967296) fun c => c :: addN s t
  | _, _ => []
def compN (s b : List Nat) : List Nat := match s with
  | [a, c, d, e, f, g, h, i] => addN s (roundsN k256 (schN b 64).reverse a c d e f g h i)
  | _ => []

theorem mod_def (a b : Nat) : Nat.mod a b = a % b := rfl
def toN (l : List W) : List Nat := l.map BitVec.toNat
def toB (l : B) : List Nat := l.map UInt8.toNat
theorem rrN_eq (x : W) {n : Nat} (h : 0 < n) : rrN x.toNat n = (rr x n).toNat := by
  unfold rrN rr
  rw [BitVec.toNat_or, BitVec.toNat_shiftLeft, BitVec.toNat_ushiftRight]; rfl
theorem mixN_eq (x : W) {i j k : Nat} (hi : 0 < i) (hj : 0 < j) (hk : 0 < k) : mixN x.toNat i j k = (mix x i j k).toNat := by
  unfold mixN mix
  rw [rrN_eq _ hi, rrN_eq _ hj, rrN_eq _ hk, BitVec.toNat_xor, BitVec.toNat_xor]; rfl
theorem sg0N_eq (p : W) : sg0N p.toNat = (sg0 p).toNat := by
  unfold sg0N sg0
  rw [rrN_eq _ (by decide), rrN_eq _ (by decide), BitVec.toNat_xor, BitVec.toNat_xor, BitVec.toNat_ushiftRight]; rfl
theorem sg1N_eq (p : W) : sg1N p.toNat = (sg1 p).toNat := by
  unfold sg1N sg1
  rw [rrN_eq _ (by decide), rrN_eq _ (by decide), BitVec.toNat_xor, BitVec.toNat_xor, BitVec.toNat_ushiftRight]; rfl
theorem foldN_eq : ∀ (l : B) (a : W), (toB l).foldl (fun a x => Nat.lor ((Nat.shiftLeft a 8) % 4294967296) x) a.toNat = (l.foldl (fun (a : W) x => (a <<< 8) ||| w8 x) a).toNat
  | [], a => rfl
  | x :: l, a => by
    have : Nat.lor ((Nat.shiftLeft a.toNat 8) % 4294967296) x.toNat = ((a <<< 8) ||| w8 x).toNat := by
      rw [BitVec.toNat_or, BitVec.toNat_shiftLeft, w8_toNat]; rfl
    simp only [toB, List.map_cons, List.foldl_cons, this]
    exact foldN_eq l _
theorem toN_getD (l : List W) (i : Nat) : (toN l).getD i 0 = (l.getD i 0).toNat := by
  simp only [toN, List.getD_eq_getElem?_getD, List.getElem?_map]; cases l[i]? <;> rfl
theorem schN_eq (b : B) : ∀ t, schN (toB b) t = toN (schR b t)
  | 0 => rfl
  | t + 1 => by
    unfold schN schR
    rw [schN_eq b t]
    simp only [fo_eq]
    rw [toN_getD, toN_getD, toN_getD, toN_getD, sg0N_eq, sg1N_eq]
    simp only [toN, List.map_cons, List.cons.injEq, and_true]
    by_cases ht : t < 16
    · have : Nat.ble (t + 1) 16 = true := Nat.ble_eq_true_of_le ht
      rw [this, if_pos ht]
      show foldN _ = _
      have e : ((toB b).drop (4 * t)).take 4 = toB ((b.drop (4 * t)).take 4) := by simp [toB, List.map_drop, List.map_take]
      rw [e]; exact foldN_eq _ 0
    · have : Nat.ble (t + 1) 16 = false := by
        cases h : Nat.ble (t + 1) 16
        · rfl
        · exact absurd (Nat.le_of_ble_eq_true h) ht
      rw [this, if_neg ht]
      show Nat.mod _ _ = _
      rw [mod_def, BitVec.toNat_add, BitVec.toNat_add, BitVec.toNat_add]; omega
theorem roundsN_eq : ∀ (ks ws : List W) (r : R8), roundsN (toN ks) (toN ws) r.v0.toNat r.v1.toNat r.v2.toNat r.v3.toNat r.e0.toNat r.e1.toNat r.e2.toNat r.e3.toNat = toN (rounds ks ws r).toL
  | [], ws, r => by cases ws <;> rfl
  | k :: ks, [], r => rfl
  | k :: ks, w :: ws, r => by
    have ih := roundsN_eq ks ws (stepR r k w)
    simp only [toN, List.map_cons, roundsN, fo_eq, rounds] at ih ⊢
    rw [← ih]
    have hx : Nat.mod (r.e3.toNat + mixN r.e0.toNat 6 11 25 + Nat.xor (Nat.land r.e0.toNat r.e1.toNat) (Nat.land (4294967295 - r.e0.toNat) r.e2.toNat) + k.toNat + w.toNat) 4294967296 =
        (r.e3 + mix r.e0 6 11 25 + ((r.e0 &&& r.e1) ^^^ (~~~r.e0 &&& r.e2)) + k + w).toNat := by
      rw [mixN_eq _ (by decide) (by decide) (by decide)]
      have e : Nat.xor (Nat.land r.e0.toNat r.e1.toNat) (Nat.land (4294967295 - r.e0.toNat) r.e2.toNat) = ((r.e0 &&& r.e1) ^^^ (~~~r.e0 &&& r.e2)).toNat := by
        rw [BitVec.toNat_xor, BitVec.toNat_and, BitVec.toNat_and, BitVec.toNat_not]; rfl
      rw [e, mod_def]
      simp only [BitVec.toNat_add]; omega
    rw [hx]
    have hy : ∀ x : W, Nat.mod (x.toNat + (mixN r.v0.toNat 2 13 22 + Nat.xor (Nat.xor (Nat.land r.v0.toNat r.v1.toNat) (Nat.land r.v0.toNat r.v2.toNat)) (Nat.land r.v1.toNat r.v2.toNat))) 4294967296 =
        (x + (mix r.v0 2 13 22 + ((r.v0 &&& r.v1) ^^^ (r.v0 &&& r.v2) ^^^ (r.v1 &&& r.v2)))).toNat := by
      intro x
      rw [mixN_eq _ (by decide) (by decide) (by decide)]
      have e : Nat.xor (Nat.xor (Nat.land r.v0.toNat r.v1.toNat) (Nat.land r.v0.toNat r.v2.toNat)) (Nat.land r.v1.toNat r.v2.toNat) = ((r.v0 &&& r.v1) ^^^ (r.v0 &&& r.v2) ^^^ (r.v1 &&& r.v2)).toNat := by
        rw [BitVec.toNat_xor, BitVec.toNat_xor, BitVec.toNat_and, BitVec.toNat_and, BitVec.toNat_and]; rfl
      rw [e, mod_def]
      simp only [BitVec.toNat_add]; omega
    have hz : ∀ x : W, Nat.mod (r.v3.toNat + x.toNat) 4294967296 = (r.v3 + x).toNat := by
      intro x
      rw [mod_def, BitVec.toNat_add]
    rw [hy, hz]
    rfl
theorem addN_eq : ∀ (a b : List W), addN (toN a) (toN b) = toN (addL a b)
  | [], b => by cases b <;> rfl
  | a :: s, [] => rfl
  | a :: s, b :: t => by
    have ih := addN_eq s t
    simp only [toN, addL, List.map_cons, addN, fo_eq, List.zipWith_cons_cons, List.cons.injEq] at ih ⊢
    exact ⟨by rw [mod_def, BitVec.toNat_add], ih⟩
theorem k256_eq : k256 = toN kW := by decide +kernel
theorem compN_eq {s : List W} (h : s.length = 8) (b : B) : compN (toN s) (toB b) = toN (compress s b) := by
  match s, h with
  | [a, c, d, e, f, g, h, i], _ =>
    have := roundsN_eq kW (schR b 64).reverse ⟨a, c, d, e, f, g, h, i⟩
    unfold compress
    rw [← addN_eq]
    show _ = addN _ (toN (rounds kW (schR b 64).reverse ⟨a, c, d, e, f, g, h, i⟩).toL)
    rw [← this]
    unfold compN
    simp only [toN, List.map_cons, List.map_nil]
    rw [schN_eq, show kW.map BitVec.toNat = k256 from k256_eq.symm]
    simp only [toN, List.map_reverse]
end Go.Vl

/- Layer 2 without a program: streams, as values and as boxes. -/
namespace Go.Vl
open Go

structure Str where
  state : List W
  block : B
  n : Nat
def Str.ok (s : Str) : Prop := s.state.length = 8 ∧ s.block.length = 64 ∧ s.n < 18446744073709551616
def stC (s : Str) : List C := s.state.map wc ++ (s.block.map bc ++ [.lit (.int .u64 (s.n : Int))])
def stV (s : Str) : List V := (stC s).map .c
theorem stC_len {s : Str} (h : s.ok) : (stC s).length = 73 := by unfold stC; simp [h.1, h.2.1]
theorem stV_len {s : Str} (h : s.ok) : (stV s).length = 73 := by unfold stV; rw [List.length_map, stC_len h]
theorem isMb_stV {s : Str} : isMb (stV s) = false := by
  have := isMb_cl (f := id) (L := stC s)
  simpa [cl, stV] using this
theorem stV_ltB {s : Str} {m : Nat} : (stV s).all (fun x => x.ltB m) = true := by
  unfold stV; rw [List.all_map, List.all_eq_true]; intro x _; rfl

section
variable {s : Str} {b nb : Nat} {K : V → Prop}
theorem st_n (h : s.ok) (hb : b < nb) (hK : K (.c (.lit (.int .u64 (s.n : Int))))) : ldB nb b (stV s) 72 K := by
  obtain ⟨h1, h2, _⟩ := h
  unfold ldB
  have : (stV s)[72]? = some (.c (.lit (.int .u64 (s.n : Int)))) := by
    unfold stV stC
    rw [List.getElem?_map, List.getElem?_append_right (by simp [h1]), List.getElem?_append_right (by simp [h1, h2])]
    simp [h1, h2]
  rw [this]
  exact ⟨hb, hK⟩
theorem st_state (h : s.ok) (hb : b < nb) (hK : K (.agg (s.state.map wc))) : ldA nb b (stV s) 0 8 K := by
  have e : stV s = cl id (stC s) := by simp [stV, cl]
  rw [e]
  refine ldA_clp hb (by rw [stC_len h]; omega) ?_
  have : ((stC s).drop 0).take 8 = s.state.map wc := by unfold stC; rw [List.drop_zero, List.take_left' (by simp [h.1])]
  rw [this, List.map_id]; exact hK
theorem st_all (h : s.ok) (hb : b < nb) (hK : K (.agg (stC s))) : ldA nb b (stV s) 0 73 K := by
  have e : stV s = cl id (stC s) := by simp [stV, cl]
  rw [e]
  refine ldA_cl hb (stC_len h) ?_
  rw [List.map_id]; exact hK
/-- A word of the hash value. -/
theorem st_word (h : s.ok) (hb : b < nb) {i : Nat} {x : W} (hi : s.state[i]? = some x) (hK : K (.c (wc x))) : ldB nb b (stV s) i K := by
  unfold ldB
  have hl := (List.getElem?_eq_some_iff.1 hi).1
  have : (stV s)[i]? = some (.c (wc x)) := by
    unfold stV stC
    rw [List.getElem?_map, List.getElem?_append_left (by simpa using hl), List.getElem?_map, hi]; rfl
  rw [this]
  exact ⟨hb, hK⟩
theorem set_n (h : s.ok) {m : Nat} : setV (stV s) 72 [.c (.lit (.int .u64 (m : Int)))] = stV { s with n := m } := by
  obtain ⟨h1, h2, _⟩ := h
  have hl : (s.state.map wc ++ s.block.map bc).length = 72 := by simp [h1, h2]
  unfold setV stV stC
  rw [← List.append_assoc, ← List.append_assoc, List.map_append, List.map_append, List.take_left' (by simpa using hl), List.drop_eq_nil_of_le (by simp [h1, h2])]
  simp
theorem set_state (h : s.ok) {l : List W} (hl : l.length = 8) : setV (stV s) 0 ((l.map wc).map .c) = stV { s with state := l } := by
  unfold setV stV stC
  simp only [List.take_zero, List.nil_append, List.map_append, List.length_map, hl]
  rw [List.drop_left' (by simp [h.1])]
theorem set_block (h : s.ok) {at_ : Nat} {t : B} (ha : at_ + t.length ≤ 64) : setV (stV s) (8 + at_) (cl bc t) = stV { s with block := s.block.take at_ ++ t ++ s.block.drop (at_ + t.length) } := by
  obtain ⟨h1, h2, _⟩ := h
  unfold setV stV stC cl
  have hs : (s.state.map wc).length = 8 := by simp [h1]
  simp only [List.length_map]
  rw [List.map_append, List.map_append, List.map_append, List.map_append, List.map_append, List.map_append, List.map_append]
  have e1 : ((s.state.map wc).map V.c).length = 8 := by simp [h1]
  rw [List.take_append, List.drop_append, e1]
  rw [List.take_of_length_le (by rw [e1]; omega), List.drop_eq_nil_of_le (by rw [e1]; omega)]
  rw [show 8 + at_ - 8 = at_ by omega, show 8 + at_ + t.length - 8 = at_ + t.length by omega]
  rw [List.take_append_of_le_length (by simp; omega), List.drop_append_of_le_length (by simp; omega)]
  simp [List.map_take, List.map_drop, List.append_assoc]
theorem chunks1 : ∀ (n : Nat) (l : B) (r : List C), l.length = n → chunks 1 n (l.map bc ++ r) = bC l
  | 0, l, r, h => by
    have : l = [] := List.eq_nil_of_length_eq_zero h
    subst this; rfl
  | n + 1, [], r, h => by simp at h
  | n + 1, x :: l, r, h => by
    have := chunks1 n l r (by simpa using h)
    simp only [List.map_cons, List.cons_append, chunks, List.take_succ_cons, List.take_zero, List.drop_succ_cons, List.drop_zero, this]
    rfl
theorem view_block (h : s.ok) {fr : Nat → V} {bx : Nat → List V} (hb : b < nb) (hx : bx b = stV s) : viewC ⟨fr, bx, nb⟩ b 8 64 1 = some (.sl (bC s.block)) := by
  have hc : boxC ⟨fr, bx, nb⟩ b = some (stC s) := by
    unfold boxC
    simp only [if_pos hb, hx, stV]
    have : ∀ l : List C, (l.map V.c).mapM V.asC = some l := fun l => by
      induction l with
      | nil => rfl
      | cons x l ih => simp only [List.map_cons, List.mapM_cons, V.asC, ih]; rfl
    exact this _
  unfold viewC
  rw [hc]
  simp only
  rw [if_pos (by rw [stC_len h]; decide)]
  have : (stC s).drop 8 = s.block.map bc ++ [.lit (.int .u64 (s.n : Int))] := by
    unfold stC; rw [List.drop_left' (by simp [h.1])]
  rw [this, chunks1 64 _ _ h.2.1]
/-- A view of a box of bytes. -/
theorem view_bytes {l : B} {fr : Nat → V} {bx : Nat → List V} (hb : b < nb) (hx : bx b = cl bc l) (o m : Nat) (hm : o + m ≤ l.length) : viewC ⟨fr, bx, nb⟩ b o m 1 = some (.sl (bC ((l.drop o).take m))) := by
  have hc : boxC ⟨fr, bx, nb⟩ b = some (l.map bc) := by
    unfold boxC
    simp only [if_pos hb, hx, cl]
    have : ∀ l : B, (l.map fun x => V.c (bc x)).mapM V.asC = some (l.map bc) := fun l => by
      induction l with
      | nil => rfl
      | cons x l ih => simp only [List.map_cons, List.mapM_cons, V.asC, ih]; rfl
    exact this _
  unfold viewC
  rw [hc]
  simp only
  rw [if_pos (by simp; omega)]
  have e : (l.map bc).drop o = ((l.drop o).take m).map bc ++ ((l.drop o).drop m).map bc := by
    rw [← List.map_append, List.take_append_drop, List.map_drop]
  rw [e, chunks1 m _ _ (by simp; omega)]
end

/-! A longer message. -/
def addS : Nat → Str → B → Str
  | 0, s, _ => s
  | f + 1, s, t => if t = [] then s else
    let k := min t.length (64 - s.n % 64)
    let blk := s.block.take (s.n % 64) ++ t.take k ++ s.block.drop (s.n % 64 + k)
    addS f ⟨if s.n % 64 + k = 64 then compress s.state blk else s.state, blk, (s.n + k) % 18446744073709551616⟩ (t.drop k)
def addB (s : Str) (t : B) : Str := addS (t.length + 1) s t
theorem addS_ok : ∀ (f : Nat) (s : Str) (t : B), s.ok → (addS f s t).ok
  | 0, s, t, h => h
  | f + 1, s, t, h => by
    unfold addS
    split
    · exact h
    · refine addS_ok f _ _ ⟨?_, ?_, ?_⟩
      · simp only; split
        · exact compress_len h.1
        · exact h.1
      · simp only [List.length_append, List.length_take, List.length_drop, h.2.1]; omega
      · simp only; omega
/-- One turn of the loop, as the walk meets it. -/
theorem add_facts {f : Nat} {s : Str} {t : B} {z : Str} (hs : s.ok) (hne : t ≠ []) (hf : t.length < f) (ht : t.length ≤ 9223372036854775807) (hR : addS f s t = z) :
    ∃ (g m k n' : Nat) (blk : B), f = g + 1 ∧ m < 64 ∧ k ≤ t.length ∧ m + k ≤ 64 ∧ 0 < k ∧ min (bs8 t).size (64 - m) = k ∧ t.take (64 - m) = t.take k ∧
      ((s.n : Int)).tmod 64 = (m : Int) ∧ IntKind.u64.wrap ((s.n : Int) + (k : Int)) = (n' : Int) ∧
      s.block.take m ++ t.take k ++ s.block.drop (m + k) = blk ∧ blk.length = 64 ∧
      Str.ok ⟨s.state, blk, s.n⟩ ∧ Str.ok ⟨s.state, blk, n'⟩ ∧
      setV (stV s) (8 + m) (cl bc (t.take k)) = stV ⟨s.state, blk, s.n⟩ ∧
      setV (stV ⟨s.state, blk, s.n⟩) 72 [.c (.lit (.int .u64 (n' : Int)))] = stV ⟨s.state, blk, n'⟩ ∧
      (t.drop k).length < g ∧ (t.drop k).length ≤ 9223372036854775807 ∧
      (m + k = 64 → Str.ok ⟨compress s.state blk, blk, n'⟩ ∧ addS g ⟨compress s.state blk, blk, n'⟩ (t.drop k) = z) ∧
      (m + k ≠ 64 → addS g ⟨s.state, blk, n'⟩ (t.drop k) = z) := by
  obtain ⟨g, rfl⟩ : ∃ g, f = g + 1 := ⟨f - 1, by omega⟩
  have hlp : 0 < t.length := List.length_pos_iff.2 hne
  obtain ⟨h1, h2, h3⟩ := hs
  have hk1 : min t.length (64 - s.n % 64) ≤ t.length ∧ s.n % 64 + min t.length (64 - s.n % 64) ≤ 64 ∧ 0 < min t.length (64 - s.n % 64) := by omega
  have hbl : (s.block.take (s.n % 64) ++ t.take (min t.length (64 - s.n % 64)) ++ s.block.drop (s.n % 64 + min t.length (64 - s.n % 64))).length = 64 := by
    simp only [List.length_append, List.length_take, List.length_drop, h2]; omega
  have hn' : (s.n + min t.length (64 - s.n % 64)) % 18446744073709551616 < 18446744073709551616 := by omega
  have hset := set_block ⟨h1, h2, h3⟩ (at_ := s.n % 64) (t := t.take (min t.length (64 - s.n % 64))) (by rw [List.length_take]; omega)
  rw [List.length_take, Nat.min_eq_left hk1.1] at hset
  have hs1 : Str.ok ⟨s.state, s.block.take (s.n % 64) ++ t.take (min t.length (64 - s.n % 64)) ++ s.block.drop (s.n % 64 + min t.length (64 - s.n % 64)), s.n⟩ := ⟨h1, hbl, h3⟩
  refine ⟨g, s.n % 64, min t.length (64 - s.n % 64), (s.n + min t.length (64 - s.n % 64)) % 18446744073709551616, _, rfl, by omega, hk1.1, hk1.2.1, hk1.2.2, by rw [bs8_size], ?_, ?_, ?_, rfl, hbl, hs1, ⟨h1, hbl, hn'⟩, hset, set_n hs1, ?_, ?_, ?_, ?_⟩
  · rcases Nat.le_total t.length (64 - s.n % 64) with q | q
    · rw [List.take_of_length_le q, List.take_of_length_le (by omega)]
    · rw [Nat.min_eq_right q]
  · rw [Int.tmod_eq_emod_of_nonneg (by omega)]; omega
  · rw [IntKind.wrap_u64]; omega
  · rw [List.length_drop]; omega
  · rw [List.length_drop]; omega
  · intro e
    refine ⟨⟨compress_len h1, hbl, hn'⟩, ?_⟩
    rw [← hR]
    conv => rhs; unfold addS
    rw [if_neg hne]
    simp only
    rw [if_pos e]
  · intro e
    rw [← hR]
    conv => rhs; unfold addS
    rw [if_neg hne]
    simp only
    rw [if_neg e]
theorem addB_ok {s : Str} (h : s.ok) (t : B) : (addB s t).ok := addS_ok _ _ _ h
def begin0 : Str := ⟨iv, List.replicate 64 0, 0⟩
theorem begin_ok : begin0.ok := ⟨rfl, rfl, by decide⟩
/-- The hash of a stream's message. -/
def padS (n : Nat) : B := 128 :: (List.replicate ((119 - n % 64) % 64) 0 ++ u64be (8 * n % 18446744073709551616))
def sumS (s : Str) : B := outL (addB s (padS s.n)).state
def shaS (m : B) : B := sumS (addB begin0 m)
theorem addS_n : ∀ (f : Nat) (s : Str) (t : B), s.n < 18446744073709551616 → t.length < f → (addS f s t).n = (s.n + t.length) % 18446744073709551616
  | 0, s, t, _, h => by omega
  | f + 1, s, t, hs, h => by
    unfold addS
    split
    · next e => subst e; simp only [List.length_nil, Nat.add_zero]; omega
    · next e =>
      have hl : 0 < t.length := List.length_pos_iff.2 e
      have h2 : (t.drop (min t.length (64 - s.n % 64))).length = t.length - min t.length (64 - s.n % 64) := List.length_drop
      rw [addS_n f _ _ (by show (s.n + min t.length (64 - s.n % 64)) % 18446744073709551616 < 18446744073709551616; omega) (by rw [h2]; omega)]
      rw [h2]
      show ((s.n + min t.length (64 - s.n % 64)) % 18446744073709551616 + (t.length - min t.length (64 - s.n % 64))) % 18446744073709551616 = _
      omega
theorem addB_n {s : Str} (h : s.ok) (t : B) : (addB s t).n = (s.n + t.length) % 18446744073709551616 := addS_n _ _ _ h.2.2 (by omega)
theorem outW_at (w : W) (r : Nat) (h : r < 4) : (outW w)[r]? = some (lo8 (w >>> (24 - 8 * r))) := by
  match r, h with
  | 0, _ => rfl
  | 1, _ => rfl
  | 2, _ => rfl
  | 3, _ => simp [outW]
theorem outL_at : ∀ (l : List W) (q r : Nat) (w : W), l[q]? = some w → r < 4 → (outL l)[4 * q + r]? = some (lo8 (w >>> (24 - 8 * r)))
  | [], q, r, w, h, _ => by simp at h
  | x :: l, 0, r, w, h, hr => by
    have e : outL (x :: l) = outW x ++ outL l := rfl
    obtain rfl : x = w := by simpa using h
    rw [e, List.getElem?_append_left (by show 4 * 0 + r < 4; omega), show 4 * 0 + r = r by omega]
    exact outW_at x r hr
  | x :: l, q + 1, r, w, h, hr => by
    have e : outL (x :: l) = outW x ++ outL l := rfl
    have hx : (outW x).length = 4 := rfl
    rw [e, List.getElem?_append_right (by omega), hx, show 4 * (q + 1) + r - 4 = 4 * q + r by omega]
    exact outL_at l q r w (by simpa using h) hr
theorem outL_len : ∀ l : List W, (outL l).length = 4 * l.length
  | [] => rfl
  | x :: l => by
    have e : outL (x :: l) = outW x ++ outL l := rfl
    rw [e, List.length_append, outL_len l, List.length_cons, show (outW x).length = 4 from rfl]; omega
theorem sumS_len {s : Str} (h : s.ok) : (sumS s).length = 32 := by unfold sumS; rw [outL_len, (addB_ok h _).1]
theorem u64be_len (n : Nat) : (u64be n).length = 8 := by simp [u64be]
theorem u64be_at (n : Nat) {i : Nat} (h : i < 8) : (u64be n)[i]? = some (UInt8.ofNat (n / 2 ^ (56 - 8 * i))) := by
  unfold u64be; rw [List.getElem?_map, List.getElem?_range h]; rfl
theorem take_snoc {α : Type} {l : List α} {i : Nat} {x : α} (h : l[i]? = some x) : l.take (i + 1) = l.take i ++ [x] := by
  obtain ⟨h1, rfl⟩ := List.getElem?_eq_some_iff.1 h
  exact List.take_succ_eq_append_getElem h1

/-- An array that is filled from the front. -/
def fill {α : Type} (z : α) (n : Nat) (o : List α) (i : Nat) : List α := o.take i ++ List.replicate (n - i) z
theorem fill_len {α : Type} {z : α} {n i : Nat} {o : List α} (h : i ≤ o.length) (hn : i ≤ n) : (fill z n o i).length = n := by unfold fill; simp; omega
theorem fill_set {α : Type} {z x : α} {n i : Nat} {o : List α} (h : o[i]? = some x) (hn : i < n) : (fill z n o i).set i x = fill z n o (i + 1) := by
  have hl := (List.getElem?_eq_some_iff.1 h).1
  unfold fill
  have e : (o.take i).length = i := by rw [List.length_take]; omega
  rw [List.set_append_right _ _ (by omega), e, Nat.sub_self, show n - i = (n - (i + 1)) + 1 by omega, List.replicate_succ, List.set_cons_zero, take_snoc h, List.append_assoc]; rfl
theorem fill_all {α : Type} {z : α} {n : Nat} {o : List α} (h : o.length = n) : fill z n o n = o := by unfold fill; rw [List.take_of_length_le (by omega), Nat.sub_self]; simp
theorem fill_zero {α : Type} {z : α} {n : Nat} {o : List α} : fill z n o 0 = List.replicate n z := by unfold fill; simp
theorem setV_fill {α : Type} {f : α → C} {z x : α} {n i : Nat} {o : List α} (h : o[i]? = some x) (hn : i < n) : setV (cl f (fill z n o i)) i [.c (f x)] = cl f (fill z n o (i + 1)) := by
  have hl := (List.getElem?_eq_some_iff.1 h).1
  rw [setV_cl (by rw [fill_len (by omega) (by omega)]; exact hn), fill_set h hn]
/-- Two branches meet. -/
theorem join_cond {P : Program} {G : Gl} {tr : List Nat} {v : V} {c : Operand} {x y : Code} {s : S} {Q : VE → S → Prop} (J : S → Prop) (h : ∀ s', J s' → Q .normal s')
    (hb : ∀ R : VE → S → Prop, (∀ s', J s' → R .normal s') → (∀ e s', e ≠ .normal → Q e s' → R e s') → vcond P G tr v c x y R s) : vcond P G tr v c x y Q s := hb Q h fun _ _ _ h => h
/-- A loop that is left at more than one place. -/
theorem join_loop {P : Program} {G : Gl} {tr : List Nat} {body : Code} {s : S} {Q : VE → S → Prop} (i : Nat) (J : S → Prop) (h : ∀ s', J s' → Q (.exit i) s')
    (hb : ∀ R : VE → S → Prop, (∀ s', J s' → R (.exit i) s') → (∀ e s', e ≠ .exit i → Q e s' → R e s') → vwp P G tr (.loop body) R s) : vwp P G tr (.loop body) Q s := hb Q h fun _ _ _ h => h
/-- The ways through a guarded condition of a switch meet behind it. -/
theorem join_vgd {P : Program} {G : Gl} {tr : List Nat} {ops : Array Oper} {o : Oper} {r : List Oper} {b : Code} {i : Nat} {d : Option Tmp} {v : V} {w : Bool} {s : S} {Q : VE → S → Prop} (J : S → Prop) (h : ∀ s', J s' → Q .normal s')
    (hb : ∀ R : VE → S → Prop, (∀ s', J s' → R .normal s') → (∀ e s', e ≠ .normal → Q e s' → R e s') → vgd P G tr ops o r (seqK P G tr b (blkK i R) .normal) d v w s) : vgd P G tr ops o r (seqK P G tr b (blkK i Q) .normal) d v w s := hb Q h fun _ _ _ h => h
/-- A call whose one box is one of the caller's. -/
theorem callB_one {P : Program} {G : Gl} {s : S} {f : V} {args all cargs : List V} {g : FuncId} {K : S → V → Prop} {r : V} {c0 c1 : List C} (q : Nat) (hc : calleeV f args = some (g, all)) (hf : FnB P G g cargs [c0.map .c] r [c1.map .c])
    (hall : all.map V.fz = cargs.map (V.ren (rho [q] s.nb))) (hq : q < s.nb) (hb : s.bx q = c0.map .c) (hr : r.ren (rho [q] s.nb) = r) (hK : K ⟨s.fr, up s.bx q (c1.map .c), s.nb⟩ r) : vcallB P G s f args K := by
  have hm : ∀ (ρ : Nat → Nat) (l : List C), (l.map V.c).map (V.ren ρ) = l.map .c := fun ρ l => by
    rw [List.map_map]; rfl
  have h0 : rho [q] s.nb 0 = q := rfl
  unfold vcallB vcallE
  simp only [hc]
  refine ⟨[q], cargs, [c0.map .c], r, [c1.map .c], hf, hall, ⟨rfl, by simp⟩, ⟨⟨by rw [h0]; exact hq, by rw [h0, hm]; exact hb⟩, trivial⟩, ?_⟩
  rw [hr]
  have e : setBx (rho [q] s.nb) 0 [c1.map .c] s.bx = up s.bx q (c1.map .c) := by
    simp only [setBx, hm, h0]
  rw [e]
  exact hK
section
variable {P : Program} {K : V → Prop}
theorem q_shr {a n : Nat} (h : n ≤ 64) : vint .shr .u64 (a : Int) (n : Int) K = K (.c (.lit (.int .u64 ((a / 2 ^ n : Nat) : Int)))) := by
  have hm : min ((n : Int)).toNat IntKind.u64.bits = n := by rw [Int.toNat_natCast]; exact Nat.min_eq_left h
  have e : ((a : Int)).fdiv (2 ^ n) = ((a / 2 ^ n : Nat) : Int) := by
    rw [Int.fdiv_eq_ediv_of_nonneg _ (by exact Int.le_of_lt (Int.pow_pos (by decide))), Int.natCast_ediv, Int.natCast_pow]; rfl
  have h0 : (0 : Int) ≤ n := Int.natCast_nonneg n
  show ((0 : Int) ≤ n ∧ K (.c (.lit (.int .u64 (((a : Int)).fdiv (2 ^ (min ((n : Int)).toNat IntKind.u64.bits))))))) = _
  rw [hm, e, eq_true h0, true_and]
theorem q_not {a : Nat} (h : a < 18446744073709551616) : vun .xor (.c (.lit (.int .u64 (a : Int)))) K = K (.c (.lit (.int .u64 ((18446744073709551615 - a : Nat) : Int)))) := by
  show K (.c (.lit (.int .u64 (bits .xor .u64 (if IntKind.u64.signed then -1 else IntKind.u64.max) _)))) = _
  have e : (if IntKind.u64.signed then (-1 : Int) else IntKind.u64.max) = ((BitVec.allOnes 64).toNat : Int) := by decide
  have e2 : (BitVec.allOnes 64).toNat ^^^ a = 18446744073709551615 - a := by
    have := congrArg BitVec.toNat (BitVec.allOnes_xor (x := BitVec.ofNat 64 a))
    rw [BitVec.toNat_xor, BitVec.toNat_not, BitVec.toNat_ofNat, Nat.mod_eq_of_lt h] at this
    exact this
  rw [e, u64_xor_nat _ _ (BitVec.allOnes 64).isLt h, e2]
theorem conv_q8 {T U : TypeId} {i j : TI} {k : IntKind} {n : Nat} (hT : ti P T = some i) (hU : ti P U = some j) (hk : j.kd = .int .u8) : vconv P T U (.c (.lit (.int k (n : Int)))) K = K (.c (bc (UInt8.ofNat n))) := by
  obtain ⟨kd, a1, a2, a3, a4, a5, a6⟩ := j
  simp only at hk; subst hk
  have e : IntKind.u8.wrap ((n : Nat) : Int) = ((UInt8.ofNat n).toNat : Int) := by
    rw [UInt8.toNat_ofNat', IntKind.wrap_u8']; omega
  unfold vconv; rw [hT, hU]; simp only [e]
theorem app_bC {T e : TypeId} {i j : TI} {E : Option (TypeId × Nat)} {z : C} {l m : B} (hT : ti P T = some i) (hk : i.kd = .slice e) (hE : ti P e = some j) (hs : j.size = 1) (hb : j.bytes = 1) (hz : j.zero = some [z])
    (h0 : E = none ∨ E = some (e, 1)) (hl : l.length + m.length ≤ 140737488355328) (hK : K (.ow (if m.isEmpty then E else some (e, 1)) (bC (l ++ m)))) : vappend P T (.ow E (bC l)) (.c (.sl (bC m))) K := by
  obtain ⟨a1, a2, a3, a4, a5, a6, a7⟩ := i
  obtain ⟨b1, b2, b3, b4, b5, b6, b7⟩ := j
  simp only at hk hs hb hz; subst hk hs hb hz
  simp only [vappend, hT, hE, bC_len, bC_append]
  refine ⟨⟨by decide, rfl, h0, bC_one⟩, ⟨by omega, by omega, bC_one⟩, ?_⟩
  have : (bC m).isEmpty = m.isEmpty := by cases m <;> rfl
  rw [this]; exact hK
end
end Go.Vl

