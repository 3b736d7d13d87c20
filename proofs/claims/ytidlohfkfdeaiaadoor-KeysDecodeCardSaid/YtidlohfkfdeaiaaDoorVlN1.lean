/- The hash and the cipher on natural numbers, to be computed by the kernel. -/
import Derived.Test.YtidlohfkfdeaiaaDoorVlC6
import Derived.Test.YtidlohfkfdeaiaaDoorVlM2
set_option linter.unusedSimpArgs false
set_option linter.unusedVariables false
namespace Go.Proofs.YtidlohfkfdeaiaaDoor
open Go Go.Vl

def foL {α : Type} : List Nat → (List Nat → α) → α
  | [], f => f []
  | x :: xs, f => fo x fun y => foL xs fun ys => f (y :: ys)
theorem foL_eq {α : Type} : ∀ (l : List Nat) (f : List Nat → α), foL l f = f l
  | [], _ => rfl
  | x :: xs, f => by unfold foL; rw [fo_eq, foL_eq xs]
/-! The hash. -/
def addSN : Nat → List Nat → List Nat → Nat → List Nat → (List Nat → List Nat → Nat → List Nat) → List Nat
  | 0, s, b, n, _, K => K s b n
  | _ + 1, s, b, n, [], K => K s b n
  | f + 1, s, b, n, x :: t, K =>
    fo (Nat.min (t.length + 1) (64 - n % 64)) fun k =>
    foL (b.take (n % 64) ++ ((x :: t).take k ++ b.drop (n % 64 + k))) fun c =>
    foL (cond (Nat.beq (n % 64 + k) 64) (compN s c) s) fun s' =>
    fo ((n + k) % 18446744073709551616) fun m =>
    foL ((x :: t).drop k) fun u => addSN f s' c m u K
def outWN (w : Nat) : List Nat := [Nat.shiftRight w 24 % 256, Nat.shiftRight w 16 % 256, Nat.shiftRight w 8 % 256, w % 256]
def outN : List Nat → List Nat
  | [] => []
  | w :: l => outWN w ++ outN l
def u64beN (n : Nat) : List Nat := (List.range 8).map fun i => n / 2 ^ (56 - 8 * i) % 256
def padN (n : Nat) : List Nat := 128 :: (List.replicate ((119 - n % 64) % 64) 0 ++ u64beN (8 * n % 18446744073709551616))
def sumN (s b : List Nat) (n : Nat) : List Nat := addSN ((padN n).length + 1) s b n (padN n) fun s _ _ => foL (outN s) id
def toS (s : Str) (K : List Nat → List Nat → Nat → List Nat) : List Nat := K (toN s.state) (toB s.block) s.n
theorem toB_take (l : B) (n : Nat) : toB (l.take n) = (toB l).take n := List.map_take
theorem toB_drop (l : B) (n : Nat) : toB (l.drop n) = (toB l).drop n := List.map_drop
theorem toB_append (l m : B) : toB (l ++ m) = toB l ++ toB m := List.map_append
theorem toB_len (l : B) : (toB l).length = l.length := List.length_map ..
theorem addSN_eq : ∀ (f : Nat) (s : Str) (t : B) (K : List Nat → List Nat → Nat → List Nat), s.state.length = 8 → addSN f (toN s.state) (toB s.block) s.n (toB t) K = toS (addS f s t) K
  | 0, s, t, K, _ => rfl
  | f + 1, s, [], K, _ => rfl
  | f + 1, s, x :: t, K, h => by
    show addSN (f + 1) (toN s.state) (toB s.block) s.n (x.toNat :: toB t) K = _
    unfold addSN addS
    rw [if_neg (by simp)]
    simp only [fo_eq, foL_eq]
    have hk : Nat.min ((toB t).length + 1) (64 - s.n % 64) = min (x :: t).length (64 - s.n % 64) := by rw [toB_len]; rfl
    rw [hk]
    generalize min (x :: t).length (64 - s.n % 64) = k
    have hb : (toB s.block).take (s.n % 64) ++ ((x.toNat :: toB t).take k ++ (toB s.block).drop (s.n % 64 + k)) = toB (s.block.take (s.n % 64) ++ (x :: t).take k ++ s.block.drop (s.n % 64 + k)) := by
      rw [toB_append, toB_append, toB_take, toB_drop, List.append_assoc, toB_take]; rfl
    rw [hb]
    generalize s.block.take (s.n % 64) ++ (x :: t).take k ++ s.block.drop (s.n % 64 + k) = c
    have hs : cond (Nat.beq (s.n % 64 + k) 64) (compN (toN s.state) (toB c)) (toN s.state) = toN (if s.n % 64 + k = 64 then compress s.state c else s.state) := by
      by_cases e : s.n % 64 + k = 64
      · rw [if_pos e, e, ← compN_eq h]; rfl
      · rw [if_neg e]
        have : Nat.beq (s.n % 64 + k) 64 = false := by
          cases hq : Nat.beq (s.n % 64 + k) 64 with
          | false => rfl
          | true => exact absurd (Nat.eq_of_beq_eq_true hq) e
        rw [this]; rfl
    rw [hs]
    have hl : (if s.n % 64 + k = 64 then compress s.state c else s.state).length = 8 := by
      split
      · exact compress_len h
      · exact h
    generalize (if s.n % 64 + k = 64 then compress s.state c else s.state) = s' at *
    have := addSN_eq f ⟨s', c, (s.n + k) % 18446744073709551616⟩ ((x :: t).drop k) K hl
    rw [toB_drop] at this
    exact this
theorem outWN_eq (w : W) : outWN w.toNat = toB (outW w) := by
  have e : ∀ n : Nat, Nat.shiftRight w.toNat n % 256 = (lo8 (w >>> n)).toNat := fun n => by
    unfold lo8
    first
      | (rw [UInt8.toNat_ofNat', BitVec.toNat_ushiftRight]; rfl)
      | simp
  have e0 : w.toNat % 256 = (lo8 w).toNat := by
    unfold lo8
    first
      | (rw [UInt8.toNat_ofNat'])
      | simp
  unfold outWN outW toB
  rw [e, e, e, e0]; rfl
theorem outN_eq : ∀ l : List W, outN (toN l) = toB (outL l)
  | [] => rfl
  | w :: l => by
    show outWN w.toNat ++ outN (toN l) = toB (outW w ++ outL l)
    rw [toB_append, outWN_eq, outN_eq l]
theorem padN_eq (n : Nat) : padN n = toB (padS n) := by
  unfold padN padS u64beN u64be toB
  simp only [List.map_cons, List.map_append, List.map_replicate, List.map_map]
  congr 2
theorem sumN_eq (s : Str) (h : s.state.length = 8) : sumN (toN s.state) (toB s.block) s.n = toB (sumS s) := by
  unfold sumN sumS
  rw [padN_eq, toB_len, addSN_eq _ _ _ _ h]
  unfold toS addB
  show foL _ id = _
  rw [foL_eq, ← outN_eq]; rfl
def hashN (l : List (List Nat)) : List Nat := 
  match l with
  | [a] => addSN (a.length + 1) ivL (List.replicate 64 0) 0 a fun s b n => sumN s b n
  | [a, c] => addSN (a.length + 1) ivL (List.replicate 64 0) 0 a fun s b n => addSN (c.length + 1) s b n c fun s b n => sumN s b n
  | _ => []
theorem ivL_eq : ivL = toN iv := by decide +kernel
theorem hashN2 (a c : B) : hashN [toB a, toB c] = toB (sumS (addB (addB begin0 a) c)) := by
  have h1 := addSN_eq (a.length + 1) begin0 a (fun s b n => addSN (c.length + 1) s b n (toB c) fun s b n => sumN s b n) rfl
  have h2 := addSN_eq (c.length + 1) (addB begin0 a) c (fun s b n => sumN s b n) (addB_ok begin_ok a).1
  have h3 := sumN_eq (addB (addB begin0 a) c) (addB_ok (addB_ok begin_ok a) c).1
  unfold hashN
  simp only [toB_len, ivL_eq]
  exact h1.trans (h2.trans h3)
def padKN (k : List Nat) (w : Nat) : List Nat := (k ++ List.replicate (64 - k.length) 0).map (Nat.xor · w)
theorem padKN_eq (k : B) (w : UInt8) : padKN (toB k) w.toNat = toB (padK k w) := by
  unfold padKN padK
  rw [toB_len]
  have e : toB k ++ List.replicate (64 - k.length) 0 = toB (k ++ List.replicate (64 - k.length) 0) := by
    rw [toB_append]; unfold toB; rw [List.map_replicate]; rfl
  rw [e]
  unfold toB
  rw [List.map_map, List.map_map]
  refine List.map_congr_left fun x _ => ?_
  show Nat.xor x.toNat w.toNat = (x ^^^ w).toNat
  rw [UInt8.toNat_xor]; rfl
/-- For keys of at most 64 bytes. -/
def macN (k t : List Nat) : List Nat := foL (hashN [padKN k 54, t]) fun i => hashN [padKN k 92, i]
theorem macN_eq (k t : B) (h : k.length ≤ 64) : macN (toB k) (toB t) = toB (macB k t) := by
  unfold macN macB
  rw [if_neg (by omega), foL_eq, show (54 : Nat) = (54 : UInt8).toNat from rfl, show (92 : Nat) = (92 : UInt8).toNat from rfl, padKN_eq, padKN_eq, hashN2, hashN2]
theorem toB_inj {a b : B} (h : toB a = toB b) : a = b := by
  have : ∀ x : B, (toB x).map UInt8.ofNat = x := fun x => by
    unfold toB; rw [List.map_map]
    have : (UInt8.ofNat ∘ UInt8.toNat) = id := by funext y; simp
    rw [this, List.map_id]
  rw [← this a, ← this b, h]
/-! The cipher. -/
def qrN {α : Type} (a b c d : Nat) (K : Nat → Nat → Nat → Nat → α) : α :=
  fo (Nat.mod (a + b) 4294967296) fun a => fo (rrN (Nat.xor d a) 16) fun d => fo (Nat.mod (c + d) 4294967296) fun c => fo (rrN (Nat.xor b c) 20) fun b =>
  fo (Nat.mod (a + b) 4294967296) fun a => fo (rrN (Nat.xor d a) 24) fun d => fo (Nat.mod (c + d) 4294967296) fun c => fo (rrN (Nat.xor b c) 25) fun b => K a b c d
def qrAtN {α : Type} (s : List Nat) (i j k l : Nat) (K : List Nat → α) : α :=
  qrN (s.getD i 0) (s.getD j 0) (s.getD k 0) (s.getD l 0) fun a b c d => foL ((((s.set i a).set l d).set k c).set j b) K
theorem qrN_eq {α : Type} (a b c d : W) (K : Nat → Nat → Nat → Nat → α) : qrN a.toNat b.toNat c.toNat d.toNat K = K (qr a b c d).1.toNat (qr a b c d).2.1.toNat (qr a b c d).2.2.1.toNat (qr a b c d).2.2.2.toNat := by
  have ha : ∀ x y : W, Nat.mod (x.toNat + y.toNat) 4294967296 = (x + y).toNat := fun x y => by rw [mod_def, BitVec.toNat_add]
  have hx : ∀ x y : W, Nat.xor x.toNat y.toNat = (x ^^^ y).toNat := fun x y => by rw [BitVec.toNat_xor]; rfl
  unfold qrN qr
  simp only [fo_eq, ha, hx, rrN_eq _ (show 0 < 16 by decide), rrN_eq _ (show 0 < 20 by decide), rrN_eq _ (show 0 < 24 by decide), rrN_eq _ (show 0 < 25 by decide)]
theorem toN_set (s : List W) (i : Nat) (x : W) : toN (s.set i x) = (toN s).set i x.toNat := by unfold toN; rw [List.map_set]
theorem qrAtN_eq {α : Type} (s : List W) (i j k l : Nat) (K : List Nat → α) : qrAtN (toN s) i j k l K = K (toN (qrAt s i j k l)) := by
  unfold qrAtN qrAt atW
  rw [toN_getD, toN_getD, toN_getD, toN_getD, qrN_eq]
  simp only [foL_eq, toN_set]
def dbN {α : Type} (s : List Nat) (K : List Nat → α) : α :=
  qrAtN s 0 4 8 12 fun s => qrAtN s 1 5 9 13 fun s => qrAtN s 2 6 10 14 fun s => qrAtN s 3 7 11 15 fun s =>
  qrAtN s 0 5 10 15 fun s => qrAtN s 1 6 11 12 fun s => qrAtN s 2 7 8 13 fun s => qrAtN s 3 4 9 14 K
theorem dbN_eq {α : Type} (s : List W) (K : List Nat → α) : dbN (toN s) K = K (toN (diaS (colS s 4) 4)) := by
  unfold dbN
  rw [qrAtN_eq, qrAtN_eq, qrAtN_eq, qrAtN_eq, qrAtN_eq, qrAtN_eq, qrAtN_eq, qrAtN_eq]
  rfl
def dblN {α : Type} : Nat → List Nat → (List Nat → α) → α
  | 0, s, K => K s
  | n + 1, s, K => dblN n s fun s => dbN s K
theorem dblN_eq {α : Type} (s : List W) : ∀ (n : Nat) (K : List Nat → α), dblN n (toN s) K = K (toN (dblS s n))
  | 0, K => rfl
  | n + 1, K => by unfold dblN dblS; rw [dblN_eq s n, dbN_eq]
def leWN : Nat → List Nat → List Nat
  | 0, _ => []
  | n + 1, l => Nat.lor (Nat.lor (Nat.lor (l.getD 0 0) (Nat.shiftLeft (l.getD 1 0) 8)) (Nat.shiftLeft (l.getD 2 0) 16)) (Nat.shiftLeft (l.getD 3 0) 24) :: leWN n (l.drop 4)
theorem toB_getD (l : B) (i : Nat) : (toB l).getD i 0 = (l.getD i 0).toNat := by
  unfold toB
  rw [List.getD_eq_getElem?_getD, List.getD_eq_getElem?_getD, List.getElem?_map]
  cases l[i]? <;> rfl
theorem leWN_eq : ∀ (n : Nat) (l : B), leWN n (toB l) = toN (leWs n l)
  | 0, _ => rfl
  | n + 1, l => by
    unfold leWN leWs
    rw [← toB_drop, leWN_eq n, toB_getD, toB_getD, toB_getD, toB_getD]
    show _ :: _ = (leW _ _ _ _).toNat :: toN _
    congr 1
    generalize l.getD 0 0 = a, l.getD 1 0 = b, l.getD 2 0 = c, l.getD 3 0 = d
    have h : ∀ (x : UInt8) (k : Nat), k ≤ 24 → (w8 x <<< k).toNat = Nat.shiftLeft x.toNat k := fun x k hk => by
      have hx := x.toNat_lt
      have hw : (w8 x).toNat = x.toNat := by
        unfold w8
        rw [BitVec.toNat_ofNat]; exact Nat.mod_eq_of_lt (by omega)
      rw [BitVec.toNat_shiftLeft, hw]
      refine Nat.mod_eq_of_lt ?_
      rw [Nat.shiftLeft_eq]
      calc x.toNat * 2 ^ k < 2 ^ 8 * 2 ^ k := Nat.mul_lt_mul_of_pos_right (by omega) (Nat.two_pow_pos k)
        _ = 2 ^ (8 + k) := (Nat.pow_add ..).symm
        _ ≤ 2 ^ 32 := Nat.pow_le_pow_right (by decide) (by omega)
    have h0 : (w8 a).toNat = a.toNat := by
      have hx := a.toNat_lt
      unfold w8
      rw [BitVec.toNat_ofNat]; exact Nat.mod_eq_of_lt (by omega)
    unfold leW
    rw [BitVec.toNat_or, BitVec.toNat_or, BitVec.toNat_or, h0, h b 8 (by decide), h c 16 (by decide), h d 24 (by decide)]
    rfl
def leBN : List Nat → List Nat
  | [] => []
  | w :: l => w % 256 :: Nat.shiftRight w 8 % 256 :: Nat.shiftRight w 16 % 256 :: Nat.shiftRight w 24 % 256 :: leBN l
theorem leBN_eq : ∀ l : List W, leBN (toN l) = toB (leL l)
  | [] => rfl
  | w :: l => by
    have e : ∀ n : Nat, Nat.shiftRight w.toNat n % 256 = (lo8 (w >>> n)).toNat := fun n => by
      unfold lo8
      first
        | (rw [UInt8.toNat_ofNat', BitVec.toNat_ushiftRight]; rfl)
        | simp
    have e0 : w.toNat % 256 = (lo8 w).toNat := by
      unfold lo8
      first
        | (rw [UInt8.toNat_ofNat'])
        | simp
    show w.toNat % 256 :: Nat.shiftRight w.toNat 8 % 256 :: Nat.shiftRight w.toNat 16 % 256 :: Nat.shiftRight w.toNat 24 % 256 :: leBN (toN l) = toB (leB w ++ leL l)
    rw [toB_append, e, e, e, e0, leBN_eq l]; rfl
def stN (key : List Nat) (ctr : Nat) (nonce : List Nat) : List Nat := [0x61707865, 0x3320646e, 0x79622d32, 0x6b206574] ++ leWN 8 key ++ [ctr] ++ leWN 3 nonce
theorem stN_eq (key nonce : B) (ctr : W) : stN (toB key) ctr.toNat (toB nonce) = toN (stW key ctr nonce) := by
  unfold stN stW
  rw [leWN_eq, leWN_eq]
  unfold toN
  rw [List.map_append, List.map_append, List.map_append]
  rfl
def blockN (key : List Nat) (ctr : Nat) (nonce : List Nat) : List Nat :=
  foL (stN key ctr nonce) fun s => dblN 10 s fun r => foL (leBN (addN r s)) id
theorem blockN_gen (n : Nat) (S : List W) : (foL (toN S) fun s => dblN n s fun r => foL (leBN (addN r s)) id) = toB (leL (addL (dblS S n) S)) := by
  rw [foL_eq, dblN_eq, foL_eq, ← leBN_eq, ← addN_eq]
  rfl
theorem blockN_eq (key nonce : B) (ctr : W) : blockN (toB key) ctr.toNat (toB nonce) = toB (blockB key ctr nonce) := by
  have h := blockN_gen 10 (stW key ctr nonce)
  rw [← stN_eq] at h
  exact h
end Go.Proofs.YtidlohfkfdeaiaaDoor
