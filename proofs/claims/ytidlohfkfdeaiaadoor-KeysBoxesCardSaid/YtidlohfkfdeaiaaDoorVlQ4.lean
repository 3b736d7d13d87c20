/- Layer 2 without a program: a stream's hash is the hash of its whole message, block by block. -/
import Derived.Test.YtidlohfkfdeaiaaDoorVlM2
set_option linter.unusedSimpArgs false
set_option linter.unusedVariables false
namespace Go.Proofs.YtidlohfkfdeaiaaDoor
open Go Go.Vl

/-- The hash value after some blocks. -/
def blkF (s : List W) (m : B) : Nat → List W
  | 0 => s
  | i + 1 => compress (blkF s m i) ((m.drop (64 * i)).take 64)
theorem blkF_len {s : List W} {m : B} (h : s.length = 8) : ∀ i, (blkF s m i).length = 8
  | 0 => h
  | i + 1 => compress_len (blkF_len h i)
theorem blkF_pre {s : List W} {m t : B} : ∀ i, 64 * i ≤ m.length → blkF s (m ++ t) i = blkF s m i
  | 0, _ => rfl
  | i + 1, h => by
    unfold blkF
    rw [blkF_pre i (by omega), List.drop_append_of_le_length (by omega), List.take_append_of_le_length (by rw [List.length_drop]; omega)]
/-- A stream that has got a message. -/
structure StrOf (s : Str) (m : B) : Prop where
  ok : s.ok
  n : s.n = m.length
  st : s.state = blkF iv m (m.length / 64)
  blk : s.block.take (m.length % 64) = m.drop (64 * (m.length / 64))
theorem begin_of : StrOf begin0 [] := ⟨begin_ok, rfl, rfl, rfl⟩
theorem addS_of : ∀ (f : Nat) (s : Str) (m t : B), StrOf s m → t.length < f → m.length + t.length < 18446744073709551616 → StrOf (addS f s t) (m ++ t)
  | 0, s, m, t, _, hf, _ => by omega
  | f + 1, s, m, t, h, hf, hn => by
    unfold addS
    split
    · next e => subst e; rw [List.append_nil]; exact h
    next hne =>
    have hl : 0 < t.length := List.length_pos_iff.2 hne
    obtain ⟨⟨h1, h2, h3⟩, hsn, hst, hblk⟩ := h
    have hmm : t = t.take (min t.length (64 - s.n % 64)) ++ t.drop (min t.length (64 - s.n % 64)) := (List.take_append_drop _ _).symm
    conv => rhs; rw [hmm, ← List.append_assoc]
    have hkd : min t.length (64 - s.n % 64) ≤ t.length ∧ s.n % 64 + min t.length (64 - s.n % 64) ≤ 64 ∧ 0 < min t.length (64 - s.n % 64) := by omega
    have hfull : s.n % 64 + min t.length (64 - s.n % 64) ≠ 64 → min t.length (64 - s.n % 64) = t.length := by omega
    generalize min t.length (64 - s.n % 64) = k at *
    obtain ⟨hk1, hk2, hk3⟩ := hkd
    have htk : (t.take k).length = k := by rw [List.length_take]; omega
    have hbl : (s.block.take (s.n % 64) ++ t.take k ++ s.block.drop (s.n % 64 + k)).length = 64 := by
      simp only [List.length_append, List.length_take, List.length_drop, h2]; omega
    refine addS_of f _ _ _ ?_ (by rw [List.length_drop]; omega) (by rw [List.length_append, htk, List.length_drop]; omega)
    have hml : (m ++ t.take k).length = m.length + k := by rw [List.length_append, htk]
    rw [hsn] at *
    have hq : m.drop (64 * (m.length / 64)) ++ t.take k = (m ++ t.take k).drop (64 * (m.length / 64)) := (List.drop_append_of_le_length (by omega)).symm
    have htake : (s.block.take (m.length % 64)).length = m.length % 64 := by rw [List.length_take, h2]; omega
    by_cases hf64 : m.length % 64 + k = 64
    · have hd : (m ++ t.take k).length / 64 = m.length / 64 + 1 := by rw [hml]; omega
      have hr : (m ++ t.take k).length % 64 = 0 := by rw [hml]; omega
      have hb : s.block.take (m.length % 64) ++ t.take k ++ s.block.drop (m.length % 64 + k) = ((m ++ t.take k).drop (64 * (m.length / 64))).take 64 := by
        rw [List.drop_eq_nil_of_le (by omega), List.append_nil, hblk, hq]
        exact (List.take_of_length_le (by rw [List.length_drop, hml]; omega)).symm
      refine ⟨⟨?_, hbl, by simp only; omega⟩, by simp only; rw [hml]; omega, ?_, ?_⟩
      · simp only [if_pos hf64]; exact compress_len h1
      · simp only [if_pos hf64]
        rw [hd, hb]
        unfold blkF
        rw [blkF_pre _ (by omega), ← hst]
      · simp only
        rw [hr, hd, List.take_zero, List.drop_eq_nil_of_le (by rw [hml]; omega)]
    · have hd : (m ++ t.take k).length / 64 = m.length / 64 := by rw [hml]; omega
      have hr : (m ++ t.take k).length % 64 = m.length % 64 + k := by rw [hml]; omega
      refine ⟨⟨?_, hbl, by simp only; omega⟩, by simp only; rw [hml]; omega, ?_, ?_⟩
      · simp only [if_neg hf64]; exact h1
      · simp only [if_neg hf64]
        rw [hd, blkF_pre _ (by omega), hst]
      · simp only
        rw [hr, hd, ← hq, ← hblk]
        exact List.take_left' (by rw [List.length_append, htk, htake])
theorem addB_of {s : Str} {m : B} (h : StrOf s m) (t : B) (hn : m.length + t.length < 18446744073709551616) : StrOf (addB s t) (m ++ t) := addS_of _ _ _ _ h (Nat.lt_succ_self _) hn
/-- The hash of a message, block by block. -/
def shaR (m : B) : B := outL (blkF iv (m ++ padS m.length) ((m ++ padS m.length).length / 64))
theorem iv_len : iv.length = 8 := rfl
theorem shaR_len (m : B) : (shaR m).length = 32 := by unfold shaR; rw [outL_len, blkF_len iv_len]
theorem padS_len (n : Nat) : (n + (padS n).length) % 64 = 0 ∧ (padS n).length ≤ 73 := by
  simp only [padS, u64be, List.length_cons, List.length_append, List.length_replicate, List.length_map, List.length_range]; omega
theorem sumS_of {s : Str} {m : B} (h : StrOf s m) (hn : m.length < 4611686018427387904) : sumS s = shaR m := by
  have hp := padS_len m.length
  unfold sumS shaR
  rw [h.n, (addB_of h (padS m.length) (by omega)).st]
theorem shaS_eq {m : B} (hn : m.length < 4611686018427387904) : shaS m = shaR m := by
  have := sumS_of (addB_of begin_of m (by simp only [List.length_nil]; omega)) (by simpa using hn)
  rwa [List.nil_append] at this
/-- The code of a text, on whole messages. -/
def macR (key text : B) : B := shaR (padK (if 64 < key.length then shaR key else key) 92 ++ shaR (padK (if 64 < key.length then shaR key else key) 54 ++ text))
theorem macB_eq {key text : B} (hk : key.length ≤ 1000000000) (ht : text.length ≤ 1000000000) : macB key text = macR key text := by
  unfold macB macR
  have hs : (if 64 < key.length then shaS key else key) = if 64 < key.length then shaR key else key := by
    split
    · exact shaS_eq (by omega)
    · rfl
  rw [hs]
  have hkl : (if 64 < key.length then shaR key else key).length ≤ 64 := by
    split
    · rw [shaR_len]; omega
    · omega
  generalize (if 64 < key.length then shaR key else key) = k at *
  have hp1 := padK_len (w := 54) hkl
  have hp2 := padK_len (w := 92) hkl
  have two : ∀ p x : B, p.length = 64 → x.length ≤ 1000000000 → sumS (addB (addB begin0 p) x) = shaR (p ++ x) := fun p x hp hx => by
    refine sumS_of (addB_of (m := p) ?_ x (by omega)) (by rw [List.length_append]; omega)
    have := addB_of begin_of p (by simp only [List.length_nil]; omega)
    rwa [List.nil_append] at this
  rw [two _ text hp1 ht, two _ _ hp2 (by rw [shaR_len]; omega)]
/-- The digest of parts, on whole messages. -/
def ofR (tag : Nat) (parts : List B) : B := (shaR (UInt8.ofNat tag :: (parts.map encB).flatten)).take 16
theorem ofS_of : ∀ (parts : List B) (s : Str) (m : B), StrOf s m → m.length + tot parts < 18446744073709551616 → StrOf (ofS s parts) (m ++ (parts.map encB).flatten)
  | [], s, m, h, _ => by simpa [ofS] using h
  | p :: r, s, m, h, hn => by
    rw [tot_cons] at hn
    have := ofS_of r _ _ (addB_of h (encB p) (by omega)) (by rw [List.length_append]; omega)
    rw [List.map_cons, List.flatten_cons, ← List.append_assoc]; exact this
theorem flat_tot (parts : List B) : (parts.map encB).flatten.length = tot parts := by
  unfold tot; rw [List.length_flatten, List.map_map]; rfl
theorem ofB_eq {tag : Nat} {parts : List B} (ht : tot parts ≤ 1000000000) : ofB tag parts = ofR tag parts := by
  unfold ofB ofR
  have h1 := addB_of begin_of [UInt8.ofNat tag] (by simp)
  have h2 := ofS_of parts _ _ h1 (by simp; omega)
  rw [sumS_of h2 (by simp only [List.nil_append, List.length_append, List.length_singleton, flat_tot]; omega)]
  rfl
end Go.Proofs.YtidlohfkfdeaiaaDoor
