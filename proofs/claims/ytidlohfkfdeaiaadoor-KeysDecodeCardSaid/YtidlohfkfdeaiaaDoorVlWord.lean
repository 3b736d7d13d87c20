/- Values without memory: words of 32 bits and bytes as bit vectors: the operations without side conditions. -/
import Derived.Test.YtidlohfkfdeaiaaDoorVlPack
import Derived.Laws.BitsAllLaws
set_option linter.unusedSimpArgs false
set_option linter.unusedVariables false
namespace Go.Vl
open Go Go.RowKit

abbrev W := BitVec 32
abbrev wc (w : W) : C := .lit (.int .u32 (w.toNat : Int))
abbrev bc (b : UInt8) : C := .lit (.int .u8 (b.toNat : Int))
def w8 (b : UInt8) : W := BitVec.ofNat 32 b.toNat
def lo8 (w : W) : UInt8 := UInt8.ofNat w.toNat
theorem w8_toNat (b : UInt8) : (w8 b).toNat = b.toNat := by
  unfold w8; rw [BitVec.toNat_ofNat]; exact Nat.mod_eq_of_lt (Nat.lt_trans b.toNat_lt (by decide))

section
variable {P : Program} {K : V → Prop} {a b : W} {T U : TypeId}

theorem wr_add : IntKind.u32.wrap ((a.toNat : Int) + b.toNat) = ((a + b).toNat : Int) := by
  rw [IntKind.wrap_u32', BitVec.toNat_add]; omega
theorem w_xor : vint .xor .u32 (a.toNat : Int) (b.toNat : Int) K = K (.c (wc (a ^^^ b))) := by
  show K (.c (.lit (.int .u32 (bits .xor .u32 _ _)))) = _
  rw [u32_xor_nat _ _ a.isLt b.isLt, ← BitVec.toNat_xor]
theorem w_and : vint .and .u32 (a.toNat : Int) (b.toNat : Int) K = K (.c (wc (a &&& b))) := by
  show K (.c (.lit (.int .u32 (bits .and .u32 _ _)))) = _
  rw [u32_and_nat _ _ a.isLt b.isLt, ← BitVec.toNat_and]
theorem w_or : vint .or .u32 (a.toNat : Int) (b.toNat : Int) K = K (.c (wc (a ||| b))) := by
  show K (.c (.lit (.int .u32 (bits .or .u32 _ _)))) = _
  rw [u32_or_nat _ _ a.isLt b.isLt, ← BitVec.toNat_or]
theorem w_not : vun .xor (.c (wc a)) K = K (.c (wc (~~~a))) := by
  show K (.c (.lit (.int .u32 (bits .xor .u32 (if IntKind.u32.signed then -1 else IntKind.u32.max) _)))) = _
  have e : (if IntKind.u32.signed then (-1 : Int) else IntKind.u32.max) = ((BitVec.allOnes 32).toNat : Int) := by decide
  rw [e, u32_xor_nat _ _ (BitVec.allOnes 32).isLt a.isLt, ← BitVec.toNat_xor, BitVec.allOnes_xor]
theorem w_shl {n : Nat} (h : n ≤ 32) : vint .shl .u32 (a.toNat : Int) (n : Int) K = K (.c (wc (a <<< n))) := by
  have hm : min ((n : Int)).toNat IntKind.u32.bits = n := by rw [Int.toNat_natCast]; exact Nat.min_eq_left h
  have e : IntKind.u32.wrap ((a.toNat : Int) * 2 ^ n) = ((a <<< n).toNat : Int) := by
    rw [IntKind.wrap_u32', BitVec.toNat_shiftLeft, Nat.shiftLeft_eq]
    rw [Int.natCast_emod, Int.natCast_mul, Int.natCast_pow]; rfl
  have h0 : (0 : Int) ≤ n := Int.natCast_nonneg n
  show ((0 : Int) ≤ n ∧ K (.c (.lit (.int .u32 (IntKind.u32.wrap ((a.toNat : Int) * 2 ^ (min ((n : Int)).toNat IntKind.u32.bits))))))) = _
  rw [hm, e, eq_true h0, true_and]
theorem w_shr {n : Nat} (h : n ≤ 32) : vint .shr .u32 (a.toNat : Int) (n : Int) K = K (.c (wc (a >>> n))) := by
  have hm : min ((n : Int)).toNat IntKind.u32.bits = n := by rw [Int.toNat_natCast]; exact Nat.min_eq_left h
  have e : ((a.toNat : Int)).fdiv (2 ^ n) = ((a >>> n).toNat : Int) := by
    rw [BitVec.toNat_ushiftRight, Nat.shiftRight_eq_div_pow]
    rw [Int.fdiv_eq_ediv_of_nonneg _ (by exact Int.le_of_lt (Int.pow_pos (by decide))), Int.natCast_ediv, Int.natCast_pow]; rfl
  have h0 : (0 : Int) ≤ n := Int.natCast_nonneg n
  show ((0 : Int) ≤ n ∧ K (.c (.lit (.int .u32 (((a.toNat : Int)).fdiv (2 ^ (min ((n : Int)).toNat IntKind.u32.bits))))))) = _
  rw [hm, e, eq_true h0, true_and]

/-! Bytes. -/
variable {x y : UInt8}
theorem b_xor : vint .xor .u8 (x.toNat : Int) (y.toNat : Int) K = K (.c (bc (x ^^^ y))) := by
  show K (.c (.lit (.int .u8 (bits .xor .u8 _ _)))) = _
  rw [u8_xor_nat _ _ x.toNat_lt y.toNat_lt, ← UInt8.toNat_xor]
theorem conv_w8 {i j : TI} (hT : ti P T = some i) (hU : ti P U = some j) (hk : j.kd = .int .u32) : vconv P T U (.c (bc x)) K = K (.c (wc (w8 x))) := by
  obtain ⟨kd, a1, a2, a3, a4, a5, a6⟩ := j
  simp only at hk; subst hk
  have h := x.toNat_lt
  have e : IntKind.u32.wrap ((x.toNat : Nat) : Int) = ((w8 x).toNat : Int) := by rw [w8_toNat, IntKind.wrap_u32']; omega
  unfold vconv; rw [hT, hU]; simp only [e]
theorem conv_lo8 {i j : TI} (hT : ti P T = some i) (hU : ti P U = some j) (hk : j.kd = .int .u8) : vconv P T U (.c (wc a)) K = K (.c (bc (lo8 a))) := by
  obtain ⟨kd, a1, a2, a3, a4, a5, a6⟩ := j
  simp only at hk; subst hk
  have e : IntKind.u8.wrap ((a.toNat : Nat) : Int) = ((lo8 a).toNat : Int) := by
    unfold lo8; rw [UInt8.toNat_ofNat', IntKind.wrap_u8']; omega
  unfold vconv; rw [hT, hU]; simp only [e]
end

/-! Byte strings as lists. -/
abbrev B := List UInt8
def bs8 (l : B) : ByteArray := ⟨l.toArray⟩
def bC (l : B) : List (List C) := l.map fun b => [bc b]
abbrev sv (l : B) : V := .c (.lit (.string (bs8 l)))
abbrev bv (l : B) : V := .c (.sl (bC l))
theorem strC_bs8 (l : B) : strC (bs8 l) = bC l := by simp [strC, bs8, bC]
theorem bs8_size (l : B) : (bs8 l).size = l.length := by simp [bs8, ByteArray.size]
theorem bs8_inj {a b : B} : bs8 a = bs8 b ↔ a = b := by
  unfold bs8
  constructor
  · intro h; have := congrArg (fun x : ByteArray => x.data.toList) h; simpa using this
  · rintro rfl; rfl
theorem bs8_dec (a b : B) : decide (bs8 a = bs8 b) = decide (a = b) := decide_eq_decide.2 bs8_inj
theorem bC_len (l : B) : (bC l).length = l.length := by simp [bC]
theorem bytesOf_bC : ∀ l : B, bytesOf (bC l) = some l
  | [] => rfl
  | b :: l => by
    have := bytesOf_bC l
    unfold bC at this ⊢
    simp only [List.map_cons, bytesOf, this, Option.map_some, Option.some.injEq, List.cons.injEq, and_true]
    rw [Int.toNat_natCast]; exact UInt8.ofNat_toNat
theorem bC_one {l : B} : ∀ x ∈ bC l, x.length = 1 := by simp [bC]
theorem bC_append (a b : B) : bC a ++ bC b = bC (a ++ b) := by simp [bC]
theorem bs8_extract (l : B) (i j : Nat) : (bs8 l).extract i j = bs8 ((l.take j).drop i) := by
  apply ByteArray.ext
  simp only [ByteArray.data_extract, bs8]
  apply Array.ext'
  simp only [List.extract_toArray, List.extract_eq_take_drop, List.drop_take]

/-! Boxes that are arrays of words or bytes. -/
def cl {α : Type} (f : α → C) (l : List α) : List V := l.map fun x => .c (f x)
section
variable {P : Program} {G : Gl} {tr : List Nat} {fr : Nat → V} {bx : Nat → List V} {nb : Nat} {K : S → Prop} {KV : V → Prop} {α : Type} {f : α → C} {L : List α}
theorem cl_len : (cl f L).length = L.length := by simp [cl]
theorem isMb_cl : isMb (cl f L) = false := by cases L <;> rfl
theorem cl_eq : cl f L = (L.map f).map .c := by simp [cl]
theorem cl_ltB {m : Nat} : (cl f L).all (fun x => x.ltB m) = true := by
  unfold cl; rw [List.all_map, List.all_eq_true]; intro x _; rfl
theorem zbox_cl {n : Nat} {x : α} : zbox n (.c (f x)) = cl f (List.replicate n x) := by simp [zbox, cl]
theorem flat_bC (l : B) : (bC l).flatten.map V.c = cl bc l := by
  unfold bC cl; induction l with
  | nil => rfl
  | cons b l ih => simp only [List.map_cons, List.flatten_cons, List.map_append, ih]; rfl
theorem ld_cl {b k : Nat} {x : α} (hb : b < nb) (h : L[k]? = some x) (hK : KV (.c (f x))) : ldB nb b (cl f L) k KV := by
  unfold ldB cl
  rw [List.getElem?_map, h]
  exact ⟨hb, hK⟩
theorem setV_cl {k : Nat} {x : α} (h : k < L.length) : setV (cl f L) k [.c (f x)] = cl f (L.set k x) := by
  unfold setV cl
  apply List.ext_getElem?
  intro j
  rw [List.getElem?_map, List.getElem?_set]
  rcases Nat.lt_trichotomy j k with q | q | q
  · rw [List.append_assoc, List.getElem?_append_left (by simp; omega), List.getElem?_take, if_pos q, List.getElem?_map, if_neg (by omega)]
  · subst q
    rw [List.append_assoc, List.getElem?_append_right (by rw [List.length_take]; exact Nat.min_le_left _ _), if_pos rfl, if_pos h]
    simp [Nat.min_eq_left (Nat.le_of_lt h)]
  · rw [List.getElem?_append_right (by simp; omega), if_neg (by omega)]
    simp only [List.length_append, List.length_take, List.length_map, List.length_singleton, List.getElem?_drop, List.getElem?_map]
    rw [Nat.min_eq_left (Nat.le_of_lt h), show k + 1 + (j - (k + 1)) = j by omega]
theorem setV_clp {k : Nat} {M : List α} (h : k + M.length ≤ L.length) : setV (cl f L) k (cl f M) = cl f (L.take k ++ M ++ L.drop (k + M.length)) := by
  unfold setV cl; simp [List.map_take, List.map_drop]
theorem ldA_clp {b o n : Nat} (hb : b < nb) (h : o + n ≤ L.length) (hK : KV (.agg (((L.drop o).take n).map f))) : ldA nb b (cl f L) o n KV := by
  unfold ldA
  have e : ((cl f L).drop o).take n = cl f ((L.drop o).take n) := by simp [cl, List.map_take, List.map_drop]
  rw [e]
  have e2 : (cl f ((L.drop o).take n)).map V.fz = (((L.drop o).take n).map f).map V.c := by simp [cl, List.map_map, Function.comp_def, V.fz]
  have e3 : (cl f ((L.drop o).take n)).all V.isPO = true := by
    unfold cl; rw [List.all_map, List.all_eq_true]; intro x _; rfl
  rw [e2, e3, aggV_map, cl_len]
  exact ⟨hb, ⟨by simp; omega, rfl⟩, hK⟩
theorem ldA_cl {b n : Nat} (hb : b < nb) (h : L.length = n) (hK : KV (.agg (L.map f))) : ldA nb b (cl f L) 0 n KV :=
  ldA_clp hb (by omega) (by rw [List.drop_zero, List.take_of_length_le (by omega)]; exact hK)
/-- A place in an array of single cells. -/
theorem ia_cl {T e : TypeId} {i j : TI} {kd : IntKind} {n : Int} {m o k q : Nat} (hT : ti P T = some i) (hk : i.kd = .arr m e) (hj : ti P e = some j) (hs : j.size = 1) (hn : n = (k : Nat)) (hm : k < m)
    (hK : KV (.bp q (o + k))) : vindexAddr P T (.bp q o) (.c (.lit (.int kd n))) KV := by
  subst hn
  refine ia_box hT hk hj (Int.natCast_nonneg k) (by omega) ?_
  simpa [hs] using hK
/-- A place in a slice that is a view of a box of single cells. -/
theorem ia_clm {T e : TypeId} {i j : TI} {kd : IntKind} {n : Int} {b o l c k : Nat} (hT : ti P T = some i) (hk : i.kd = .slice e) (hj : ti P e = some j) (hs : j.size = 1) (hn : n = (k : Nat)) (hm : k < l)
    (hK : KV (.bp b (o + k))) : vindexAddr P T (.ms b o l c 1) (.c (.lit (.int kd n))) KV := by
  subst hn
  refine ia_ms hT hk hj hs (by decide) (Int.natCast_nonneg k) (by omega) ?_
  simpa using hK
/-- An element of an array of single cells. -/
theorem ix_cl {T e : TypeId} {i j : TI} {kd : IntKind} {n : Int} {m k : Nat} {x : α} (hT : ti P T = some i) (hk : i.kd = .arr m e) (hj : ti P e = some j) (hs : j.size = 1) (ha : j.agg = false) (hn : n = (k : Nat)) (hm : k < m) (h : L[k]? = some x)
    (hK : KV (.c (f x))) : vindex P T (.agg (L.map f)) (.c (.lit (.int kd n))) KV := by
  subst hn
  obtain ⟨a1, a2, a3, a4, a5, a6, a7⟩ := i
  simp only at hk; subst hk
  simp only [vindex, hT, hj, ha, hs]
  refine ⟨⟨Int.natCast_nonneg k, by omega⟩, ?_⟩
  rw [Int.toNat_natCast, Nat.mul_one]
  unfold partV
  rw [if_neg (by decide), List.getElem?_map, h]; exact hK
/-- A part of an array of single cells that is a box. -/
theorem sl_cl {T e : TypeId} {i j : TI} {n b k l h : Nat} {lo hi : Option V} (hT : ti P T = some i) (hk : i.kd = .arr n e) (hE : ti P e = some j) (hs : j.size = 1) (hlo : optInt 0 lo = some (l : Int)) (hhi : optInt n hi = some (h : Int)) (h1 : l ≤ h) (h2 : h ≤ n)
    (hK : KV (.ms b (k + l) (h - l) (n - l) 1)) : vslice P T (.bp b k) lo hi none KV := by
  rw [slice_box hT hk hE hlo hhi h1 h2, hs, Nat.mul_one]; exact hK
theorem sp_cl {T e : TypeId} {i j : TI} {n b off len cap : Nat} (hT : ti P T = some i) (hk : i.kd = .arr n e) (hE : ti P e = some j) (hs : j.size = 1) (h0 : 0 < n) (h1 : n ≤ len) (hK : KV (.bp b off)) : vsap P T (.ms b off len cap 1) KV := by
  rw [sap_ms hT hk hE hs h0 h1]; exact hK
/-- A byte of a slice. -/
theorem ia_bC {T e : TypeId} {i j : TI} {kd : IntKind} {n : Int} {k : Nat} {l : B} {x : UInt8} (hT : ti P T = some i) (hk : i.kd = .slice e) (hj : ti P e = some j) (hs : j.size = 1) (hn : n = (k : Nat)) (h : l[k]? = some x)
    (hK : KV (.c (.rp [bc x] 0))) : vindexAddr P T (bv l) (.c (.lit (.int kd n))) KV := by
  subst hn
  refine ia_of (c := [bc x]) hT hk hj (by omega) (Int.natCast_nonneg k) ?_ (by simp [hs]) hK
  unfold bC; rw [Int.toNat_natCast, List.getElem?_map, h]; rfl
/-- A part of a slice of bytes. -/
theorem sl_bC {T e : TypeId} {i j : TI} {lo hi : Option V} {a b : Nat} {l : B} (hT : ti P T = some i) (hk : i.kd = .slice e) (hE : ti P e = some j) (hs : j.size = 1) (hlo : optInt 0 lo = some (a : Int)) (hhi : optInt (l.length : Int) hi = some (b : Int)) (h1 : a ≤ b) (h2 : b ≤ l.length)
    (hK : KV (bv ((l.take b).drop a))) : vslice P T (bv l) lo hi none KV := by
  obtain ⟨kd, x1, x2, x3, x4, x5, x6⟩ := i; subst hk
  have e : optInt ((bC l).length : Int) hi = some (b : Int) := by rw [bC_len]; exact hhi
  simp only [vslice, hT, hE, hlo, e]
  refine ⟨⟨Int.natCast_nonneg a, by omega, by rw [bC_len]; omega, fun x hx => by rw [hs]; exact bC_one x hx⟩, ?_⟩
  have e2 : ((bC l).take b).drop a = bC ((l.take b).drop a) := by simp [bC, List.map_take, List.map_drop]
  rw [Int.toNat_natCast, Int.toNat_natCast, e2]; exact hK
/-- A part of a string. -/
theorem sl_sv {T : TypeId} {i : TI} {lo hi : Option V} {a b : Nat} {l : B} (hT : ti P T = some i) (hk : i.kd = .str) (hlo : optInt 0 lo = some (a : Int)) (hhi : optInt (l.length : Int) hi = some (b : Int)) (h1 : a ≤ b) (h2 : b ≤ l.length)
    (hK : KV (sv ((l.take b).drop a))) : vslice P T (sv l) lo hi none KV := by
  obtain ⟨kd, x1, x2, x3, x4, x5, x6⟩ := i; subst hk
  have e : optInt ((bs8 l).size : Int) hi = some (b : Int) := by rw [bs8_size]; exact hhi
  simp only [vslice, hT, hlo, e]
  refine ⟨⟨Int.natCast_nonneg a, by omega, by rw [bs8_size]; omega⟩, ?_⟩
  rw [Int.toNat_natCast, Int.toNat_natCast, bs8_extract]; exact hK
/-- A byte of a string. -/
theorem ix_sv {T : TypeId} {i : TI} {kd : IntKind} {n : Int} {k : Nat} {l : B} {x : UInt8} (hT : ti P T = some i) (hk : i.kd = .str) (hn : n = (k : Nat)) (h : l[k]? = some x) (hK : KV (.c (bc x))) : vindex P T (sv l) (.c (.lit (.int kd n))) KV := by
  subst hn
  obtain ⟨a1, a2, a3, a4, a5, a6, a7⟩ := i
  simp only at hk; subst hk
  simp only [vindex, hT]
  refine ⟨Int.natCast_nonneg k, ?_⟩
  have : (bs8 l).data[((k : Nat) : Int).toNat]? = some x := by rw [Int.toNat_natCast]; simpa [bs8] using h
  simp only [this]; exact hK
theorem conv_sb {T U e : TypeId} {i j k : TI} {l : B} (hT : ti P T = some i) (hi : i.kd = .str) (hU : ti P U = some j) (hj : j.kd = .slice e) (hE : ti P e = some k) (hk : k.kd = .int .u8) : vconv P T U (sv l) KV = KV (bv l) := by
  obtain ⟨a1, a2, a3, a4, a5, a6, a7⟩ := i
  obtain ⟨b1, b2, b3, b4, b5, b6, b7⟩ := j
  obtain ⟨c1, c2, c3, c4, c5, c6, c7⟩ := k
  simp only at hi hj hk; subst hi; subst hj; subst hk
  simp only [vconv, hT, hU, hE, strC_bs8]
theorem conv_bs {T U e : TypeId} {i j k : TI} {l : B} (hT : ti P T = some i) (hi : i.kd = .slice e) (hU : ti P U = some j) (hj : j.kd = .str) (hE : ti P e = some k) (hk : k.kd = .int .u8) : vconv P T U (bv l) KV = KV (sv l) := by
  obtain ⟨a1, a2, a3, a4, a5, a6, a7⟩ := i
  obtain ⟨b1, b2, b3, b4, b5, b6, b7⟩ := j
  obtain ⟨c1, c2, c3, c4, c5, c6, c7⟩ := k
  simp only at hi hj hk; subst hi; subst hj; subst hk
  simp only [vconv, hT, hU, hE, bytesOf_bC]; rfl
end
end Go.Vl

