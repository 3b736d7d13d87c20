/- Values without memory: a program that runs the operations on values; what it answers is proved. -/
import Derived.Test.YtbhfbbfifmnniaaDoorVlFnB
set_option linter.unusedSimpArgs false
set_option linter.unusedVariables false
namespace Go.Vl
open Go Go.RowKit

section
variable {P : Program} {G : Gl} {tr : List Nat} {T : Nat → Option TI} {s : S} {x y : V} {K : V → Prop}

/-! Numbers that are looked at before they are handed on. -/
def forceI (n : Int) (f : Int → Option V) : Option V := match n with
  | .ofNat m => (match m with | 0 => f (.ofNat 0) | m + 1 => f (.ofNat (m + 1)))
  | .negSucc m => (match m with | 0 => f (.negSucc 0) | m + 1 => f (.negSucc (m + 1)))
theorem forceI_eq (n : Int) (f : Int → Option V) : forceI n f = f n := by
  unfold forceI; split <;> split <;> rfl

def lI (k : IntKind) (n : Int) : Option V := forceI n fun n => some (.c (.lit (.int k n)))
theorem lI_eq (k : IntKind) (n : Int) : lI k n = some (.c (.lit (.int k n))) := forceI_eq _ _

def lB (b : Bool) : Option V := cond b (some (.c (.lit (.bool true)))) (some (.c (.lit (.bool false))))
theorem lB_eq (b : Bool) : lB b = some (.c (.lit (.bool b))) := by cases b <;> rfl

def xwrap (k : IntKind) (n : Int) : Int := match k with
  | .i64 => if -9223372036854775808 ≤ n ∧ n ≤ 9223372036854775807 then n else k.wrap n
  | .u8 => if 0 ≤ n ∧ n ≤ 255 then n else k.wrap n
  | .u32 => if 0 ≤ n ∧ n ≤ 4294967295 then n else k.wrap n
  | _ => k.wrap n
theorem xwrap_eq (k : IntKind) (n : Int) : xwrap k n = k.wrap n := by
  unfold xwrap
  split
  · split
    · rw [IntKind.wrap_i64]; omega
    · rfl
  · split
    · rw [IntKind.wrap_u8]; omega
    · rfl
  · split
    · rw [IntKind.wrap_u32]; omega
    · rfl
  · rfl

def xint (op : BinOp) (k : IntKind) (a b : Int) : Option V := match op with
  | .add => lI k (xwrap k (a + b))
  | .sub => lI k (xwrap k (a - b))
  | .mul => lI k (xwrap k (a * b))
  | .quo => if b = 0 then none else lI k (xwrap k (a.tdiv b))
  | .rem => if b = 0 then none else lI k (a.tmod b)
  | .and => lI k (bits .and k a b)
  | .or => lI k (bits .or k a b)
  | .xor => lI k (bits .xor k a b)
  | .andNot => lI k (bits .andNot k a b)
  | .eql => lB (decide (a = b))
  | .neq => lB (!decide (a = b))
  | .lss => lB (decide (a < b))
  | .leq => lB (decide (a ≤ b))
  | .gtr => lB (decide (b < a))
  | .geq => lB (decide (b ≤ a))
  | .shl => if 0 ≤ b then lI k (xwrap k (a * 2 ^ (min b.toNat k.bits))) else none
  | .shr => if 0 ≤ b then lI k (a.fdiv (2 ^ (min b.toNat k.bits))) else none
theorem xint_ok {op : BinOp} {k : IntKind} {a b : Int} {v : V} (h : xint op k a b = some v) (hk : K v) : vint op k a b K := by
  cases op <;> simp only [xint, lI_eq, lB_eq, xwrap_eq, Option.some.injEq] at h <;> simp only [vint] <;> first
    | (subst h; exact hk)
    | (split at h <;> first | (cases h; done) | (simp only [Option.some.injEq] at h; subst h; exact ⟨by assumption, hk⟩))

def xstr (op : BinOp) (a b : ByteArray) : Option V := match op with
  | .add => if a.size + b.size ≤ 9223372036854775807 then some (.c (.lit (.string (a ++ b)))) else none
  | .eql => lB (decide (a = b))
  | .neq => lB (!decide (a = b))
  | .lss => lB (Op.bytesLess a.toList b.toList)
  | .leq => lB (Op.bytesLess a.toList b.toList || decide (a = b))
  | .gtr => lB (!(Op.bytesLess a.toList b.toList || decide (a = b)))
  | .geq => lB (!Op.bytesLess a.toList b.toList)
  | _ => none
theorem xstr_ok {op : BinOp} {a b : ByteArray} {v : V} (h : xstr op a b = some v) (hk : K v) : vstr op a b K := by
  cases op <;> simp only [xstr, lB_eq, Option.some.injEq] at h <;> simp only [vstr] <;> first
    | (cases h; done)
    | (subst h; exact hk)
    | (split at h <;> first | (cases h; done) | (simp only [Option.some.injEq] at h; subst h; exact ⟨by assumption, hk⟩))

def xbin (T : Nat → Option TI) (op : BinOp) (t : TypeId) (x y : V) : Option V := match x, y with
  | .c (.lit (.int k a)), .c (.lit (.int k' b)) => match op with
    | .shl | .shr => xint op k a b
    | _ => if k = k' then xint op k a b else none
  | .c (.lit (.string a)), .c (.lit (.string b)) => xstr op a b
  | .c (.lit (.bool a)), .c (.lit (.bool b)) => match T t with
    | some { kd := .bool, .. } => match op with
      | .eql => lB (a == b)
      | .neq => lB (!(a == b))
      | _ => none
    | _ => none
  | .agg xs, .agg ys => match T t with
    | some { eqs := some ks, agg := true, .. } => match eqCs ks xs ys with
      | some r => if xs.length = ks.length ∧ ys.length = ks.length then match op with
        | .eql => lB r
        | .neq => lB (!r)
        | _ => none
        else none
      | none => none
    | _ => none
  | _, _ => none

variable (hT : ∀ t i, T t = some i → ti P t = some i)
include hT

theorem xbin_ok {op : BinOp} {t : TypeId} {v : V} (h : xbin T op t x y = some v) (hk : K v) : vbin P op t x y K := by
  unfold xbin at h
  unfold vbin
  split at h
  · split at h
    · exact xint_ok h hk
    · exact xint_ok h hk
    · split at h
      · rename_i hkk
        simp only [if_pos hkk]
        have := xint_ok h hk
        first | exact this | (split <;> first | exact this | simp_all)
      · cases h
  · exact xstr_ok h hk
  · split at h
    · rename_i hi
      simp only [hT _ _ hi]
      split at h <;> first | (cases h; done) | (simp only [lB_eq, Option.some.injEq] at h; subst h; exact hk)
    · cases h
  · split at h
    · rename_i hi
      simp only [hT _ _ hi]
      split at h
      · rename_i hr
        simp only [hr]
        split at h
        · rename_i hl
          refine ⟨hl, ?_⟩
          split at h <;> first | (cases h; done) | (simp only [lB_eq, Option.some.injEq] at h; subst h; exact hk)
        · cases h
      · cases h
    · cases h
  · cases h
omit hT

def xun (op : UnOp) (x : V) : Option V := match op, x with
  | .neg, .c (.lit (.int k n)) => lI k (xwrap k (0 - n))
  | .xor, .c (.lit (.int k n)) => lI k (bits .xor k (if k.signed then -1 else k.max) n)
  | .not, .c (.lit (.bool b)) => lB (!b)
  | _, _ => none
theorem xun_ok {op : UnOp} {v : V} (h : xun op x = some v) (hk : K v) : vun op x K := by
  unfold xun at h
  unfold vun
  split at h
  · simp only [lI_eq, xwrap_eq, Option.some.injEq] at h; subst h; exact hk
  · simp only [lI_eq, Option.some.injEq] at h; subst h; exact hk
  · simp only [lB_eq, Option.some.injEq] at h; subst h; exact hk
  · cases h

def xpart (ag : Bool) (sz off : Nat) (cs : List C) : Option V := if ag then (if off + sz ≤ cs.length then some (.agg ((cs.drop off).take sz)) else none) else match cs[off]? with
  | some c => some (.c c)
  | none => none
theorem xpart_ok {ag : Bool} {sz off : Nat} {cs : List C} {v : V} (h : xpart ag sz off cs = some v) (hk : K v) : partV ag sz off cs K := by
  unfold xpart at h
  unfold partV
  split at h
  · rename_i ha
    rw [if_pos ha]
    split at h
    · simp only [Option.some.injEq] at h; subst h; exact ⟨by assumption, hk⟩
    · cases h
  · rename_i ha
    rw [if_neg ha]
    split at h
    · rename_i hc
      simp only [Option.some.injEq] at h; subst h
      simp only [hc]; exact hk
    · cases h

def xpartM (ag : Bool) (sz off : Nat) (vs : List V) : Option V := if ag then (if off + sz ≤ vs.length then some (aggV ((vs.drop off).take sz)) else none) else vs[off]?
theorem xpartM_ok {ag : Bool} {sz off : Nat} {vs : List V} {v : V} (h : xpartM ag sz off vs = some v) (hk : K v) : partM ag sz off vs K := by
  unfold xpartM at h
  unfold partM
  split at h
  · rename_i ha
    rw [if_pos ha]
    split at h
    · simp only [Option.some.injEq] at h; subst h; exact ⟨by assumption, hk⟩
    · cases h
  · rename_i ha
    rw [if_neg ha, h]
    exact hk

def xload (T : Nat → Option TI) (t : TypeId) (s : S) (x : V) : Option V := match T t with
  | some i => match x with
    | .c (.rp cs k) => xpart i.agg i.size k cs
    | .bp b k => if b < s.nb then (if i.agg then
        (if (((s.bx b).drop k).take i.size).length = i.size ∧ (((s.bx b).drop k).take i.size).all V.isPO = true then some (aggV ((((s.bx b).drop k).take i.size).map V.fz)) else none)
        else match (s.bx b)[k]? with
          | some v => some v.fz
          | none => none) else none
    | _ => none
  | none => none
include hT
theorem xload_ok {t : TypeId} {v : V} (h : xload T t s x = some v) (hk : K v) : vload P t s x K := by
  unfold xload at h
  unfold vload
  split at h
  · rename_i i hi
    rw [hT _ _ hi]
    split at h
    · exact xpart_ok h hk
    · split at h
      · rename_i hb
        refine ⟨hb, ?_⟩
        split at h
        · rename_i ha
          rw [if_pos ha]
          split at h
          · simp only [Option.some.injEq] at h; subst h; exact ⟨by assumption, hk⟩
          · cases h
        · rename_i ha
          rw [if_neg ha]
          split at h
          · rename_i hv
            simp only [Option.some.injEq] at h; subst h
            simp only [hv]; exact hk
          · cases h
      · cases h
    · cases h
  · cases h
omit hT

def xfieldAddr (T : Nat → Option TI) (t : TypeId) (x : V) (f : Nat) : Option V := match T t with
  | some i => match i.flds[f]? with
    | some (off, sz, _) => if sz = 0 then none else match x with
      | .c (.rp cs k) => some (.c (.rp cs (k + off)))
      | .bp b k => some (.bp b (k + off))
      | _ => none
    | none => none
  | none => none
include hT
theorem xfieldAddr_ok {t : TypeId} {f : Nat} {v : V} (h : xfieldAddr T t x f = some v) (hk : K v) : vfieldAddr P t x f K := by
  unfold xfieldAddr at h
  unfold vfieldAddr
  split at h
  · rename_i i hi
    rw [hT _ _ hi]
    split at h
    · rename_i hf
      simp only [hf]
      split at h
      · cases h
      · rename_i hz
        split at h <;> first | (cases h; done) | (simp only [Option.some.injEq] at h; subst h; exact ⟨hz, hk⟩)
    · cases h
  · cases h
omit hT

def xfield (T : Nat → Option TI) (t : TypeId) (x : V) (f : Nat) : Option V := match T t with
  | some i => match i.flds[f]? with
    | some (off, sz, ag) => match x with
      | .agg cs => xpart ag sz off cs
      | .mag vs => xpartM ag sz off vs
      | _ => none
    | none => none
  | none => none
include hT
theorem xfield_ok {t : TypeId} {f : Nat} {v : V} (h : xfield T t x f = some v) (hk : K v) : vfield P t x f K := by
  unfold xfield at h
  unfold vfield
  split at h
  · rename_i i hi
    rw [hT _ _ hi]
    split at h
    · rename_i hf
      split at h
      · simp only [hf]; exact xpart_ok h hk
      · simp only [hf]; exact xpartM_ok h hk
      · cases h
    · cases h
  · cases h
omit hT

def xindexAddr (T : Nat → Option TI) (t : TypeId) (x i : V) : Option V := match T t, i with
  | some { kd := .slice e, .. }, .c (.lit (.int _ n)) => match T e with
    | some j => match x with
      | .c (.sl es) => if 0 ≤ n ∧ j.size ≠ 0 then match es[n.toNat]? with
        | some c => if c.length = j.size then some (.c (.rp c 0)) else none
        | none => none
        else none
      | .ms b off len _ sz => if 0 ≤ n ∧ n < len ∧ j.size = sz ∧ sz ≠ 0 then some (.bp b (off + n.toNat * sz)) else none
      | _ => none
    | none => none
  | some { kd := .arr m e, .. }, .c (.lit (.int _ n)) => match T e with
    | some j => if 0 ≤ n ∧ n < m then match x with
      | .c (.rp cs k) => some (.c (.rp cs (k + n.toNat * j.size)))
      | .bp b k => some (.bp b (k + n.toNat * j.size))
      | _ => none
      else none
    | none => none
  | _, _ => none
include hT
theorem xindexAddr_ok {t : TypeId} {v : V} (h : xindexAddr T t x y = some v) (hk : K v) : vindexAddr P t x y K := by
  unfold xindexAddr at h
  unfold vindexAddr
  split at h
  · rename_i hi
    rw [hT _ _ hi]
    split at h
    · rename_i j hj
      have hj := hT _ _ hj
      split at h
      · simp only [hj]
        split at h
        · rename_i h1
          refine ⟨h1, ?_⟩
          split at h
          · rename_i hc
            simp only [hc]
            split at h
            · simp only [Option.some.injEq] at h; subst h; exact ⟨by assumption, hk⟩
            · cases h
          · cases h
        · cases h
      · simp only [hj]
        split at h
        · simp only [Option.some.injEq] at h; subst h; exact ⟨by assumption, hk⟩
        · cases h
      · cases h
    · cases h
  · rename_i hi
    rw [hT _ _ hi]
    split at h
    · rename_i j hj
      have hj := hT _ _ hj
      split at h
      · rename_i h1
        split at h
        · simp only [hj]; simp only [Option.some.injEq] at h; subst h; exact ⟨h1, hk⟩
        · simp only [hj]; simp only [Option.some.injEq] at h; subst h; exact ⟨h1, hk⟩
        · cases h
      · cases h
    · cases h
  · cases h
omit hT

def xindex (T : Nat → Option TI) (t : TypeId) (x i : V) : Option V := match T t, x, i with
  | some { kd := .str, .. }, .c (.lit (.string s)), .c (.lit (.int _ n)) => if 0 ≤ n then match s.data[n.toNat]? with
    | some b => lI .u8 b.toNat
    | none => none
    else none
  | some { kd := .arr m e, .. }, .agg cs, .c (.lit (.int _ n)) => match T e with
    | some j => if 0 ≤ n ∧ n < m then xpart j.agg j.size (n.toNat * j.size) cs else none
    | none => none
  | _, _, _ => none
include hT
theorem xindex_ok {t : TypeId} {v : V} (h : xindex T t x y = some v) (hk : K v) : vindex P t x y K := by
  unfold xindex at h
  unfold vindex
  split at h
  · rename_i hi
    simp only [hT _ _ hi]
    split at h
    · rename_i h0
      refine ⟨h0, ?_⟩
      split at h
      · rename_i hb
        simp only [lI_eq, Option.some.injEq] at h; subst h
        simp only [hb]; exact hk
      · cases h
    · cases h
  · rename_i hi
    simp only [hT _ _ hi]
    split at h
    · rename_i j hj
      simp only [hT _ _ hj]
      split at h
      · rename_i h1
        exact ⟨h1, xpart_ok h hk⟩
      · cases h
    · cases h
  · cases h
omit hT

def xslice (T : Nat → Option TI) (t : TypeId) (x : V) (lo hi mx : Option V) : Option V := match T t, x with
  | some { kd := .str, .. }, .c (.lit (.string s)) => match optInt 0 lo, optInt s.size hi, mx with
    | some l, some h, none => if 0 ≤ l ∧ l ≤ h ∧ h ≤ s.size then some (.c (.lit (.string (s.extract l.toNat h.toNat)))) else none
    | _, _, _ => none
  | some { kd := .slice e, .. }, .c (.sl es) => match mx with
    | none => match T e, optInt 0 lo, optInt es.length hi with
      | some i, some l, some h => if 0 ≤ l ∧ l ≤ h ∧ h ≤ es.length ∧ es.all (fun x => x.length == i.size) = true then some (.c (.sl ((es.take h.toNat).drop l.toNat))) else none
      | _, _, _ => none
    | some (.c (.lit (.int _ m))) => match T e, optInt 0 lo, hi with
      | some i, some l, some (.c (.lit (.int _ h))) => if 0 ≤ l ∧ l ≤ h ∧ h ≤ es.length ∧ m = h ∧ es.all (fun x => x.length == i.size) = true then some (.ow none ((es.take h.toNat).drop l.toNat)) else none
      | _, _, _ => none
    | some _ => none
  | some { kd := .slice e, .. }, .ms b off len cap sz => match T e, optInt 0 lo, optInt len hi, optInt cap mx with
    | some i, some l, some h, some m => if i.size = sz ∧ 0 ≤ l ∧ l ≤ h ∧ h ≤ m ∧ m ≤ cap ∧ (mx.isSome = true → hi.isSome = true) then some (.ms b (off + l.toNat * sz) (h.toNat - l.toNat) (m.toNat - l.toNat) sz) else none
    | _, _, _, _ => none
  | some { kd := .arr n e, .. }, .c (.rp cs k) => match T e, lo, hi, mx with
    | some i, none, none, none => if k + n * i.size ≤ cs.length then some (.c (.sl (chunks i.size n (cs.drop k)))) else none
    | _, _, _, _ => none
  | _, _ => none
include hT
theorem xslice_ok {t : TypeId} {lo hi mx : Option V} {v : V} (h : xslice T t x lo hi mx = some v) (hk : K v) : vslice P t x lo hi mx K := by
  unfold xslice at h
  unfold vslice
  split at h
  · rename_i hi
    simp only [hT _ _ hi]
    split at h
    · rename_i h1 h2
      simp only [h1, h2]
      split at h
      · simp only [Option.some.injEq] at h; subst h; exact ⟨by assumption, hk⟩
      · cases h
    · cases h
  · rename_i hi
    simp only [hT _ _ hi]
    split at h
    · split at h
      · rename_i h0 h1 h2
        simp only [hT _ _ h0, h1, h2]
        split at h
        · rename_i hc
          simp only [Option.some.injEq] at h; subst h
          exact ⟨⟨hc.1, hc.2.1, hc.2.2.1, by simpa using hc.2.2.2⟩, hk⟩
        · cases h
      · cases h
    · split at h
      · rename_i h0 h1
        simp only [hT _ _ h0, h1]
        split at h
        · rename_i hc
          simp only [Option.some.injEq] at h; subst h
          exact ⟨⟨hc.1, hc.2.1, hc.2.2.1, hc.2.2.2.1, by simpa using hc.2.2.2.2⟩, hk⟩
        · cases h
      · cases h
    · cases h
  · rename_i hi
    simp only [hT _ _ hi]
    split at h
    · rename_i h0 h1 h2 h3
      simp only [hT _ _ h0, h1, h2, h3]
      split at h
      · simp only [Option.some.injEq] at h; subst h; exact ⟨by assumption, hk⟩
      · cases h
    · cases h
  · rename_i hi
    simp only [hT _ _ hi]
    split at h
    · rename_i h0
      simp only [hT _ _ h0]
      split at h
      · simp only [Option.some.injEq] at h; subst h; exact ⟨by assumption, hk⟩
      · cases h
    · cases h
  · cases h
omit hT

def xlen (T : Nat → Option TI) (t : TypeId) (x : V) : Option V := match T t, x with
  | some { kd := .str, .. }, .c (.lit (.string s)) => lI .i64 s.size
  | some { kd := .slice _, .. }, .c (.sl es) => lI .i64 es.length
  | some { kd := .slice _, .. }, .ow _ es => lI .i64 es.length
  | some { kd := .slice _, .. }, .ms _ _ len _ _ => lI .i64 len
  | some { kd := .arr n _, .. }, _ => lI .i64 n
  | _, _ => none
include hT
theorem xlen_ok {t : TypeId} {v : V} (h : xlen T t x = some v) (hk : K v) : vlen P t x K := by
  unfold xlen at h
  unfold vlen
  split at h <;> first | (cases h; done) | skip
  all_goals
    rename_i hi
    simp only [hT _ _ hi]
    simp only [lI_eq, Option.some.injEq] at h; subst h; exact hk
omit hT

def xconv (T : Nat → Option TI) (src dst : TypeId) (x : V) : Option V := match T src, T dst, x with
  | some _, some { kd := .int k, .. }, .c (.lit (.int _ n)) => lI k (xwrap k n)
  | some _, some { kd := .str, .. }, .c (.lit (.string s)) => some (.c (.lit (.string s)))
  | some { kd := .str, .. }, some { kd := .slice e, .. }, .c (.lit (.string s)) => match T e with
    | some { kd := .int .u8, .. } => some (.c (.sl (strC s)))
    | _ => none
  | some { kd := .slice e, .. }, some { kd := .str, .. }, .c (.sl es) => match T e with
    | some { kd := .int .u8, .. } => match bytesOf es with
      | some l => some (.c (.lit (.string ⟨l.toArray⟩)))
      | none => none
    | _ => none
  | _, _, _ => none
include hT
theorem xconv_ok {t u : TypeId} {v : V} (h : xconv T t u x = some v) (hk : K v) : vconv P t u x K := by
  unfold xconv at h
  unfold vconv
  split at h <;> first | (cases h; done) | skip
  · rename_i h1 h2
    simp only [hT _ _ h1, hT _ _ h2]
    simp only [lI_eq, xwrap_eq, Option.some.injEq] at h; subst h; exact hk
  · rename_i h1 h2
    simp only [hT _ _ h1, hT _ _ h2]
    simp only [Option.some.injEq] at h; subst h; exact hk
  · rename_i h1 h2
    simp only [hT _ _ h1, hT _ _ h2]
    split at h
    · rename_i h3
      simp only [hT _ _ h3]
      simp only [Option.some.injEq] at h; subst h; exact hk
    · cases h
  · rename_i h1 h2
    simp only [hT _ _ h1, hT _ _ h2]
    split at h
    · rename_i h3
      simp only [hT _ _ h3]
      split at h
      · rename_i h4
        simp only [h4]
        simp only [Option.some.injEq] at h; subst h; exact hk
      · cases h
    · cases h
omit hT

def xbuild (T : Nat → Option TI) (t : TypeId) (parts : List (Nat × V)) : Option V := match T t with
  | some { kd := .struct, zero := some z, flds := flds, .. } => match fillS flds parts z with
    | some cs => some (.agg cs)
    | none => match fillM flds parts (z.map .c) with
      | some vs => some (.mag vs)
      | none => none
  | some { kd := .arr n e, zero := some z, .. } => match T e with
    | some j => (fillS ((List.range n).map fun i => (i * j.size, j.size, j.agg)) parts z).map .agg
    | none => none
  | _ => none
include hT
theorem xbuild_ok {t : TypeId} {parts : List (Nat × V)} {v : V} (h : xbuild T t parts = some v) (hk : K v) : vbuild P t parts K := by
  unfold xbuild at h
  unfold vbuild
  split at h
  · rename_i hi
    simp only [hT _ _ hi]
    split at h
    · rename_i h1
      simp only [Option.some.injEq] at h; subst h
      simp only [h1]; exact hk
    · rename_i h1
      split at h
      · rename_i h2
        simp only [Option.some.injEq] at h; subst h
        simp only [h1, h2]; exact hk
      · cases h
  · rename_i hi
    simp only [hT _ _ hi]
    split at h
    · rename_i h0
      simp only [hT _ _ h0]
      simp only [Option.map_eq_some_iff] at h
      obtain ⟨cs, h1, rfl⟩ := h
      simp only [h1]; exact hk
    · cases h
  · cases h
omit hT

def xbuildSlice (T : Nat → Option TI) (t : TypeId) (len : Nat) (parts : List (Nat × V)) : Option V := match T t with
  | some { kd := .slice e, .. } => match T e with
    | some { size := sz, zero := some z, .. } => if 0 < sz ∧ z.length = sz ∧ len * sz ≤ 16777216 then match fillA sz parts (List.replicate len z) with
      | some es => some (.ow (if len = 0 then none else some (e, sz)) es)
      | none => none
      else none
    | _ => none
  | _ => none
include hT
theorem xbuildSlice_ok {t : TypeId} {len : Nat} {parts : List (Nat × V)} {v : V} (h : xbuildSlice T t len parts = some v) (hk : K v) : vbuildSlice P t len parts K := by
  unfold xbuildSlice at h
  unfold vbuildSlice
  split at h
  · rename_i hi
    simp only [hT _ _ hi]
    split at h
    · rename_i h0
      simp only [hT _ _ h0]
      split at h
      · rename_i h1
        refine ⟨h1, ?_⟩
        split at h
        · rename_i h2
          simp only [Option.some.injEq] at h; subst h
          simp only [h2]; exact hk
        · cases h
      · cases h
    · cases h
  · cases h
omit hT

def xappend (T : Nat → Option TI) (t : TypeId) (x y : V) : Option V := match T t, x, y with
  | some { kd := .slice e, .. }, .ow E es, .c (.sl ys) => match T e with
    | some { size := sz, bytes := by_, zero := some z, .. } => if 0 < sz ∧ z.length = sz ∧ (E = none ∨ E = some (e, sz)) ∧ es.all (fun x => x.length == sz) = true ∧
        (es.length + ys.length) * by_ ≤ 140737488355328 ∧ es.length + ys.length ≤ 9223372036854775807 ∧ ys.all (fun x => x.length == sz) = true then
        some (.ow (if ys.isEmpty then E else some (e, sz)) (es ++ ys)) else none
    | _ => none
  | _, _, _ => none
include hT
theorem xappend_ok {t : TypeId} {v : V} (h : xappend T t x y = some v) (hk : K v) : vappend P t x y K := by
  unfold xappend at h
  unfold vappend
  split at h
  · rename_i hi
    simp only [hT _ _ hi]
    split at h
    · rename_i h0
      simp only [hT _ _ h0]
      split at h
      · rename_i h1
        obtain ⟨h1, h2, h3, h4, h5, h6, h7⟩ := h1
        simp only [Option.some.injEq] at h; subst h
        exact ⟨⟨h1, h2, h3, by simpa using h4⟩, ⟨h5, h6, by simpa using h7⟩, hk⟩
      · cases h
    · cases h
  · cases h
omit hT

def xmin (mx : Bool) : List V → Option V
  | [.c (.lit (.int k a)), .c (.lit (.int _ b))] => lI k (if mx then (if a < b then b else a) else (if b < a then b else a))
  | _ => none
theorem xmin_ok {mx : Bool} {l : List V} {v : V} (h : xmin mx l = some v) (hk : K v) : vmin mx l K := by
  unfold xmin at h
  unfold vmin
  split at h
  · simp only [lI_eq, Option.some.injEq] at h; subst h; exact hk
  · cases h

def xbuiltin (T : Nat → Option TI) (b : Builtin) (ts : List TypeId) (args : List V) : Option V := match b, ts, args with
  | .len, [t], [x] => xlen T t x
  | .append, [t, u], [x, y] => if t = u then xappend T t x y.fz else none
  | .min, _, args => xmin false args
  | .max, _, args => xmin true args
  | _, _, _ => none
include hT
theorem xbuiltin_ok {b : Builtin} {ts : List TypeId} {args : List V} {v : V} (h : xbuiltin T b ts args = some v) (hk : K v) : vbuiltin P b ts args K := by
  unfold xbuiltin at h
  unfold vbuiltin
  split at h
  · exact xlen_ok hT h hk
  · split at h
    · rename_i htu
      subst htu
      simp only [if_true]; exact xappend_ok hT h hk
    · cases h
  · exact xmin_ok h hk
  · exact xmin_ok h hk
  · cases h
omit hT

def xmake (T : Nat → Option TI) (t : TypeId) (l c : V) : Option (Nat × Nat × Nat × List C) := match T t, l, c with
  | some { kd := .slice e, .. }, .c (.lit (.int _ n)), .c (.lit (.int _ m)) => match T e with
    | some { size := sz, bytes := by_, zero := some z, .. } => if 0 < sz ∧ z.length = sz ∧ 0 ≤ n ∧ n ≤ m ∧ (by_ : Int) * m ≤ 281474976710656 ∧ m ≤ 9223372036854775807 then some (n.toNat, m.toNat, sz, z) else none
    | _ => none
  | _, _, _ => none
include hT
theorem xmake_ok {t : TypeId} {K : Nat → Nat → Nat → List C → Prop} {n m sz : Nat} {z : List C} (h : xmake T t x y = some (n, m, sz, z)) (hk : K n m sz z) : vmake P t x y K := by
  unfold xmake at h
  unfold vmake
  split at h
  · rename_i hi
    simp only [hT _ _ hi]
    split at h
    · rename_i h0
      simp only [hT _ _ h0]
      split at h
      · rename_i h1
        simp only [Option.some.injEq, Prod.mk.injEq] at h
        obtain ⟨rfl, rfl, rfl, rfl⟩ := h
        exact ⟨h1, hk⟩
      · cases h
    · cases h
  · cases h
omit hT

end
end Go.Vl
