/- Values without memory: what the operations do to abstract values. -/
import Derived.Test.YtbhfbbfifmnniaaDoorVlState
set_option linter.unusedSimpArgs false
set_option linter.unusedVariables false
namespace Go.Vl
open Go Go.RowKit

inductive K where
  | int (k : IntKind) | bool | str | slice (e : TypeId) | ptr (e : TypeId) | arr (n : Nat) (e : TypeId) | struct | other

inductive EK where
  | int | bool | str

structure TI where
  kd : K
  size : Nat
  bytes : Nat
  agg : Bool
  zero : Option (List C)
  flds : List (Nat × Nat × Bool)
  eqs : Option (List EK)

def zc : Value → Option C
  | .slice none 0 0 => some (.sl [])
  | v => if flat v then some (.lit v) else none

def isAggB (P : Program) (t : TypeId) : Bool :=
  match P.underlying t with
  | some (.struct _) | some (.array _ _) => true
  | _ => false

def kdOf : TypeDesc → K
  | .bool => .bool | .int k => .int k | .string => .str | .slice e => .slice e | .array n e => .arr n e | .struct _ => .struct | .pointer e => .ptr e | _ => .other

def eqFs (P : Program) (r : TypeId → Option (List EK)) : List Field → List EK → Option (List EK)
  | [], acc => some acc
  | f :: fs, acc => match r f.type with
    | some ks => if f.name ≠ "_" ∧ f.offset = acc.length ∧ ks.length = P.cellsOf f.type then eqFs P r fs (acc ++ ks) else none
    | none => none

def eqk (P : Program) : Nat → TypeId → Option (List EK)
  | 0, _ => none
  | d + 1, t => match P.underlying t with
    | some (.int _) => some [.int]
    | some .bool => some [.bool]
    | some .string => some [.str]
    | some (.struct fs) => if P.stoodInHeld t then none else eqFs P (eqk P d) fs.toList []
    | some (.array n e) => match eqk P d e with
      | some ks => if ks.length = P.cellsOf e then some (List.replicate n ks).flatten else none
      | none => none
    | _ => none

def fldsOf (P : Program) : TypeDesc → List (Nat × Nat × Bool)
  | .struct fs => fs.toList.map fun f => (f.offset, P.cellsOf f.type, isAggB P f.type)
  | _ => []

def fldsOk (P : Program) : TypeDesc → Bool
  | .struct fs => fs.toList.all fun f => (P.underlying f.type).isSome
  | _ => true

def ti (P : Program) (t : TypeId) : Option TI :=
  match P.info? t, P.underlying t with
  | some i, some d => if fldsOk P d = false then none else some {
      kd := kdOf d, size := i.size, bytes := i.bytes, agg := isAggB P t
      zero := match i.zero with | some v => v.cells.toList.mapM zc | none => none
      flds := fldsOf P d
      eqs := if P.eqGuardType P.depth t then none else eqk P 8 t }
  | _, _ => none

def V.fz : V → V
  | .ow _ es => .c (.sl es)
  | v => v

def V.asC : V → Option C
  | .c x => some x
  | .ow _ es => some (.sl es)
  | _ => none

/-- The cells of a value that is there for good. -/
def V.cs : V → Option (List C)
  | .c x => some [x]
  | .ow _ es => some [.sl es]
  | .agg cs => some cs
  | _ => none

def C.isLit : C → Bool
  | .lit _ => true
  | _ => false

def V.isFlat : V → Bool
  | .c (.lit _) => true
  | .un | .sk => true
  | .agg cs => cs.all C.isLit
  | .tup ds => ds.all fun | .c (.lit _) => true | .agg cs => cs.all C.isLit | _ => false
  | _ => false

def constV : Value → V
  | .slice none 0 0 => .ow none []
  | v => if flat v then .c (.lit v) else .un

abbrev Gl := Nat → Option (List C)

def ev (G : Gl) (s : S) : Operand → V
  | .tmp t => s.fr t
  | .const v => constV v
  | .global g => match G g with | some cs => .c (.rp cs 0) | none => .un
  | .func f => .c (.fn (.func f) [] [])

def boxC (s : S) (i : Nat) : Option (List C) := if i < s.nb then (s.bx i).mapM V.asC else none

def chunks (sz : Nat) : Nat → List C → List (List C)
  | 0, _ => []
  | n + 1, cs => cs.take sz :: chunks sz n (cs.drop sz)

/-- What a slice that is a view of a box holds. -/
def viewC (s : S) (i off len sz : Nat) : Option C := match boxC s i with
  | some cs => if off + len * sz ≤ cs.length then some (.sl (chunks sz len (cs.drop off))) else none
  | none => none

def immC (s : S) : V → Option C
  | .c x => some x
  | .ow _ es => some (.sl es)
  | .bp i off => (boxC s i).map fun cs => .rp cs off
  | .ms i off len _ sz => viewC s i off len sz
  | _ => none

/-- What a callee gets to see of a value: a pointer into a box is, for the time of the call, a pointer to what the box holds. -/
def imm (s : S) : V → Option V
  | .c x => some (.c x)
  | .agg cs => some (.agg cs)
  | .ow _ es => some (.c (.sl es))
  | .bp i off => (boxC s i).map fun cs => .c (.rp cs off)
  | .clo f fs cs => match fs.mapM (immC s), cs.mapM (immC s) with
    | some fs', some cs' => some (.c (.fn f fs' cs'))
    | _, _ => none
  | .ms i off len _ sz => (viewC s i off len sz).map .c
  | .mag vs => (vs.mapM (immC s)).map .agg
  | _ => none

def V.isBp : V → Bool
  | .bp _ _ => true
  | .ms _ _ _ _ _ => true
  | _ => false

def V.isPR : V → Bool
  | .c _ | .bp _ _ | .ms _ _ _ _ _ => true
  | _ => false

/-- What may lie in a cell of a struct that is read. -/
def V.isPO : V → Bool
  | .c _ | .bp _ _ | .ms _ _ _ _ _ | .ow _ _ => true
  | _ => false

/-- Does it lead into a box? -/
def V.boxy : V → Bool
  | .bp _ _ => true
  | .clo _ fs cs => fs.any V.isBp || cs.any V.isBp
  | .ms _ _ _ _ _ => true
  | .mag vs => vs.any V.isBp
  | _ => false

def eqC : EK → C → C → Option Bool
  | .int, .lit (.int k a), .lit (.int k' b) => if k = k' then some (decide (a = b)) else none
  | .bool, .lit (.bool a), .lit (.bool b) => some (a == b)
  | .str, .lit (.string a), .lit (.string b) => some (decide (a = b))
  | _, _, _ => none

def eqCs : List EK → List C → List C → Option Bool
  | [], _, _ => some true
  | k :: ks, c :: cs, d :: ds => match eqC k c d, eqCs ks cs ds with
    | some p, some q => some (p && q)
    | _, _ => none
  | _, _, _ => none

def vint (op : BinOp) (k : IntKind) (a b : Int) (K : V → Prop) : Prop :=
  match op with
  | .add => K (.c (.lit (.int k (k.wrap (a + b)))))
  | .sub => K (.c (.lit (.int k (k.wrap (a - b)))))
  | .mul => K (.c (.lit (.int k (k.wrap (a * b)))))
  | .quo => b ≠ 0 ∧ K (.c (.lit (.int k (k.wrap (a.tdiv b)))))
  | .rem => b ≠ 0 ∧ K (.c (.lit (.int k (a.tmod b))))
  | .and => K (.c (.lit (.int k (bits .and k a b))))
  | .or => K (.c (.lit (.int k (bits .or k a b))))
  | .xor => K (.c (.lit (.int k (bits .xor k a b))))
  | .andNot => K (.c (.lit (.int k (bits .andNot k a b))))
  | .eql => K (.c (.lit (.bool (decide (a = b)))))
  | .neq => K (.c (.lit (.bool (!decide (a = b)))))
  | .lss => K (.c (.lit (.bool (decide (a < b)))))
  | .leq => K (.c (.lit (.bool (decide (a ≤ b)))))
  | .gtr => K (.c (.lit (.bool (decide (b < a)))))
  | .geq => K (.c (.lit (.bool (decide (b ≤ a)))))
  | .shl => 0 ≤ b ∧ K (.c (.lit (.int k (k.wrap (a * 2 ^ (min b.toNat k.bits))))))
  | .shr => 0 ≤ b ∧ K (.c (.lit (.int k (a.fdiv (2 ^ (min b.toNat k.bits))))))

def vstr (op : BinOp) (a b : ByteArray) (K : V → Prop) : Prop :=
  match op with
  | .add => a.size + b.size ≤ 9223372036854775807 ∧ K (.c (.lit (.string (a ++ b))))
  | .eql => K (.c (.lit (.bool (decide (a = b)))))
  | .neq => K (.c (.lit (.bool (!decide (a = b)))))
  | .lss => K (.c (.lit (.bool (Op.bytesLess a.toList b.toList))))
  | .leq => K (.c (.lit (.bool (Op.bytesLess a.toList b.toList || decide (a = b)))))
  | .gtr => K (.c (.lit (.bool (!(Op.bytesLess a.toList b.toList || decide (a = b))))))
  | .geq => K (.c (.lit (.bool (!Op.bytesLess a.toList b.toList))))
  | _ => False

def vbin (P : Program) (op : BinOp) (T : TypeId) (x y : V) (K : V → Prop) : Prop :=
  match x, y with
  | .c (.lit (.int k a)), .c (.lit (.int k' b)) => match op with
    | .shl | .shr => vint op k a b K
    | _ => if k = k' then vint op k a b K else False
  | .c (.lit (.string a)), .c (.lit (.string b)) => vstr op a b K
  | .c (.lit (.bool a)), .c (.lit (.bool b)) => match ti P T with
    | some { kd := .bool, .. } => match op with
      | .eql => K (.c (.lit (.bool (a == b))))
      | .neq => K (.c (.lit (.bool (!(a == b)))))
      | _ => False
    | _ => False
  | .agg xs, .agg ys => match ti P T with
    | some { eqs := some ks, agg := true, .. } => match eqCs ks xs ys with
      | some r => (xs.length = ks.length ∧ ys.length = ks.length) ∧ match op with
        | .eql => K (.c (.lit (.bool r)))
        | .neq => K (.c (.lit (.bool (!r))))
        | _ => False
      | none => False
    | _ => False
  | _, _ => False

def vun (op : UnOp) (x : V) (K : V → Prop) : Prop :=
  match op, x with
  | .neg, .c (.lit (.int k n)) => K (.c (.lit (.int k (k.wrap (0 - n)))))
  | .xor, .c (.lit (.int k n)) => K (.c (.lit (.int k (bits .xor k (if k.signed then -1 else k.max) n))))
  | .not, .c (.lit (.bool b)) => K (.c (.lit (.bool !b)))
  | _, _ => False

/-- A part of the cells of a struct or array. -/
def partV (ag : Bool) (sz off : Nat) (cs : List C) (K : V → Prop) : Prop :=
  if ag then (off + sz ≤ cs.length ∧ K (.agg ((cs.drop off).take sz)))
  else match cs[off]? with
    | some c => K (.c c)
    | none => False

/-- The cells of a value: for good, if they all are. -/
def aggV (vs : List V) : V := match vs.mapM V.asC with
  | some cs => .agg cs
  | none => .mag vs

/-- A part of the cells of a struct or array with parts that lead into boxes. -/
def partM (ag : Bool) (sz off : Nat) (vs : List V) (K : V → Prop) : Prop :=
  if ag then (off + sz ≤ vs.length ∧ K (aggV ((vs.drop off).take sz)))
  else match vs[off]? with
    | some v => K v
    | none => False

def setAt (cs : List C) (off : Nat) (ds : List C) : List C := cs.take off ++ ds ++ cs.drop (off + ds.length)

def fillS (flds : List (Nat × Nat × Bool)) : List (Nat × V) → List C → Option (List C)
  | [], cs => some cs
  | (i, v) :: r, cs => match flds[i]?, v.cs with
    | some (off, sz, _), some ds => if ds.length = sz ∧ off + sz ≤ cs.length then fillS flds r (setAt cs off ds) else none
    | _, _ => none

def fillA (sz : Nat) : List (Nat × V) → List (List C) → Option (List (List C))
  | [], es => some es
  | (i, v) :: r, es => match v.cs with
    | some ds => if ds.length = sz ∧ i < es.length then fillA sz r (es.set i ds) else none
    | none => none

def strC (s : ByteArray) : List (List C) := s.data.toList.map fun b => [.lit (.int .u8 b.toNat)]

def bytesOf : List (List C) → Option (List UInt8)
  | [] => some []
  | [.lit (.int .u8 n)] :: r => (bytesOf r).map fun l => UInt8.ofNat n.toNat :: l
  | _ => none

def vconv (P : Program) (src dst : TypeId) (x : V) (K : V → Prop) : Prop :=
  match ti P src, ti P dst, x with
  | some _, some { kd := .int k, .. }, .c (.lit (.int _ n)) => K (.c (.lit (.int k (k.wrap n))))
  | some _, some { kd := .str, .. }, .c (.lit (.string s)) => K (.c (.lit (.string s)))
  | some { kd := .str, .. }, some { kd := .slice e, .. }, .c (.lit (.string s)) => match ti P e with
    | some { kd := .int .u8, .. } => K (.c (.sl (strC s)))
    | _ => False
  | some { kd := .slice e, .. }, some { kd := .str, .. }, .c (.sl es) => match ti P e with
    | some { kd := .int .u8, .. } => match bytesOf es with
      | some l => K (.c (.lit (.string ⟨l.toArray⟩)))
      | none => False
    | _ => False
  | _, _, _ => False

def optInt (d : Int) : Option V → Option Int
  | none => some d
  | some (.c (.lit (.int _ n))) => some n
  | _ => none

/-- x[lo:hi] -/
def vslice (P : Program) (T : TypeId) (x : V) (lo hi : Option V) (mx : Option V) (K : V → Prop) : Prop :=
  match ti P T, x with
  | some { kd := .str, .. }, .c (.lit (.string s)) => match optInt 0 lo, optInt s.size hi, mx with
    | some l, some h, none => (0 ≤ l ∧ l ≤ h ∧ h ≤ s.size) ∧ K (.c (.lit (.string (s.extract l.toNat h.toNat))))
    | _, _, _ => False
  | some { kd := .slice e, .. }, .c (.sl es) => match mx with
    | none => match ti P e, optInt 0 lo, optInt es.length hi with
      | some i, some l, some h => (0 ≤ l ∧ l ≤ h ∧ h ≤ es.length ∧ ∀ x ∈ es, x.length = i.size) ∧ K (.c (.sl ((es.take h.toNat).drop l.toNat)))
      | _, _, _ => False
    | some (.c (.lit (.int _ m))) => match ti P e, optInt 0 lo, hi with
      | some i, some l, some (.c (.lit (.int _ h))) => (0 ≤ l ∧ l ≤ h ∧ h ≤ es.length ∧ m = h ∧ ∀ x ∈ es, x.length = i.size) ∧ K (.ow none ((es.take h.toNat).drop l.toNat))
      | _, _, _ => False
    | some _ => False
  | some { kd := .slice e, .. }, .ms b off len cap sz => match ti P e, optInt 0 lo, optInt len hi, optInt cap mx with
    | some i, some l, some h, some m => (i.size = sz ∧ 0 ≤ l ∧ l ≤ h ∧ h ≤ m ∧ m ≤ cap ∧ (mx.isSome = true → hi.isSome = true)) ∧ K (.ms b (off + l.toNat * sz) (h.toNat - l.toNat) (m.toNat - l.toNat) sz)
    | _, _, _, _ => False
  | some { kd := .arr n e, .. }, .c (.rp cs k) => match ti P e, lo, hi, mx with
    | some i, none, none, none => (k + n * i.size ≤ cs.length) ∧ K (.c (.sl (chunks i.size n (cs.drop k))))
    | _, _, _, _ => False
  | _, _ => False

def vlen (P : Program) (T : TypeId) (x : V) (K : V → Prop) : Prop :=
  match ti P T, x with
  | some { kd := .str, .. }, .c (.lit (.string s)) => K (.c (.lit (.int .i64 s.size)))
  | some { kd := .slice _, .. }, .c (.sl es) => K (.c (.lit (.int .i64 es.length)))
  | some { kd := .slice _, .. }, .ow _ es => K (.c (.lit (.int .i64 es.length)))
  | some { kd := .slice _, .. }, .ms _ _ len _ _ => K (.c (.lit (.int .i64 len)))
  | some { kd := .arr n _, .. }, _ => K (.c (.lit (.int .i64 n)))
  | _, _ => False

def vindexAddr (P : Program) (T : TypeId) (x i : V) (K : V → Prop) : Prop :=
  match ti P T, x, i with
  | some { kd := .slice e, .. }, .c (.sl es), .c (.lit (.int _ n)) => match ti P e with
    | some j => (0 ≤ n ∧ j.size ≠ 0) ∧ match es[n.toNat]? with
      | some c => c.length = j.size ∧ K (.c (.rp c 0))
      | none => False
    | none => False
  | some { kd := .arr m e, .. }, .c (.rp cs k), .c (.lit (.int _ n)) => match ti P e with
    | some j => (0 ≤ n ∧ n < m) ∧ K (.c (.rp cs (k + n.toNat * j.size)))
    | none => False
  | some { kd := .slice e, .. }, .ms b off len _ sz, .c (.lit (.int _ n)) => match ti P e with
    | some j => (0 ≤ n ∧ n < len ∧ j.size = sz ∧ sz ≠ 0) ∧ K (.bp b (off + n.toNat * sz))
    | none => False
  | some { kd := .arr m e, .. }, .bp b k, .c (.lit (.int _ n)) => match ti P e with
    | some j => (0 ≤ n ∧ n < m) ∧ K (.bp b (k + n.toNat * j.size))
    | none => False
  | _, _, _ => False

def vindex (P : Program) (T : TypeId) (x i : V) (K : V → Prop) : Prop :=
  match ti P T, x, i with
  | some { kd := .str, .. }, .c (.lit (.string s)), .c (.lit (.int _ n)) => 0 ≤ n ∧ match s.data[n.toNat]? with
    | some b => K (.c (.lit (.int .u8 b.toNat)))
    | none => False
  | some { kd := .arr m e, .. }, .agg cs, .c (.lit (.int _ n)) => match ti P e with
    | some j => (0 ≤ n ∧ n < m) ∧ partV j.agg j.size (n.toNat * j.size) cs K
    | none => False
  | _, _, _ => False

def vfieldAddr (P : Program) (T : TypeId) (x : V) (f : Nat) (K : V → Prop) : Prop :=
  match ti P T with
  | some i => match i.flds[f]?, x with
    | some (off, sz, _), .c (.rp cs k) => sz ≠ 0 ∧ K (.c (.rp cs (k + off)))
    | some (off, sz, _), .bp b k => sz ≠ 0 ∧ K (.bp b (k + off))
    | _, _ => False
  | none => False

def vfield (P : Program) (T : TypeId) (x : V) (f : Nat) (K : V → Prop) : Prop :=
  match ti P T, x with
  | some i, .agg cs => match i.flds[f]? with
    | some (off, sz, ag) => partV ag sz off cs K
    | none => False
  | some i, .mag vs => match i.flds[f]? with
    | some (off, sz, ag) => partM ag sz off vs K
    | none => False
  | _, _ => False

def vload (P : Program) (T : TypeId) (s : S) (x : V) (K : V → Prop) : Prop :=
  match ti P T, x with
  | some i, .c (.rp cs k) => partV i.agg i.size k cs K
  | some i, .bp b k => b < s.nb ∧ if i.agg then (((((s.bx b).drop k).take i.size).length = i.size ∧ (((s.bx b).drop k).take i.size).all V.isPO = true) ∧ K (aggV ((((s.bx b).drop k).take i.size).map V.fz)))
    else match (s.bx b)[k]? with
      | some v => K v.fz
      | none => False
  | _, _ => False

/-- The cells of a value, some of which may lead into boxes. -/
def V.ps : V → Option (List V)
  | .c x => some [.c x]
  | .ow _ es => some [.c (.sl es)]
  | .agg cs => some (cs.map .c)
  | .bp i off => some [.bp i off]
  | .ms i off len cap sz => some [.ms i off len cap sz]
  | .mag vs => some vs
  | _ => none

def setP (vs : List V) (off : Nat) (ds : List V) : List V := vs.take off ++ ds ++ vs.drop (off + ds.length)

def fillM (flds : List (Nat × Nat × Bool)) : List (Nat × V) → List V → Option (List V)
  | [], cs => some cs
  | (i, v) :: r, cs => match flds[i]?, v.ps with
    | some (off, sz, _), some ds => if ds.length = sz ∧ off + sz ≤ cs.length then fillM flds r (setP cs off ds) else none
    | _, _ => none

def vbuild (P : Program) (T : TypeId) (parts : List (Nat × V)) (K : V → Prop) : Prop :=
  match ti P T with
  | some { kd := .struct, zero := some z, flds := flds, .. } => match fillS flds parts z with
    | some cs => K (.agg cs)
    | none => match fillM flds parts (z.map .c) with
      | some vs => K (.mag vs)
      | none => False
  | some { kd := .arr n e, zero := some z, .. } => match ti P e with
    | some j => match fillS ((List.range n).map fun i => (i * j.size, j.size, j.agg)) parts z with
      | some cs => K (.agg cs)
      | none => False
    | none => False
  | _ => False

def vbuildSlice (P : Program) (T : TypeId) (len : Nat) (parts : List (Nat × V)) (K : V → Prop) : Prop :=
  match ti P T with
  | some { kd := .slice e, .. } => match ti P e with
    | some { size := sz, zero := some z, .. } => (0 < sz ∧ z.length = sz ∧ len * sz ≤ 16777216) ∧ match fillA sz parts (List.replicate len z) with
      | some es => K (.ow (if len = 0 then none else some (e, sz)) es)
      | none => False
    | _ => False
  | _ => False

def GOK (G : Gl) (I : Ft) (w : World) : Prop := ∀ g cs, G g = some cs → CR I w (.pointer (some ⟨g, 0, none⟩)) (.rp cs 0)

def RetR (base : Nat → Prop) (I : Ft) (w : World) (v : Value) (r : V) : Prop :=
  ∃ ob, LR base I (fun _ => none) w ob v r ∧ ∀ b, ob = some b → base b ∧ b < w.heap.size

/-- The contract of a function on values that are there for good. -/
def FnOK (P : Program) (G : Gl) (f : FuncId) (args : List V) (r : V) : Prop :=
  (∃ fn, P.funcs[f]? = some fn ∧ (fn.name == "runtime.NumGoroutine") = false ∧ ∃ c, fn.body = some c) ∧
  ∀ (I : Ft) (w : World) (vs : Array Value), (∀ b o, I b o → b < w.heap.size) → GOK G I w → vs.size = args.length → (∀ j x, args[j]? = some x → DR I w (vs.getD j undef) x) →
    Calls P f vs w fun e w' => ∃ v I', e = .returned v ∧ w.grownBy w' none ∧ (∀ b o, I b o → I' b o) ∧
      (∀ b o, I' b o → I b o ∨ (w.heap.size ≤ b ∧ b < w'.heap.size)) ∧ RetR (fun b => w.heap.size ≤ b) I' w' v r

/-! Functions that get to see boxes. -/
def V.renP (ρ : Nat → Nat) : V → V
  | .bp i o => .bp (ρ i) o
  | .ms i o l k z => .ms (ρ i) o l k z
  | x => x

/-- The same value, the boxes under other numbers. -/
def V.ren (ρ : Nat → Nat) : V → V
  | .bp i o => .bp (ρ i) o
  | .ms i o l k z => .ms (ρ i) o l k z
  | .clo f fs cs => .clo f (fs.map (V.renP ρ)) (cs.map (V.renP ρ))
  | .mag vs => .mag (vs.map (V.renP ρ))
  | x => x

def V.ltP (m : Nat) : V → Prop
  | .bp i _ => i < m
  | .ms i _ _ _ _ => i < m
  | _ => True

/-- References to boxes below a number only. -/
def V.lt (m : Nat) : V → Prop
  | .bp i _ => i < m
  | .clo _ fs cs => (∀ x ∈ fs, x.ltP m) ∧ ∀ x ∈ cs, x.ltP m
  | .ms i _ _ _ _ => i < m
  | .mag vs => ∀ x ∈ vs, x.ltP m
  | _ => True

/-- Boxes in a world. -/
structure BxR (W : Nat → Prop) (I : Ft) (w : World) (β : Nat → Option Nat) (ob : Nat → Nat → Option Nat) (bl : List (List V)) : Prop where
  bx : ∀ i cs, bl[i]? = some cs → ∃ blk cur T, β i = some blk ∧ W blk ∧ w.heap[blk]? = some (.cells cur T (0, 0)) ∧ cs.length ≤ cur.size ∧
    (∀ j, LR W I β w (ob i j) (cur.getD j undef) (cs.getD j .un)) ∧ (∀ u ∈ cur, u.oneCell' = true) ∧ (∀ o, ¬ I blk o)
  bnone : ∀ i, bl.length ≤ i → β i = none
  binj : ∀ i j b, β i = some b → β j = some b → i = j
  oinj : ∀ i j i' j' b, ob i j = some b → ob i' j' = some b → i = i' ∧ j = j'
  obx : ∀ i j b k, ob i j = some b → β k ≠ some b
  obnd : ∀ i j b, ob i j = some b → b < w.heap.size ∧ W b
  olen : ∀ i j, bl.length ≤ i → ob i j = none

/-- The contract of a function that gets to see boxes, and may change them. -/
def FnB (P : Program) (G : Gl) (f : FuncId) (args : List V) (b0 : List (List V)) (r : V) (b1 : List (List V)) : Prop :=
  (∃ fn, P.funcs[f]? = some fn ∧ (fn.name == "runtime.NumGoroutine") = false ∧ ∃ c, fn.body = some c) ∧
  ((∀ x ∈ args, x.lt b0.length) ∧ (∀ b ∈ b0, ∀ x ∈ b, x.lt b0.length) ∧ b0.length ≤ b1.length) ∧
  ∀ (I : Ft) (M : Mx) (w : World) (vs : Array Value) (β : Nat → Option Nat) (ob : Nat → Nat → Option Nat), (∀ b o, I b o → b < w.heap.size) → GOK G I w → BxR (Wr M w) I w β ob b0 → vs.size = args.length →
    (∀ j x, args[j]? = some x → LR (Wr M w) I β w none (vs.getD j undef) x) →
    Calls P f vs w fun e w' => ∃ v I' β' ob' o', e = .returned v ∧ BelowM M w w' ∧ (∀ b o, I b o → I' b o) ∧ (∀ b o, I' b o → I b o ∨ (Wr M w b ∧ b < w'.heap.size)) ∧
      (∀ b o, I b o → w'.cell? ⟨b, o, none⟩ = w.cell? ⟨b, o, none⟩) ∧ (∀ i, i < b0.length → β' i = β i) ∧ (∀ i b, b0.length ≤ i → β' i = some b → w.heap.size ≤ b) ∧ BxR (Wr M w) I' w' β' ob' b1 ∧
      LR (Wr M w) I' β' w' o' v r ∧ (∀ b, o' = some b → (b < w'.heap.size ∧ Wr M w b) ∧ (∀ i j, ob' i j ≠ some b) ∧ ∀ i, β' i ≠ some b)

def calleeV (f : V) (args : List V) : Option (FuncId × List V) := match f with
  | .c (.fn (.func g) fs cs) => some (g, fs.map .c ++ args ++ cs.map .c)
  | .clo (.func g) fs cs => some (g, fs ++ args ++ cs)
  | _ => none

/-- The numbers that the callee's boxes have with the caller. -/
def rho (ρ : List Nat) (nb i : Nat) : Nat := if i < ρ.length then ρ.getD i 0 else nb + (i - ρ.length)

def bxIn (bx : Nat → List V) (nb : Nat) (ρ : Nat → Nat) : Nat → List (List V) → Prop
  | _, [] => True
  | i, b :: r => (ρ i < nb ∧ bx (ρ i) = b.map (V.ren ρ)) ∧ bxIn bx nb ρ (i + 1) r

def setBx (ρ : Nat → Nat) : Nat → List (List V) → (Nat → List V) → Nat → List V
  | _, [], f => f
  | i, b :: r, f => setBx ρ (i + 1) r (up f (ρ i) (b.map (V.ren ρ)))

def vcallE (P : Program) (G : Gl) (bx : Nat → List V) (nb : Nat) (f : V) (args : List V) (K : (Nat → List V) → Nat → V → Prop) : Prop := match calleeV f args with
  | some (g, all) => ∃ (ρ : List Nat) (cargs : List V) (b0 : List (List V)) (r : V) (b1 : List (List V)), FnB P G g cargs b0 r b1 ∧ all.map V.fz = cargs.map (V.ren (rho ρ nb)) ∧
      (ρ.length = b0.length ∧ ρ.Nodup) ∧ bxIn bx nb (rho ρ nb) 0 b0 ∧ K (setBx (rho ρ nb) 0 b1 bx) (nb + (b1.length - b0.length)) (r.ren (rho ρ nb))
  | none => False

def vcallB (P : Program) (G : Gl) (s : S) (f : V) (args : List V) (K : S → V → Prop) : Prop := vcallE P G s.bx s.nb f args fun bx nb x => K { s with bx := bx, nb := nb } x

def vcall (P : Program) (G : Gl) (s : S) (callee : V) (args : List V) (K : V → Prop) : Prop :=
  match callee with
  | .c (.fn (.func g) fs cs) => match args.mapM (imm s) with
    | some as => ∃ r, FnOK P G g (fs.map .c ++ as ++ cs.map .c) r ∧ (args.any V.boxy = true → r.isFlat = true) ∧ K r
    | none => False
  | .clo (.func g) fs cs => match fs.mapM (imm s), args.mapM (imm s), cs.mapM (imm s) with
    | some fs', some as, some cs' => ∃ r, FnOK P G g (fs' ++ as ++ cs') r ∧ ((fs ++ args ++ cs).any V.boxy = true → r.isFlat = true) ∧ K r
    | _, _, _ => False
  | _ => False

def vappend (P : Program) (sT : TypeId) (x y : V) (K : V → Prop) : Prop :=
  match ti P sT, x with
  | some { kd := .slice e, .. }, .ow E es => match ti P e with
    | some { size := sz, bytes := by_, zero := some z, .. } =>
      (0 < sz ∧ z.length = sz ∧ (E = none ∨ E = some (e, sz)) ∧ ∀ x ∈ es, x.length = sz) ∧ match y with
      | .c (.sl ys) => ((es.length + ys.length) * by_ ≤ 140737488355328 ∧ es.length + ys.length ≤ 9223372036854775807 ∧ ∀ x ∈ ys, x.length = sz) ∧ K (.ow (if ys.isEmpty then E else some (e, sz)) (es ++ ys))
      | _ => False
    | _ => False
  | _, _ => False

def vmin (mx : Bool) : List V → (V → Prop) → Prop
  | [.c (.lit (.int k a)), .c (.lit (.int _ b))], K => K (.c (.lit (.int k (if mx then (if a < b then b else a) else (if b < a then b else a)))))
  | _, _ => False

def vbuiltin (P : Program) (b : Builtin) (argTypes : List TypeId) (args : List V) (K : V → Prop) : Prop :=
  match b, argTypes, args with
  | .len, [t], [x] => vlen P t x K
  | .append, [t, u], [x, y] => if t = u then vappend P t x y.fz K else False
  | .min, _, args => vmin false args K
  | .max, _, args => vmin true args K
  | _, _, _ => False

def inTr (tr : List Nat) : Option Tmp → Bool
  | some d => tr.contains d
  | none => false

/-- A value, looked at: a slice that is a view of a box is what it holds. -/
def vw (s : S) : V → V
  | .ms i off len _ sz => match viewC s i off len sz with
    | some c => .c c
    | none => .un
  | x => x

/-- The operations that only read slots and boxes: what they yield. -/
def VYK (P : Program) (G : Gl) (tr : List Nat) (o : Oper) (s : S) (K : V → Prop) : Prop :=
  match o.op with
  | .move x => if inTr tr o.dst then K (ev G s x) else K (ev G s x).fz
  | .assign x => K (ev G s x)
  | .pick c a b => match ev G s c with
    | .c (.lit (.bool p)) => K (if p then (ev G s a).fz else (ev G s b).fz)
    | _ => False
  | .binOp op T x y _ => vbin P op T (ev G s x) (ev G s y) K
  | .unOp op _ x => vun op (ev G s x) K
  | .load T x => vload P T s (ev G s x) K
  | .fieldAddr T x f => vfieldAddr P T (ev G s x) f K
  | .field T x f => vfield P T (ev G s x) f K
  | .indexAddr T x i => vindexAddr P T (ev G s x).fz (ev G s i) K
  | .index T x i => vindex P T (ev G s x) (ev G s i) K
  | .slice T x lo hi mx => vslice P T (ev G s x).fz (lo.map (ev G s)) (hi.map (ev G s)) (mx.map (ev G s)) K
  | .convert src dst x => vconv P src dst (vw s (ev G s x)).fz K
  | .build T parts => vbuild P T (parts.toList.map fun (i, x) => (i, ev G s x)) K
  | .buildSlice T len parts => vbuildSlice P T len (parts.toList.map fun (i, x) => (i, ev G s x)) K
  | .extract x i => match ev G s x with
    | .tup ds => match ds[i]? with
      | some d => K d
      | none => False
    | _ => False
  | .makeFunc f first captured => ((first.toList.map (ev G s)).all V.isPR = true ∧ (captured.toList.map (ev G s)).all V.isPR = true) ∧ K (.clo f (first.toList.map (ev G s)) (captured.toList.map (ev G s)))
  | .call { callee := .value f, args := args, .. } => vcall P G s (ev G s f) (args.toList.map (ev G s)) K
  | .call { callee := .builtin .append, args := args, argTypes := ts } => vbuiltin P .append ts.toList (args.toList.map fun x => vw s (ev G s x)) K
  | .call { callee := .builtin b, args := args, argTypes := ts } => vbuiltin P b ts.toList (args.toList.map (ev G s)) K
  | _ => False

/-- The slots that an operation may use up. -/
def consT (tr : List Nat) (o : Oper) : Option Tmp :=
  match o.op with
  | .move (.tmp t) => if inTr tr o.dst then some t else none
  | .assign (.tmp t) => some t
  | .call { callee := .builtin .append, args := args, .. } => match args.toList with
    | .tmp t :: _ => some t
    | _ => none
  | .store _ _ (.tmp t) => some t
  | .box _ (.tmp t) => some t
  | _ => none

def V.isOw : V → Bool
  | .ow _ _ => true
  | _ => false

def S.use (s : S) : Option Tmp → S
  | some t => if (s.fr t).isOw then s.clr t else s
  | none => s

def S.after (tr : List Nat) (o : Oper) (s : S) (v : V) : S := (s.use (consT tr o)).put o.dst v

def zeroV : C → V
  | .sl [] => .ow none []
  | c => .c c

def V.bcells : V → Option (List V)
  | .c x => some [.c x]
  | .ow E es => some [.ow E es]
  | .bp i off => some [.bp i off]
  | .clo f fs cs => some [.clo f fs cs]
  | .agg cs => some (cs.map .c)
  | .ms i off len cap sz => some [.ms i off len cap sz]
  | .mag vs => some vs
  | _ => none

def setV (vs : List V) (off : Nat) (ds : List V) : List V := vs.take off ++ ds ++ vs.drop (off + ds.length)

/-- Calls that may change boxes, and slices that are made as boxes, stand in the list 'tr' under numbers of their own. -/
def isMut (tr : List Nat) (d : Option Tmp) : Bool := tr.contains (match d with | some d => 1000000 + d | none => 999999)
def isNew (tr : List Nat) (d : Option Tmp) : Bool := match d with | some d => tr.contains (2000000 + d) | none => false

/-- A new box for the elements of a slice. -/
def vnewE (bx : Nat → List V) (nb n m : Nat) (K : (Nat → List V) → Nat → V → Prop) : V → Prop
  | .ow (some (_, sz)) es => K (up bx nb (es.flatten.map .c)) (nb + 1) (.ms nb 0 n m sz)
  | _ => False
def vnew (s : S) (d : Option Tmp) (n m : Nat) (K : S → Prop) : V → Prop := vnewE s.bx s.nb n m fun bx nb x => K ({ s with bx := bx, nb := nb }.put d x)

def vmake (P : Program) (T : TypeId) (l c : V) (K : Nat → Nat → Nat → List C → Prop) : Prop :=
  match ti P T, l, c with
  | some { kd := .slice e, .. }, .c (.lit (.int _ n)), .c (.lit (.int _ m)) => match ti P e with
    | some { size := sz, bytes := by_, zero := some z, .. } => (0 < sz ∧ z.length = sz ∧ 0 ≤ n ∧ n ≤ m ∧ (by_ : Int) * m ≤ 281474976710656 ∧ m ≤ 9223372036854775807) ∧ K n.toNat m.toNat sz z
    | _ => False
  | _, _, _ => False

/-- What is appended to a slice without room of its own lies in a new block: a box. -/
def vanK (s : S) (d : Option Tmp) (K : S → Prop) : V → Prop
  | .ow (some (_, sz)) es => K ({ s with bx := up s.bx s.nb (es.flatten.map .c), nb := s.nb + 1 }.put d (.ms s.nb 0 es.length es.length sz))
  | _ => False
def vappNew (P : Program) (s : S) (d : Option Tmp) (K : S → Prop) : List TypeId → List V → Prop
  | [t, u], [.ow none es, y] => t = u ∧ vappend P t (.ow none es) y.fz (vanK s d K)
  | _, _ => False
def isNilOp : Operand → Bool
  | .const (.slice none 0 0) => true
  | _ => false

/-- Is a slice nil? One without elements may be so or not. -/
def vnilB : V → (Bool → Prop) → Prop
  | .c (.sl (_ :: _)), K => K false
  | .ow _ (_ :: _), K => K false
  | .ms _ _ _ _ _, K => K false
  | .c (.sl []), K => K true ∧ K false
  | .ow _ [], K => K true ∧ K false
  | _, _ => False
def vnil (P : Program) (op : BinOp) (T : TypeId) (x : V) (K : V → Prop) : Prop := match ti P T with
  | some { kd := .slice _, .. } => match op with
    | .eql => vnilB x fun b => K (.c (.lit (.bool b)))
    | .neq => vnilB x fun b => K (.c (.lit (.bool (!b))))
    | _ => False
  | _ => False

/-- Is it an operation that has no place in a region that draws its order? -/
def isAN (tr : List Nat) (o : Oper) : Bool := match o.op with
  | .call { callee := .builtin .append, .. } => isNew tr o.dst
  | .binOp _ _ _ y _ => isNilOp y
  | _ => false

/-- One operation. -/
def VStep (P : Program) (G : Gl) (tr : List Nat) (o : Oper) (s : S) (K : S → Prop) : Prop :=
  match o.op with
  | .alloc T => match ti P T with
    | some { zero := some z, .. } => K ({ s with bx := up s.bx s.nb (z.map zeroV), nb := s.nb + 1 }.put o.dst (.bp s.nb 0))
    | _ => False
  | .box _ x => match (ev G s x).bcells with
    | some cs => K ((let s' := s.use (consT tr o); { s' with bx := up s'.bx s'.nb cs, nb := s'.nb + 1 }).put o.dst (.bp s.nb 0))
    | none => False
  | .store T p x => match ti P T, ev G s p, (ev G s x).bcells with
    | some i, .bp b k, some cs => (b < s.nb ∧ cs.length = i.size ∧ k + i.size ≤ (s.bx b).length) ∧
      K ((let s' := s.use (consT tr o); { s' with bx := up s'.bx b (setV (s'.bx b) k cs) }).put o.dst .sk)
    | _, _, _ => False
  | .buildSlice T len parts => if isNew tr o.dst then vbuildSlice P T len (parts.toList.map fun (i, x) => (i, ev G s x)) (vnew s o.dst len len K) else VYK P G tr o s fun v => K (s.after tr o v)
  | .makeSlice T l c => vmake P T (ev G s l) (ev G s c) fun n m sz z => K ({ s with bx := up s.bx s.nb ((List.replicate m z).flatten.map .c), nb := s.nb + 1 }.put o.dst (.ms s.nb 0 n m sz))
  | .call { callee := .value f, args := args, .. } => if isMut tr o.dst then vcallB P G s (ev G s f) (args.toList.map (ev G s)) (fun s' x => K (s'.put o.dst x)) else VYK P G tr o s fun v => K (s.after tr o v)
  | .call { callee := .builtin .append, args := args, argTypes := ts } => if isNew tr o.dst then vappNew P s o.dst K ts.toList (args.toList.map fun x => vw s (ev G s x)) else VYK P G tr o s fun v => K (s.after tr o v)
  | .binOp op T x y _ => if isNilOp y then vnil P op T (ev G s x) (fun v => K (s.after tr o v)) else VYK P G tr o s fun v => K (s.after tr o v)
  | _ => VYK P G tr o s fun v => K (s.after tr o v)

/-- Is an operation under a guard carried out? Where the answer is not known, both ways are gone. -/
def vguard (ops : Array Oper) (o : Oper) (s : S) (yes no : S → Prop) : Prop :=
  match o.guard with
  | none => yes s
  | some (j, want) => match (ops[j]?).bind (·.dst) with
    | some d => match s.fr d with
      | .c (.lit (.bool p)) => (p = want → yes { s with fr := up s.fr d (.c (.lit (.bool want))) }) ∧ (p = (!want) → no { s with fr := up s.fr d (.c (.lit (.bool (!want)))) })
      | .sk => no s
      | _ => False
    | none => False

def vops (P : Program) (G : Gl) (tr : List Nat) (ops : Array Oper) : List Oper → S → (S → Prop) → Prop
  | [], s, K => K s
  | o :: r, s, K => vguard ops o s (fun s => VStep P G tr o s fun s' => vops P G tr ops r s' K) (fun s => vops P G tr ops r (s.put o.dst .sk) K)

inductive VE where
  | normal | exit (id : Nat) | ret

def refine (s : S) (c : Operand) (p : Bool) : S := match c with
  | .tmp t => { s with fr := up s.fr t (.c (.lit (.bool p))) }
  | _ => s

/-- How many boxes come from outside. -/
def extK (tr : List Nat) : Nat := match tr.find? (fun x => decide (3000000 ≤ x)) with
  | some x => x - 3000000
  | none => 0

def FrLe (f g : Nat → V) : Prop := ∀ t, f t = .un ∨ f t = g t

/-- A state that knows less. -/
structure S.Le (k : Nat) (s' s : S) : Prop where
  ext : k ≤ s'.nb
  fr : FrLe s'.fr s.fr
  nb : s'.nb ≤ s.nb
  bx : ∀ i, i < s'.nb → s'.bx i = s.bx i
  lt : ∀ t, (s'.fr t).lt s'.nb
  blt : ∀ i, i < s'.nb → ∀ x ∈ s'.bx i, x.lt s'.nb

/-- n rounds at most; what need not be known any more may be forgotten at each round's head. -/
def vrounds (k : Nat) (body : (VE → S → Prop) → S → Prop) (Q : VE → S → Prop) : Nat → S → Prop
  | 0, _ => False
  | n + 1, s => ∃ s', (s' = s ∨ S.Le k s' s) ∧ body (fun e s' => match e with | .normal => vrounds k body Q n s' | e => Q e s') s'

def vwpK (P : Program) (G : Gl) (tr : List Nat) (k : Nat) : Code → (VE → S → Prop) → S → Prop
  | .skip, Q, s => Q .normal s
  | .region _ ops _, Q, s => vops P G tr ops ops.toList s (Q .normal)
  | .seq a b, Q, s => vwpK P G tr k a (fun e s' => match e with | .normal => vwpK P G tr k b Q s' | e => Q e s') s
  | .cond c x y, Q, s => match ev G s c with
    | .c (.lit (.bool p)) => (p = true → vwpK P G tr k x Q (refine s c true)) ∧ (p = false → vwpK P G tr k y Q (refine s c false))
    | _ => False
  | .block id body, Q, s => vwpK P G tr k body (fun e s' => match e with | .exit i => if i = id then Q .normal s' else Q (.exit i) s' | e => Q e s') s
  | .loop body, Q, s => ∃ n, vrounds k (vwpK P G tr k body) Q n s
  | .exit id, Q, s => Q (.exit id) s
  | .ret, Q, s => Q .ret s
  | .label _, Q, s => Q .normal s
  | _, _, _ => False

/-- The same, the number of boxes from outside taken from 'tr'. -/
def vwp (P : Program) (G : Gl) (tr : List Nat) : Code → (VE → S → Prop) → S → Prop := vwpK P G tr (extK tr)

end Go.Vl
