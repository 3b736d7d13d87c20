/- Values without memory: how the conditions are computed: each law fires at a state that is written out, so that what follows stays as it is until its turn comes. -/
import Derived.Test.YtbhfbbfifmnniaaDoorVlFn
set_option linter.unusedSimpArgs false
set_option linter.unusedVariables false
namespace Go.Vl
open Go Go.RowKit

section
variable {P : Program} {G : Gl} {tr : List Nat} {fr : Nat → V} {bx : Nat → List V} {nb : Nat} {K : S → Prop} {KV : V → Prop} {Q : VE → S → Prop}

def aftK (tr : List Nat) (o : Oper) (s : S) (K : S → Prop) (v : V) : Prop := K (s.after tr o v)
def opsK (P : Program) (G : Gl) (tr : List Nat) (ops : Array Oper) (r : List Oper) (K : S → Prop) (s : S) : Prop := vops P G tr ops r s K
def seqK (P : Program) (G : Gl) (tr : List Nat) (b : Code) (Q : VE → S → Prop) (e : VE) (s : S) : Prop := match e with | .normal => vwp P G tr b Q s | e => Q e s
def blkK (id : Nat) (Q : VE → S → Prop) (e : VE) (s : S) : Prop := match e with | .exit i => if i = id then Q .normal s else Q (.exit i) s | e => Q e s

/-- A test that is not decided yet: both ways. -/
def vcond (P : Program) (G : Gl) (tr : List Nat) (v : V) (c : Operand) (x y : Code) (Q : VE → S → Prop) (s : S) : Prop := match v with
  | .c (.lit (.bool p)) => (p = true → vwp P G tr x Q (refine s c true)) ∧ (p = false → vwp P G tr y Q (refine s c false))
  | _ => False

/-- A guard that is not decided yet. -/
def vgd (P : Program) (G : Gl) (tr : List Nat) (ops : Array Oper) (o : Oper) (r : List Oper) (K : S → Prop) (d : Option Tmp) (v : V) (want : Bool) (s : S) : Prop := match d with
  | some d => match v with
    | .c (.lit (.bool p)) => (p = want → VStep P G tr o { s with fr := up s.fr d (.c (.lit (.bool want))) } (opsK P G tr ops r K)) ∧
        (p = (!want) → vops P G tr ops r (({ s with fr := up s.fr d (.c (.lit (.bool (!want)))) } : S).put o.dst .sk) K)
    | .sk => vops P G tr ops r (s.put o.dst .sk) K
    | _ => False
  | none => False

def slotOf (s : S) : Option Tmp → V
  | some d => s.fr d
  | none => .un

theorem run_region {i : Nat} {ops : Array Oper} {d : Bool} : vwp P G tr (.region i ops d) Q ⟨fr, bx, nb⟩ = vops P G tr ops ops.toList ⟨fr, bx, nb⟩ (Q .normal) := rfl
theorem run_seq {a b : Code} : vwp P G tr (.seq a b) Q ⟨fr, bx, nb⟩ = vwp P G tr a (seqK P G tr b Q) ⟨fr, bx, nb⟩ := rfl
theorem run_skipC : vwp P G tr .skip Q ⟨fr, bx, nb⟩ = Q .normal ⟨fr, bx, nb⟩ := rfl
theorem run_ret : vwp P G tr .ret Q ⟨fr, bx, nb⟩ = Q .ret ⟨fr, bx, nb⟩ := rfl
theorem run_exit {i : Nat} : vwp P G tr (.exit i) Q ⟨fr, bx, nb⟩ = Q (.exit i) ⟨fr, bx, nb⟩ := rfl
theorem run_block {i : Nat} {a : Code} : vwp P G tr (.block i a) Q ⟨fr, bx, nb⟩ = vwp P G tr a (blkK i Q) ⟨fr, bx, nb⟩ := rfl
theorem run_cond {c : Operand} {x y : Code} : vwp P G tr (.cond c x y) Q ⟨fr, bx, nb⟩ = vcond P G tr (ev G ⟨fr, bx, nb⟩ c) c x y Q ⟨fr, bx, nb⟩ := rfl
theorem run_cond_true {c : Operand} {x y : Code} : vcond P G tr (.c (.lit (.bool true))) c x y Q ⟨fr, bx, nb⟩ = vwp P G tr x Q (refine ⟨fr, bx, nb⟩ c true) := by simp [vcond]
theorem run_cond_false {c : Operand} {x y : Code} : vcond P G tr (.c (.lit (.bool false))) c x y Q ⟨fr, bx, nb⟩ = vwp P G tr y Q (refine ⟨fr, bx, nb⟩ c false) := by simp [vcond]
theorem vcond_of {c : Operand} {x y : Code} {p : Bool} {s : S} (h1 : p = true → vwp P G tr x Q (refine s c true)) (h2 : p = false → vwp P G tr y Q (refine s c false)) :
    vcond P G tr (.c (.lit (.bool p))) c x y Q s := ⟨h1, h2⟩
theorem seqK_normal {b : Code} {s : S} : seqK P G tr b Q .normal s = vwp P G tr b Q s := rfl
theorem seqK_ret {b : Code} {s : S} : seqK P G tr b Q .ret s = Q .ret s := rfl
theorem seqK_exit {b : Code} {s : S} {i : Nat} : seqK P G tr b Q (.exit i) s = Q (.exit i) s := rfl
theorem blkK_normal {id : Nat} {s : S} : blkK id Q .normal s = Q .normal s := rfl
theorem blkK_ret {id : Nat} {s : S} : blkK id Q .ret s = Q .ret s := rfl
theorem blkK_exit {id i : Nat} {s : S} : blkK id Q (.exit i) s = if i = id then Q .normal s else Q (.exit i) s := rfl
theorem refine_tmp {t : Tmp} {p : Bool} : refine ⟨fr, bx, nb⟩ (.tmp t) p = ⟨up fr t (.c (.lit (.bool p))), bx, nb⟩ := rfl

theorem run_nil {ops : Array Oper} : vops P G tr ops [] ⟨fr, bx, nb⟩ K = K ⟨fr, bx, nb⟩ := rfl
theorem run_op {ops : Array Oper} {d : Option Tmp} {op : Op} {ty : TypeId} {pos : String} {af : Array Edge} {r : List Oper} :
    vops P G tr ops (⟨d, op, ty, pos, af, none⟩ :: r) ⟨fr, bx, nb⟩ K = VStep P G tr ⟨d, op, ty, pos, af, none⟩ ⟨fr, bx, nb⟩ (opsK P G tr ops r K) := rfl
theorem run_opg {ops : Array Oper} {d : Option Tmp} {op : Op} {ty : TypeId} {pos : String} {af : Array Edge} {j : Nat} {w : Bool} {r : List Oper} :
    vops P G tr ops (⟨d, op, ty, pos, af, some (j, w)⟩ :: r) ⟨fr, bx, nb⟩ K =
      vgd P G tr ops ⟨d, op, ty, pos, af, some (j, w)⟩ r K ((ops[j]?).bind (·.dst)) (slotOf ⟨fr, bx, nb⟩ ((ops[j]?).bind (·.dst))) w ⟨fr, bx, nb⟩ := by
  simp only [vops, vguard, vgd]
  cases hd : (ops[j]?).bind (·.dst) with
  | none => rfl
  | some d => rfl
theorem vgd_yes {ops : Array Oper} {o : Oper} {r : List Oper} {d : Tmp} {w : Bool} : vgd P G tr ops o r K (some d) (.c (.lit (.bool w))) w ⟨fr, bx, nb⟩ = VStep P G tr o ⟨up fr d (.c (.lit (.bool w))), bx, nb⟩ (opsK P G tr ops r K) := by
  simp [vgd]
theorem vgd_tf {ops : Array Oper} {o : Oper} {r : List Oper} {d : Tmp} : vgd P G tr ops o r K (some d) (.c (.lit (.bool true))) false ⟨fr, bx, nb⟩ = vops P G tr ops r ((⟨up fr d (.c (.lit (.bool true))), bx, nb⟩ : S).put o.dst .sk) K := by
  simp [vgd]
theorem vgd_ft {ops : Array Oper} {o : Oper} {r : List Oper} {d : Tmp} : vgd P G tr ops o r K (some d) (.c (.lit (.bool false))) true ⟨fr, bx, nb⟩ = vops P G tr ops r ((⟨up fr d (.c (.lit (.bool false))), bx, nb⟩ : S).put o.dst .sk) K := by
  simp [vgd]
theorem vgd_sk {ops : Array Oper} {o : Oper} {r : List Oper} {d : Tmp} {w : Bool} : vgd P G tr ops o r K (some d) .sk w ⟨fr, bx, nb⟩ = vops P G tr ops r ((⟨fr, bx, nb⟩ : S).put o.dst .sk) K := rfl
theorem vgd_of {ops : Array Oper} {o : Oper} {r : List Oper} {d : Tmp} {w p : Bool} {s : S} (h1 : p = w → VStep P G tr o { s with fr := up s.fr d (.c (.lit (.bool w))) } (opsK P G tr ops r K))
    (h2 : p = (!w) → vops P G tr ops r (({ s with fr := up s.fr d (.c (.lit (.bool (!w)))) } : S).put o.dst .sk) K) : vgd P G tr ops o r K (some d) (.c (.lit (.bool p))) w s := ⟨h1, h2⟩
theorem slotOf_some {d : Tmp} : slotOf ⟨fr, bx, nb⟩ (some d) = fr d := rfl
theorem opsK_mk {ops : Array Oper} {r : List Oper} : opsK P G tr ops r K ⟨fr, bx, nb⟩ = vops P G tr ops r ⟨fr, bx, nb⟩ K := rfl
theorem put_some {d : Nat} {v : V} : (⟨fr, bx, nb⟩ : S).put (some d) v = ⟨up fr d v, bx, nb⟩ := rfl
theorem put_none {v : V} : (⟨fr, bx, nb⟩ : S).put none v = ⟨fr, bx, nb⟩ := rfl

/-! The operations. -/
section
variable {d : Nat} {dO : Option Tmp} {t : Tmp} {ty T : TypeId} {pos : String} {af : Array Edge} {g : Option (Nat × Bool)}

theorem st_move : VStep P G tr ⟨some d, .move (.tmp t), ty, pos, af, g⟩ ⟨fr, bx, nb⟩ K = if tr.contains d then K (((⟨fr, bx, nb⟩ : S).use (some t)).put (some d) (fr t)) else K ⟨up fr d (fr t).fz, bx, nb⟩ := by
  simp only [VStep, VYK, inTr, ev]
  split
  · rename_i h; simp only [S.after, consT, inTr, h, if_true]
  · rename_i h; simp only [S.after, consT, inTr, h]; rfl
theorem st_move_const {v : Value} : VStep P G tr ⟨some d, .move (.const v), ty, pos, af, g⟩ ⟨fr, bx, nb⟩ K = if tr.contains d then K ⟨up fr d (constV v), bx, nb⟩ else K ⟨up fr d (constV v).fz, bx, nb⟩ := rfl
theorem st_assign : VStep P G tr ⟨some d, .assign (.tmp t), ty, pos, af, g⟩ ⟨fr, bx, nb⟩ K = K (((⟨fr, bx, nb⟩ : S).use (some t)).put (some d) (fr t)) := rfl
theorem st_assign_const {v : Value} : VStep P G tr ⟨some d, .assign (.const v), ty, pos, af, g⟩ ⟨fr, bx, nb⟩ K = K ⟨up fr d (constV v), bx, nb⟩ := rfl
/-- 'c ? a : b', the test known. -/
def pickV (c a b : V) (K : V → Prop) : Prop := match c with
  | .c (.lit (.bool p)) => K (if p then a.fz else b.fz)
  | _ => False
def putK (dO : Option Tmp) (s : S) (K : S → Prop) (v : V) : Prop := K (s.put dO v)
theorem putK_mk {v : V} : putK (some d) ⟨fr, bx, nb⟩ K v = K ⟨up fr d v, bx, nb⟩ := rfl
theorem putK_none {v : V} : putK none ⟨fr, bx, nb⟩ K v = K ⟨fr, bx, nb⟩ := rfl
theorem st_pick' {c a b : Operand} : VStep P G tr ⟨dO, .pick c a b, ty, pos, af, g⟩ ⟨fr, bx, nb⟩ K = pickV (ev G ⟨fr, bx, nb⟩ c) (ev G ⟨fr, bx, nb⟩ a) (ev G ⟨fr, bx, nb⟩ b) (putK dO ⟨fr, bx, nb⟩ K) := rfl
theorem pickV_true {a b : V} : pickV (.c (.lit (.bool true))) a b KV = KV a.fz := rfl
theorem pickV_false {a b : V} : pickV (.c (.lit (.bool false))) a b KV = KV b.fz := rfl

theorem st_bin {op : BinOp} {x : Operand} {t : Tmp} {yT : TypeId} : VStep P G tr ⟨dO, .binOp op T x (.tmp t) yT, ty, pos, af, g⟩ ⟨fr, bx, nb⟩ K = vbin P op T (ev G ⟨fr, bx, nb⟩ x) (fr t) (putK dO ⟨fr, bx, nb⟩ K) := rfl
theorem st_bin_i {op : BinOp} {x : Operand} {k : IntKind} {m : Int} {yT : TypeId} : VStep P G tr ⟨dO, .binOp op T x (.const (.int k m)) yT, ty, pos, af, g⟩ ⟨fr, bx, nb⟩ K = vbin P op T (ev G ⟨fr, bx, nb⟩ x) (.c (.lit (.int k m))) (putK dO ⟨fr, bx, nb⟩ K) := rfl
theorem st_bin_b {op : BinOp} {x : Operand} {b : Bool} {yT : TypeId} : VStep P G tr ⟨dO, .binOp op T x (.const (.bool b)) yT, ty, pos, af, g⟩ ⟨fr, bx, nb⟩ K = vbin P op T (ev G ⟨fr, bx, nb⟩ x) (.c (.lit (.bool b))) (putK dO ⟨fr, bx, nb⟩ K) := rfl
theorem st_bin_s {op : BinOp} {x : Operand} {b : ByteArray} {yT : TypeId} : VStep P G tr ⟨dO, .binOp op T x (.const (.string b)) yT, ty, pos, af, g⟩ ⟨fr, bx, nb⟩ K = vbin P op T (ev G ⟨fr, bx, nb⟩ x) (.c (.lit (.string b))) (putK dO ⟨fr, bx, nb⟩ K) := rfl
theorem st_bin_nil {op : BinOp} {x : Operand} {yT : TypeId} : VStep P G tr ⟨dO, .binOp op T x (.const (.slice none 0 0)) yT, ty, pos, af, g⟩ ⟨fr, bx, nb⟩ K = vnil P op T (ev G ⟨fr, bx, nb⟩ x) (putK dO ⟨fr, bx, nb⟩ K) := rfl
theorem st_un {op : UnOp} {x : Operand} : VStep P G tr ⟨dO, .unOp op T x, ty, pos, af, g⟩ ⟨fr, bx, nb⟩ K = vun op (ev G ⟨fr, bx, nb⟩ x) (putK dO ⟨fr, bx, nb⟩ K) := rfl
theorem st_load {x : Operand} : VStep P G tr ⟨dO, .load T x, ty, pos, af, g⟩ ⟨fr, bx, nb⟩ K = vload P T ⟨fr, bx, nb⟩ (ev G ⟨fr, bx, nb⟩ x) (putK dO ⟨fr, bx, nb⟩ K) := rfl
theorem st_fieldAddr {x : Operand} {f : Nat} : VStep P G tr ⟨dO, .fieldAddr T x f, ty, pos, af, g⟩ ⟨fr, bx, nb⟩ K = vfieldAddr P T (ev G ⟨fr, bx, nb⟩ x) f (putK dO ⟨fr, bx, nb⟩ K) := rfl
theorem st_field {x : Operand} {f : Nat} : VStep P G tr ⟨dO, .field T x f, ty, pos, af, g⟩ ⟨fr, bx, nb⟩ K = vfield P T (ev G ⟨fr, bx, nb⟩ x) f (putK dO ⟨fr, bx, nb⟩ K) := rfl
theorem st_indexAddr {x i : Operand} : VStep P G tr ⟨dO, .indexAddr T x i, ty, pos, af, g⟩ ⟨fr, bx, nb⟩ K = vindexAddr P T (ev G ⟨fr, bx, nb⟩ x).fz (ev G ⟨fr, bx, nb⟩ i) (putK dO ⟨fr, bx, nb⟩ K) := rfl
theorem st_index {x i : Operand} : VStep P G tr ⟨dO, .index T x i, ty, pos, af, g⟩ ⟨fr, bx, nb⟩ K = vindex P T (ev G ⟨fr, bx, nb⟩ x) (ev G ⟨fr, bx, nb⟩ i) (putK dO ⟨fr, bx, nb⟩ K) := rfl
theorem st_slice {x : Operand} {lo hi mx : Option Operand} : VStep P G tr ⟨dO, .slice T x lo hi mx, ty, pos, af, g⟩ ⟨fr, bx, nb⟩ K =
    vslice P T (ev G ⟨fr, bx, nb⟩ x).fz (lo.map (ev G ⟨fr, bx, nb⟩)) (hi.map (ev G ⟨fr, bx, nb⟩)) (mx.map (ev G ⟨fr, bx, nb⟩)) (putK dO ⟨fr, bx, nb⟩ K) := rfl
theorem st_convert {x : Operand} {U : TypeId} : VStep P G tr ⟨dO, .convert T U x, ty, pos, af, g⟩ ⟨fr, bx, nb⟩ K = vconv P T U (vw ⟨fr, bx, nb⟩ (ev G ⟨fr, bx, nb⟩ x)).fz (putK dO ⟨fr, bx, nb⟩ K) := rfl
theorem st_build {parts : Array (Nat × Operand)} : VStep P G tr ⟨dO, .build T parts, ty, pos, af, g⟩ ⟨fr, bx, nb⟩ K = vbuild P T (parts.toList.map fun p => (p.1, ev G ⟨fr, bx, nb⟩ p.2)) (putK dO ⟨fr, bx, nb⟩ K) := rfl
theorem st_buildSlice {len : Nat} {parts : Array (Nat × Operand)} : VStep P G tr ⟨dO, .buildSlice T len parts, ty, pos, af, g⟩ ⟨fr, bx, nb⟩ K =
    if isNew tr dO then vbuildSlice P T len (parts.toList.map fun p => (p.1, ev G ⟨fr, bx, nb⟩ p.2)) (vnew ⟨fr, bx, nb⟩ dO len len K)
    else vbuildSlice P T len (parts.toList.map fun p => (p.1, ev G ⟨fr, bx, nb⟩ p.2)) (putK dO ⟨fr, bx, nb⟩ K) := rfl
theorem vnew_ow {e : TypeId} {sz n m : Nat} {es : List (List C)} : vnew ⟨fr, bx, nb⟩ dO n m K (.ow (some (e, sz)) es) = K ((⟨fr, up bx nb (es.flatten.map .c), nb + 1⟩ : S).put dO (.ms nb 0 n m sz)) := rfl
theorem isNew_nil : isNew [] dO = false := by cases dO <;> rfl
theorem isMut_nil : isMut [] dO = false := rfl
theorem isNew_some : isNew tr (some d) = tr.contains (2000000 + d) := rfl
theorem isNew_none : isNew tr none = false := rfl
theorem isMut_some : isMut tr (some d) = tr.contains (1000000 + d) := rfl
theorem isMut_none : isMut tr none = tr.contains 999999 := rfl
def mkK (dO : Option Tmp) (s : S) (K : S → Prop) (n m sz : Nat) (z : List C) : Prop := K ({ s with bx := up s.bx s.nb ((List.replicate m z).flatten.map .c), nb := s.nb + 1 }.put dO (.ms s.nb 0 n m sz))
theorem st_makeSlice {l c : Operand} : VStep P G tr ⟨dO, .makeSlice T l c, ty, pos, af, g⟩ ⟨fr, bx, nb⟩ K = vmake P T (ev G ⟨fr, bx, nb⟩ l) (ev G ⟨fr, bx, nb⟩ c) (mkK dO ⟨fr, bx, nb⟩ K) := rfl
theorem mkK_mk {n m sz : Nat} {z : List C} : mkK dO ⟨fr, bx, nb⟩ K n m sz z = K ((⟨fr, up bx nb ((List.replicate m z).flatten.map .c), nb + 1⟩ : S).put dO (.ms nb 0 n m sz)) := rfl

def extV (x : V) (i : Nat) (K : V → Prop) : Prop := match x with
  | .tup ds => match ds[i]? with
    | some d => K d
    | none => False
  | _ => False
theorem st_extract {x : Operand} {i : Nat} : VStep P G tr ⟨dO, .extract x i, ty, pos, af, g⟩ ⟨fr, bx, nb⟩ K = extV (ev G ⟨fr, bx, nb⟩ x) i (putK dO ⟨fr, bx, nb⟩ K) := rfl
theorem extV_zero {v : V} {ds : List V} : extV (.tup (v :: ds)) 0 KV = KV v := rfl
theorem extV_succ {v : V} {ds : List V} {i : Nat} : extV (.tup (v :: ds)) (i + 1) KV = extV (.tup ds) i KV := by simp [extV]
theorem extV_one {v u : V} {ds : List V} : extV (.tup (v :: u :: ds)) 1 KV = KV u := rfl
theorem extV_two {v u x : V} {ds : List V} : extV (.tup (v :: u :: x :: ds)) 2 KV = KV x := rfl

theorem st_makeFunc {f : Fn} {a b : Array Operand} : VStep P G tr ⟨dO, .makeFunc f a b, ty, pos, af, g⟩ ⟨fr, bx, nb⟩ K =
    ((((a.toList.map (ev G ⟨fr, bx, nb⟩)).all V.isPR = true ∧ (b.toList.map (ev G ⟨fr, bx, nb⟩)).all V.isPR = true)) ∧ putK dO ⟨fr, bx, nb⟩ K (.clo f (a.toList.map (ev G ⟨fr, bx, nb⟩)) (b.toList.map (ev G ⟨fr, bx, nb⟩)))) := rfl
def mutK (dO : Option Tmp) (K : S → Prop) (s : S) (x : V) : Prop := K (s.put dO x)
theorem mutK_mk {v : V} : mutK dO K ⟨fr, bx, nb⟩ v = K ((⟨fr, bx, nb⟩ : S).put dO v) := rfl
theorem st_call {f : Operand} {args : Array Operand} {ts : Array TypeId} : VStep P G tr ⟨dO, .call ⟨.value f, args, ts⟩, ty, pos, af, g⟩ ⟨fr, bx, nb⟩ K =
    if isMut tr dO then vcallB P G ⟨fr, bx, nb⟩ (ev G ⟨fr, bx, nb⟩ f) (args.toList.map (ev G ⟨fr, bx, nb⟩)) (mutK dO K)
    else vcall P G ⟨fr, bx, nb⟩ (ev G ⟨fr, bx, nb⟩ f) (args.toList.map (ev G ⟨fr, bx, nb⟩)) (putK dO ⟨fr, bx, nb⟩ K) := rfl
theorem st_len {args : Array Operand} {ts : Array TypeId} : VStep P G tr ⟨dO, .call ⟨.builtin .len, args, ts⟩, ty, pos, af, g⟩ ⟨fr, bx, nb⟩ K =
    vbuiltin P .len ts.toList (args.toList.map (ev G ⟨fr, bx, nb⟩)) (putK dO ⟨fr, bx, nb⟩ K) := rfl
theorem st_min {args : Array Operand} {ts : Array TypeId} : VStep P G tr ⟨dO, .call ⟨.builtin .min, args, ts⟩, ty, pos, af, g⟩ ⟨fr, bx, nb⟩ K =
    vmin false (args.toList.map (ev G ⟨fr, bx, nb⟩)) (putK dO ⟨fr, bx, nb⟩ K) := rfl
theorem st_max {args : Array Operand} {ts : Array TypeId} : VStep P G tr ⟨dO, .call ⟨.builtin .max, args, ts⟩, ty, pos, af, g⟩ ⟨fr, bx, nb⟩ K =
    vmin true (args.toList.map (ev G ⟨fr, bx, nb⟩)) (putK dO ⟨fr, bx, nb⟩ K) := rfl
def useK (t : Option Tmp) (dO : Option Tmp) (s : S) (K : S → Prop) (v : V) : Prop := K ((s.use t).put dO v)
def appT : List Operand → Option Tmp
  | .tmp t :: _ => some t
  | _ => none
theorem st_append {args : Array Operand} {T U : TypeId} : VStep P G tr ⟨dO, .call ⟨.builtin .append, args, #[T, U]⟩, ty, pos, af, g⟩ ⟨fr, bx, nb⟩ K =
    if isNew tr dO then vappNew P ⟨fr, bx, nb⟩ dO K [T, U] (args.toList.map fun x => vw ⟨fr, bx, nb⟩ (ev G ⟨fr, bx, nb⟩ x))
    else vbuiltin P .append [T, U] (args.toList.map fun x => vw ⟨fr, bx, nb⟩ (ev G ⟨fr, bx, nb⟩ x)) (useK (appT args.toList) dO ⟨fr, bx, nb⟩ K) := rfl
theorem vappNew_ow {T : TypeId} {es : List (List C)} {y : V} : vappNew P ⟨fr, bx, nb⟩ dO K [T, T] [.ow none es, y] = vappend P T (.ow none es) y.fz (vanK ⟨fr, bx, nb⟩ dO K) := by simp [vappNew]
theorem vanK_ow {e : TypeId} {sz : Nat} {es : List (List C)} : vanK ⟨fr, bx, nb⟩ dO K (.ow (some (e, sz)) es) = K ((⟨fr, up bx nb (es.flatten.map .c), nb + 1⟩ : S).put dO (.ms nb 0 es.length es.length sz)) := rfl
theorem useK_tmp {v : V} : useK (some t) (some d) ⟨fr, bx, nb⟩ K v = K (((⟨fr, bx, nb⟩ : S).use (some t)).put (some d) v) := rfl
theorem useK_none {v : V} : useK none (some d) ⟨fr, bx, nb⟩ K v = K ⟨up fr d v, bx, nb⟩ := rfl
theorem st_alloc : VStep P G tr ⟨some d, .alloc T, ty, pos, af, g⟩ ⟨fr, bx, nb⟩ K = match ti P T with
    | some { zero := some z, .. } => K ⟨up fr d (.bp nb 0), up bx nb (z.map zeroV), nb + 1⟩
    | _ => False := rfl

/-- A new box with a value in it. -/
def boxK (t : Option Tmp) (d : Nat) (v : V) (s : S) (K : S → Prop) : Prop := match v.bcells with
  | some cs => K ((let s' := s.use t; { s' with bx := up s'.bx s'.nb cs, nb := s'.nb + 1 } : S).put (some d) (.bp s.nb 0))
  | none => False
theorem st_box : VStep P G tr ⟨some d, .box T (.tmp t), ty, pos, af, g⟩ ⟨fr, bx, nb⟩ K = boxK (some t) d (fr t) ⟨fr, bx, nb⟩ K := rfl
theorem st_box_const {v : Value} : VStep P G tr ⟨some d, .box T (.const v), ty, pos, af, g⟩ ⟨fr, bx, nb⟩ K = boxK none d (constV v) ⟨fr, bx, nb⟩ K := rfl

/-- A store into a box. -/
def stoK (i : Option TI) (t : Option Tmp) (dO : Option Tmp) (p v : V) (s : S) (K : S → Prop) : Prop := match i, p, v.bcells with
  | some i, .bp b k, some cs => (b < s.nb ∧ cs.length = i.size ∧ k + i.size ≤ (s.bx b).length) ∧
      K ((let s' := s.use t; { s' with bx := up s'.bx b (setV (s'.bx b) k cs) } : S).put dO .sk)
  | _, _, _ => False
theorem st_store {p : Operand} : VStep P G tr ⟨dO, .store T p (.tmp t), ty, pos, af, g⟩ ⟨fr, bx, nb⟩ K = stoK (ti P T) (some t) dO (ev G ⟨fr, bx, nb⟩ p) (fr t) ⟨fr, bx, nb⟩ K := rfl
theorem st_store_const {p : Operand} {v : Value} : VStep P G tr ⟨dO, .store T p (.const v), ty, pos, af, g⟩ ⟨fr, bx, nb⟩ K = stoK (ti P T) none dO (ev G ⟨fr, bx, nb⟩ p) (constV v) ⟨fr, bx, nb⟩ K := rfl

theorem use_some : (⟨fr, bx, nb⟩ : S).use (some t) = if (fr t).isOw = true then ⟨up fr t .un, bx, nb⟩ else ⟨fr, bx, nb⟩ := rfl
theorem use_none : (⟨fr, bx, nb⟩ : S).use none = ⟨fr, bx, nb⟩ := rfl
theorem ev_tmp : ev G ⟨fr, bx, nb⟩ (.tmp t) = fr t := rfl
theorem ev_const {v : Value} : ev G ⟨fr, bx, nb⟩ (.const v) = constV v := rfl
theorem ev_func {f : FuncId} : ev G ⟨fr, bx, nb⟩ (.func f) = .c (.fn (.func f) [] []) := rfl
theorem constV_int {k : IntKind} {n : Int} : constV (.int k n) = .c (.lit (.int k n)) := rfl
theorem constV_bool {b : Bool} : constV (.bool b) = .c (.lit (.bool b)) := rfl
theorem constV_string {b : ByteArray} : constV (.string b) = .c (.lit (.string b)) := rfl
theorem constV_nil : constV (.slice none 0 0) = .ow none [] := rfl

theorem vw_c {s : S} {x : C} : vw s (.c x) = .c x := rfl
theorem vw_ow' {s : S} {E : Option (TypeId × Nat)} {es : List (List C)} : vw s (.ow E es) = .ow E es := rfl
theorem vw_ms {s : S} {i off len cap sz : Nat} {c : C} (h : viewC s i off len sz = some c) : vw s (.ms i off len cap sz) = .c c := by simp only [vw, h]

/-! Values. -/
section
variable {k : IntKind} {a b : Int} {op : BinOp} {T : TypeId} {t : Tmp}

theorem vbin_int : vbin P op T (.c (.lit (.int k a))) (.c (.lit (.int k b))) KV = vint op k a b KV := by
  simp only [vbin]
  split <;> rfl
theorem vbin_shl {k' : IntKind} : vbin P .shl T (.c (.lit (.int k a))) (.c (.lit (.int k' b))) KV = vint .shl k a b KV := rfl
theorem vbin_shr {k' : IntKind} : vbin P .shr T (.c (.lit (.int k a))) (.c (.lit (.int k' b))) KV = vint .shr k a b KV := rfl
theorem vbin_str {a b : ByteArray} : vbin P op T (.c (.lit (.string a))) (.c (.lit (.string b))) KV = vstr op a b KV := rfl
def vboolK (i : Option TI) (op : BinOp) (a b : Bool) (K : V → Prop) : Prop := match i with
  | some { kd := .bool, .. } => match op with
    | .eql => K (.c (.lit (.bool (a == b))))
    | .neq => K (.c (.lit (.bool (!(a == b)))))
    | _ => False
  | _ => False
theorem vbin_bool {a b : Bool} : vbin P op T (.c (.lit (.bool a))) (.c (.lit (.bool b))) KV = vboolK (ti P T) op a b KV := rfl
def vaggK (i : Option TI) (op : BinOp) (xs ys : List C) (K : V → Prop) : Prop := match i with
  | some { eqs := some ks, agg := true, .. } => match eqCs ks xs ys with
    | some r => (xs.length = ks.length ∧ ys.length = ks.length) ∧ match op with
      | .eql => K (.c (.lit (.bool r)))
      | .neq => K (.c (.lit (.bool (!r))))
      | _ => False
    | none => False
  | _ => False
theorem vbin_agg {xs ys : List C} : vbin P op T (.agg xs) (.agg ys) KV = vaggK (ti P T) op xs ys KV := rfl

theorem vint_add : vint .add k a b KV = KV (.c (.lit (.int k (k.wrap (a + b))))) := rfl
theorem vint_sub : vint .sub k a b KV = KV (.c (.lit (.int k (k.wrap (a - b))))) := rfl
theorem vint_mul : vint .mul k a b KV = KV (.c (.lit (.int k (k.wrap (a * b))))) := rfl
theorem vint_eql : vint .eql k a b KV = KV (.c (.lit (.bool (decide (a = b))))) := rfl
theorem vint_neq : vint .neq k a b KV = KV (.c (.lit (.bool (!decide (a = b))))) := rfl
theorem vint_lss : vint .lss k a b KV = KV (.c (.lit (.bool (decide (a < b))))) := rfl
theorem vint_leq : vint .leq k a b KV = KV (.c (.lit (.bool (decide (a ≤ b))))) := rfl
theorem vint_gtr : vint .gtr k a b KV = KV (.c (.lit (.bool (decide (b < a))))) := rfl
theorem vint_geq : vint .geq k a b KV = KV (.c (.lit (.bool (decide (b ≤ a))))) := rfl
theorem fz_c {x : C} : (V.c x).fz = .c x := rfl
theorem fz_agg {cs : List C} : (V.agg cs).fz = .agg cs := rfl
theorem fz_ow {E : Option (TypeId × Nat)} {es : List (List C)} : (V.ow E es).fz = .c (.sl es) := rfl
theorem fz_bp {i o : Nat} : (V.bp i o).fz = .bp i o := rfl
theorem fz_clo {f : Fn} {x y : List V} : (V.clo f x y).fz = .clo f x y := rfl
theorem fz_ms {i o l c z : Nat} : (V.ms i o l c z).fz = .ms i o l c z := rfl
theorem fz_mag {x : List V} : (V.mag x).fz = .mag x := rfl
theorem isOw_ms {i o l c z : Nat} : (V.ms i o l c z).isOw = false := rfl
theorem isOw_mag {x : List V} : (V.mag x).isOw = false := rfl
theorem fz_tup {x : List V} : (V.tup x).fz = .tup x := rfl
theorem fz_sk : V.sk.fz = .sk := rfl
theorem isOw_c {x : C} : (V.c x).isOw = false := rfl
theorem isOw_agg {cs : List C} : (V.agg cs).isOw = false := rfl
theorem isOw_ow {E : Option (TypeId × Nat)} {es : List (List C)} : (V.ow E es).isOw = true := rfl
theorem isOw_bp {i o : Nat} : (V.bp i o).isOw = false := rfl
theorem isOw_clo {f : Fn} {x y : List V} : (V.clo f x y).isOw = false := rfl
theorem isOw_tup {x : List V} : (V.tup x).isOw = false := rfl
theorem isOw_sk : V.sk.isOw = false := rfl

/-- Slots from i on. -/
def frm : Nat → List V → Nat → V
  | _, [] => fun _ => .un
  | i, v :: r => up (frm (i + 1) r) i v

theorem frm_nil {i : Nat} : frm i [] = fun _ => .un := rfl
theorem frm_cons {i : Nat} {v : V} {r : List V} : frm i (v :: r) = up (frm (i + 1) r) i v := rfl
theorem frm_get : ∀ (l : List V) (i j : Nat), frm i l j = if i ≤ j then l.getD (j - i) .un else .un
  | [], i, j => by simp [frm]
  | v :: r, i, j => by
    simp only [frm, up_apply, frm_get r (i + 1) j]
    by_cases h : j = i
    · subst h; simp
    · rw [if_neg h]
      by_cases h1 : i ≤ j
      · rw [if_pos h1, if_pos (by omega)]
        have : j - i = (j - (i + 1)) + 1 := by omega
        rw [this]; rfl
      · rw [if_neg h1, if_neg (by omega)]

theorem initS_eq (args : List V) : initS args = ⟨frm 0 args, fun _ => [], 0⟩ := by
  unfold initS
  congr 1
  funext j
  rw [frm_get]
  simp

def endK (P : Program) (z : Bool) (r : V) (rs : List ResultVar) (e : VE) (s : S) : Prop := (match e with | .exit _ => False | _ => True) ∧ retV P z s r rs
theorem endK_ret {z : Bool} {r : V} {rs : List ResultVar} {s : S} : endK P z r rs .ret s = retV P z s r rs := by simp [endK]
theorem endK_normal {z : Bool} {r : V} {rs : List ResultVar} {s : S} : endK P z r rs .normal s = retV P z s r rs := by simp [endK]
theorem retV_one {r : V} {t : Tmp} : retV P false ⟨fr, bx, nb⟩ r [.tmp t] = (fr t = r) := rfl
theorem retV_fz {r : V} {t : Tmp} : retV P true ⟨fr, bx, nb⟩ r [.tmp t] = (imm ⟨fr, bx, nb⟩ (fr t) = some r) := by simp [retV, endR]
theorem retV_cell {r : V} {t : Tmp} {T : TypeId} : retV P false ⟨fr, bx, nb⟩ r [.cell t T] = vload P T ⟨fr, bx, nb⟩ (fr t) (fun u => u = r) := rfl
theorem retV_cellz {r : V} {t : Tmp} {T : TypeId} : retV P true ⟨fr, bx, nb⟩ r [.cell t T] = vload P T ⟨fr, bx, nb⟩ (fr t) (fun u => imm ⟨fr, bx, nb⟩ u = some r) := by simp [retV, endR]
theorem retV_two {d e : V} {t u : Tmp} (h1 : (fr t).fz = d) (h2 : (fr u).fz = e) : retV P false ⟨fr, bx, nb⟩ (.tup [d, e]) [.tmp t, .tmp u] := by
  refine ⟨_, rfl, rfl, fun i R x hR hx => ?_⟩
  match i with
  | 0 => simp only [List.getElem?_cons_zero, Option.some.injEq] at hR hx; subst hR; subst hx; exact h1
  | 1 => simp only [List.getElem?_cons_succ, List.getElem?_cons_zero, Option.some.injEq] at hR hx; subst hR; subst hx; exact h2
  | n + 2 => simp at hR
theorem retV_twoz {d e : V} {t u : Tmp} (h1 : imm ⟨fr, bx, nb⟩ (fr t) = some d) (h2 : imm ⟨fr, bx, nb⟩ (fr u) = some e) : retV P true ⟨fr, bx, nb⟩ (.tup [d, e]) [.tmp t, .tmp u] := by
  refine ⟨_, rfl, rfl, fun i R x hR hx => ?_⟩
  match i with
  | 0 => simp only [List.getElem?_cons_zero, Option.some.injEq] at hR hx; subst hR; subst hx; simpa [resV, endR1] using h1
  | 1 => simp only [List.getElem?_cons_succ, List.getElem?_cons_zero, Option.some.injEq] at hR hx; subst hR; subst hx; simpa [resV, endR1] using h2
  | n + 2 => simp at hR

theorem FnOK_by {f : FuncId} {fn : Func} {c : Code} {args : List V} {r : V} (z : Bool) (tr : List Nat) (hm : P.follows .mixedOrders = true) (hf : P.funcs[f]? = some fn) (hb : fn.body = some c) (hname : (fn.name == "runtime.NumGoroutine") = false)
    {rs : List ResultVar} (hrs : fn.results.toList = rs) {n : Nat} (hn : fn.ntmps = n) (hck : cok n tr c = true) (hlen : args.length ≤ n)
    (hr : r.out = true) (hcomp : r.compT = true)
    (h : vwp P G tr c (endK P z r rs) ⟨frm 0 args, fun _ => [], 0⟩) : FnOK P G f args r := by
  subst hn
  subst hrs
  refine FnOK_of z tr hm hf hb hname hlen hck hr hcomp ?_
  rw [initS_eq]; exact h
end

end
end
end Go.Vl
