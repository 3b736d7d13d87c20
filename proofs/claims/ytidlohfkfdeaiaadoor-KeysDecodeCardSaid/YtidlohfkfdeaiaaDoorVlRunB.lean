/- Values without memory: how the conditions are computed: each law fires at a state that is written out, so that what follows stays as it is until its turn comes. -/
import Derived.Test.YtidlohfkfdeaiaaDoorVlFn
import Derived.Defers
import Derived.Recover
set_option linter.unusedSimpArgs false
set_option linter.unusedVariables false
namespace Go.Vl
open Go Go.RowKit

section
variable {P : Program} {G : Gl} {tr : List Nat} {fr : Nat → V} {bx : Nat → List V} {nb : Nat} {K : S → Prop} {KV : V → Prop} {Q : VE → S → Prop}

def opsK (P : Program) (G : Gl) (tr : List Nat) (ops : Array Oper) (r : List Oper) (K : S → Prop) (s : S) : Prop := vops P G tr ops r s K
def seqK (P : Program) (G : Gl) (tr : List Nat) (b : Code) (Q : VE → S → Prop) (e : VE) (s : S) : Prop := match e with | .normal => vwp P G tr b Q s | e => Q e s
def blkK (id : Nat) (Q : VE → S → Prop) (e : VE) (s : S) : Prop := match e with | .exit i => if i = id then Q .normal s else Q (.exit i) s | e => Q e s

/-- A test that is not decided yet: both ways. -/
def vcond (P : Program) (G : Gl) (tr : List Nat) (v : V) (c : Operand) (x y : Code) (Q : VE → S → Prop) (s : S) : Prop := match v with
  | .c (.lit (.bool p)) => (p = true → vwp P G tr x Q (refine s c true)) ∧ (p = false → vwp P G tr y Q (refine s c false))
  | _ => False

/-- A guard that is not decided yet. -/
def vgd (P : Program) (G : Gl) (tr : List Nat) (ops : Array Oper) (o : Oper) (r : List Oper) (K : S → Prop) (d : Option Tmp) (v : V) (want : Bool) (s : S) : Prop := match d with
  | some d => match v with
    | .c (.lit (.bool p)) => (p = want → VStep P G tr o { s with fr := up s.fr d (.c (.lit (.bool want))) } (opsK P G tr ops r K)) ∧
        (p = (!want) → vops P G tr ops r (({ s with fr := up s.fr d (.c (.lit (.bool (!want)))) } : S).put o.dst .sk) K)
    | .sk => vops P G tr ops r (s.put o.dst .sk) K
    | _ => False
  | none => False

def slotOf (s : S) : Option Tmp → V
  | some d => s.fr d
  | none => .un

def fzK (P : Program) (G : Gl) (tr : List Nat) (id : Nat) (ops : Array Oper) (Q : VE → S → Prop) (s : S) : Prop := ∃ s', S.Fz (extK tr) s' s ∧ vtw P G tr id ops s' (Q .normal)
theorem run_region {i : Nat} {ops : Array Oper} {d : Bool} : vwp P G tr (.region i ops d) Q ⟨fr, bx, nb⟩ = if isFz tr i then fzK P G tr i ops Q ⟨fr, bx, nb⟩ else vops P G tr ops ops.toList ⟨fr, bx, nb⟩ (Q .normal) := rfl
theorem isFz_mk {i : Nat} : isFz tr i = tr.contains (2600000 + i) := rfl
theorem run_seq {a b : Code} : vwp P G tr (.seq a b) Q ⟨fr, bx, nb⟩ = vwp P G tr a (seqK P G tr b Q) ⟨fr, bx, nb⟩ := rfl
theorem run_skipC : vwp P G tr .skip Q ⟨fr, bx, nb⟩ = Q .normal ⟨fr, bx, nb⟩ := rfl
theorem run_ret : vwp P G tr .ret Q ⟨fr, bx, nb⟩ = Q .ret ⟨fr, bx, nb⟩ := rfl
theorem run_exit {i : Nat} : vwp P G tr (.exit i) Q ⟨fr, bx, nb⟩ = Q (.exit i) ⟨fr, bx, nb⟩ := rfl
theorem run_scope {a : Code} : vwp P G tr (.scope a) Q ⟨fr, bx, nb⟩ = vwp P G tr a Q ⟨fr, bx, nb⟩ := rfl
theorem run_label {i : Nat} : vwp P G tr (.label i) Q ⟨fr, bx, nb⟩ = Q .normal ⟨fr, bx, nb⟩ := rfl
theorem run_block {i : Nat} {a : Code} : vwp P G tr (.block i a) Q ⟨fr, bx, nb⟩ = vwp P G tr a (blkK i Q) ⟨fr, bx, nb⟩ := rfl
theorem run_cond {c : Operand} {x y : Code} : vwp P G tr (.cond c x y) Q ⟨fr, bx, nb⟩ = vcond P G tr (ev G ⟨fr, bx, nb⟩ c) c x y Q ⟨fr, bx, nb⟩ := rfl
theorem run_cond_true {c : Operand} {x y : Code} : vcond P G tr (.c (.lit (.bool true))) c x y Q ⟨fr, bx, nb⟩ = vwp P G tr x Q (refine ⟨fr, bx, nb⟩ c true) := by simp [vcond]
theorem run_cond_false {c : Operand} {x y : Code} : vcond P G tr (.c (.lit (.bool false))) c x y Q ⟨fr, bx, nb⟩ = vwp P G tr y Q (refine ⟨fr, bx, nb⟩ c false) := by simp [vcond]
theorem vcond_of {c : Operand} {x y : Code} {p : Bool} {s : S} (h1 : p = true → vwp P G tr x Q (refine s c true)) (h2 : p = false → vwp P G tr y Q (refine s c false)) :
    vcond P G tr (.c (.lit (.bool p))) c x y Q s := ⟨h1, h2⟩
theorem seqK_normal {b : Code} {s : S} : seqK P G tr b Q .normal s = vwp P G tr b Q s := rfl
theorem seqK_ret {b : Code} {s : S} : seqK P G tr b Q .ret s = Q .ret s := rfl
theorem seqK_exit {b : Code} {s : S} {i : Nat} : seqK P G tr b Q (.exit i) s = Q (.exit i) s := rfl
theorem blkK_normal {id : Nat} {s : S} : blkK id Q .normal s = Q .normal s := rfl
theorem blkK_ret {id : Nat} {s : S} : blkK id Q .ret s = Q .ret s := rfl
theorem blkK_exit {id i : Nat} {s : S} : blkK id Q (.exit i) s = if i = id then Q .normal s else Q (.exit i) s := rfl
theorem refine_tmp {t : Tmp} {p : Bool} : refine ⟨fr, bx, nb⟩ (.tmp t) p = ⟨up fr t (.c (.lit (.bool p))), bx, nb⟩ := rfl

theorem run_nil {ops : Array Oper} : vops P G tr ops [] ⟨fr, bx, nb⟩ K = K ⟨fr, bx, nb⟩ := rfl
theorem run_op {ops : Array Oper} {d : Option Tmp} {op : Op} {ty : TypeId} {pos : String} {af : Array Edge} {r : List Oper} :
    vops P G tr ops (⟨d, op, ty, pos, af, none⟩ :: r) ⟨fr, bx, nb⟩ K = VStep P G tr ⟨d, op, ty, pos, af, none⟩ ⟨fr, bx, nb⟩ (opsK P G tr ops r K) := rfl
theorem run_opg {ops : Array Oper} {d : Option Tmp} {op : Op} {ty : TypeId} {pos : String} {af : Array Edge} {j : Nat} {w : Bool} {r : List Oper} :
    vops P G tr ops (⟨d, op, ty, pos, af, some (j, w)⟩ :: r) ⟨fr, bx, nb⟩ K =
      vgd P G tr ops ⟨d, op, ty, pos, af, some (j, w)⟩ r K ((ops[j]?).bind (·.dst)) (slotOf ⟨fr, bx, nb⟩ ((ops[j]?).bind (·.dst))) w ⟨fr, bx, nb⟩ := by
  simp only [vops, vguard, vgd]
  cases hd : (ops[j]?).bind (·.dst) with
  | none => rfl
  | some d => rfl
theorem vgd_yes {ops : Array Oper} {o : Oper} {r : List Oper} {d : Tmp} {w : Bool} : vgd P G tr ops o r K (some d) (.c (.lit (.bool w))) w ⟨fr, bx, nb⟩ = VStep P G tr o ⟨up fr d (.c (.lit (.bool w))), bx, nb⟩ (opsK P G tr ops r K) := by
  simp [vgd]
theorem vgd_tf {ops : Array Oper} {o : Oper} {r : List Oper} {d : Tmp} : vgd P G tr ops o r K (some d) (.c (.lit (.bool true))) false ⟨fr, bx, nb⟩ = vops P G tr ops r ((⟨up fr d (.c (.lit (.bool true))), bx, nb⟩ : S).put o.dst .sk) K := by
  simp [vgd]
theorem vgd_ft {ops : Array Oper} {o : Oper} {r : List Oper} {d : Tmp} : vgd P G tr ops o r K (some d) (.c (.lit (.bool false))) true ⟨fr, bx, nb⟩ = vops P G tr ops r ((⟨up fr d (.c (.lit (.bool false))), bx, nb⟩ : S).put o.dst .sk) K := by
  simp [vgd]
theorem vgd_sk {ops : Array Oper} {o : Oper} {r : List Oper} {d : Tmp} {w : Bool} : vgd P G tr ops o r K (some d) .sk w ⟨fr, bx, nb⟩ = vops P G tr ops r ((⟨fr, bx, nb⟩ : S).put o.dst .sk) K := rfl
theorem vgd_of {ops : Array Oper} {o : Oper} {r : List Oper} {d : Tmp} {w p : Bool} {s : S} (h1 : p = w → VStep P G tr o { s with fr := up s.fr d (.c (.lit (.bool w))) } (opsK P G tr ops r K))
    (h2 : p = (!w) → vops P G tr ops r (({ s with fr := up s.fr d (.c (.lit (.bool (!w)))) } : S).put o.dst .sk) K) : vgd P G tr ops o r K (some d) (.c (.lit (.bool p))) w s := ⟨h1, h2⟩
theorem slotOf_some {d : Tmp} : slotOf ⟨fr, bx, nb⟩ (some d) = fr d := rfl
theorem opsK_mk {ops : Array Oper} {r : List Oper} : opsK P G tr ops r K ⟨fr, bx, nb⟩ = vops P G tr ops r ⟨fr, bx, nb⟩ K := rfl
theorem put_some {d : Nat} {v : V} : (⟨fr, bx, nb⟩ : S).put (some d) v = ⟨up fr d v, bx, nb⟩ := rfl
theorem put_none {v : V} : (⟨fr, bx, nb⟩ : S).put none v = ⟨fr, bx, nb⟩ := rfl

/-! The operations. -/
section
variable {d : Nat} {dO : Option Tmp} {t : Tmp} {ty T : TypeId} {pos : String} {af : Array Edge} {g : Option (Nat × Bool)}

theorem st_move : VStep P G tr ⟨some d, .move (.tmp t), ty, pos, af, g⟩ ⟨fr, bx, nb⟩ K = if tr.contains d then K (((⟨fr, bx, nb⟩ : S).use (some t)).put (some d) (fr t)) else K ⟨up fr d (fr t).fz, bx, nb⟩ := by
  simp only [VStep, VYK, inTr, ev]
  split
  · rename_i h; simp only [S.after, consT, inTr, h, if_true]
  · rename_i h; simp only [S.after, consT, inTr, h]; rfl
theorem st_move_const {v : Value} : VStep P G tr ⟨some d, .move (.const v), ty, pos, af, g⟩ ⟨fr, bx, nb⟩ K = if tr.contains d then K ⟨up fr d (constV v), bx, nb⟩ else K ⟨up fr d (constV v).fz, bx, nb⟩ := rfl
theorem st_assign : VStep P G tr ⟨some d, .assign (.tmp t), ty, pos, af, g⟩ ⟨fr, bx, nb⟩ K = K (((⟨fr, bx, nb⟩ : S).use (some t)).put (some d) (fr t)) := rfl
theorem st_assign_const {v : Value} : VStep P G tr ⟨some d, .assign (.const v), ty, pos, af, g⟩ ⟨fr, bx, nb⟩ K = K ⟨up fr d (constV v), bx, nb⟩ := rfl
/-- 'c ? a : b', the test known. -/
def pickV (c a b : V) (K : V → Prop) : Prop := match c with
  | .c (.lit (.bool p)) => K (if p then a.fz else b.fz)
  | _ => False
def putK (dO : Option Tmp) (s : S) (K : S → Prop) (v : V) : Prop := K (s.put dO v)
theorem putK_mk {v : V} : putK (some d) ⟨fr, bx, nb⟩ K v = K ⟨up fr d v, bx, nb⟩ := rfl
theorem putK_none {v : V} : putK none ⟨fr, bx, nb⟩ K v = K ⟨fr, bx, nb⟩ := rfl
theorem st_pick' {c a b : Operand} : VStep P G tr ⟨dO, .pick c a b, ty, pos, af, g⟩ ⟨fr, bx, nb⟩ K = pickV (ev G ⟨fr, bx, nb⟩ c) (ev G ⟨fr, bx, nb⟩ a) (ev G ⟨fr, bx, nb⟩ b) (putK dO ⟨fr, bx, nb⟩ K) := rfl
theorem pickV_true {a b : V} : pickV (.c (.lit (.bool true))) a b KV = KV a.fz := rfl
theorem pickV_false {a b : V} : pickV (.c (.lit (.bool false))) a b KV = KV b.fz := rfl

theorem st_bin {op : BinOp} {x : Operand} {t : Tmp} {yT : TypeId} : VStep P G tr ⟨dO, .binOp op T x (.tmp t) yT, ty, pos, af, g⟩ ⟨fr, bx, nb⟩ K = vbin P op T (ev G ⟨fr, bx, nb⟩ x) (fr t) (putK dO ⟨fr, bx, nb⟩ K) := rfl
theorem st_bin_i {op : BinOp} {x : Operand} {k : IntKind} {m : Int} {yT : TypeId} : VStep P G tr ⟨dO, .binOp op T x (.const (.int k m)) yT, ty, pos, af, g⟩ ⟨fr, bx, nb⟩ K = vbin P op T (ev G ⟨fr, bx, nb⟩ x) (.c (.lit (.int k m))) (putK dO ⟨fr, bx, nb⟩ K) := rfl
theorem st_bin_b {op : BinOp} {x : Operand} {b : Bool} {yT : TypeId} : VStep P G tr ⟨dO, .binOp op T x (.const (.bool b)) yT, ty, pos, af, g⟩ ⟨fr, bx, nb⟩ K = vbin P op T (ev G ⟨fr, bx, nb⟩ x) (.c (.lit (.bool b))) (putK dO ⟨fr, bx, nb⟩ K) := rfl
theorem st_bin_s {op : BinOp} {x : Operand} {b : ByteArray} {yT : TypeId} : VStep P G tr ⟨dO, .binOp op T x (.const (.string b)) yT, ty, pos, af, g⟩ ⟨fr, bx, nb⟩ K = vbin P op T (ev G ⟨fr, bx, nb⟩ x) (.c (.lit (.string b))) (putK dO ⟨fr, bx, nb⟩ K) := rfl
theorem st_bin_nil {op : BinOp} {x : Operand} {yT : TypeId} : VStep P G tr ⟨dO, .binOp op T x (.const (.slice none 0 0)) yT, ty, pos, af, g⟩ ⟨fr, bx, nb⟩ K = vnil P op T (ev G ⟨fr, bx, nb⟩ x) (putK dO ⟨fr, bx, nb⟩ K) := rfl
theorem st_un {op : UnOp} {x : Operand} : VStep P G tr ⟨dO, .unOp op T x, ty, pos, af, g⟩ ⟨fr, bx, nb⟩ K = vun op (ev G ⟨fr, bx, nb⟩ x) (putK dO ⟨fr, bx, nb⟩ K) := rfl
def zK (dO : Option Tmp) (s : S) (K : S → Prop) (v : V) : Prop := K (s.put dO v)
theorem zK_mk {v : V} : zK dO ⟨fr, bx, nb⟩ K v = K ((⟨fr, bx, nb⟩ : S).put dO v) := rfl
theorem isZ_nil : isZ [] dO = false := by cases dO <;> rfl
theorem isZ_some : isZ tr (some d) = tr.contains (2500000 + d) := rfl
theorem isZ_none : isZ tr none = false := rfl
theorem st_load {x : Operand} : VStep P G tr ⟨dO, .load T x, ty, pos, af, g⟩ ⟨fr, bx, nb⟩ K =
    if isZ tr dO then vloadZ P T ⟨fr, bx, nb⟩ (ev G ⟨fr, bx, nb⟩ x) (zK dO ⟨fr, bx, nb⟩ K) else declV tr dO (ev G ⟨fr, bx, nb⟩ x) = true ∧ vload P T ⟨fr, bx, nb⟩ (ev G ⟨fr, bx, nb⟩ x) (putK dO ⟨fr, bx, nb⟩ K) := rfl
theorem declV_nil {t : Option Tmp} {v : V} : declV [] t v = true := by cases t <;> cases v <;> rfl
theorem declV_none {v : V} : declV tr none v = true := by cases v <;> rfl
theorem declV_bp {t b k : Nat} : declV tr (some t) (.bp b k) = (!tr.contains (200000 + t) || (decide (b < 100) && tr.contains (300000 + t * 100 + b))) := rfl
theorem declV_c {t : Nat} {x : C} : declV tr (some t) (.c x) = true := rfl
theorem ptrT_t {t : Tmp} : ptrT (.tmp t) = some t := rfl
theorem st_fieldAddr {x : Operand} {f : Nat} : VStep P G tr ⟨dO, .fieldAddr T x f, ty, pos, af, g⟩ ⟨fr, bx, nb⟩ K = vfieldAddr P T (ev G ⟨fr, bx, nb⟩ x) f (putK dO ⟨fr, bx, nb⟩ K) := rfl
theorem st_field {x : Operand} {f : Nat} : VStep P G tr ⟨dO, .field T x f, ty, pos, af, g⟩ ⟨fr, bx, nb⟩ K = vfield P T (ev G ⟨fr, bx, nb⟩ x) f (putK dO ⟨fr, bx, nb⟩ K) := rfl
theorem st_indexAddr {x i : Operand} : VStep P G tr ⟨dO, .indexAddr T x i, ty, pos, af, g⟩ ⟨fr, bx, nb⟩ K = vindexAddr P T (ev G ⟨fr, bx, nb⟩ x).fz (ev G ⟨fr, bx, nb⟩ i) (putK dO ⟨fr, bx, nb⟩ K) := rfl
theorem st_index {x i : Operand} : VStep P G tr ⟨dO, .index T x i, ty, pos, af, g⟩ ⟨fr, bx, nb⟩ K = vindex P T (ev G ⟨fr, bx, nb⟩ x) (ev G ⟨fr, bx, nb⟩ i) (putK dO ⟨fr, bx, nb⟩ K) := rfl
theorem st_slice {x : Operand} {lo hi mx : Option Operand} : VStep P G tr ⟨dO, .slice T x lo hi mx, ty, pos, af, g⟩ ⟨fr, bx, nb⟩ K =
    vslice P T (ev G ⟨fr, bx, nb⟩ x).fz (lo.map (ev G ⟨fr, bx, nb⟩)) (hi.map (ev G ⟨fr, bx, nb⟩)) (mx.map (ev G ⟨fr, bx, nb⟩)) (putK dO ⟨fr, bx, nb⟩ K) := rfl
theorem st_convert {x : Operand} {U : TypeId} : VStep P G tr ⟨dO, .convert T U x, ty, pos, af, g⟩ ⟨fr, bx, nb⟩ K =
    if isNew tr dO then vbytes P ⟨fr, bx, nb⟩ dO T U K (ev G ⟨fr, bx, nb⟩ x) else vconv P T U (vw ⟨fr, bx, nb⟩ (ev G ⟨fr, bx, nb⟩ x)).fz (putK dO ⟨fr, bx, nb⟩ K) := rfl
theorem st_sap {x : Operand} : VStep P G tr ⟨dO, .sliceToArrayPointer T x, ty, pos, af, g⟩ ⟨fr, bx, nb⟩ K = vsap P T (ev G ⟨fr, bx, nb⟩ x) (putK dO ⟨fr, bx, nb⟩ K) := rfl
/-- Is it no nil pointer? -/
def nilchkV (x : V) (K : V → Prop) : Prop := match x with
  | .bp i o => K (.bp i o)
  | .c (.rp cs k) => K (.c (.rp cs k))
  | _ => False
theorem st_nilCheck {x : Operand} : VStep P G tr ⟨dO, .nilCheck x, ty, pos, af, g⟩ ⟨fr, bx, nb⟩ K = nilchkV (ev G ⟨fr, bx, nb⟩ x) (putK dO ⟨fr, bx, nb⟩ K) := rfl
theorem nilchk_bp {i o : Nat} : nilchkV (.bp i o) KV = KV (.bp i o) := rfl
theorem nilchk_rp {cs : List C} {k : Nat} : nilchkV (.c (.rp cs k)) KV = KV (.c (.rp cs k)) := rfl
theorem st_build {parts : Array (Nat × Operand)} : VStep P G tr ⟨dO, .build T parts, ty, pos, af, g⟩ ⟨fr, bx, nb⟩ K =
    if isZ tr dO then vbuildZ P T (parts.toList.map fun p => (p.1, ev G ⟨fr, bx, nb⟩ p.2)) (zK dO ⟨fr, bx, nb⟩ K) else vbuild P T (parts.toList.map fun p => (p.1, ev G ⟨fr, bx, nb⟩ p.2)) (putK dO ⟨fr, bx, nb⟩ K) := rfl
theorem st_buildSlice {len : Nat} {parts : Array (Nat × Operand)} : VStep P G tr ⟨dO, .buildSlice T len parts, ty, pos, af, g⟩ ⟨fr, bx, nb⟩ K =
    if isNew tr dO then vbuildSlice P T len (parts.toList.map fun p => (p.1, ev G ⟨fr, bx, nb⟩ p.2)) (vnew ⟨fr, bx, nb⟩ dO len len K)
    else vbuildSlice P T len (parts.toList.map fun p => (p.1, ev G ⟨fr, bx, nb⟩ p.2)) (putK dO ⟨fr, bx, nb⟩ K) := rfl
theorem vnew_ow {e : TypeId} {sz n m : Nat} {es : List (List C)} : vnew ⟨fr, bx, nb⟩ dO n m K (.ow (some (e, sz)) es) = K ((⟨fr, up bx nb (es.flatten.map .c), nb + 1⟩ : S).put dO (.ms nb 0 n m sz)) := rfl
theorem isNew_nil : isNew [] dO = false := by cases dO <;> rfl
theorem isMut_nil : isMut [] dO = false := rfl
theorem isNew_some : isNew tr (some d) = tr.contains (2000000 + d) := rfl
theorem isNew_none : isNew tr none = false := rfl
theorem isMut_some : isMut tr (some d) = tr.contains (1000000 + d) := rfl
theorem isMut_none : isMut tr none = tr.contains 999999 := rfl
theorem isLc_some : isLc tr (some d) = tr.contains (400000 + d) := rfl
theorem isLc_none : isLc tr none = tr.contains 399999 := rfl
theorem lcK_mk {s : S} {v : V} : lcK tr dO s K ⟨fr, bx, nb⟩ v = (lcOk tr dO s ⟨fr, bx, nb⟩ ∧ K ((⟨fr, bx, nb⟩ : S).put dO v)) := rfl
def mkK (dO : Option Tmp) (s : S) (K : S → Prop) (n m sz : Nat) (z : List C) : Prop := K ({ s with bx := up s.bx s.nb ((List.replicate m z).flatten.map .c), nb := s.nb + 1 }.put dO (.ms s.nb 0 n m sz))
theorem st_makeSlice {l c : Operand} : VStep P G tr ⟨dO, .makeSlice T l c, ty, pos, af, g⟩ ⟨fr, bx, nb⟩ K = vmake P T (ev G ⟨fr, bx, nb⟩ l) (ev G ⟨fr, bx, nb⟩ c) (mkK dO ⟨fr, bx, nb⟩ K) := rfl
theorem mkK_mk {n m sz : Nat} {z : List C} : mkK dO ⟨fr, bx, nb⟩ K n m sz z = K ((⟨fr, up bx nb ((List.replicate m z).flatten.map .c), nb + 1⟩ : S).put dO (.ms nb 0 n m sz)) := rfl

def extV (x : V) (i : Nat) (K : V → Prop) : Prop := match x with
  | .tup ds => match ds[i]? with
    | some d => K d
    | none => False
  | _ => False
theorem st_extract {x : Operand} {i : Nat} : VStep P G tr ⟨dO, .extract x i, ty, pos, af, g⟩ ⟨fr, bx, nb⟩ K = extV (ev G ⟨fr, bx, nb⟩ x) i (putK dO ⟨fr, bx, nb⟩ K) := rfl
theorem extV_zero {v : V} {ds : List V} : extV (.tup (v :: ds)) 0 KV = KV v := rfl
theorem extV_one {v u : V} {ds : List V} : extV (.tup (v :: u :: ds)) 1 KV = KV u := rfl
theorem extV_two {v u x : V} {ds : List V} : extV (.tup (v :: u :: x :: ds)) 2 KV = KV x := rfl

theorem st_makeFunc {f : Fn} {a b : Array Operand} : VStep P G tr ⟨dO, .makeFunc f a b, ty, pos, af, g⟩ ⟨fr, bx, nb⟩ K =
    ((((a.toList.map (ev G ⟨fr, bx, nb⟩)).all V.isPR = true ∧ (b.toList.map (ev G ⟨fr, bx, nb⟩)).all V.isPR = true)) ∧ putK dO ⟨fr, bx, nb⟩ K (.clo f (a.toList.map (ev G ⟨fr, bx, nb⟩)) (b.toList.map (ev G ⟨fr, bx, nb⟩)))) := rfl
theorem mutK_mk {v : V} : mutK dO K ⟨fr, bx, nb⟩ v = K ((⟨fr, bx, nb⟩ : S).put dO v) := rfl
theorem st_call {f : Operand} {args : Array Operand} {ts : Array TypeId} : VStep P G tr ⟨dO, .call ⟨.value f, args, ts⟩, ty, pos, af, g⟩ ⟨fr, bx, nb⟩ K =
    if isMut tr dO then vcallB P G ⟨fr, bx, nb⟩ (ev G ⟨fr, bx, nb⟩ f) (args.toList.map (ev G ⟨fr, bx, nb⟩)) (if isLc tr dO then lcK tr dO ⟨fr, bx, nb⟩ K else mutK dO K)
    else vcall P G ⟨fr, bx, nb⟩ (ev G ⟨fr, bx, nb⟩ f) (args.toList.map (ev G ⟨fr, bx, nb⟩)) (putK dO ⟨fr, bx, nb⟩ K) := rfl
theorem st_len {args : Array Operand} {ts : Array TypeId} : VStep P G tr ⟨dO, .call ⟨.builtin .len, args, ts⟩, ty, pos, af, g⟩ ⟨fr, bx, nb⟩ K =
    vbuiltin P .len ts.toList (args.toList.map (ev G ⟨fr, bx, nb⟩)) (putK dO ⟨fr, bx, nb⟩ K) := rfl
theorem st_min {args : Array Operand} {ts : Array TypeId} : VStep P G tr ⟨dO, .call ⟨.builtin .min, args, ts⟩, ty, pos, af, g⟩ ⟨fr, bx, nb⟩ K =
    vmin false (args.toList.map (ev G ⟨fr, bx, nb⟩)) (putK dO ⟨fr, bx, nb⟩ K) := rfl
theorem st_max {args : Array Operand} {ts : Array TypeId} : VStep P G tr ⟨dO, .call ⟨.builtin .max, args, ts⟩, ty, pos, af, g⟩ ⟨fr, bx, nb⟩ K =
    vmin true (args.toList.map (ev G ⟨fr, bx, nb⟩)) (putK dO ⟨fr, bx, nb⟩ K) := rfl
def useK (t : Option Tmp) (dO : Option Tmp) (s : S) (K : S → Prop) (v : V) : Prop := K ((s.use t).put dO v)
def appT : List Operand → Option Tmp
  | .tmp t :: _ => some t
  | _ => none
theorem st_append {args : Array Operand} {T U : TypeId} : VStep P G tr ⟨dO, .call ⟨.builtin .append, args, #[T, U]⟩, ty, pos, af, g⟩ ⟨fr, bx, nb⟩ K =
    if isNew tr dO then vappNew P ⟨fr, bx, nb⟩ dO K [T, U] (args.toList.map fun x => vw ⟨fr, bx, nb⟩ (ev G ⟨fr, bx, nb⟩ x))
    else if isRoom tr dO then vappRoom P ⟨fr, bx, nb⟩ (mutK dO K) [T, U] (args.toList.map (ev G ⟨fr, bx, nb⟩))
    else if isGh tr dO then vghost P G ⟨fr, bx, nb⟩ dO [T, U] args.toList (useK (appT args.toList) dO ⟨fr, bx, nb⟩ K)
    else vbuiltin P .append [T, U] (args.toList.map fun x => vw ⟨fr, bx, nb⟩ (ev G ⟨fr, bx, nb⟩ x)) (useK (appT args.toList) dO ⟨fr, bx, nb⟩ K) := rfl
theorem isGh_nil : isGh [] dO = false := by cases dO <;> rfl
theorem isGh_some : isGh tr (some d) = tr.contains (2400000 + d) := rfl
theorem isGh_none : isGh tr none = false := rfl
theorem isRoom_nil : isRoom [] dO = false := by cases dO <;> rfl
theorem isRoom_some : isRoom tr (some d) = tr.contains (2700000 + d) := rfl
theorem isRoom_none : isRoom tr none = false := rfl
theorem st_clear {args : Array Operand} {T : TypeId} : VStep P G tr ⟨dO, .call ⟨.builtin .clear, args, #[T]⟩, ty, pos, af, g⟩ ⟨fr, bx, nb⟩ K = vclear P ⟨fr, bx, nb⟩ (fun s' => K (s'.put dO .un)) [T] (args.toList.map (ev G ⟨fr, bx, nb⟩)) := rfl
theorem st_copy {args : Array Operand} {T U : TypeId} : VStep P G tr ⟨dO, .call ⟨.builtin .copy, args, #[T, U]⟩, ty, pos, af, g⟩ ⟨fr, bx, nb⟩ K = vcopy P ⟨fr, bx, nb⟩ (mutK dO K) [T, U] (args.toList.map (ev G ⟨fr, bx, nb⟩)) := rfl
theorem vappNew_ow {T : TypeId} {es : List (List C)} {y : V} : vappNew P ⟨fr, bx, nb⟩ dO K [T, T] [.ow none es, y] = vappend P T (.ow none es) y.fz (vanK ⟨fr, bx, nb⟩ dO K) := by simp [vappNew]
theorem vanK_ow {e : TypeId} {sz : Nat} {es : List (List C)} : vanK ⟨fr, bx, nb⟩ dO K (.ow (some (e, sz)) es) = K ((⟨fr, up bx nb (es.flatten.map .c), nb + 1⟩ : S).put dO (.ms nb 0 es.length es.length sz)) := rfl
theorem useK_tmp {v : V} : useK (some t) (some d) ⟨fr, bx, nb⟩ K v = K (((⟨fr, bx, nb⟩ : S).use (some t)).put (some d) v) := rfl
theorem useK_none {v : V} : useK none (some d) ⟨fr, bx, nb⟩ K v = K ⟨up fr d v, bx, nb⟩ := rfl
theorem st_alloc : VStep P G tr ⟨some d, .alloc T, ty, pos, af, g⟩ ⟨fr, bx, nb⟩ K = match ti P T with
    | some { zero := some z, .. } => K ⟨up fr d (.bp nb 0), up bx nb (z.map zeroV), nb + 1⟩
    | _ => False := rfl

/-- A new box with a value in it. -/
def boxK (t : Option Tmp) (d : Nat) (v : V) (s : S) (K : S → Prop) : Prop := match v.bcells with
  | some cs => K ((let s' := s.use t; { s' with bx := up s'.bx s'.nb cs, nb := s'.nb + 1 } : S).put (some d) (.bp s.nb 0))
  | none => False
theorem st_box : VStep P G tr ⟨some d, .box T (.tmp t), ty, pos, af, g⟩ ⟨fr, bx, nb⟩ K = boxK (some t) d (fr t) ⟨fr, bx, nb⟩ K := rfl
theorem st_box_const {v : Value} : VStep P G tr ⟨some d, .box T (.const v), ty, pos, af, g⟩ ⟨fr, bx, nb⟩ K = boxK none d (constV v) ⟨fr, bx, nb⟩ K := rfl

/-- A store into a box. -/
def stoK (i : Option TI) (t : Option Tmp) (dO : Option Tmp) (p v : V) (s : S) (K : S → Prop) : Prop := match i, p, v.bcells with
  | some i, .bp b k, some cs => (b < s.nb ∧ cs.length = i.size ∧ k + i.size ≤ (s.bx b).length ∧ isMb (s.bx b) = false) ∧
      K ((let s' := s.use t; { s' with bx := up s'.bx b (setV (s'.bx b) k cs) } : S).put dO .sk)
  | _, _, _ => False
theorem st_store {p : Operand} : VStep P G tr ⟨dO, .store T p (.tmp t), ty, pos, af, g⟩ ⟨fr, bx, nb⟩ K = (declV tr (ptrT p) (ev G ⟨fr, bx, nb⟩ p) = true ∧ stoK (ti P T) (some t) dO (ev G ⟨fr, bx, nb⟩ p) (fr t) ⟨fr, bx, nb⟩ K) := rfl
theorem st_store_const {p : Operand} {v : Value} : VStep P G tr ⟨dO, .store T p (.const v), ty, pos, af, g⟩ ⟨fr, bx, nb⟩ K = (declV tr (ptrT p) (ev G ⟨fr, bx, nb⟩ p) = true ∧ stoK (ti P T) none dO (ev G ⟨fr, bx, nb⟩ p) (constV v) ⟨fr, bx, nb⟩ K) := rfl

theorem use_some : (⟨fr, bx, nb⟩ : S).use (some t) = if (fr t).isOw = true then ⟨up fr t .un, bx, nb⟩ else ⟨fr, bx, nb⟩ := rfl
theorem use_none : (⟨fr, bx, nb⟩ : S).use none = ⟨fr, bx, nb⟩ := rfl
theorem ev_tmp : ev G ⟨fr, bx, nb⟩ (.tmp t) = fr t := rfl
theorem ev_const {v : Value} : ev G ⟨fr, bx, nb⟩ (.const v) = constV v := rfl
theorem ev_func {f : FuncId} : ev G ⟨fr, bx, nb⟩ (.func f) = .c (.fn (.func f) [] []) := rfl
theorem constV_int {k : IntKind} {n : Int} : constV (.int k n) = .c (.lit (.int k n)) := rfl
theorem constV_bool {b : Bool} : constV (.bool b) = .c (.lit (.bool b)) := rfl
theorem constV_string {b : ByteArray} : constV (.string b) = .c (.lit (.string b)) := rfl
theorem constV_nil : constV (.slice none 0 0) = .ow none [] := rfl

theorem vw_c {s : S} {x : C} : vw s (.c x) = .c x := rfl
theorem vw_ow' {s : S} {E : Option (TypeId × Nat)} {es : List (List C)} : vw s (.ow E es) = .ow E es := rfl
/-! Values. -/
section
variable {k : IntKind} {a b : Int} {op : BinOp} {T : TypeId} {t : Tmp}

theorem vbin_int : vbin P op T (.c (.lit (.int k a))) (.c (.lit (.int k b))) KV = vint op k a b KV := by
  simp only [vbin]
  split <;> rfl
theorem vbin_shl {k' : IntKind} : vbin P .shl T (.c (.lit (.int k a))) (.c (.lit (.int k' b))) KV = vint .shl k a b KV := rfl
theorem vbin_shr {k' : IntKind} : vbin P .shr T (.c (.lit (.int k a))) (.c (.lit (.int k' b))) KV = vint .shr k a b KV := rfl
theorem vbin_str {a b : ByteArray} : vbin P op T (.c (.lit (.string a))) (.c (.lit (.string b))) KV = vstr op a b KV := rfl
def vaggK (i : Option TI) (op : BinOp) (xs ys : List C) (K : V → Prop) : Prop := match i with
  | some { eqs := some ks, agg := true, .. } => match eqCs ks xs ys with
    | some r => (xs.length = ks.length ∧ ys.length = ks.length) ∧ match op with
      | .eql => K (.c (.lit (.bool r)))
      | .neq => K (.c (.lit (.bool (!r))))
      | _ => False
    | none => False
  | _ => False
theorem vbin_agg {xs ys : List C} : vbin P op T (.agg xs) (.agg ys) KV = vaggK (ti P T) op xs ys KV := rfl

theorem vint_add : vint .add k a b KV = KV (.c (.lit (.int k (k.wrap (a + b))))) := rfl
theorem vint_sub : vint .sub k a b KV = KV (.c (.lit (.int k (k.wrap (a - b))))) := rfl
theorem vint_mul : vint .mul k a b KV = KV (.c (.lit (.int k (k.wrap (a * b))))) := rfl
theorem vint_eql : vint .eql k a b KV = KV (.c (.lit (.bool (decide (a = b))))) := rfl
theorem vint_neq : vint .neq k a b KV = KV (.c (.lit (.bool (!decide (a = b))))) := rfl
theorem vint_lss : vint .lss k a b KV = KV (.c (.lit (.bool (decide (a < b))))) := rfl
theorem vint_leq : vint .leq k a b KV = KV (.c (.lit (.bool (decide (a ≤ b))))) := rfl
theorem vint_gtr : vint .gtr k a b KV = KV (.c (.lit (.bool (decide (b < a))))) := rfl
theorem vint_geq : vint .geq k a b KV = KV (.c (.lit (.bool (decide (b ≤ a))))) := rfl
theorem ldv_c {x : C} : (V.c x).ldv = .c x := rfl
theorem ldv_agg {cs : List C} : (V.agg cs).ldv = .agg cs := rfl
theorem ldv_none {es : List (List C)} : (V.ow none es).ldv = .ow none es := rfl
theorem ldv_some {E : TypeId × Nat} {es : List (List C)} : (V.ow (some E) es).ldv = .c (.sl es) := rfl
theorem ldv_bp {i o : Nat} : (V.bp i o).ldv = .bp i o := rfl
theorem ldv_clo {f : Fn} {x y : List V} : (V.clo f x y).ldv = .clo f x y := rfl
theorem ldv_ms {i o l c z : Nat} : (V.ms i o l c z).ldv = .ms i o l c z := rfl
theorem ldv_mr {i : Nat} : (V.mr i).ldv = .mr i := rfl
theorem fz_c {x : C} : (V.c x).fz = .c x := rfl
theorem fz_agg {cs : List C} : (V.agg cs).fz = .agg cs := rfl
theorem fz_ow {E : Option (TypeId × Nat)} {es : List (List C)} : (V.ow E es).fz = .c (.sl es) := rfl
theorem fz_bp {i o : Nat} : (V.bp i o).fz = .bp i o := rfl
theorem fz_clo {f : Fn} {x y : List V} : (V.clo f x y).fz = .clo f x y := rfl
theorem fz_ms {i o l c z : Nat} : (V.ms i o l c z).fz = .ms i o l c z := rfl
theorem fz_mag {x : List V} : (V.mag x).fz = .mag x := rfl
theorem isOw_ms {i o l c z : Nat} : (V.ms i o l c z).isOw = false := rfl
theorem isOw_mag {x : List V} : (V.mag x).isOw = false := rfl
theorem fz_tup {x : List V} : (V.tup x).fz = .tup x := rfl
theorem isOw_c {x : C} : (V.c x).isOw = false := rfl
theorem isOw_agg {cs : List C} : (V.agg cs).isOw = false := rfl
theorem isOw_ow {E : Option (TypeId × Nat)} {es : List (List C)} : (V.ow E es).isOw = true := rfl
theorem isOw_bp {i o : Nat} : (V.bp i o).isOw = false := rfl
theorem isOw_clo {f : Fn} {x y : List V} : (V.clo f x y).isOw = false := rfl
theorem isOw_tup {x : List V} : (V.tup x).isOw = false := rfl
theorem isOw_sk : V.sk.isOw = false := rfl

/-- Slots from i on. -/
def frm : Nat → List V → Nat → V
  | _, [] => fun _ => .un
  | i, v :: r => up (frm (i + 1) r) i v

theorem frm_nil {i : Nat} : frm i [] = fun _ => .un := rfl
theorem frm_cons {i : Nat} {v : V} {r : List V} : frm i (v :: r) = up (frm (i + 1) r) i v := rfl
theorem frm_get : ∀ (l : List V) (i j : Nat), frm i l j = if i ≤ j then l.getD (j - i) .un else .un
  | [], i, j => by simp [frm]
  | v :: r, i, j => by
    simp only [frm, up_apply, frm_get r (i + 1) j]
    by_cases h : j = i
    · subst h; simp
    · rw [if_neg h]
      by_cases h1 : i ≤ j
      · rw [if_pos h1, if_pos (by omega)]
        have : j - i = (j - (i + 1)) + 1 := by omega
        rw [this]; rfl
      · rw [if_neg h1, if_neg (by omega)]

theorem initS_eq (args : List V) : initS args = ⟨frm 0 args, fun _ => [], 0⟩ := by
  unfold initS
  congr 1
  funext j
  rw [frm_get]
  simp

def endK (P : Program) (z : Bool) (r : V) (rs : List ResultVar) (e : VE) (s : S) : Prop := (match e with | .exit _ => False | _ => True) ∧ retV P z s r rs
theorem endK_ret {z : Bool} {r : V} {rs : List ResultVar} {s : S} : endK P z r rs .ret s = retV P z s r rs := by simp [endK]
theorem endK_normal {z : Bool} {r : V} {rs : List ResultVar} {s : S} : endK P z r rs .normal s = retV P z s r rs := by simp [endK]
theorem retV_one {r : V} {t : Tmp} : retV P false ⟨fr, bx, nb⟩ r [.tmp t] = (fr t = r) := rfl
theorem retV_cell {r : V} {t : Tmp} {T : TypeId} : retV P false ⟨fr, bx, nb⟩ r [.cell t T] = vload P T ⟨fr, bx, nb⟩ (fr t) (fun u => u = r) := rfl
theorem retV_two {d e : V} {t u : Tmp} (h1 : (fr t).fz = d) (h2 : (fr u).fz = e) : retV P false ⟨fr, bx, nb⟩ (.tup [d, e]) [.tmp t, .tmp u] := by
  refine ⟨_, rfl, rfl, fun i R x hR hx => ?_⟩
  match i with
  | 0 => simp only [List.getElem?_cons_zero, Option.some.injEq] at hR hx; subst hR; subst hx; exact h1
  | 1 => simp only [List.getElem?_cons_succ, List.getElem?_cons_zero, Option.some.injEq] at hR hx; subst hR; subst hx; exact h2
  | n + 2 => simp at hR
theorem FnOK_by {f : FuncId} {fn : Func} {c : Code} {args : List V} {r : V} (z : Bool) (tr : List Nat) (hm : P.follows .mixedOrders = true) (hf : P.funcs[f]? = some fn) (hb : fn.body = some c) (hname : (fn.name == "runtime.NumGoroutine") = false)
    {rs : List ResultVar} (hrs : fn.results.toList = rs) {n : Nat} (hn : fn.ntmps = n) (hck : cok n tr c = true) (hlen : args.length ≤ n)
    (hr : r.out = true) (hcomp : r.compT = true)
    (h : vwp P G tr c (endK P z r rs) ⟨frm 0 args, fun _ => [], 0⟩) : FnOK P G f args r := by
  subst hn
  subst hrs
  refine FnOK_of z tr hm hf hb hname hlen hck hr hcomp ?_
  rw [initS_eq]; exact h
end

end
end
end Go.Vl

/- Values without memory: loops by an invariant, and the laws of the operations on memory. -/
namespace Go.Vl
open Go Go.RowKit

section
variable {P : Program} {G : Gl} {tr : List Nat} {fr : Nat → V} {bx : Nat → List V} {nb : Nat} {K : S → Prop} {KV : V → Prop} {Q : VE → S → Prop}

/-- Some slots, written out. -/
def frs : List (Nat × V) → Nat → V
  | [] => fun _ => .un
  | (i, v) :: r => up (frs r) i v
theorem frs_nil : frs [] = fun _ => .un := rfl
theorem frs_cons {i : Nat} {v : V} {r : List (Nat × V)} : frs ((i, v) :: r) = up (frs r) i v := rfl

def FL : List (Nat × V) → (Nat → V) → Prop
  | [], _ => True
  | (i, v) :: r, f => f i = v ∧ FL r f
theorem FL.le : ∀ {l : List (Nat × V)} {f : Nat → V}, FL l f → FrLe (frs l) f
  | [], _, _ => fun _ => .inl rfl
  | (i, v) :: r, f, h => fun t => by
    by_cases ht : t = i
    · subst ht; right; simp only [frs, up_same]; exact h.1.symm
    · simp only [frs, up_ne _ _ ht]; exact h.2.le t

/-- The boxes, written out. -/
def bxs (bl : List (List V)) : Nat → List V := fun i => bl.getD i []
def BL : Nat → List (List V) → (Nat → List V) → Prop
  | _, [], _ => True
  | i, b :: r, f => f i = b ∧ BL (i + 1) r f
theorem BL.get : ∀ {bl : List (List V)} {k : Nat} {f : Nat → List V}, BL k bl f → ∀ i, i < bl.length → bl.getD i [] = f (k + i)
  | [], _, _, _, i, hi => by simp at hi
  | b :: r, k, f, h, i, hi => by
    cases i with
    | zero => simp [h.1]
    | succ i =>
      have := h.2.get i (by simpa using hi)
      simpa [Nat.add_assoc, Nat.add_comm, Nat.add_left_comm] using this

def V.ltPB (m : Nat) : V → Bool
  | .bp i _ => decide (i < m)
  | .ms i _ _ _ _ => decide (i < m)
  | .mr i => decide (i < m)
  | _ => true
theorem V.ltPB_ok {m : Nat} {v : V} (h : v.ltPB m = true) : v.ltP m := by
  cases v <;> simp only [V.ltP] <;> simpa [V.ltPB] using h
def V.ltB (m : Nat) : V → Bool
  | .bp i _ => decide (i < m)
  | .ms i _ _ _ _ => decide (i < m)
  | .clo _ fs cs => fs.all (V.ltPB m) && cs.all (V.ltPB m)
  | .mag vs => vs.all (V.ltPB m)
  | .mr i => decide (i < m)
  | .it i _ _ _ => decide (i < m)
  | _ => true
theorem V.ltB_ok {m : Nat} {v : V} (h : v.ltB m = true) : v.lt m := by
  cases v <;> simp only [V.lt] <;> simp only [V.ltB] at h
  · simpa using h
  · simp only [Bool.and_eq_true, List.all_eq_true] at h
    exact ⟨fun x hx => V.ltPB_ok (h.1 x hx), fun x hx => V.ltPB_ok (h.2 x hx)⟩
  · simpa using h
  · simp only [List.all_eq_true] at h
    exact fun x hx => V.ltPB_ok (h x hx)
  · simpa using h
  · simpa using h

def leOk (l : List (Nat × V)) (bl : List (List V)) : Bool := l.all (fun p => p.2.ltB bl.length) && bl.all fun b => b.all fun x => x.ltB bl.length

theorem frs_lt {m : Nat} : ∀ {l : List (Nat × V)}, (∀ p ∈ l, p.2.lt m) → ∀ t, (frs l t).lt m
  | [], _, _ => trivial
  | (i, v) :: r, h, t => by
    by_cases ht : t = i
    · subst ht; simp only [frs, up_same]; exact h _ (List.mem_cons_self ..)
    · simp only [frs, up_ne _ _ ht]; exact frs_lt (fun p hp => h p (List.mem_cons_of_mem _ hp)) t

/-- The head of a loop: some slots and boxes are known. -/
def hdS (l : List (Nat × V)) (bl : List (List V)) : S := ⟨frs l, bxs bl, bl.length⟩

theorem le_hd {l : List (Nat × V)} {bl : List (List V)} {k : Nat} (hok : leOk l bl = true) (hk : k ≤ bl.length) (hn : bl.length ≤ nb) (h1 : FL l fr) (h2 : BL 0 bl bx) : S.Le k (hdS l bl) ⟨fr, bx, nb⟩ := by
  simp only [leOk, Bool.and_eq_true, List.all_eq_true] at hok
  refine ⟨hk, h1.le, hn, fun i hi => ?_, fun t => frs_lt (fun p hp => V.ltB_ok (hok.1 p hp)) t, fun i hi x hx => ?_⟩
  · have := h2.get i hi; simpa [hdS, bxs] using this
  · simp only [hdS] at hi hx
    have : bxs bl i ∈ bl := by
      simp only [bxs, List.getD, List.getElem?_eq_getElem hi, Option.getD_some]; exact List.getElem_mem hi
    exact V.ltB_ok (hok.2 _ this x hx)

/-- Where boxes are there for good from now on. -/
def FZL (s : S) (m : Nat) : List (Nat × V) → (Nat → V) → Prop
  | [], _ => True
  | (i, v) :: r, f => (f i = v ∨ FzV s m v (f i)) ∧ FZL s m r f
def LZ (s : S) (m : Nat) : List V → List V → Prop
  | [], [] => True
  | x :: xs, y :: ys => (x = y ∨ FzV s m x y) ∧ LZ s m xs ys
  | _, _ => False
def BZL (s : S) (m : Nat) : Nat → List (List V) → (Nat → List V) → Prop
  | _, [], _ => True
  | i, b :: r, f => LZ s m b (f i) ∧ BZL s m (i + 1) r f
theorem LZ.ok {s : S} {m : Nat} : ∀ {xs ys : List V}, LZ s m xs ys → xs.length = ys.length ∧ ∀ j, xs.getD j .un = ys.getD j .un ∨ FzV s m (xs.getD j .un) (ys.getD j .un)
  | [], [], _ => ⟨rfl, fun _ => .inl rfl⟩
  | x :: xs, y :: ys, h => by
    obtain ⟨h1, h2⟩ := LZ.ok h.2
    refine ⟨by simp [h1], fun j => ?_⟩
    cases j with
    | zero => simpa using h.1
    | succ j => simpa using h2 j
  | [], _ :: _, h => h.elim
  | _ :: _, [], h => h.elim
theorem BZL.get {s : S} {m : Nat} : ∀ {bl : List (List V)} {k : Nat} {f : Nat → List V}, BZL s m k bl f → ∀ i, i < bl.length → LZ s m (bl.getD i []) (f (k + i))
  | [], _, _, _, i, hi => by simp at hi
  | b :: r, k, f, h, i, hi => by
    cases i with
    | zero => simpa using h.1
    | succ i =>
      have := h.2.get i (by simpa using hi)
      simpa [Nat.add_assoc, Nat.add_comm, Nat.add_left_comm] using this
theorem FZL.ok {s : S} {m : Nat} : ∀ {l : List (Nat × V)} {f : Nat → V}, FZL s m l f → ∀ t, frs l t = .un ∨ frs l t = f t ∨ FzV s m (frs l t) (f t)
  | [], _, _, _ => .inl rfl
  | (i, v) :: r, f, h, t => by
    by_cases ht : t = i
    · subst ht
      simp only [frs, up_same]
      rcases h.1 with e | e
      · exact .inr (.inl e.symm)
      · exact .inr (.inr e)
    · simp only [frs, up_ne _ _ ht]; exact h.2.ok t
theorem vrounds_by {k : Nat} {α : Type} {hd : α → S} {m : α → Nat} {Inv : α → Prop} {body : (VE → S → Prop) → S → Prop}
    (hb : ∀ x, Inv x → ∀ R : VE → S → Prop, (∀ y s', Inv y → m y < m x → S.Le k (hd y) s' → R .normal s') → (∀ i s', Q (.exit i) s' → R (.exit i) s') → (∀ s', Q .ret s' → R .ret s') → body R (hd x)) :
    ∀ n x s, Inv x → m x < n → S.Le k (hd x) s → vrounds k body Q n s
  | 0, _, _, _, h, _ => absurd h (Nat.not_lt_zero _)
  | n + 1, x, s, hx, hm, hle => ⟨hd x, .inr hle, hb x hx _ (fun y s' hy hlt hle' => vrounds_by hb n y s' hy (by omega) hle') (fun _ _ h => h) (fun _ h => h)⟩

/-- A loop: what its head says, what grows less, what holds. -/
theorem run_loop {α : Type} (hd : α → S) (m : α → Nat) (Inv : α → Prop) {body : Code} (x : α) (hx : Inv x) (hle : S.Le (extK tr) (hd x) ⟨fr, bx, nb⟩)
    (hb : ∀ x, Inv x → ∀ R : VE → S → Prop, (∀ y s', Inv y → m y < m x → S.Le (extK tr) (hd y) s' → R .normal s') → (∀ i s', Q (.exit i) s' → R (.exit i) s') → (∀ s', Q .ret s' → R .ret s') → vwp P G tr body R (hd x)) :
    vwp P G tr (.loop body) Q ⟨fr, bx, nb⟩ :=
  ⟨m x + 1, vrounds_by hb _ x _ hx (Nat.lt_succ_self _) hle⟩

theorem vun_not {b : Bool} : vun .not (.c (.lit (.bool b))) KV = KV (.c (.lit (.bool (!b)))) := rfl

/-! Operations on memory. -/
theorem vlen_sl {T e : TypeId} {i : TI} {es : List (List C)} (hT : ti P T = some i) (hk : i.kd = .slice e) : vlen P T (.c (.sl es)) KV = KV (.c (.lit (.int .i64 es.length))) := by
  obtain ⟨kd, a, b, c, d, f, g⟩ := i; subst hk; simp only [vlen, hT]
theorem vlen_ow {T e : TypeId} {i : TI} {E : Option (TypeId × Nat)} {es : List (List C)} (hT : ti P T = some i) (hk : i.kd = .slice e) : vlen P T (.ow E es) KV = KV (.c (.lit (.int .i64 es.length))) := by
  obtain ⟨kd, a, b, c, d, f, g⟩ := i; subst hk; simp only [vlen, hT]
theorem vlen_ms {T e : TypeId} {i : TI} {b o l c z : Nat} (hT : ti P T = some i) (hk : i.kd = .slice e) : vlen P T (.ms b o l c z) KV = KV (.c (.lit (.int .i64 l))) := by
  obtain ⟨kd, a, b, c, d, f, g⟩ := i; subst hk; simp only [vlen, hT]
theorem vlen_str {T : TypeId} {i : TI} {b : ByteArray} (hT : ti P T = some i) (hk : i.kd = .str) : vlen P T (.c (.lit (.string b))) KV = KV (.c (.lit (.int .i64 b.size))) := by
  obtain ⟨kd, a, b, c, d, f, g⟩ := i; subst hk; simp only [vlen, hT]
theorem vbuiltin_len {t : TypeId} {x : V} : vbuiltin P .len [t] [x] KV = vlen P t x KV := rfl
theorem vbuiltin_app {t u : TypeId} {x y : V} : vbuiltin P .append [t, u] [x, y] KV = if t = u then vappend P t x y.fz KV else vappStr P t u x y.fz KV := rfl
theorem appStr_of {T U e : TypeId} {i j k : TI} {x : V} {st : ByteArray} (hT : ti P T = some i) (hk : i.kd = .slice e) (hU : ti P U = some j) (hj : j.kd = .str) (hE : ti P e = some k) (hs : k.size = 1) :
    vappStr P T U x (.c (.lit (.string st))) KV = vappend P T x (.c (.sl (strC st))) KV := by
  obtain ⟨kd, a, b, c, d, f, g⟩ := i; subst hk
  obtain ⟨kd', a', b', c', d', f', g'⟩ := j; simp only at hj; subst hj
  simp only [vappStr, hT, hU, hE, hs, true_and]
/-- A slice of an array that is a box. -/
theorem slice_box {T e : TypeId} {i j : TI} {n b k l h : Nat} {lo hi : Option V} (hT : ti P T = some i) (hk : i.kd = .arr n e) (hE : ti P e = some j) (hlo : optInt 0 lo = some (l : Int)) (hhi : optInt n hi = some (h : Int)) (h1 : l ≤ h) (h2 : h ≤ n) :
    vslice P T (.bp b k) lo hi none KV = KV (.ms b (k + l * j.size) (h - l) (n - l) j.size) := by
  obtain ⟨kd, a, b', c, d, f, g⟩ := i; subst hk
  simp only [vslice, hT, hE, hlo, hhi]
  have e1 : ((0 : Int) ≤ l ∧ (l : Int) ≤ h ∧ (h : Int) ≤ n) = True := by simp; omega
  simp only [e1, true_and, Int.toNat_natCast]
theorem sap_ms {T e : TypeId} {i j : TI} {n b off len cap sz : Nat} (hT : ti P T = some i) (hk : i.kd = .arr n e) (hE : ti P e = some j) (hs : j.size = sz) (h0 : 0 < n) (h1 : n ≤ len) : vsap P T (.ms b off len cap sz) KV = KV (.bp b off) := by
  obtain ⟨kd, a, b', c, d, f, g⟩ := i; subst hk
  simp only [vsap, hT, hE, hs, h0, h1, true_and]
/-- A copy of a string into a view of a box. -/
theorem copy_of {T U e : TypeId} {i j : TI} {b off len cap : Nat} {st : ByteArray} {K2 : S → V → Prop} (hT : ti P T = some i) (hk : i.kd = .slice e) (hE : ti P e = some j) (hs : j.size = 1) (hb : b < nb) (hm : isMb (bx b) = false) (hf : off + len ≤ (bx b).length)
    (hK : K2 ⟨fr, up bx b (setV (bx b) off (((strC st).take len).flatten.map .c)), nb⟩ (.c (.lit (.int .i64 ((min st.size len : Nat) : Int))))) : vcopy P ⟨fr, bx, nb⟩ K2 [T, U] [.ms b off len cap 1, .c (.lit (.string st))] := by
  obtain ⟨kd, a, b', c, d, f, g⟩ := i; subst hk
  simp only [vcopy, hT, hE, hs, true_and]
  exact ⟨⟨hb, hm, hf⟩, hK⟩
theorem room_of {T e : TypeId} {i j : TI} {b off len cap sz : Nat} {y : V} {ys : List (List C)} {K2 : S → V → Prop} (hT : ti P T = some i) (hk : i.kd = .slice e) (hE : ti P e = some j) (hs : j.size = sz) (hp : 0 < sz) (hy : immC ⟨fr, bx, nb⟩ y = some (.sl ys)) (hb : b < nb) (hm : isMb (bx b) = false)
    (hf : off + cap * sz ≤ (bx b).length) (hr : len + ys.length ≤ cap) (hys : ∀ x ∈ ys, x.length = sz) (hK : K2 ⟨fr, up bx b (setV (bx b) (off + len * sz) (ys.flatten.map .c)), nb⟩ (.ms b off (len + ys.length) cap sz)) :
    vappRoom P ⟨fr, bx, nb⟩ K2 [T, T] [.ms b off len cap sz, y] := by
  obtain ⟨kd, a, b', c, d, f, g⟩ := i; subst hk
  simp only [vappRoom, hT, hy, hE]
  exact ⟨⟨trivial, hs, hp, hb, hm, hf, hr, hys⟩, hK⟩
theorem bytes_of {T U e : TypeId} {i j k : TI} {dO : Option Tmp} {st : ByteArray} (hT : ti P T = some i) (hi : i.kd = .str) (hU : ti P U = some j) (hj : j.kd = .slice e) (hE : ti P e = some k) (hk : k.kd = .int .u8) :
    vbytes P ⟨fr, bx, nb⟩ dO T U K (.c (.lit (.string st))) = K ((⟨fr, up bx nb ((strC st).flatten.map .c), nb + 1⟩ : S).put dO (.ms nb 0 st.size st.size 1)) := by
  obtain ⟨kd, a, b, c, d, f, g⟩ := i; subst hi
  obtain ⟨kd', a', b', c', d', f', g'⟩ := j; simp only at hj; subst hj
  obtain ⟨kd2, a2, b2, c2, d2, f2, g2⟩ := k; simp only at hk; subst hk
  simp only [vbytes, hT, hU, hE]
/-- Two new variables: both orders, at a head that is written out. -/
theorem tw_hd {i : Nat} {ops : Array Oper} {l : List (Nat × V)} {bl : List (List V)} (hok : leOk l bl = true) (hk : extK tr ≤ bl.length) (hn : bl.length ≤ nb) (h1 : FL l fr) (h2 : BL 0 bl bx)
    (h : vtwo P G tr ops (hdS l bl) (Q .normal)) (hw : isTw tr i = true := by rfl) : fzK P G tr i ops Q ⟨fr, bx, nb⟩ := by
  have hle := le_hd (nb := nb) (k := extK tr) hok hk hn h1 h2
  refine ⟨hdS l bl, ⟨hk, fun t => ?_, hle.nb, fun i hi => by rw [hle.bx i hi], fun i hi j => .inl (by rw [hle.bx i hi]), hle.lt, hle.blt⟩, ?_⟩
  · rcases hle.fr t with h | h
    · exact .inl h
    · exact .inr (.inl h)
  · unfold vtw; rw [if_pos hw]; exact h
theorem two_mk {ops : Array Oper} : vtwo P G tr ops ⟨fr, bx, nb⟩ K = vops P G tr ops (ops.toList.take (firstAl ops)) ⟨fr, bx, nb⟩ (fun s' => vops P G tr ops (ops.toList.drop (firstAl ops)) s' K ∧ vops P G tr ops (swap2 (ops.toList.drop (firstAl ops))) s' K) := rfl
theorem ia_of {T e : TypeId} {i j : TI} {k : IntKind} {n : Int} {c : List C} {es : List (List C)} (hT : ti P T = some i) (hk : i.kd = .slice e) (hj : ti P e = some j) (hs : j.size ≠ 0) (hn : 0 ≤ n)
    (he : es[n.toNat]? = some c) (hc : c.length = j.size) (hK : KV (.c (.rp c 0))) : vindexAddr P T (.c (.sl es)) (.c (.lit (.int k n))) KV := by
  obtain ⟨kd, a, b, x, d, f, g⟩ := i
  simp only at hk; subst hk
  simp only [vindexAddr, hT, hj, he]
  exact ⟨⟨hn, hs⟩, hc, hK⟩
theorem ia_ms {T e : TypeId} {i j : TI} {k : IntKind} {n : Int} {b o l c z : Nat} (hT : ti P T = some i) (hk : i.kd = .slice e) (hj : ti P e = some j) (hs : j.size = z) (hz : z ≠ 0) (hn : 0 ≤ n) (hl : n < l)
    (hK : KV (.bp b (o + n.toNat * z))) : vindexAddr P T (.ms b o l c z) (.c (.lit (.int k n))) KV := by
  obtain ⟨kd, a, b, x, d, f, g⟩ := i
  simp only at hk; subst hk
  simp only [vindexAddr, hT, hj]
  exact ⟨⟨hn, hl, hs, hz⟩, hK⟩
theorem ia_box {T e : TypeId} {i j : TI} {k : IntKind} {n : Int} {m o q : Nat} (hT : ti P T = some i) (hk : i.kd = .arr m e) (hj : ti P e = some j) (hn : 0 ≤ n) (hm : n < m)
    (hK : KV (.bp q (o + n.toNat * j.size))) : vindexAddr P T (.bp q o) (.c (.lit (.int k n))) KV := by
  obtain ⟨kd, a, b, x, d, f, g⟩ := i
  simp only at hk; subst hk
  simp only [vindexAddr, hT, hj]
  exact ⟨⟨hn, hm⟩, hK⟩

theorem partV_all {ag : Bool} {sz : Nat} {cs : List C} (ha : ag = true) (h : cs.length = sz) : partV ag sz 0 cs KV = KV (.agg cs) := by
  subst ha; subst h; simp [partV]
/-- Reading a struct or array through a pointer to it alone. -/
theorem ld_all {T : TypeId} {i : TI} {s : S} {cs : List C} (hT : ti P T = some i) (ha : i.agg = true) (h : cs.length = i.size) : vload P T s (.c (.rp cs 0)) KV = KV (.agg cs) := by
  simp only [vload, hT]; exact partV_all ha h
theorem fa_rp {T : TypeId} {i : TI} {f k off sz : Nat} {ag : Bool} {cs : List C} (hT : ti P T = some i) (hf : i.flds[f]? = some (off, sz, ag)) (hs : sz ≠ 0) : vfieldAddr P T (.c (.rp cs k)) f KV = KV (.c (.rp cs (k + off))) := by
  simp only [vfieldAddr, hT, hf]; simp [hs]
theorem fa_bp {T : TypeId} {i : TI} {f k off sz b : Nat} {ag : Bool} (hT : ti P T = some i) (hf : i.flds[f]? = some (off, sz, ag)) (hs : sz ≠ 0) : vfieldAddr P T (.bp b k) f KV = KV (.bp b (k + off)) := by
  simp only [vfieldAddr, hT, hf]; simp [hs]
theorem ld_cell {T : TypeId} {i : TI} {s : S} {cs : List C} {o : Nat} (hT : ti P T = some i) (ha : i.agg = false) (hs : i.size = 1) : vload P T s (.c (.rp cs o)) KV = partV false 1 o cs KV := by
  simp only [vload, hT, ha, hs]
theorem partV_z {sz : Nat} {c : C} {cs : List C} : partV false sz 0 (c :: cs) KV = KV (.c c) := rfl
theorem partV_s {sz n : Nat} {c : C} {cs : List C} : partV false sz (n + 1) (c :: cs) KV = partV false sz n cs KV := by simp [partV]
def ldA (nb b : Nat) (l : List V) (o n : Nat) (K : V → Prop) : Prop := b < nb ∧ ((((l.drop o).take n).length = n ∧ ((l.drop o).take n).all V.isPO = true) ∧ K (aggV (((l.drop o).take n).map V.fz)))
def consA (a : C) : V → V
  | .agg cs => .agg (a :: cs)
  | .mag vs => .mag (.c a :: vs)
  | x => x
theorem aggV_nil : aggV [] = .agg [] := rfl
theorem aggV_c {a : C} {r : List V} : aggV (.c a :: r) = consA a (aggV r) := by
  unfold aggV
  simp only [List.mapM_cons]
  cases h : r.mapM V.asC <;> simp [V.asC, consA]
theorem aggV_ms {i o l c z : Nat} {r : List V} : aggV (.ms i o l c z :: r) = .mag (.ms i o l c z :: r) := by
  unfold aggV; simp [List.mapM_cons, V.asC]
theorem aggV_bp {i o : Nat} {r : List V} : aggV (.bp i o :: r) = .mag (.bp i o :: r) := by
  unfold aggV; simp [List.mapM_cons, V.asC]
theorem consA_agg {a : C} {cs : List C} : consA a (.agg cs) = .agg (a :: cs) := rfl
theorem consA_mag {a : C} {vs : List V} : consA a (.mag vs) = .mag (.c a :: vs) := rfl
theorem ldA_cons {b o n : Nat} {v : V} {l : List V} : ldA nb b (v :: l) o n KV = (b < nb ∧ (((((v :: l).drop o).take n).length = n ∧ (((v :: l).drop o).take n).all V.isPO = true) ∧ KV (aggV ((((v :: l).drop o).take n).map V.fz)))) := rfl
theorem isPR_bp {i o : Nat} : (V.bp i o).isPR = true := rfl
theorem isPR_c {x : C} : (V.c x).isPR = true := rfl
theorem isPR_ms {i o l c z : Nat} : (V.ms i o l c z).isPR = true := rfl
theorem isPO_c {x : C} : (V.c x).isPO = true := rfl
theorem isPO_ow {E : Option (TypeId × Nat)} {es : List (List C)} : (V.ow E es).isPO = true := rfl
theorem isPO_bp {i o : Nat} : (V.bp i o).isPO = true := rfl
theorem isPO_ms {i o l c z : Nat} : (V.ms i o l c z).isPO = true := rfl
def ldB (nb b : Nat) (l : List V) (o : Nat) (K : V → Prop) : Prop := b < nb ∧ match l[o]? with
  | some v => K v.ldv
  | none => False
theorem ldA_of {T : TypeId} {i : TI} {b o n : Nat} (hT : ti P T = some i) (ha : i.agg = true) (hs : i.size = n) : vload P T ⟨fr, bx, nb⟩ (.bp b o) KV = (isMb (bx b) = false ∧ ldA nb b (bx b) o n KV) := by
  subst hs; simp only [vload, hT, ha, if_true, ldA]; exact propext ⟨fun ⟨⟨a, b⟩, c⟩ => ⟨b, a, c⟩, fun ⟨b, a, c⟩ => ⟨⟨a, b⟩, c⟩⟩
theorem ldB_of {T : TypeId} {i : TI} {b o : Nat} (hT : ti P T = some i) (ha : i.agg = false) : vload P T ⟨fr, bx, nb⟩ (.bp b o) KV = (isMb (bx b) = false ∧ ldB nb b (bx b) o KV) := by
  simp only [vload, hT, ha, ldB]; exact propext ⟨fun ⟨⟨a, b⟩, c⟩ => ⟨b, a, c⟩, fun ⟨b, a, c⟩ => ⟨⟨a, b⟩, c⟩⟩
theorem ldB_z {b : Nat} {v : V} {l : List V} : ldB nb b (v :: l) 0 KV = (b < nb ∧ KV v.ldv) := rfl
theorem ldB_s {b o : Nat} {v : V} {l : List V} : ldB nb b (v :: l) (o + 1) KV = ldB nb b l o KV := by simp [ldB]
theorem ldB_map {b o : Nat} {cs : List C} : ldB nb b (cs.map V.c) o KV = (b < nb ∧ partV false 1 o cs KV) := by
  simp only [ldB, partV, List.getElem?_map, Bool.false_eq_true, if_false]
  cases cs[o]? <;> rfl
theorem vaggK_eql {i : TI} {ks : List EK} {xs ys : List C} {r : Bool} (he : i.eqs = some ks) (ha : i.agg = true) (h : eqCs ks xs ys = some r) (h1 : xs.length = ks.length) (h2 : ys.length = ks.length) : vaggK (some i) .eql xs ys KV = KV (.c (.lit (.bool r))) := by
  obtain ⟨kd, a, b, c, d, f, g⟩ := i
  simp only at he ha; subst he; subst ha
  simp [vaggK, h, h1, h2]
theorem vaggK_neq {i : TI} {ks : List EK} {xs ys : List C} {r : Bool} (he : i.eqs = some ks) (ha : i.agg = true) (h : eqCs ks xs ys = some r) (h1 : xs.length = ks.length) (h2 : ys.length = ks.length) : vaggK (some i) .neq xs ys KV = KV (.c (.lit (.bool (!r)))) := by
  obtain ⟨kd, a, b, c, d, f, g⟩ := i
  simp only at he ha; subst he; subst ha
  simp [vaggK, h, h1, h2]
theorem vbin_eql {T : TypeId} {i : TI} {ks : List EK} {xs ys : List C} {r : Bool} (hT : ti P T = some i) (he : i.eqs = some ks) (ha : i.agg = true) (h : eqCs ks xs ys = some r) (h1 : xs.length = ks.length) (h2 : ys.length = ks.length) :
    vbin P .eql T (.agg xs) (.agg ys) KV = KV (.c (.lit (.bool r))) := by rw [vbin_agg, hT]; exact vaggK_eql he ha h h1 h2
theorem vbin_neq {T : TypeId} {i : TI} {ks : List EK} {xs ys : List C} {r : Bool} (hT : ti P T = some i) (he : i.eqs = some ks) (ha : i.agg = true) (h : eqCs ks xs ys = some r) (h1 : xs.length = ks.length) (h2 : ys.length = ks.length) :
    vbin P .neq T (.agg xs) (.agg ys) KV = KV (.c (.lit (.bool (!r)))) := by rw [vbin_agg, hT]; exact vaggK_neq he ha h h1 h2
theorem vstr_eql {a b : ByteArray} : vstr .eql a b KV = KV (.c (.lit (.bool (decide (a = b))))) := rfl
theorem vstr_neq {a b : ByteArray} : vstr .neq a b KV = KV (.c (.lit (.bool (!decide (a = b))))) := rfl
theorem aggV_map : ∀ cs : List C, aggV (cs.map V.c) = .agg cs
  | [] => rfl
  | c :: cs => by rw [List.map_cons, aggV_c, aggV_map cs]; rfl
theorem ldA_box {b n : Nat} {cs : List C} (h : cs.length = n) : ldA nb b (cs.map V.c) 0 n KV = (b < nb ∧ KV (.agg cs)) := by
  have h1 : (cs.map V.c).take n = cs.map V.c := List.take_of_length_le (by simp [h])
  have h2 : (cs.map V.c).map V.fz = cs.map V.c := by simp [List.map_map, Function.comp_def, V.fz]
  have h3 : (cs.map V.c).all V.isPO = true := by simp [List.all_map, Function.comp_def, V.isPO]
  simp only [ldA, List.drop_zero, h1, h2, h3, aggV_map, List.length_map, h, true_and]

theorem boxK_c {t : Option Tmp} {d : Nat} {x : C} (h : ∀ u, t = some u → (fr u).isOw = false) : boxK t d (.c x) ⟨fr, bx, nb⟩ K = K ⟨up fr d (.bp nb 0), up bx nb [.c x], nb + 1⟩ := by
  cases t with
  | none => rfl
  | some u => simp [boxK, V.bcells, use_some, h u rfl, S.put]
theorem box_c {t : Tmp} {d : Nat} {x : C} (h : fr t = .c x) : boxK (some t) d (.c x) ⟨fr, bx, nb⟩ K = K ⟨up fr d (.bp nb 0), up bx nb [.c x], nb + 1⟩ := boxK_c (fun u hu => by cases hu; rw [h]; rfl)
theorem box_none {d : Nat} {x : C} : boxK none d (.c x) ⟨fr, bx, nb⟩ K = K ⟨up fr d (.bp nb 0), up bx nb [.c x], nb + 1⟩ := rfl
theorem box_noneo {d : Nat} {E : Option (TypeId × Nat)} {es : List (List C)} : boxK none d (.ow E es) ⟨fr, bx, nb⟩ K = K ⟨up fr d (.bp nb 0), up bx nb [.ow E es], nb + 1⟩ := rfl
theorem box_agg {t : Tmp} {d : Nat} {cs : List C} (h : fr t = .agg cs) : boxK (some t) d (.agg cs) ⟨fr, bx, nb⟩ K = K ⟨up fr d (.bp nb 0), up bx nb (cs.map .c), nb + 1⟩ := by
  simp [boxK, V.bcells, use_some, h, S.put, V.isOw]
theorem box_ow {t : Tmp} {d : Nat} {E : Option (TypeId × Nat)} {es : List (List C)} (h : fr t = .ow E es) : boxK (some t) d (.ow E es) ⟨fr, bx, nb⟩ K = K ⟨up (up fr t .un) d (.bp nb 0), up bx nb [.ow E es], nb + 1⟩ := by
  simp [boxK, V.bcells, use_some, h, S.put, V.isOw]
theorem box_bp {t : Tmp} {d : Nat} {i o : Nat} (h : fr t = .bp i o) : boxK (some t) d (.bp i o) ⟨fr, bx, nb⟩ K = K ⟨up fr d (.bp nb 0), up bx nb [.bp i o], nb + 1⟩ := by
  simp [boxK, V.bcells, use_some, h, S.put, V.isOw]
theorem box_ms {t : Tmp} {d : Nat} {i o l c z : Nat} (h : fr t = .ms i o l c z) : boxK (some t) d (.ms i o l c z) ⟨fr, bx, nb⟩ K = K ⟨up fr d (.bp nb 0), up bx nb [.ms i o l c z], nb + 1⟩ := by
  simp [boxK, V.bcells, use_some, h, S.put, V.isOw]
theorem box_mag {t : Tmp} {d : Nat} {vs : List V} (h : fr t = .mag vs) : boxK (some t) d (.mag vs) ⟨fr, bx, nb⟩ K = K ⟨up fr d (.bp nb 0), up bx nb vs, nb + 1⟩ := by
  simp [boxK, V.bcells, use_some, h, S.put, V.isOw]
theorem box_clo {t : Tmp} {d : Nat} {f : Fn} {x y : List V} (h : fr t = .clo f x y) : boxK (some t) d (.clo f x y) ⟨fr, bx, nb⟩ K = K ⟨up fr d (.bp nb 0), up bx nb [.clo f x y], nb + 1⟩ := by
  simp [boxK, V.bcells, use_some, h, S.put, V.isOw]

/-- A store of one value into a box. -/
def stS (n : Nat) (t : Option Tmp) (dO : Option Tmp) (b o : Nat) (v : V) (s : S) (K : S → Prop) : Prop := match v.bcells with
  | some cs => (b < s.nb ∧ cs.length = n ∧ o + n ≤ (s.bx b).length) ∧ K ((let s' := s.use t; { s' with bx := up s'.bx b (setV (s'.bx b) o cs) } : S).put dO .sk)
  | none => False
theorem stS_of {i : TI} {n : Nat} {t dO : Option Tmp} {b o : Nat} {v : V} {s : S} (h : i.size = n) : stoK (some i) t dO (.bp b o) v s K = (isMb (s.bx b) = false ∧ stS n t dO b o v s K) := by
  subst h; cases hv : v.bcells <;> simp only [stoK, stS, hv]
  · simp
  · exact propext ⟨fun ⟨⟨a, b, c, d⟩, e⟩ => ⟨d, ⟨a, b, c⟩, e⟩, fun ⟨d, ⟨a, b, c⟩, e⟩ => ⟨⟨a, b, c, d⟩, e⟩⟩
theorem isMb_cons {v : V} {l : List V} : isMb (v :: l) = v.isMk := rfl
theorem isMb_nil : isMb [] = false := rfl
theorem isMb_map : ∀ {l : List C}, isMb (l.map V.c) = false
  | [] => rfl
  | _ :: _ => rfl
theorem isMk_c {x : C} : (V.c x).isMk = false := rfl
theorem isMk_ow {E : Option (TypeId × Nat)} {es : List (List C)} : (V.ow E es).isMk = false := rfl
theorem isMk_bp {i o : Nat} : (V.bp i o).isMk = false := rfl
theorem isMk_ms {i o l c z : Nat} : (V.ms i o l c z).isMk = false := rfl
theorem isMk_clo {f : Fn} {x y : List V} : (V.clo f x y).isMk = false := rfl
theorem isMk_mr {i : Nat} : (V.mr i).isMk = false := rfl
theorem isMk_mk {bs : List Nat} {cl : Nat} : (V.mk bs cl).isMk = true := rfl
theorem stS_none {dO : Option Tmp} {b o : Nat} {x : C} : stS 1 none dO b o (.c x) ⟨fr, bx, nb⟩ K = ((b < nb ∧ o + 1 ≤ (bx b).length) ∧ K ((⟨fr, up bx b (setV (bx b) o [.c x]), nb⟩ : S).put dO .sk)) := by
  simp [stS, V.bcells, use_none]
theorem stS_c {t : Tmp} {dO : Option Tmp} {b o : Nat} {x : C} (h : fr t = .c x) : stS 1 (some t) dO b o (.c x) ⟨fr, bx, nb⟩ K = ((b < nb ∧ o + 1 ≤ (bx b).length) ∧ K ((⟨fr, up bx b (setV (bx b) o [.c x]), nb⟩ : S).put dO .sk)) := by
  simp [stS, V.bcells, use_some, h, V.isOw]
theorem stS_ow {t : Tmp} {dO : Option Tmp} {b o : Nat} {E : Option (TypeId × Nat)} {es : List (List C)} (h : fr t = .ow E es) : stS 1 (some t) dO b o (.ow E es) ⟨fr, bx, nb⟩ K =
    ((b < nb ∧ o + 1 ≤ (bx b).length) ∧ K ((⟨up fr t .un, up bx b (setV (bx b) o [.ow E es]), nb⟩ : S).put dO .sk)) := by
  simp [stS, V.bcells, use_some, h, V.isOw]
theorem stS_agg {n : Nat} {t : Tmp} {dO : Option Tmp} {b o : Nat} {cs : List C} (h : fr t = .agg cs) : stS n (some t) dO b o (.agg cs) ⟨fr, bx, nb⟩ K =
    ((b < nb ∧ cs.length = n ∧ o + n ≤ (bx b).length) ∧ K ((⟨fr, up bx b (setV (bx b) o (cs.map .c)), nb⟩ : S).put dO .sk)) := by
  simp [stS, V.bcells, use_some, h, V.isOw]
theorem stS_bp {t : Tmp} {dO : Option Tmp} {b o i k : Nat} (h : fr t = .bp i k) : stS 1 (some t) dO b o (.bp i k) ⟨fr, bx, nb⟩ K = ((b < nb ∧ o + 1 ≤ (bx b).length) ∧ K ((⟨fr, up bx b (setV (bx b) o [.bp i k]), nb⟩ : S).put dO .sk)) := by
  simp [stS, V.bcells, use_some, h, V.isOw]
theorem stS_clo {t : Tmp} {dO : Option Tmp} {b o : Nat} {f : Fn} {x y : List V} (h : fr t = .clo f x y) : stS 1 (some t) dO b o (.clo f x y) ⟨fr, bx, nb⟩ K = ((b < nb ∧ o + 1 ≤ (bx b).length) ∧ K ((⟨fr, up bx b (setV (bx b) o [.clo f x y]), nb⟩ : S).put dO .sk)) := by
  simp [stS, V.bcells, use_some, h, V.isOw]
theorem stS_ms {t : Tmp} {dO : Option Tmp} {b o i k l c z : Nat} (h : fr t = .ms i k l c z) : stS 1 (some t) dO b o (.ms i k l c z) ⟨fr, bx, nb⟩ K = ((b < nb ∧ o + 1 ≤ (bx b).length) ∧ K ((⟨fr, up bx b (setV (bx b) o [.ms i k l c z]), nb⟩ : S).put dO .sk)) := by
  simp [stS, V.bcells, use_some, h, V.isOw]
theorem stS_mag {n : Nat} {t : Tmp} {dO : Option Tmp} {b o : Nat} {vs : List V} (h : fr t = .mag vs) : stS n (some t) dO b o (.mag vs) ⟨fr, bx, nb⟩ K =
    ((b < nb ∧ vs.length = n ∧ o + n ≤ (bx b).length) ∧ K ((⟨fr, up bx b (setV (bx b) o vs), nb⟩ : S).put dO .sk)) := by
  simp [stS, V.bcells, use_some, h, V.isOw]
theorem setV_z {v x : V} {r : List V} : setV (v :: r) 0 [x] = x :: r := by simp [setV]
theorem setV_s {v x : V} {r : List V} {k : Nat} : setV (v :: r) (k + 1) [x] = v :: setV r k [x] := by simp [setV]

theorem wrap_i64 (n : Int) (h : -9223372036854775808 ≤ n ∧ n ≤ 9223372036854775807) : IntKind.i64.wrap n = n := by rw [IntKind.wrap_i64]; omega

/-! Calls under a contract. -/
theorem call_fn {s : S} {g : FuncId} {fs cs : List C} {args as : List V} {r : V} (hm : args.mapM (imm s) = some as) (h : FnOK P G g (fs.map .c ++ as ++ cs.map .c) r) (hb : args.any V.boxy = true → r.isFlat = true) (hK : KV r) :
    vcall P G s (.c (.fn (.func g) fs cs)) args KV := by
  simp only [vcall, hm]
  exact ⟨r, h, hb, hK⟩
theorem call_clo {s : S} {g : FuncId} {fs cs fs' cs' args as : List V} {r : V} (hm : args.mapM (imm s) = some as) (hf : fs.mapM (imm s) = some fs') (hc : cs.mapM (imm s) = some cs') (h : FnOK P G g (fs' ++ as ++ cs') r)
    (hb : (fs ++ args ++ cs).any V.boxy = true → r.isFlat = true) (hK : KV r) :
    vcall P G s (.clo (.func g) fs cs) args KV := by
  simp only [vcall, hm, hf, hc]
  exact ⟨r, h, hb, hK⟩
end
end Go.Vl

/- Values without memory: contracts of functions that get to see boxes, from their texts. -/
namespace Go.Vl
open Go Go.RowKit

section
variable {P : Program} {G : Gl} {tr : List Nat} {n : Nat} {I0 : Ft} {M : Mx} {w0 : World} {I : Ft} {β : Nat → Option Nat} {ob : Loc → Option Nat} {s : S} {a : Act} {w : World}

def obB (ob : Nat → Nat → Option Nat) : Loc → Option Nat
  | .t _ => none
  | .b i j => ob i j

theorem St.initB {ob : Nat → Nat → Option Nat} {vs : Array Value} {args : List V} {b0 : List (List V)} {m : Nat} (hI : ∀ b o, I b o → b < w.heap.size) (hg : GOK G I w) (hB : BxR (Wr M w) I w β ob b0) (hsz : vs.size = args.length)
    (ha : ∀ j x, args[j]? = some x → LR (Wr M w) I β w none (vs.getD j undef) x) (hm : m = (vs ++ Array.replicate (n - vs.size) undef).size) :
    St G m I ⟨M.m, β, []⟩ w I β (obB ob) ⟨fun j => args.getD j .un, bxs b0, b0.length⟩ { tmps := vs ++ Array.replicate (n - vs.size) undef, defers := [] } w where
  size := hm.symm
  defers := rfl
  below := BelowM.refl _ _
  kept := fun _ _ _ => rfl
  ilow := fun _ _ h => h
  ihigh := fun _ _ h => .inl h
  ibnd := hI
  fr := fun t => by
    simp only [obB]
    by_cases ht : t < args.length
    · have e1 : args.getD t .un = args[t] := by simp [List.getD, ht]
      have e2 : (vs ++ Array.replicate (n - vs.size) undef).getD t undef = vs.getD t undef := by
        rw [Array.getD_eq_getD_getElem?, Array.getElem?_append_left (by omega), ← Array.getD_eq_getD_getElem?]
      rw [e1, e2]
      exact ha t _ (List.getElem?_eq_getElem ht)
    · have e1 : args.getD t .un = .un := by simp [List.getD, List.getElem?_eq_none (Nat.le_of_not_lt ht)]
      rw [e1]; simp only [LR]; exact .un _
  bx := fun i hi => by
    simp only at hi
    obtain ⟨blk, cur, e1, e2, e3, e4, e5, e7⟩ := hB.bx i _ (List.getElem?_eq_getElem hi)
    have e : bxs b0 i = b0[i] := by simp [bxs, List.getD, hi]
    refine ⟨blk, cur, e1, e2, by simp only [e]; exact e3, by simp only [e]; exact e4, fun j => ?_, e7⟩
    simp only [e]; exact e5 j
  bnone := fun i hi => hB.bnone i hi
  ext := fun _ _ h => h
  bnew := fun _ _ h => .inl h
  binj := hB.binj
  oinj := fun L L' b h h' => by
    cases L <;> simp only [obB] at h <;> try cases h
    cases L' <;> simp only [obB] at h' <;> try cases h'
    obtain ⟨e1, e2⟩ := hB.oinj _ _ _ _ b h h'
    rw [e1, e2]
  obx := fun L b i h => by
    cases L <;> simp only [obB] at h <;> try cases h
    exact hB.obx _ _ b i h
  obnd := fun L b h => by
    cases L <;> simp only [obB] at h <;> try cases h
    exact hB.obnd _ _ b h
  glob := hg

/-- The end of a function with boxes: the boxes that stay, and what they hold. -/
def endB (P : Program) (k : Nat) (r : V) (b1 : List (List V)) (rs : List ResultVar) (e : VE) (s : S) : Prop :=
  (match e with | .exit _ => False | _ => True) ∧ ∃ l, S.Le k (hdS l b1) s ∧ retV P false (hdS l b1) r rs

/-- From the text to the contract. -/
theorem FnB_ofK {f : FuncId} {fn : Func} {c : Code} {args : List V} {b0 b1 : List (List V)} {r : V} (tr : List Nat) (hm : P.follows .mixedOrders = true) (hf : P.funcs[f]? = some fn) (hb : fn.body = some c)
    (hname : (fn.name == "runtime.NumGoroutine") = false) (hn : args.length ≤ fn.ntmps) (hck : cok fn.ntmps tr c = true) (hcomp : r.compT = true)
    (hwf : (∀ x ∈ args, x.lt b0.length) ∧ (∀ b ∈ b0, ∀ x ∈ b, x.lt b0.length) ∧ b0.length ≤ b1.length)
    (h : vwpK P G tr b0.length c (endB P b0.length r b1 fn.results.toList) ⟨fun j => args.getD j .un, bxs b0, b0.length⟩) : FnB P G f args b0 r b1 := by
  refine ⟨⟨fn, hf, hname, c, hb⟩, hwf, fun I M w vs β ob hI hg hB hsz ha => ?_⟩
  have hsize : fn.ntmps = (vs ++ Array.replicate (fn.ntmps - vs.size) undef).size := by simp; omega
  have hst := St.initB (n := fn.ntmps) hI hg hB hsz ha hsize
  have hβlt : ∀ i b, β i = some b → i < b0.length := fun i b hi => by
    by_cases h : i < b0.length
    · exact h
    · rw [hB.bnone i (by omega)] at hi; cases hi
  refine calls_of_wp hf hb (vwpK_sound hm (fun i b hi => hβlt i b hi) c hck _ _ (fun e s a w' hq hse => ?_) _ _ _ h ⟨_, _, _, hst⟩)
  obtain ⟨hex, l, hle, hret⟩ := hq
  obtain ⟨I', β', ob', hst'⟩ := hse.weaken (fun i b hi => hβlt i b hi) hle
  have main : a.defers = [] ∧ ∃ v, (results fn a.tmps).run P w' = .ok v w' ∧ ∃ v' I' β' ob' o', (Ending.returned v = .returned v') ∧ BelowM M w w' ∧ (∀ b o, I b o → I' b o) ∧ (∀ b o, I' b o → I b o ∨ (Wr M w b ∧ b < w'.heap.size)) ∧
      (∀ b o, I b o → w'.cell? ⟨b, o, none⟩ = w.cell? ⟨b, o, none⟩) ∧ (∀ i, i < b0.length → β' i = β i) ∧ (∀ i b, b0.length ≤ i → β' i = some b → w.heap.size ≤ b) ∧ BxR (Wr M w) I' w' β' ob' b1 ∧
      LR (Wr M w) I' β' w' o' v' r ∧ (∀ b, o' = some b → (b < w'.heap.size ∧ Wr M w b) ∧ (∀ i j, ob' i j ≠ some b) ∧ ∀ i, β' i ≠ some b) := by
    refine ⟨hst'.defers, ?_⟩
    obtain ⟨v, o', h1, h2, h3⟩ := run_ret_ok (P := P) (fn := fn) hst' hcomp (Ic := I') (fun _ => rfl) (fun _ _ h => h) (fun hz => by cases hz) hret
    have hext : ∀ i, i < b0.length → β' i = β i := fun i hi => by
      obtain ⟨blk, _, e1, _⟩ := hB.bx i _ (List.getElem?_eq_getElem hi)
      rw [e1]; exact hst'.ext i blk e1
    refine ⟨v, h1, v, I', β', fun i j => if i < b1.length then ob' (.b i j) else none, o', rfl, ⟨hst'.below.os, hst'.below.tape, hst'.below.output, hst'.below.size, hst'.below.block⟩, hst'.ilow, fun b o hbo => ?_, hst'.kept, hext, fun i b hi hb => ?_, ?_, h2, fun b hb => ?_⟩
    · rcases hst'.ihigh b o hbo with h4 | h4
      · exact .inl h4
      · exact .inr ⟨h4, hst'.ibnd b o hbo⟩
    · rcases hst'.bnew i b hb with h4 | h4
      · have := hβlt i b h4; omega
      · exact h4
    · exact {
        bx := fun i cs hcs => by
          have hi : i < b1.length := (List.getElem?_eq_some_iff.1 hcs).1
          obtain ⟨blk, cur, e1, e2, e3, e4, e5, e7⟩ := hst'.bx i hi
          have e : bxs b1 i = cs := by simp [bxs, List.getD, hcs]
          refine ⟨blk, cur, e1, e2, by simp only [hdS, e] at e3; exact e3, by simp only [hdS, e] at e4; exact e4, fun j => ?_, e7⟩
          have := e5 j
          simp only [hdS, e] at this
          rw [if_pos hi]; exact this
        bnone := fun i hi => hst'.bnone i hi
        binj := hst'.binj
        oinj := fun i j i' j' b h h' => by
          split at h <;> try cases h
          split at h' <;> try cases h'
          have := hst'.oinj _ _ b h h'
          simp only [Loc.b.injEq] at this; exact this
        obx := fun i j b k h => by
          split at h <;> try cases h
          exact hst'.obx _ b k h
        obnd := fun i j b h => by
          split at h <;> try cases h
          exact hst'.obnd _ b h
        olen := fun i j hi => by rw [if_neg (by omega)] }
    · obtain ⟨t, ht⟩ := h3 b hb
      refine ⟨hst'.obnd _ b ht, fun i j h => ?_, fun i => hst'.obx _ b i ht⟩
      simp only at h
      split at h <;> try cases h
      have := hst'.oinj _ _ b ht h
      cases this
  cases e with
  | normal => exact main
  | exit i => exact hex.elim
  | ret => exact main

theorem FnB_of {f : FuncId} {fn : Func} {c : Code} {args : List V} {b0 b1 : List (List V)} {r : V} (tr : List Nat) (hm : P.follows .mixedOrders = true) (hf : P.funcs[f]? = some fn) (hb : fn.body = some c)
    (hname : (fn.name == "runtime.NumGoroutine") = false) (hn : args.length ≤ fn.ntmps) (hck : cok fn.ntmps tr c = true) (hcomp : r.compT = true) (hk : extK tr = b0.length)
    (hwf : (∀ x ∈ args, x.lt b0.length) ∧ (∀ b ∈ b0, ∀ x ∈ b, x.lt b0.length) ∧ b0.length ≤ b1.length)
    (h : vwp P G tr c (endB P b0.length r b1 fn.results.toList) ⟨fun j => args.getD j .un, bxs b0, b0.length⟩) : FnB P G f args b0 r b1 :=
  FnB_ofK tr hm hf hb hname hn hck hcomp hwf (by unfold vwp at h; rw [hk] at h; exact h)

end
end Go.Vl

namespace Go.Vl
open Go Go.RowKit
theorem renP_id (x : V) : x.renP (fun i => i) = x := by cases x <;> rfl
theorem ren_id (x : V) : x.ren (fun i => i) = x := by
  cases x <;> simp only [V.ren]
  · rw [List.map_congr_left (g := id) (fun x _ => renP_id x), List.map_congr_left (g := id) (fun x _ => renP_id x)]; simp
  · rw [List.map_congr_left (g := id) (fun x _ => renP_id x)]; simp
theorem ren_map_id (l : List V) : l.map (V.ren fun i => i) = l := by
  rw [List.map_congr_left (g := id) (fun x _ => ren_id x)]; simp
theorem map_same {α : Type} {f : α → α} : ∀ {l : List α}, (∀ x ∈ l, f x = x) → l.map f = l
  | [], _ => rfl
  | x :: l, h => by rw [List.map_cons, h x (List.mem_cons_self ..), map_same fun y hy => h y (List.mem_cons_of_mem _ hy)]
theorem renP_lt0 {ρ : Nat → Nat} {x : V} (h : x.ltP 0) : x.renP ρ = x := by cases x <;> simp_all [V.renP, V.ltP]
theorem ren_lt0 {ρ : Nat → Nat} {x : V} (h : x.lt 0) : x.ren ρ = x := by
  cases x <;> simp only [V.ren] <;> simp only [V.lt] at h <;> try omega
  · rw [map_same fun x hx => renP_lt0 (h.1 x hx), map_same fun x hx => renP_lt0 (h.2 x hx)]
  · rw [map_same fun x hx => renP_lt0 (h x hx)]

theorem rho_range (nb : Nat) : rho (List.range nb) nb = fun i => i := by
  funext i
  unfold rho
  rw [List.length_range]
  split
  · rename_i h; simp [List.getD, h]
  · omega
theorem rho_nil (nb : Nat) : rho [] nb = fun i => nb + i := by
  funext i; simp [rho]

theorem setBx_id : ∀ (b1 : List (List V)) (k : Nat) (f : Nat → List V), setBx (fun i => i) k b1 f = fun i => if k ≤ i ∧ i < k + b1.length then b1.getD (i - k) [] else f i
  | [], k, f => by funext i; simp only [setBx, List.length_nil]; rw [if_neg (by omega)]
  | b :: r, k, f => by
    funext i
    simp only [setBx, setBx_id r, ren_map_id, List.length_cons, up]
    by_cases h1 : k + 1 ≤ i ∧ i < k + 1 + r.length
    · rw [if_pos h1, if_pos (by omega)]
      have : i - k = (i - (k + 1)) + 1 := by omega
      rw [this]; rfl
    · rw [if_neg h1]
      by_cases h2 : i = k
      · subst h2; rw [if_pos rfl, if_pos (by omega)]; simp
      · rw [if_neg h2, if_neg (by omega)]

theorem bxIn_id : ∀ (b0 : List (List V)) (k nb : Nat) (f : Nat → List V), (∀ i b, b0[i]? = some b → k + i < nb ∧ f (k + i) = b) → bxIn f nb (fun i => i) k b0
  | [], _, _, _, _ => trivial
  | b :: r, k, nb, f, h => by
    refine ⟨?_, bxIn_id r (k + 1) nb f fun i c hc => ?_⟩
    · have := h 0 b rfl
      rw [ren_map_id]; exact this
    · have := h (i + 1) c (by simpa using hc)
      rw [Nat.add_assoc, Nat.add_comm 1 i]; exact this

def isEnd : VE → Bool
  | .exit _ => false
  | _ => true

theorem isEnd_ok : ∀ e : VE, isEnd e = true → (match e with | .exit _ => False | _ => True)
  | .exit _, h => by cases h
  | .normal, _ => trivial
  | .ret, _ => trivial

def xargsOk (args : List V) (b0 : List (List V)) : Bool := args.all (fun v => v.ltB b0.length) && b0.all fun b => b.all fun v => v.ltB b0.length

end Go.Vl
/- Maps, fourth part: what a walk needs: the operations on maps as rows, and where a key is. -/
namespace Go.Vl
open Go Go.RowKit

section
variable {P : Program} {G : Gl} {tr : List Nat} {fr : Nat → V} {bx : Nat → List V} {nb : Nat} {K : S → Prop} {KV : V → Prop} {dO : Option Tmp} {T ty : TypeId} {pos : String} {af : Array Edge} {g : Option (Nat × Bool)}

def mapK (dO : Option Tmp) (K : S → Prop) (s : S) : Prop := K (s.put dO .sk)
theorem mapK_mk : mapK dO K ⟨fr, bx, nb⟩ = K ((⟨fr, bx, nb⟩ : S).put dO .sk) := rfl
def nextK (t : Tmp) (dO : Option Tmp) (s : S) (K : S → Prop) (it : Option V) (v : V) : Prop := K ((match it with | some x => { s with fr := up s.fr t x } | none => s : S).put dO v)
theorem nextK_some {t : Tmp} {x v : V} : nextK t dO ⟨fr, bx, nb⟩ K (some x) v = K ((⟨up fr t x, bx, nb⟩ : S).put dO v) := rfl
theorem nextK_none {t : Tmp} {v : V} : nextK t dO ⟨fr, bx, nb⟩ K none v = K ((⟨fr, bx, nb⟩ : S).put dO v) := rfl

theorem st_mapUpdate {m k x : Operand} : VStep P G tr ⟨dO, .mapUpdate T m k x, ty, pos, af, g⟩ ⟨fr, bx, nb⟩ K = vmapSet P T ⟨fr, bx, nb⟩ (ev G ⟨fr, bx, nb⟩ m) (ev G ⟨fr, bx, nb⟩ k) (ev G ⟨fr, bx, nb⟩ x) (mapK dO K) := rfl
theorem st_mapEntry {m k : Operand} : VStep P G tr ⟨dO, .mapEntry T m k, ty, pos, af, g⟩ ⟨fr, bx, nb⟩ K = vmapEntry P T ⟨fr, bx, nb⟩ (ev G ⟨fr, bx, nb⟩ m) (ev G ⟨fr, bx, nb⟩ k) (mutK dO K) := rfl
theorem st_entryStore {m k x : Operand} : VStep P G tr ⟨dO, .entryStore T m k x, ty, pos, af, g⟩ ⟨fr, bx, nb⟩ K = ventrySet ⟨fr, bx, nb⟩ (ev G ⟨fr, bx, nb⟩ m) (ev G ⟨fr, bx, nb⟩ k) (ev G ⟨fr, bx, nb⟩ x) (mapK dO K) := rfl
theorem st_next {t : Tmp} : VStep P G tr ⟨dO, .next (.tmp t) false, ty, pos, af, g⟩ ⟨fr, bx, nb⟩ K = vnext ⟨fr, bx, nb⟩ (fr t) (nextK t dO ⟨fr, bx, nb⟩ K) := rfl
theorem st_lookup {m k : Operand} {ok : Bool} : VStep P G tr ⟨dO, .lookup T m k ok, ty, pos, af, g⟩ ⟨fr, bx, nb⟩ K = vlookup P T ⟨fr, bx, nb⟩ (ev G ⟨fr, bx, nb⟩ m) (ev G ⟨fr, bx, nb⟩ k) ok (putK dO ⟨fr, bx, nb⟩ K) := rfl
theorem st_range {x : Operand} : VStep P G tr ⟨dO, .range T x, ty, pos, af, g⟩ ⟨fr, bx, nb⟩ K = vrange P T ⟨fr, bx, nb⟩ (ev G ⟨fr, bx, nb⟩ x) (putK dO ⟨fr, bx, nb⟩ K) := rfl
theorem st_entry {x : Operand} : VStep P G tr ⟨dO, .entry x, ty, pos, af, g⟩ ⟨fr, bx, nb⟩ K = ventry ⟨fr, bx, nb⟩ (ev G ⟨fr, bx, nb⟩ x) (putK dO ⟨fr, bx, nb⟩ K) := rfl

theorem fz_mr {i : Nat} : (V.mr i).fz = .mr i := rfl
theorem isOw_mr {i : Nat} : (V.mr i).isOw = false := rfl
theorem isOw_it {i a b : Nat} {l : List Nat} : (V.it i a b l).isOw = true := rfl
theorem isPO_mr {i : Nat} : (V.mr i).isPO = true := rfl
theorem isPR_mr {i : Nat} : (V.mr i).isPR = true := rfl
theorem dr_c {x : C} : (V.c x).dr = .c x := rfl
theorem dr_agg {x : List C} : (V.agg x).dr = .agg x := rfl

end
end Go.Vl

/- Values without memory: how the conditions of a function with boxes are computed. -/
namespace Go.Vl
open Go Go.RowKit

section
variable {P : Program} {G : Gl} {tr : List Nat} {fr : Nat → V} {bx : Nat → List V} {nb : Nat} {K : S → Prop} {KV : V → Prop} {Q : VE → S → Prop}

theorem frm_eq (args : List V) : frm 0 args = fun j => args.getD j .un := by
  have := initS_eq args
  simp only [initS, S.mk.injEq] at this
  exact this.1.symm

theorem bxs_zero {b : List V} {r : List (List V)} : bxs (b :: r) 0 = b := rfl
theorem bxs_succ {b : List V} {r : List (List V)} {n : Nat} : bxs (b :: r) (n + 1) = bxs r n := rfl
theorem bxs_nil {n : Nat} : bxs [] n = [] := by simp [bxs]

theorem FnB_by {f : FuncId} {fn : Func} {c : Code} {args : List V} {b0 b1 : List (List V)} {r : V} (tr : List Nat) (hm : P.follows .mixedOrders = true) (hf : P.funcs[f]? = some fn) (hb : fn.body = some c) (hname : (fn.name == "runtime.NumGoroutine") = false)
    {rs : List ResultVar} (hrs : fn.results.toList = rs) {n : Nat} (hn : fn.ntmps = n) (hck : cok n tr c = true) (hlen : args.length ≤ n) (hcomp : r.compT = true) {k : Nat} (hk : extK tr = k) (hk0 : b0.length = k)
    (hargs : xargsOk args b0 = true) (hle : b0.length ≤ b1.length)
    (h : vwp P G tr c (endB P k r b1 rs) ⟨frm 0 args, bxs b0, k⟩) : FnB P G f args b0 r b1 := by
  subst hn
  subst hrs
  subst hk0
  simp only [xargsOk, Bool.and_eq_true, List.all_eq_true] at hargs
  refine FnB_of tr hm hf hb hname hlen hck hcomp hk ⟨fun x hx => V.ltB_ok (hargs.1 x hx), fun b hb x hx => V.ltB_ok (hargs.2 b hb x hx), hle⟩ ?_
  rw [frm_eq] at h; exact h

/-- The end of a function with boxes. -/
theorem end_B {k : Nat} {r : V} {b1 : List (List V)} {rs : List ResultVar} {e : VE} (l : List (Nat × V)) (he : isEnd e = true) (hok : leOk l b1 = true) (hk : k ≤ b1.length) (hn : b1.length ≤ nb) (h1 : FL l fr) (h2 : BL 0 b1 bx) (hr : retV P false (hdS l b1) r rs) :
    endB P k r b1 rs e ⟨fr, bx, nb⟩ := ⟨isEnd_ok _ he, l, le_hd hok hk hn h1 h2, hr⟩

theorem retV_none {fr : Nat → V} {bx : Nat → List V} {nb : Nat} : retV P false ⟨fr, bx, nb⟩ (.tup []) [] := ⟨[], rfl, rfl, fun _ _ _ h => by simp at h⟩

theorem all_ltB_c (m : Nat) (cs : List C) : (cs.map V.c).all (fun x => x.ltB m) = true := by
  rw [List.all_map, List.all_eq_true]; intro x _; rfl

/-- A call that may change boxes, by a contract without boxes at its start. -/
theorem callB_new {s : S} {f : V} {args all cargs : List V} {g : FuncId} {K : S → V → Prop} {r : V} {b1 : List (List V)} (hc : calleeV f args = some (g, all)) (hf : FnB P G g cargs [] r b1) (hall : all.map V.fz = cargs)
    (hK : K { s with bx := setBx (fun i => s.nb + i) 0 b1 s.bx, nb := s.nb + b1.length } (r.ren fun i => s.nb + i)) : vcallB P G s f args K := by
  unfold vcallB vcallE
  simp only [hc]
  refine ⟨[], cargs, [], r, b1, hf, ?_, ⟨rfl, List.nodup_nil⟩, trivial, ?_⟩
  · rw [hall, map_same fun x hx => ren_lt0 (hf.2.1.1 x hx)]
  · rw [rho_nil]
    simpa using hK

/-- The same, by a contract with all boxes. -/
theorem callB_all {s : S} {f : V} {args all cargs : List V} {g : FuncId} {K : S → V → Prop} {r : V} {b0 b1 : List (List V)} (hc : calleeV f args = some (g, all)) (hf : FnB P G g cargs b0 r b1) (hall : all.map V.fz = cargs)
    (hn : b0.length = s.nb) (hb : BL 0 b0 s.bx) (hK : K { s with bx := fun i => if i < b1.length then b1.getD i [] else s.bx i, nb := b1.length } r) : vcallB P G s f args K := by
  unfold vcallB vcallE
  simp only [hc]
  refine ⟨List.range s.nb, cargs, b0, r, b1, hf, ?_, ⟨by simp [hn], List.nodup_range⟩, ?_, ?_⟩
  · rw [rho_range, hall, ren_map_id]
  · rw [rho_range]
    refine bxIn_id _ _ _ _ fun i b hb' => ?_
    have hi := (List.getElem?_eq_some_iff.1 hb').1
    have := hb.get i hi
    rw [Nat.zero_add] at this ⊢
    refine ⟨by omega, ?_⟩
    rw [← this]
    simp [hb']
  · rw [rho_range, setBx_id, ren_id]
    have hle := hf.2.1.2.2
    have e1 : s.nb + (b1.length - b0.length) = b1.length := by omega
    rw [e1]
    have e2 : (fun i => if 0 ≤ i ∧ i < 0 + b1.length then b1.getD (i - 0) [] else s.bx i) = fun i => if i < b1.length then b1.getD i [] else s.bx i := by
      funext i; simp
    rw [e2]; exact hK
end
end Go.Vl
namespace Go.Vl
open Go Go.RowKit
section
variable {P : Program} {G : Gl} {tr : List Nat} {fr : Nat → V} {bx : Nat → List V} {nb : Nat} {K : S → Prop} {KV : V → Prop} {Q : VE → S → Prop}

def optK {α : Type} (o : Option α) (K : α → Prop) : Prop := match o with
  | some a => K a
  | none => False
def fillF (f : Option (Nat × Nat × Bool)) (ds : List C) (flds : List (Nat × Nat × Bool)) (r : List (Nat × V)) (cs : List C) : Option (List C) := match f with
  | some (off, sz, _) => if ds.length = sz ∧ off + sz ≤ cs.length then fillS flds r (setAt cs off ds) else none
  | none => none

/-- A slice literal. -/
def bslK (e sz : Nat) (z : List C) (len : Nat) (parts : List (Nat × V)) (K : V → Prop) : Prop := match fillA sz parts (List.replicate len z) with
  | some es => K (.ow (if len = 0 then none else some (e, sz)) es)
  | none => False
theorem bsl_of {T e : TypeId} {i j : TI} {z : List C} {sz len : Nat} {parts : List (Nat × V)} (hT : ti P T = some i) (hk : i.kd = .slice e) (hE : ti P e = some j) (hz : j.zero = some z) (hs : j.size = sz) (hp : 0 < sz) (hl : z.length = sz) (hn : len * sz ≤ 16777216) :
    vbuildSlice P T len parts KV = bslK e sz z len parts KV := by
  obtain ⟨kd, a, b, c, d, f, g⟩ := i; subst hk
  obtain ⟨kd', a', b', c', d', f', g'⟩ := j; simp only at hz hs; subst hz; subst hs
  simp only [vbuildSlice, hT, hE, hp, hl, hn, true_and]; rfl
theorem fillA_nil {sz : Nat} {es : List (List C)} : fillA sz [] es = some es := rfl
theorem fillA_agg {sz i : Nat} {ds : List C} {r : List (Nat × V)} {es : List (List C)} : fillA sz ((i, .agg ds) :: r) es = if ds.length = sz ∧ i < es.length then fillA sz r (es.set i ds) else none := rfl
theorem fillA_c {sz i : Nat} {x : C} {r : List (Nat × V)} {es : List (List C)} : fillA sz ((i, .c x) :: r) es = if [x].length = sz ∧ i < es.length then fillA sz r (es.set i [x]) else none := rfl
theorem fillA_ow {sz i : Nat} {E : Option (TypeId × Nat)} {x : List (List C)} {r : List (Nat × V)} {es : List (List C)} : fillA sz ((i, .ow E x) :: r) es = if [C.sl x].length = sz ∧ i < es.length then fillA sz r (es.set i [.sl x]) else none := rfl
theorem bslK_eq {e sz len : Nat} {z : List C} {parts : List (Nat × V)} : bslK e sz z len parts KV = optK (fillA sz parts (List.replicate len z)) (fun es => KV (.ow (if len = 0 then none else some (e, sz)) es)) := by
  unfold bslK optK; cases fillA sz parts (List.replicate len z) <;> rfl

/-- A struct literal. -/
def bldK (flds : List (Nat × Nat × Bool)) (z : List C) (parts : List (Nat × V)) (K : V → Prop) : Option (List C) → Prop
  | some cs => K (.agg cs)
  | none => optK (fillM flds parts (z.map .c)) fun vs => K (.mag vs)
theorem bld_of {T : TypeId} {i : TI} {z : List C} {flds : List (Nat × Nat × Bool)} {parts : List (Nat × V)} (hT : ti P T = some i) (hk : i.kd = .struct) (hz : i.zero = some z) (hf : i.flds = flds) :
    vbuild P T parts KV = bldK flds z parts KV (fillS flds parts z) := by
  obtain ⟨kd, a, b, c, d, f, g⟩ := i; simp only at hk hz hf; subst hk; subst hz; subst hf
  simp only [vbuild, hT]; unfold bldK
  cases fillS f parts z with
  | some cs => rfl
  | none => cases fillM f parts (z.map .c) <;> rfl
theorem bldK_some {z cs : List C} {flds : List (Nat × Nat × Bool)} {parts : List (Nat × V)} : bldK flds z parts KV (some cs) = KV (.agg cs) := rfl
theorem optK_some {α : Type} {a : α} {K : α → Prop} : optK (some a) K = K a := rfl
theorem fillS_nil {flds : List (Nat × Nat × Bool)} {cs : List C} : fillS flds [] cs = some cs := rfl
theorem fillS_c {flds : List (Nat × Nat × Bool)} {i : Nat} {x : C} {r : List (Nat × V)} {cs : List C} : fillS flds ((i, .c x) :: r) cs = fillF flds[i]? [x] flds r cs := by
  unfold fillS fillF; cases flds[i]? <;> rfl
theorem fillS_ow {flds : List (Nat × Nat × Bool)} {i : Nat} {E : Option (TypeId × Nat)} {x : List (List C)} {r : List (Nat × V)} {cs : List C} : fillS flds ((i, .ow E x) :: r) cs = fillF flds[i]? [.sl x] flds r cs := by
  unfold fillS fillF; cases flds[i]? <;> rfl
theorem fillS_agg {flds : List (Nat × Nat × Bool)} {i : Nat} {ds : List C} {r : List (Nat × V)} {cs : List C} : fillS flds ((i, .agg ds) :: r) cs = fillF flds[i]? ds flds r cs := by
  unfold fillS fillF; cases flds[i]? <;> rfl
theorem fillF_some {off sz : Nat} {ag : Bool} {ds : List C} {flds : List (Nat × Nat × Bool)} {r : List (Nat × V)} {cs : List C} : fillF (some (off, sz, ag)) ds flds r cs = if ds.length = sz ∧ off + sz ≤ cs.length then fillS flds r (setAt cs off ds) else none := rfl
theorem setAt_zero {cs ds : List C} : setAt cs 0 ds = ds ++ cs.drop ds.length := by simp [setAt]
theorem setAt_succ {c : C} {cs ds : List C} {n : Nat} : setAt (c :: cs) (n + 1) ds = c :: setAt cs n ds := by simp [setAt, Nat.succ_add]

/-- A read of a slice without room of its own; a literal whose other fields are nil. -/
def ldZ (nb b : Nat) (l : List V) (o : Nat) (K : V → Prop) : Prop := b < nb ∧ match l[o]? with
  | some (.ow none es) => K (.ow none es)
  | _ => False
theorem ldZ_of {T : TypeId} {i : TI} {b o : Nat} (hT : ti P T = some i) (ha : i.agg = false) : vloadZ P T ⟨fr, bx, nb⟩ (.bp b o) KV = (isMb (bx b) = false ∧ ldZ nb b (bx b) o KV) := by
  simp only [vloadZ, hT, ha, ldZ]; exact propext ⟨fun ⟨⟨a, _, b⟩, c⟩ => ⟨b, a, c⟩, fun ⟨b, a, c⟩ => ⟨⟨a, trivial, b⟩, c⟩⟩
theorem ldZ_z {b : Nat} {es : List (List C)} {l : List V} : ldZ nb b (.ow none es :: l) 0 KV = (b < nb ∧ KV (.ow none es)) := rfl
theorem ldZ_s {b o : Nat} {v : V} {l : List V} : ldZ nb b (v :: l) (o + 1) KV = ldZ nb b l o KV := by simp [ldZ]
def fillFM (f : Option (Nat × Nat × Bool)) (ds : List V) (flds : List (Nat × Nat × Bool)) (r : List (Nat × V)) (cs : List V) : Option (List V) := match f with
  | some (off, sz, _) => if ds.length = sz ∧ off + sz ≤ cs.length then fillM flds r (setP cs off ds) else none
  | none => none
def bldZK (K : V → Prop) : Option (List V) → Prop
  | some vs => K (.mag vs)
  | none => False
theorem bldZ_of {T : TypeId} {i : TI} {z : List C} {flds : List (Nat × Nat × Bool)} {parts : List (Nat × V)} (hT : ti P T = some i) (hk : i.kd = .struct) (hz : i.zero = some z) (hf : i.flds = flds) :
    vbuildZ P T parts KV = bldZK KV (fillM flds parts (z.map zeroV)) := by
  obtain ⟨kd, a, b, c, d, f, g⟩ := i; simp only at hk hz hf; subst hk; subst hz; subst hf
  simp only [vbuildZ, hT]
  cases fillM f parts (z.map zeroV) <;> rfl
theorem bldZK_some {vs : List V} : bldZK KV (some vs) = KV (.mag vs) := rfl
theorem fillM_nil {flds : List (Nat × Nat × Bool)} {cs : List V} : fillM flds [] cs = some cs := rfl
theorem fillM_c {flds : List (Nat × Nat × Bool)} {i : Nat} {x : C} {r : List (Nat × V)} {cs : List V} : fillM flds ((i, .c x) :: r) cs = fillFM flds[i]? [.c x] flds r cs := by
  unfold fillFM; simp only [fillM, V.ps]; cases flds[i]? <;> rfl
theorem fillM_ow {flds : List (Nat × Nat × Bool)} {i : Nat} {E : Option (TypeId × Nat)} {x : List (List C)} {r : List (Nat × V)} {cs : List V} : fillM flds ((i, .ow E x) :: r) cs = fillFM flds[i]? [.c (.sl x)] flds r cs := by
  unfold fillFM; simp only [fillM, V.ps]; cases flds[i]? <;> rfl
theorem fillM_agg {flds : List (Nat × Nat × Bool)} {i : Nat} {ds : List C} {r : List (Nat × V)} {cs : List V} : fillM flds ((i, .agg ds) :: r) cs = fillFM flds[i]? (ds.map .c) flds r cs := by
  unfold fillFM; simp only [fillM, V.ps]; cases flds[i]? <;> rfl
theorem fillM_ms {flds : List (Nat × Nat × Bool)} {i b o l c z : Nat} {r : List (Nat × V)} {cs : List V} : fillM flds ((i, .ms b o l c z) :: r) cs = fillFM flds[i]? [.ms b o l c z] flds r cs := by
  unfold fillFM; simp only [fillM, V.ps]; cases flds[i]? <;> rfl
theorem fillFM_some {off sz : Nat} {ag : Bool} {ds : List V} {flds : List (Nat × Nat × Bool)} {r : List (Nat × V)} {cs : List V} : fillFM (some (off, sz, ag)) ds flds r cs = if ds.length = sz ∧ off + sz ≤ cs.length then fillM flds r (setP cs off ds) else none := rfl
theorem setP_zero {cs ds : List V} : setP cs 0 ds = ds ++ cs.drop ds.length := by simp [setP]
theorem setP_succ {c : V} {cs ds : List V} {n : Nat} : setP (c :: cs) (n + 1) ds = c :: setP cs n ds := by simp [setP, Nat.succ_add]

end
end Go.Vl

namespace Go.Vl
open Go Go.RowKit
theorem wrap_of {n : Int} {k : Nat} (h : n = (k : Nat)) (hk : k ≤ 9223372036854775807) : IntKind.i64.wrap n = (k : Nat) := by
  subst h; exact wrap_i64 _ (by omega)
end Go.Vl
/- Values without memory: a function that defers one closure, and that does not panic. -/
namespace Go.Vl
open Go Go.RowKit

section
variable {P : Program} {G : Gl} {tr : List Nat} {n : Nat} {I0 : Ft} {M : Mx} {w0 : World} {I : Ft} {β : Nat → Option Nat} {ob : Loc → Option Nat} {s : S} {a : Act} {w : World}

/-- A closure is deferred; the boxes that are there stay where they are from now on. -/
theorem St.deferred (h : St G n I0 M w0 I β ob s a w) (d : Deferred) : St G n I0 ⟨M.m, β, d :: M.d⟩ w0 I β ob s { a with defers := d :: a.defers } w where
  size := h.size
  defers := by rw [h.defers]
  below := ⟨h.below.os, h.below.tape, h.below.output, h.below.size, h.below.block⟩
  kept := h.kept
  ilow := h.ilow
  ihigh := h.ihigh
  ibnd := h.ibnd
  fr := h.fr
  bx := h.bx
  bnone := h.bnone
  ext := fun _ _ h => h
  bnew := fun _ _ h => .inl h
  binj := h.binj
  oinj := h.oinj
  obx := h.obx
  obnd := h.obnd
  glob := h.glob

/-- The closure, entered as a deferred call of a frame that returns, leaves all as it was. -/
def IdleD (P : Program) (g : FuncId) (k : Nat) : Prop := (∃ fn, P.funcs[g]? = some fn ∧ (fn.name == "runtime.NumGoroutine") = false ∧ ∃ c, fn.body = some c) ∧
  ∀ (caps : Array Value) (w : World), caps.size = k → CallsD P g caps .returning w fun e u' w' => (∃ v, e = .returned v) ∧ u' = .returning ∧ w' = w

def dfrL (P : Program) (G : Gl) (tr : List Nat) (t : Nat) (g : FuncId) (k : Nat) (rest : Code) (r : V) (rs : List ResultVar) (s : S) : Prop :=
  (∃ cs, s.fr t = .clo (.func g) [] cs ∧ cs.length = k) ∧ s.nb = extK tr ∧ vwp P G tr rest (endK P false r rs) s
def dfrK (P : Program) (G : Gl) (tr : List Nat) (o1 : Oper) (t : Nat) (g : FuncId) (k : Nat) (rest : Code) (r : V) (rs : List ResultVar) (e : VE) (s : S) : Prop := match e with
  | .normal => VStep P G tr o1 s (dfrL P G tr t g k rest r rs)
  | _ => False
theorem dfrK_n {o1 : Oper} {t : Nat} {g : FuncId} {k : Nat} {rest : Code} {r : V} {rs : List ResultVar} {s : S} : dfrK P G tr o1 t g k rest r rs .normal s = VStep P G tr o1 s (dfrL P G tr t g k rest r rs) := rfl

/-- From the text to the contract: the first region, the closure and its being deferred, the rest. -/
theorem FnOK_ofD {f g : FuncId} {t : Nat} {fn : Func} {id : Nat} {r0 rest : Code} {o1 o2 : Oper} {args : List V} {r : V} (k : Nat) (tr : List Nat) (hm : P.follows .mixedOrders = true) (hf : P.funcs[f]? = some fn)
    (hb : fn.body = some (.seq r0 (.seq (.region id #[o1, o2] false) rest))) (hname : (fn.name == "runtime.NumGoroutine") = false)
    (hn : args.length ≤ fn.ntmps) (hck : cok fn.ntmps tr r0 = true) (hck2 : cok fn.ntmps tr rest = true) (h1 : o1.guard = none ∧ o1.dst = some t ∧ t < fn.ntmps)
    (h2 : o2.guard = none ∧ o2.dst = none ∧ o2.op = .defer { callee := .value (.tmp t), args := #[], argTypes := #[] }) (hidle : IdleD P g k)
    (hr : r.out = true) (hcomp : r.compT = true)
    (h : vwp P G tr r0 (dfrK P G tr o1 t g k rest r fn.results.toList) (initS args)) : FnOK P G f args r := by
  refine ⟨⟨fn, hf, hname, _, hb⟩, fun I w vs hI hg hsz ha => ?_⟩
  have hsize : fn.ntmps = (vs ++ Array.replicate (fn.ntmps - vs.size) undef).size := by simp; omega
  have hst := St.init (n := fn.ntmps) hI hg hsz ha hsize
  refine calls_of_wp_defers hf hb (wp_seq ?_)
  refine vwp_sound hm (fun _ _ h => by cases h) r0 hck _ _ (fun e s a w1 hq hse => ?_) _ _ _ h ⟨_, _, _, hst⟩
  cases e with
  | exit i => exact hq.elim
  | ret => exact hq.elim
  | normal =>
  refine wp_seq (wp_region ?_)
  obtain ⟨I1, β1, ob1, hst1⟩ := hse
  show wpOps P #[o1, o2] _ [0, 1] a w1
  have hg1 : Region.wanted o1 (yielded #[o1, o2] a.tmps) = true := by simp [Region.wanted, h1.1]
  have hg2 : ∀ a : Act, Region.wanted o2 (yielded #[o1, o2] a.tmps) = true := fun a => by simp [Region.wanted, h2.1]
  unfold wpOps
  simp only [List.getElem?_toArray, List.getElem?_cons_zero]
  rw [if_pos hg1]
  refine .inl (VStep_sound (tr := tr) hst1 (fun d hd => by rw [h1.2.1] at hd; cases hd; exact h1.2.2) hq fun a2 w2 s2 hs2 hse2 => ?_)
  obtain ⟨⟨cs, hclo, hcl⟩, hnb, hrest⟩ := hs2
  obtain ⟨I2, β2, ob2, hst2⟩ := hse2
  unfold wpOps
  simp only [List.getElem?_toArray, List.getElem?_cons_succ, List.getElem?_cons_zero]
  rw [if_pos (hg2 a2)]
  left
  -- the deferred call
  have hv := hst2.fr t
  rw [hclo] at hv
  simp only [LR] at hv
  obtain ⟨vf, vc, hval, hvf, hvc, _, _⟩ := hv
  have hvf0 : vf = #[] := Array.eq_empty_of_size_eq_zero (by simpa using hvf)
  have hrun : (execOp a2.eval o2).run P w2 = .ok (.defer { target := .fn (.func g) vc, args := #[] }) w2 := by
    have he : a2.eval (.tmp t) = .func (.func g) vf vc := hval
    unfold execOp
    simp only [h2.2.2, resolve, Deferred.ofValue, he, Sem.run_bind, Sem.run_pure, Result.andThen_ok, hvf0]
    simp
  unfold Oper.wp
  rw [hrun]
  simp only [Oper.upon, h2.2.1, Act.put, wpOps]
  have hst3 := hst2.deferred { target := .fn (.func g) vc, args := #[] }
  have hβ2 : ∀ i b, β2 i = some b → i < extK tr := fun i b hi => by
    by_cases hlt : i < extK tr
    · exact hlt
    · rw [hst2.bnone i (by omega)] at hi; cases hi
  refine vwp_sound hm (fun i b hi => hβ2 i b hi) rest hck2 _ _ (fun e s a w' hq hse => ?_) _ _ _ hrest ⟨_, _, _, hst3⟩
  obtain ⟨hex, hret⟩ := hq
  obtain ⟨I', β, ob, hst'⟩ := hse
  have hwr : ∀ (e : Nat → Option Nat) (d : List Deferred) b, Wr ⟨fun _ => False, e, d⟩ w b → w.heap.size ≤ b := fun e d b hb => by rcases hb with hb | hb; exact hb; exact hb.elim
  have main : Leaves P fn a.tmps (fun e w' => ∃ v I', e = .returned v ∧ w.grownBy w' none ∧ (∀ b o, I b o → I' b o) ∧
      (∀ b o, I' b o → I b o ∨ (w.heap.size ≤ b ∧ b < w'.heap.size)) ∧ RetR (fun b => w.heap.size ≤ b) I' w' v r) a.defers .returning w' := by
    obtain ⟨v, o', q1, q2, q3⟩ := run_ret_ok (P := P) (fn := fn) hst' hcomp (Ic := I') (fun _ => rfl) (fun _ _ h => h) (fun hz => by cases hz) hret
    have hfin : ∃ v, (results fn a.tmps).run P w' = .ok v w' ∧ ∃ v' I'', (Ending.returned v = .returned v') ∧ w.grownBy w' none ∧ (∀ b o, I b o → I'' b o) ∧
        (∀ b o, I'' b o → I b o ∨ (w.heap.size ≤ b ∧ b < w'.heap.size)) ∧ RetR (fun b => w.heap.size ≤ b) I'' w' v' r := by
      refine ⟨v, q1, v, I', rfl, ⟨hst'.below.os, hst'.below.tape, hst'.below.output, hst'.below.size, fun k hk _ => hst'.below.block k hk (fun e => e.elim)⟩, hst'.ilow, fun b o hbo => ?_, o', ?_, fun b hb => ?_⟩
      · rcases hst'.ihigh b o hbo with h4 | h4
        · exact .inl h4
        · exact .inr ⟨hwr _ _ b h4, hst'.ibnd b o hbo⟩
      · have h2' := q2.leave hr (β' := fun _ => none)
        exact h2'.wider fun b hb => hwr _ _ b (by obtain ⟨L, hL⟩ := q3 b hb; exact (hst'.obnd _ b hL).2)
      · obtain ⟨L, hL⟩ := q3 b hb
        obtain ⟨h4, h5⟩ := hst'.obnd _ b hL
        exact ⟨hwr _ _ b h5, h4⟩
    rw [hst'.defers]
    obtain ⟨⟨fg, hg1, hg2, cg, hg3⟩, hcall⟩ := hidle
    refine leaves_cons (f := g) (args := #[] ++ vc) (by simp) ?_ ?_
    · have hg2' : fg.name ≠ "runtime.NumGoroutine" := by simpa using hg2
      simp [invoke, callFunc, hg1, hg2', hg3]
    · refine (hcall (#[] ++ vc) w' (by simp [hvc, hcl])).mono ?_
      rintro e u' w'' ⟨⟨v', rfl⟩, rfl, rfl⟩
      obtain ⟨v, h1, h2⟩ := hfin
      exact ⟨v, h1, h2⟩
  cases e with
  | normal => exact main
  | exit i => exact hex.elim
  | ret => exact main

theorem FnOK_byD {f g : FuncId} {t : Nat} {fn : Func} {id : Nat} {r0 rest : Code} {o1 o2 : Oper} {args : List V} {r : V} (k : Nat) (tr : List Nat) (hm : P.follows .mixedOrders = true) (hf : P.funcs[f]? = some fn)
    (hb : fn.body = some (.seq r0 (.seq (.region id #[o1, o2] false) rest))) (hname : (fn.name == "runtime.NumGoroutine") = false) {rs : List ResultVar} (hrs : fn.results.toList = rs) {n : Nat} (hnt : fn.ntmps = n)
    (hn : args.length ≤ n) (hck : cok n tr r0 = true) (hck2 : cok n tr rest = true) (h1 : o1.guard = none ∧ o1.dst = some t ∧ t < n)
    (h2 : o2.guard = none ∧ o2.dst = none ∧ o2.op = .defer { callee := .value (.tmp t), args := #[], argTypes := #[] }) (hidle : IdleD P g k)
    (hr : r.out = true) (hcomp : r.compT = true)
    (h : vwp P G tr r0 (dfrK P G tr o1 t g k rest r rs) ⟨frm 0 args, fun _ => [], 0⟩) : FnOK P G f args r := by
  subst hnt
  subst hrs
  refine FnOK_ofD (t := t) (g := g) k tr hm hf hb hname hn hck hck2 h1 h2 hidle hr hcomp ?_
  rw [initS_eq]; exact h

end
end Go.Vl

/- Values without memory: functions that panic with a value, and functions that recover. -/
namespace Go.Vl
open Go Go.RowKit

section
variable {P : Program} {G : Gl} {tr : List Nat} {n : Nat} {I0 : Ft} {M : Mx} {w0 : World} {I : Ft} {β : Nat → Option Nat} {ob : Loc → Option Nat} {s : S} {a : Act} {w : World} {o : Oper}
  {next : Act → World → Prop} {Q : Exit → Act → World → Prop} {base : Nat → Prop}

/-- The contract of a function that panics with a value. -/
def FnX (P : Program) (G : Gl) (f : FuncId) (args : List V) (b0 : List (List V)) (pv : Value) (b1 : List (List V)) : Prop :=
  (∃ fn, P.funcs[f]? = some fn ∧ (fn.name == "runtime.NumGoroutine") = false ∧ ∃ c, fn.body = some c) ∧
  ((∀ x ∈ args, x.lt b0.length) ∧ (∀ b ∈ b0, ∀ x ∈ b, x.lt b0.length) ∧ b0.length ≤ b1.length) ∧
  ∀ (I : Ft) (M : Mx) (w : World) (vs : Array Value) (β : Nat → Option Nat) (ob : Nat → Nat → Option Nat), (∀ b o, I b o → b < w.heap.size) → GOK G I w → BxR (Wr M w) I w β ob b0 → vs.size = args.length →
    (∀ j x, args[j]? = some x → LR (Wr M w) I β w none (vs.getD j undef) x) →
    Calls P f vs w fun e w' => ∃ I' β' ob', e = .panicked [{ v := pv, recovered := false }] ∧ BelowM M w w' ∧ (∀ b o, I b o → I' b o) ∧ (∀ b o, I' b o → I b o ∨ (Wr M w b ∧ b < w'.heap.size)) ∧
      (∀ b o, I b o → w'.cell? ⟨b, o, none⟩ = w.cell? ⟨b, o, none⟩) ∧ (∀ i, i < b0.length → β' i = β i) ∧ (∀ i b, b0.length ≤ i → β' i = some b → w.heap.size ≤ b) ∧ BxR (Wr M w) I' w' β' ob' b1

/-- A value of this type becomes a value of an interface as it is. -/
def ifcOk (P : Program) (T : TypeId) : Prop := ∀ (u : Value) (w : World), (Instr.makeInterface T u).run P w = .ok (.iface T u) w

/-- An operation that ends in a panic: the making of the value and the panic behind it, or a call. -/
def vpan (P : Program) (G : Gl) (s : S) (o : Oper) (r : List Oper) (KP : Value → S → Prop) : Prop := match o.op with
  | .makeInterface T x => match ev G s x, r, o.dst with
    | .c (.lit u), [o2], some d => (ifcOk P T ∧ o2.guard = none ∧ o2.op = .panic (.tmp d)) ∧ KP (.iface T u) (s.put (some d) .un)
    | _, _, _ => False
  | .call { callee := .value f, args := args, .. } => match calleeV (ev G s f) (args.toList.map (ev G s)) with
    | some (g, all) => ∃ (ρ : List Nat) (cargs : List V) (b0 : List (List V)) (pv : Value) (b1 : List (List V)), FnX P G g cargs b0 pv b1 ∧ all.map V.fz = cargs.map (V.ren (rho ρ s.nb)) ∧
        (ρ.length = b0.length ∧ ρ.Nodup) ∧ bxIn s.bx s.nb (rho ρ s.nb) 0 b0 ∧ KP pv { s with bx := setBx (rho ρ s.nb) 0 b1 s.bx, nb := s.nb + (b1.length - b0.length) }
    | none => False
  | _ => False

/-- The operations of a region one of which may panic. -/
def pops (P : Program) (G : Gl) (tr : List Nat) (ops : Array Oper) : List Oper → S → (S → Prop) → (Value → S → Prop) → Prop
  | [], s, K, _ => K s
  | o :: r, s, K, KP => vops P G tr ops [o] s (fun s' => pops P G tr ops r s' K KP) ∨ (o.guard = none ∧ vpan P G s o r KP)

/-- A call that panics. -/
def vpanC (P : Program) (G : Gl) (s : S) (o : Oper) (KP : Value → S → Prop) : Prop := match o.op with
  | .call { callee := .value f, args := args, .. } => match calleeV (ev G s f) (args.toList.map (ev G s)) with
    | some (g, all) => ∃ (ρ : List Nat) (cargs : List V) (b0 : List (List V)) (pv : Value) (b1 : List (List V)), FnX P G g cargs b0 pv b1 ∧ all.map V.fz = cargs.map (V.ren (rho ρ s.nb)) ∧
        (ρ.length = b0.length ∧ ρ.Nodup) ∧ bxIn s.bx s.nb (rho ρ s.nb) 0 b0 ∧ KP pv { s with bx := setBx (rho ρ s.nb) 0 b1 s.bx, nb := s.nb + (b1.length - b0.length) }
    | none => False
  | _ => False

/-- The operations that wait for one of them. -/
def behind (ops : Array Oper) (stop : Nat) : List Nat :=
  (List.range ops.size).foldl (fun D k => if k == stop || ((ops[k]?).map fun o => o.after.any fun e => Region.binds .any e && D.contains e.on).getD false then k :: D else D) []
/-- The others, in order. -/
def ahead (ops : Array Oper) (stop : Nat) : List Nat := (List.range ops.size).filter fun k => !(behind ops stop).contains k
/-- What is asked of a region that draws its order and in which an operation panics. -/
def pnOk (tr : List Nat) (ops : Array Oper) (stop : Nat) : Bool :=
  (ahead ops stop).all (fun k => ((ops[k]?).map fun o => !isAN tr o && opMem tr o != 2).getD false) && ((ops[stop]?).map fun o => o.guard.isNone).getD false && match preLV tr ops (ahead ops stop) (Array.replicate ops.size false) with
  | some listed => (Region.ready .any ops listed) == [stop]
  | none => false
/-- What the operations ahead write. -/
def wrs (tr : List Nat) (ops : Array Oper) (stop : Nat) : List Tmp := (nums ops (ahead ops stop)).flatMap (wr tr)

theorem stop_behind {ops : Array Oper} {stop : Nat} (h : stop < ops.size) : (behind ops stop).contains stop = true := by
  have gen : ∀ (l : List Nat) (D : List Nat), stop ∈ l ∨ stop ∈ D → stop ∈ l.foldl (fun D k => if k == stop || ((ops[k]?).map fun o => o.after.any fun e => Region.binds .any e && D.contains e.on).getD false then k :: D else D) D := by
    intro l
    induction l with
    | nil => intro D h; exact h.resolve_left (by simp)
    | cons k l ih =>
      intro D h
      rw [List.foldl_cons]
      apply ih
      rcases h with h | h
      · rcases List.mem_cons.1 h with rfl | h
        · right; simp
        · exact .inl h
      · right; split
        · exact List.mem_cons_of_mem _ h
        · exact h
  have := gen (List.range ops.size) [] (.inl (List.mem_range.2 h))
  simpa [behind] using this

/-- A region that draws its order, in which a call panics: what is ahead of it is carried out, or not. -/
def pdraw (P : Program) (G : Gl) (tr : List Nat) (ops : Array Oper) (s : S) (KP : Value → S → Prop) : Prop :=
  ∃ stop o, ops[stop]? = some o ∧ pnOk tr ops stop = true ∧ vops P G tr ops (nums ops (ahead ops stop)) s (fun _ => True) ∧
    ∀ fr, (∀ t, t ∉ wrs tr ops stop → fr t = s.fr t) → vpanC P G ⟨fr, s.bx, s.nb⟩ o KP

/-- A slice in a box, from now on known exactly; its owner is a ghost in a slot. -/
def S.split (s : S) (b k q : Nat) (v : Value) (E : Option (TypeId × Nat)) (es : List (List C)) : S := ⟨up s.fr q (.gh v E es), up s.bx b ((s.bx b).set k (.c (.ex v))), s.nb⟩

theorem St.split (h : St G n I0 M w0 I β ob s a w) {b k q : Nat} {E : Option (TypeId × Nat)} {es : List (List C)} (hb : b < s.nb) (hk : (s.bx b)[k]? = some (.ow E es)) (hq : q < n) : ∃ v, SE G n I0 M w0 (s.split b k q v E es) a w := by
  obtain ⟨blk, cur, e1, e2, e3, e4, e5, e7⟩ := h.bx b hb
  have hklt : k < (s.bx b).length := (List.getElem?_eq_some_iff.1 hk).1
  have hcell : (s.bx b).getD k .un = .ow E es := by simp [List.getD, hk]
  have hown := e5 k
  rw [hcell] at hown
  simp only [LR] at hown
  have hsl : ∃ x y z, cur.getD k undef = .slice x y z := by
    rcases hown.1.sl_inv with ⟨⟨x, y, h1, _⟩, _⟩ | ⟨x, y, z, _, _, h1, _⟩
    · exact ⟨_, _, _, h1⟩
    · exact ⟨_, _, _, h1⟩
  obtain ⟨x, y, z, hsl⟩ := hsl
  have hex : CR I w (cur.getD k undef) (.ex (cur.getD k undef)) := by rw [hsl]; exact .ex _ rfl rfl
  -- the cell gives its block away
  have hsub : ∀ L c, upL ob (.b b k) none L = some c → L ≠ .b b k ∧ ob L = some c := fun L c hL => by
    simp only [upL] at hL
    split at hL
    · cases hL
    · rename_i hne; exact ⟨hne, hL⟩
  have h1 : St G n I0 M w0 I β (upL ob (.b b k) none) { s with bx := up s.bx b ((s.bx b).set k (.c (.ex (cur.getD k undef)))) } a w := {
    size := h.size, defers := h.defers, below := h.below, ilow := h.ilow, kept := h.kept, ihigh := h.ihigh, ibnd := h.ibnd
    fr := fun t => by
      have := h.fr t
      have e : upL ob (.b b k) none (.t t) = ob (.t t) := by simp [upL]
      rw [e]; exact this
    bx := fun i hi => by
      by_cases hib : i = b
      · subst hib
        refine ⟨blk, cur, e1, e2, ?_, by simp only [up_same, List.length_set]; exact e4, fun j => ?_, e7⟩
        · simp only [up_same]
          refine e3.congr (by simp) ?_
          unfold mkOf
          by_cases hk0 : k = 0
          · subst hk0
            have : ((s.bx i).set 0 (.c (.ex (cur.getD 0 undef)))).getD 0 .un = .c (.ex (cur.getD 0 undef)) := by simp [List.getD, hklt]
            rw [this, hcell]
          · have : ((s.bx i).set k (.c (.ex (cur.getD k undef)))).getD 0 .un = (s.bx i).getD 0 .un := by simp [List.getD, List.getElem?_set_ne hk0]
            rw [this]
        · simp only [up_same]
          by_cases hjk : j = k
          · subst hjk
            have : ((s.bx i).set j (.c (.ex (cur.getD j undef)))).getD j .un = .c (.ex (cur.getD j undef)) := by simp [List.getD, hklt]
            rw [this]
            have e : upL ob (.b i j) none (.b i j) = none := by simp [upL]
            rw [e]; exact .ofC hex
          · have : ((s.bx i).set k (.c (.ex (cur.getD k undef)))).getD j .un = (s.bx i).getD j .un := by simp [List.getD, List.getElem?_set_ne (Ne.symm hjk)]
            rw [this]
            have e : upL ob (.b i k) none (.b i j) = ob (.b i j) := by simp [upL, hjk]
            rw [e]; exact e5 j
      · obtain ⟨blk', cur', q1, q2, q3, q4, q5, q7⟩ := h.bx i hi
        refine ⟨blk', cur', q1, q2, by simp only [up_ne _ _ hib]; exact q3, by simp only [up_ne _ _ hib]; exact q4, fun j => ?_, q7⟩
        simp only [up_ne _ _ hib]
        have e : upL ob (.b b k) none (.b i j) = ob (.b i j) := by simp [upL, hib]
        rw [e]; exact q5 j
    bnone := h.bnone, ext := h.ext, bnew := h.bnew, binj := h.binj
    oinj := fun L L' c q1 q2 => h.oinj L L' c (hsub L c q1).2 (hsub L' c q2).2
    obx := fun L c i q1 => h.obx L c i (hsub L c q1).2
    obnd := fun L c q1 => h.obnd L c (hsub L c q1).2
    glob := h.glob }
  have h2 := h1.put q hq (v := a.tmps.getD q undef) (x := .gh (cur.getD k undef) E es) (o := ob (.b b k)) (by simp only [LR]; exact hown) (fun c hc => by
    refine ⟨h.obnd _ c hc, fun L hL => ?_, fun i => h.obx _ c i hc⟩
    simp only [upL] at hL
    split at hL
    · cases hL
    · split at hL
      · cases hL
      · rename_i q1 q2; exact q2 (h.oinj _ _ c hL hc))
  rw [put_self (by rw [h.size]; exact hq)] at h2
  exact ⟨_, _, _, _, h2⟩

def isSp (tr : List Nat) (id : Nat) : Bool := tr.contains (2300000 + id)
/-- A region at whose start a slice in a box is parted from its owner. -/
def spl (tr : List Nat) (id : Nat) (ops : Array Oper) (s : S) (K : S → Prop) : Prop :=
  if isSp tr id then ∃ b k q E es, (b < s.nb ∧ (s.bx b)[k]? = some (.ow E es) ∧ (ops.toList.any fun o => o.dst == some q) = true) ∧ ∀ v, K (s.split b k q v E es) else K s
theorem spl_sound {id : Nat} {ops : Array Oper} {K : S → Prop} (hok : dstOk n ops = true) (h : spl tr id ops s K) (hse : SE G n I0 M w0 s a w) : ∃ s', K s' ∧ SE G n I0 M w0 s' a w := by
  unfold spl at h
  split at h
  · obtain ⟨b, k, q, E, es, ⟨h1, h2, h3⟩, h⟩ := h
    obtain ⟨I, β, ob, hst⟩ := hse
    rw [List.any_eq_true] at h3
    obtain ⟨o, ho, hq⟩ := h3
    obtain ⟨v, hv⟩ := hst.split h1 h2 (dstOk_spec hok ho q (by simpa using hq))
    exact ⟨_, h v, hv⟩
  · exact ⟨s, h, hse⟩

def isPn (tr : List Nat) (id : Nat) : Bool := tr.contains (2900000 + id)

/-- The conditions of a text that may panic. -/
def pwpK (P : Program) (G : Gl) (tr : List Nat) (k : Nat) (KP : Value → S → Prop) : Code → (VE → S → Prop) → S → Prop
  | .region id ops d, Q, s => if isPn tr id then spl tr id ops s (fun s => if d then vops P G tr ops ops.toList s (Q .normal) ∨ pdraw P G tr ops s KP else pops P G tr ops ops.toList s (Q .normal) KP) else vwpK P G tr k (.region id ops d) Q s
  | .seq a b, Q, s => pwpK P G tr k KP a (fun e s' => match e with | .normal => pwpK P G tr k KP b Q s' | e => Q e s') s
  | .cond c x y, Q, s => match ev G s c with
    | .c (.lit (.bool p)) => (p = true → pwpK P G tr k KP x Q (refine s c true)) ∧ (p = false → pwpK P G tr k KP y Q (refine s c false))
    | _ => False
  | .block id body, Q, s => pwpK P G tr k KP body (fun e s' => match e with | .exit i => if i = id then Q .normal s' else Q (.exit i) s' | e => Q e s') s
  | .loop body, Q, s => ∃ n, vrounds k (pwpK P G tr k KP body) Q n s
  | .scope body, Q, s => pwpK P G tr k KP body Q s
  | c, Q, s => vwpK P G tr k c Q s

/-- What is asked of a text once and for all. -/
def cokP (n : Nat) (tr : List Nat) : Code → Bool
  | .region id ops draw => if isPn tr id then dstOk n ops && (!draw || drawOk tr ops) else cok n tr (.region id ops draw)
  | .seq a b => cokP n tr a && cokP n tr b
  | .cond _ a b => cokP n tr a && cokP n tr b
  | .block _ a => cokP n tr a
  | .loop a => cokP n tr a
  | .scope a => cokP n tr a
  | _ => true

theorem run_mkIfc {T : TypeId} {x : Operand} (ho : o.op = .makeInterface T x) (h : ifcOk P T) : (execOp a.eval o).run P w = .ok (.value (.iface T (a.eval x))) w := by
  unfold execOp
  simp only [ho]
  simp [h (a.eval x) w]

theorem run_panic {x : Operand} {T : TypeId} {u : Value} (ho : o.op = .panic x) (h : a.eval x = .iface T u) : (execOp a.eval o).run P w = .halt (.panic (.iface T u)) w := by
  unfold execOp
  simp only [ho]
  simp [h, Instr.panic, goPanic, Sem.run]

theorem eval_put_tmp {d : Tmp} {v : Value} (h : d < a.tmps.size) : (a.put (some d) v).eval (.tmp d) = v := by
  show (a.tmps.set! d v).getD d undef = v
  simp [Array.getD_eq_getD_getElem?, Array.set!_eq_setIfInBounds, h]

/-- A call that panics. -/
theorem callX_ok (hst : St G n I0 M w0 I β ob s a w) {f : FuncId} {vs : List Value} {all : List V} {ρ : List Nat} {cargs : List V} {b0 b1 : List (List V)} {pv : Value}
    (hok : FnX P G f cargs b0 pv b1) (hargs : ArgsL (Wr M w0) I β w vs all) (hall : all.map V.fz = cargs.map (V.ren (rho ρ s.nb))) (hρ : ρ.length = b0.length ∧ ρ.Nodup) (hin : bxIn s.bx s.nb (rho ρ s.nb) 0 b0)
    (hrun : (execOp a.eval o).run P w = .ok (.enter f vs.toArray) w)
    (hk : ∀ w', SE G n I0 M w0 { s with bx := setBx (rho ρ s.nb) 0 b1 s.bx, nb := s.nb + (b1.length - b0.length) } a w' → Q (.panic [{ v := pv, recovered := false }]) a w') : o.wp P a w next Q := by
  unfold Oper.wp
  rw [hrun]
  simp only [Oper.upon]
  obtain ⟨hρl, hn⟩ := hρ
  obtain ⟨hlt1, hlt2, hle⟩ := hok.2.1
  have hl : ∀ i, i < ρ.length → ρ.getD i 0 < s.nb := fun i hi => by
    obtain ⟨b, hb⟩ : ∃ b, b0[i]? = some b := ⟨_, List.getElem?_eq_getElem (by omega)⟩
    have := (bxIn_get b0 0 i b hin hb).1
    rw [Nat.zero_add] at this
    simpa [rho, hi] using this
  have hinj := rho_inj hn hl
  have hlen : all.length = cargs.length := by simpa using congrArg List.length hall
  refine (hok.2.2 I ⟨Mof β ob (rho ρ s.nb) b0.length, fun _ => none, []⟩ w vs.toArray (betaC β (rho ρ s.nb) b0.length) (obC ob (rho ρ s.nb) b0.length) hst.ibnd hst.glob (hst.give hinj hin hlt2)
    (by have := hargs.1; simp; omega) (fun j x hx => ?_)).mono ?_
  · have hj : j < cargs.length := (List.getElem?_eq_some_iff.1 hx).1
    have hz : all[j]? = some all[j] := List.getElem?_eq_getElem (by omega)
    have h1 := hargs.2 j _ hz
    have h2 : all[j].fz = x.ren (rho ρ s.nb) := by
      have e1 : (all.map V.fz)[j]? = some all[j].fz := by simp [hz]
      have e2 : (cargs.map (V.ren (rho ρ s.nb)))[j]? = some (x.ren (rho ρ s.nb)) := by simp [hx]
      rw [hall, e2] at e1
      exact (Option.some.inj e1).symm
    rw [h2] at h1
    have h3 := h1.ren (β' := betaC β (rho ρ s.nb) b0.length) (hlt1 x (List.mem_of_getElem? hx)) (fun i b hi hb => by simp [betaC, hi, hb])
    have h4 := h3.wider (base' := Wr ⟨Mof β ob (rho ρ s.nb) b0.length, fun _ => none, []⟩ w) fun b hb => by cases hb
    simpa using h4
  · rintro e w' ⟨I', β', ob', rfl, hbel, hI1, hI2, hkept, hβ1, hβ2, hbx⟩
    simp only
    exact hk _ ⟨_, _, _, (hst.called hρl hn hin hle hbel hI1 hI2 hkept hβ1 hβ2 hbx).1⟩

theorem vpan_sound {ops : Array Oper} (hok : dstOk n ops = true) {KP : Value → S → Prop} (hKP : ∀ v s a w, KP v s → SE G n I0 M w0 s a w → Q (.panic [{ v := v, recovered := false }]) a w) {l : List Oper} {k : Nat}
    (hl : ops.toList.drop k = o :: l) (hst : St G n I0 M w0 I β ob s a w) (hg : o.guard = none) (h : vpan P G s o l KP) : wpOps P ops Q (List.range' k (l.length + 1)) a w := by
  have hget : ops[k]? = some o := by
    have : (ops.toList.drop k)[0]? = some o := by rw [hl]; rfl
    rw [List.getElem?_drop] at this
    simpa using this
  have hmem : o ∈ ops.toList := List.mem_of_mem_drop (i := k) (by rw [hl]; simp)
  have hw : Region.wanted o (yielded ops a.tmps) = true := by simp [Region.wanted, hg]
  simp only [List.range'_succ, wpOps, hget]
  rw [if_pos hw]
  left
  unfold vpan at h
  split at h
  · rename_i T x hop
    split at h
    · rename_i u o2 d hx hd
      obtain ⟨⟨hi, hg2, hop2⟩, hk⟩ := h
      have hdn : d < n := dstOk_spec hok hmem d hd
      unfold Oper.wp
      rw [run_mkIfc hop hi]
      simp only [Oper.upon]
      have hget2 : ops[k + 1]? = some o2 := by
        have : (ops.toList.drop k)[1]? = some o2 := by rw [hl]; rfl
        rw [List.getElem?_drop] at this
        simpa using this
      have hw2 : ∀ a : Act, Region.wanted o2 (yielded ops a.tmps) = true := fun a => by simp [Region.wanted, hg2]
      simp only [List.length_cons, List.length_nil, List.range'_succ, wpOps, hget2]
      rw [if_pos (hw2 _)]
      left
      unfold Oper.wp
      have hev : a.eval x = u := by have := ev_sound hst x; rw [hx] at this; exact this.lit
      rw [run_panic (T := T) (u := u) hop2 (by rw [hd, eval_put_tmp (by rw [hst.size]; exact hdn), hev])]
      simp only [Oper.upon]
      refine hKP _ _ _ _ hk ?_
      rw [hd]
      exact SE.put hst (dst := some d) (fun d' h' => by cases h'; exact hdn) (by simp only [LR]; exact .un _)
    · exact h.elim
  · rename_i f args ts hop
    split at h
    · rename_i g all hcal
      obtain ⟨ρ, cargs, b0, pv, b1, hok', hall, hρ, hin, hK⟩ := h
      obtain ⟨fn, h1, h2, c, h3⟩ := hok'.1
      have hf := ev_sound hst f
      unfold calleeV at hcal
      split at hcal
      · rename_i g' fs cs he
        simp only [Option.some.injEq, Prod.mk.injEq] at hcal
        obtain ⟨rfl, rfl⟩ := hcal
        rw [he] at hf
        obtain ⟨vf, vc, hv, q1, q2, q3, q4⟩ := hf.toC.fn_inv
        have hrun := run_call (P := P) (w := w) hop hv h1 h2 h3
        refine callX_ok hst hok' (vs := vf.toList ++ args.toList.map a.eval ++ vc.toList) (((argsL_c vf fs q1 q3).append (argsL_ops hst _)).append (argsL_c vc cs q2 q4)) hall hρ hin ?_ (fun w' => hKP _ _ _ _ hK)
        rw [hrun]; congr 2; apply Array.ext'; simp
      · rename_i g' fs cs he
        simp only [Option.some.injEq, Prod.mk.injEq] at hcal
        obtain ⟨rfl, rfl⟩ := hcal
        rw [he] at hf
        simp only [LR] at hf
        obtain ⟨vf, vc, hv, q1, q2, q3, q4⟩ := hf
        have hrun := run_call (P := P) (w := w) hop hv h1 h2 h3
        refine callX_ok hst hok' (vs := vf.toList ++ args.toList.map a.eval ++ vc.toList) (((argsL_p vf fs q1 q3).append (argsL_ops hst _)).append (argsL_p vc cs q2 q4)) hall hρ hin ?_ (fun w' => hKP _ _ _ _ hK)
        rw [hrun]; congr 2; apply Array.ext'; simp
      · cases hcal
    · exact h.elim
  · exact h.elim

theorem pops_sound {ops : Array Oper} (hok : dstOk n ops = true) {K : S → Prop} {KP : Value → S → Prop} (hK : ∀ a w s, K s → SE G n I0 M w0 s a w → Q .normal a w)
    (hKP : ∀ v s a w, KP v s → SE G n I0 M w0 s a w → Q (.panic [{ v := v, recovered := false }]) a w) : ∀ (l : List Oper) (k : Nat), ops.toList.drop k = l → ∀ (s : S) (a : Act) (w : World),
    pops P G tr ops l s K KP → SE G n I0 M w0 s a w → wpOps P ops Q (List.range' k l.length) a w
  | [], k, _, s, a, w, h, hse => by simp only [List.length_nil, List.range'_zero, wpOps]; exact hK _ _ _ h hse
  | o :: l, k, hl, s, a, w, h, hse => by
    have hget : ops[k]? = some o := by
      have : (ops.toList.drop k)[0]? = some o := by rw [hl]; rfl
      rw [List.getElem?_drop] at this
      simpa using this
    have hl' : ops.toList.drop (k + 1) = l := by
      rw [← List.drop_drop, hl]; rfl
    have hmem : o ∈ ops.toList := List.mem_of_mem_drop (i := k) (by rw [hl]; simp)
    obtain ⟨I, β, ob, hst⟩ := hse
    rcases h with h | ⟨hg, h⟩
    · simp only [List.length_cons, List.range'_succ, wpOps, hget]
      simp only [vops] at h
      rcases vguard_sound hst h with ⟨hw, h⟩ | ⟨hw, h⟩
      · rw [if_pos hw]
        refine .inl (VStep_sound (tr := tr) hst (dstOk_spec hok hmem) h fun a' w' s' hs' hse' => ?_)
        exact pops_sound hok hK hKP l (k + 1) hl' s' a' w' hs' hse'
      · rw [hw]
        simp only [Bool.false_eq_true, if_false]
        exact pops_sound hok hK hKP l (k + 1) hl' _ _ w h (SE.put hst (dstOk_spec hok hmem) (by simp only [LR]; exact .sk))
    · exact vpan_sound hok hKP hl hst hg h

theorem vpanC_sound {KP : Value → S → Prop} (hKP : ∀ v s a w, KP v s → SE G n I0 M w0 s a w → Q (.panic [{ v := v, recovered := false }]) a w) (hst : St G n I0 M w0 I β ob s a w) (h : vpanC P G s o KP) : o.wp P a w next Q := by
  unfold vpanC at h
  split at h
  · rename_i f args ts hop
    split at h
    · rename_i g all hcal
      obtain ⟨ρ, cargs, b0, pv, b1, hok', hall, hρ, hin, hK⟩ := h
      obtain ⟨fn, h1, h2, c, h3⟩ := hok'.1
      have hf := ev_sound hst f
      unfold calleeV at hcal
      split at hcal
      · rename_i g' fs cs he
        simp only [Option.some.injEq, Prod.mk.injEq] at hcal
        obtain ⟨rfl, rfl⟩ := hcal
        rw [he] at hf
        obtain ⟨vf, vc, hv, q1, q2, q3, q4⟩ := hf.toC.fn_inv
        have hrun := run_call (P := P) (w := w) hop hv h1 h2 h3
        refine callX_ok hst hok' (vs := vf.toList ++ args.toList.map a.eval ++ vc.toList) (((argsL_c vf fs q1 q3).append (argsL_ops hst _)).append (argsL_c vc cs q2 q4)) hall hρ hin ?_ (fun w' => hKP _ _ _ _ hK)
        rw [hrun]; congr 2; apply Array.ext'; simp
      · rename_i g' fs cs he
        simp only [Option.some.injEq, Prod.mk.injEq] at hcal
        obtain ⟨rfl, rfl⟩ := hcal
        rw [he] at hf
        simp only [LR] at hf
        obtain ⟨vf, vc, hv, q1, q2, q3, q4⟩ := hf
        have hrun := run_call (P := P) (w := w) hop hv h1 h2 h3
        refine callX_ok hst hok' (vs := vf.toList ++ args.toList.map a.eval ++ vc.toList) (((argsL_p vf fs q1 q3).append (argsL_ops hst _)).append (argsL_p vc cs q2 q4)) hall hρ hin ?_ (fun w' => hKP _ _ _ _ hK)
        rw [hrun]; congr 2; apply Array.ext'; simp
      · cases hcal
    · exact h.elim
  · exact h.elim

/-- The operation number i comes up: carried out, or the one that panics. -/
def vopX (P : Program) (G : Gl) (tr : List Nat) (ops : Array Oper) (stop : Nat) (C : S → Prop) (i : Nat) (K : S → Prop) (s : S) : Prop := vopI P G tr ops i K s ∨ (i = stop ∧ C s)
def vAnyX (P : Program) (G : Gl) (tr : List Nat) (md : Region.Mode) (ops : Array Oper) (stop : Nat) (C : S → Prop) : Nat → Array Bool → S → Prop
  | 0, _, _ => False
  | fuel + 1, listed, s =>
    Region.ready md ops listed ≠ [] ∧
    ∀ i ∈ Region.ready md ops listed, vopX P G tr ops stop C i (vAnyX P G tr md ops stop C fuel (listed.setIfInBounds i true)) s

theorem vAnyX_sound {ops : Array Oper} {md : Region.Mode} {stop : Nat} {C : S → Prop} {os : Oper} (hos : ops[stop]? = some os) (hgd : os.guard = none) (hok : dstOk n ops = true)
    (hC : ∀ s I β ob a w next, C s → St G n I0 M w0 I β ob s a w → os.wp P a w next Q) : ∀ (fuel : Nat) (listed : Array Bool) (s : S) (a : Act) (w : World),
    vAnyX P G tr md ops stop C fuel listed s → SE G n I0 M w0 s a w → wpAny P md ops Q fuel listed a w
  | 0, _, _, _, _, h, _ => h.elim
  | fuel + 1, _, s, a, w, h, hse => by
    refine ⟨fun h0 => absurd h0 h.1, fun i hi => ?_⟩
    have hh := h.2 i hi
    rcases hh with hh | ⟨rfl, hh⟩
    · unfold vopI at hh
      unfold wpOp
      split
      · rename_i ho; simp only [ho] at hh; exact vAnyX_sound hos hgd hok hC fuel _ s a w hh hse
      · rename_i o ho
        simp only [ho] at hh
        obtain ⟨e, he, hh⟩ := hh
        have hmem : o ∈ ops.toList := by
          have := Array.mem_of_getElem? ho
          simpa using this
        obtain ⟨I, β, ob, hst⟩ := hse
        rcases he with ⟨hg, hv, _⟩ | ⟨hg, rfl⟩
        · rw [if_pos (gval_wanted hst hg)]
          exact .inl (VEf_sound hst (dstOk_spec hok hmem) hv fun a' w' hse' => vAnyX_sound hos hgd hok hC fuel _ _ a' w' hh hse')
        · rw [gval_wanted hst hg]
          simp only [Bool.false_eq_true, if_false]
          rw [run_skip] at hh
          exact vAnyX_sound hos hgd hok hC fuel _ _ _ w hh (SE.put hst (dstOk_spec hok hmem) (by simp only [LR]; exact .sk))
    · obtain ⟨I, β, ob, hst⟩ := hse
      unfold wpOp
      simp only [hos]
      rw [if_pos (by simp [Region.wanted, hgd])]
      exact .inl (hC _ _ _ _ _ _ _ hh hst)

theorem vAnyX_first {ops : Array Oper} {md : Region.Mode} {stop : Nat} {C : S → Prop} {i : Nat} {oi : Oper} {e : Ef} (hi : ops[i]? = some oi) (hCb : ∀ s, C (e.run tr oi s) → C s) :
    ∀ (fuel : Nat) (listed : Array Bool) (s : S),
      (∀ j oj, ops[j]? = some oj → j ≠ i → listed.getD j true = false → (∀ e ∈ oj.after, Region.binds md e = true → e.on ≠ i) → apartV tr ops oi oj = true) →
      i ∈ Region.ready md ops listed → TEf P G tr ops oi s e →
      vAnyX P G tr md ops stop C fuel (listed.setIfInBounds i true) (e.run tr oi s) → vAnyX P G tr md ops stop C (fuel + 1) listed s := by
  intro fuel
  induction fuel with
  | zero => intro listed s _ _ _ H; exact H.elim
  | succ fuel ih =>
    intro listed s hfree hr hy H
    refine ⟨fun h => (by rw [h] at hr; cases hr), fun j hj => ?_⟩
    by_cases hji : j = i
    · subst hji; left; unfold vopI; simp only [hi]; exact ⟨e, hy, H⟩
    · rcases H.2 j (ready_mono hj hji) with h1 | ⟨h1, h2⟩
      · left
        obtain ⟨hjun, oj, hoj, hall⟩ := mem_ready.1 hj
        have hnot : ∀ e ∈ oj.after, Region.binds md e = true → e.on ≠ i := fun e he hb heq => by
          have h1 := hall e he hb
          have h0 := (mem_ready.1 hr).1
          rw [heq] at h1
          rcases Nat.lt_or_ge i listed.size with h' | h'
          · simp [h'] at h0 h1; rw [h0] at h1; cases h1
          · simp [Array.getElem?_eq_none h'] at h1
        have hap := apartV_spec (hfree j oj hoj hji hjun hnot)
        unfold vopI at h1 ⊢
        simp only [hoj] at h1 ⊢
        obtain ⟨f, hf, hK⟩ := h1
        have hf' := hy.back hap hf
        refine ⟨f, hf', ih (listed.setIfInBounds j true) _ (fun k ok hk hki hun hno => ?_) (ready_mono hr (Ne.symm hji)) (hy.keep hap hf') ?_⟩
        · refine hfree k ok hk hki ?_ hno
          by_cases hjk : j = k
          · subst hjk; exact hjun
          · rw [Go.getD_set_ne true hjk] at hun; exact hun
        · rw [Array.setIfInBounds_comm _ _ hji, ← run_comm hap hy hf']
          exact hK
      · exact .inr ⟨h1, hCb _ h2⟩

theorem vAnyX_pre {ops : Array Oper} {stop : Nat} {C : S → Prop} (m : Nat) (listed' : Array Bool) (hCb : ∀ k o s e, k ∈ ahead ops stop → ops[k]? = some o → TEf P G tr ops o s e → ∀ s', (C (e.run tr o s') ↔ C s'))
    (hK0 : ∀ s', C s' → vAnyX P G tr .any ops stop C m listed' s') : ∀ (ks : List Nat) (listed : Array Bool) (s : S), (∀ k ∈ ks, k ∈ ahead ops stop ∧ ∃ o, ops[k]? = some o ∧ isAN tr o = false) →
    preLV tr ops ks listed = some listed' → vops P G tr ops (nums ops ks) s (fun _ => True) → C s → vAnyX P G tr .any ops stop C (m + ks.length) listed s
  | [], listed, s, _, hB, _, hc => by simp only [preLV, Option.some.injEq] at hB; subst hB; exact hK0 _ hc
  | k :: r, listed, s, hA, hB, h, hc => by
    obtain ⟨hka, o, ho, hAN⟩ := hA k (List.mem_cons_self ..)
    unfold preLV at hB
    split at hB
    · rename_i hcd
      simp only [Bool.and_eq_true] at hcd
      obtain ⟨hr, hf⟩ := hcd
      simp only [nums, List.filterMap_cons, ho, vops] at h
      obtain ⟨e, he, hK⟩ := TEf_of_guard (K := fun s' => vops P G tr ops (nums ops r) s' fun _ => True) hAN h
      have := vAnyX_first ho (fun s' => (hCb k o s e hka ho he s').1) (m + r.length) listed s (freeV_spec ho hf) (by simpa using hr) he
        (vAnyX_pre m listed' hCb hK0 r _ _ (fun k hk => hA k (List.mem_cons_of_mem _ hk)) hB hK ((hCb k o s e hka ho he s).2 hc))
      simpa [Nat.add_assoc] using this
    · cases hB

theorem pdraw_sound {id : Nat} {ops : Array Oper} (hm : P.follows .mixedOrders = true) (hok : dstOk n ops = true) {KP : Value → S → Prop} (hKP : ∀ v s a w, KP v s → SE G n I0 M w0 s a w → Q (.panic [{ v := v, recovered := false }]) a w)
    (h : pdraw P G tr ops s KP) (hse : SE G n I0 M w0 s a w) : (Code.region id ops true).wp P Q a w := by
  refine wp_region_any hm ?_
  obtain ⟨stop, os, hos, hpn, hv, hpan⟩ := h
  unfold pnOk at hpn
  simp only [Bool.and_eq_true, List.all_eq_true] at hpn
  obtain ⟨⟨hall, hgd⟩, hpre⟩ := hpn
  simp only [hos, Option.map_some, Option.getD_some, Option.isNone_iff_eq_none] at hgd
  have hA : ∀ k ∈ ahead ops stop, ∃ o, ops[k]? = some o ∧ isAN tr o = false ∧ opMem tr o ≠ 2 := fun k hk => by
    have := hall k hk
    cases ho : ops[k]? with
    | none => simp [ho] at this
    | some o => simp [ho] at this; exact ⟨o, rfl, this.1, this.2⟩
  have hse' : SE G n I0 M w0 s a { w with drawn := w.drawn + 1 } := by
    obtain ⟨I, β, ob, hst⟩ := hse
    exact ⟨I, β, ob, hst.drew⟩
  split at hpre
  · rename_i listed hpl
    have hrd : Region.ready .any ops listed = [stop] := by simpa using hpre
    -- what stays while others are carried out
    let C : S → Prop := fun s' => (∀ t, t ∉ wrs tr ops stop → s'.fr t = s.fr t) ∧ s'.bx = s.bx ∧ s'.nb = s.nb
    have hCb : ∀ k o s1 e, k ∈ ahead ops stop → ops[k]? = some o → TEf P G tr ops o s1 e → ∀ s', (C (e.run tr o s') ↔ C s') := fun k o s1 e hk ho he s' => by
      obtain ⟨o', ho', _, hm2⟩ := hA k hk
      rw [ho] at ho'; cases ho'
      obtain ⟨q1, q2, _⟩ := quiet_mem (TEf_mem he hm2) s'.bx s'.nb 0
      have hw : ∀ t, t ∉ wrs tr ops stop → t ∉ wr tr o := fun t ht hto => ht (by
        unfold wrs
        exact List.mem_flatMap.2 ⟨o, List.mem_filterMap.2 ⟨k, hk, ho⟩, hto⟩)
      show ((∀ t, t ∉ wrs tr ops stop → (e.run tr o s').fr t = s.fr t) ∧ (e.run tr o s').bx = s.bx ∧ (e.run tr o s').nb = s.nb) ↔ _
      rw [run_eq]
      simp only [q1, q2]
      constructor
      · rintro ⟨h1, h2⟩
        exact ⟨fun t ht => by have := h1 t ht; rw [slotF_other (hw t ht)] at this; exact this, h2⟩
      · rintro ⟨h1, h2⟩
        exact ⟨fun t ht => by rw [slotF_other (hw t ht)]; exact h1 t ht, h2⟩
    have key := vAnyX_pre (P := P) (G := G) (ops.size - (ahead ops stop).length) listed hCb (fun s' hc => ?_) (ahead ops stop) (Array.replicate ops.size false) s (fun k hk => ⟨hk, by obtain ⟨o, h1, h2, _⟩ := hA k hk; exact ⟨o, h1, h2⟩⟩) hpl hv ⟨fun _ _ => rfl, rfl, rfl⟩
    · have hlen : (ahead ops stop).length ≤ ops.size := by
        have := List.length_filter_le (fun k => !(behind ops stop).contains k) (List.range ops.size)
        simpa [ahead] using this
      rw [Nat.sub_add_cancel hlen] at key
      refine vAnyX_sound hos hgd hok (fun s' I β ob a w next hc hst => ?_) _ _ _ _ _ key hse'
      obtain ⟨h1, h2, h3⟩ := hc
      obtain ⟨fr, bx, nb⟩ := s'
      simp only at h1 h2 h3
      subst h2 h3
      exact vpanC_sound hKP hst (hpan fr h1)
    · have hlt : (ahead ops stop).length < ops.size := by
        have hs : stop < ops.size := (Array.getElem?_eq_some_iff.1 hos).1
        have hmem : stop ∈ Region.ready .any ops listed := by rw [hrd]; simp
        have hnot : stop ∉ ahead ops stop := by
          intro hin
          have := (List.mem_filter.1 hin).2
          have hb : (behind ops stop).contains stop = true := stop_behind hs
          rw [hb] at this; cases this
        have hsub : (ahead ops stop).length < (List.range ops.size).length := by
          unfold ahead
          rw [List.length_filter_lt_length_iff_exists]
          exact ⟨stop, List.mem_range.2 hs, by
            have hb : (behind ops stop).contains stop = true := stop_behind hs
            show ¬ ((!(behind ops stop).contains stop) = true)
            rw [hb]; simp⟩
        simpa using hsub
      obtain ⟨q, hq⟩ : ∃ q, ops.size - (ahead ops stop).length = q + 1 := ⟨ops.size - (ahead ops stop).length - 1, by omega⟩
      rw [hq]
      exact ⟨by rw [hrd]; simp, fun i hi => by
        rw [hrd] at hi
        simp only [List.mem_singleton] at hi
        exact .inr ⟨hi, hc⟩⟩
  · cases hpre

theorem pwpK_sound {k0 : Nat} (hm : P.follows .mixedOrders = true) (hext : ∀ i b, M.e i = some b → i < k0) (KP : Value → S → Prop) (Q : Exit → Act → World → Prop) (hKP : ∀ v s a w, KP v s → SE G n I0 M w0 s a w → Q (.panic [{ v := v, recovered := false }]) a w) :
    ∀ (c : Code) (_hc : cokP n tr c = true) (q : VE → S → Prop) (R : Exit → Act → World → Prop) (_hQ : ∀ e s a w, q e s → SE G n I0 M w0 s a w → R e.ex a w) (_hR : ∀ ch a w, Q (.panic ch) a w → R (.panic ch) a w) (s : S) (a : Act) (w : World),
    pwpK P G tr k0 KP c q s → SE G n I0 M w0 s a w → c.wp P R a w := by
  intro c
  induction c with
  | region id ops draw =>
    intro hc q R hQ hR s a w h hse
    simp only [pwpK] at h
    simp only [cokP] at hc
    by_cases hp : isPn tr id = true
    · rw [if_pos hp] at h hc
      simp only [Bool.and_eq_true, Bool.or_eq_true, Bool.not_eq_true'] at hc
      obtain ⟨hd, hdr⟩ := hc
      obtain ⟨s, h, hse⟩ := spl_sound hd h hse
      cases draw with
      | true =>
        simp only [if_true] at h
        rcases h with h | h
        · exact region_draw_sound hm hd (hdr.resolve_left (by simp)) (fun a w s hk hse => hQ .normal s a w hk hse) h hse
        · exact pdraw_sound hm hd (fun v s a w hk hse => hR _ _ _ (hKP v s a w hk hse)) h hse
      | false =>
      simp only [Bool.false_eq_true, if_false] at h
      refine wp_region ?_
      have := pops_sound (Q := R) hd (fun a w s hk hse => hQ .normal s a w hk hse) (fun v s a w hk hse => hR _ _ _ (hKP v s a w hk hse)) ops.toList 0 rfl s a w h hse
      rw [List.range_eq_range']
      simpa using this
    · rw [if_neg hp] at h hc
      exact vwpK_sound hm hext _ hc q R hQ s a w h hse
  | seq x y ihx ihy =>
    intro hc q R hQ hR s a w h hse
    simp only [cokP, Bool.and_eq_true] at hc
    simp only [pwpK] at h
    refine wp_seq (ihx hc.1 _ _ (fun e s a w hk hse => ?_) (fun ch a w h => ?_) s a w h hse)
    rotate_left
    · exact hR ch a w h
    cases e with
    | normal => exact ihy hc.2 q R hQ hR s a w hk hse
    | exit i => exact hQ (.exit i) s a w hk hse
    | ret => exact hQ .ret s a w hk hse
  | cond c x y ihx ihy =>
    intro hc q R hQ hR s a w h hse
    simp only [cokP, Bool.and_eq_true] at hc
    simp only [pwpK] at h
    split at h
    · rename_i p hp
      obtain ⟨I, β, ob, hst⟩ := hse
      have hcv : a.eval c = .bool p := by have := ev_sound hst c; rw [hp] at this; exact this.lit
      have href : refine s c p = s := by
        cases c with
        | tmp t => simp only [refine]; simp only [ev] at hp; exact S.up_id hp
        | _ => rfl
      refine wp_cond_split hcv (fun ht => ?_) (fun hf => ?_)
      · have := h.1 ht
        rw [ht] at href
        rw [href] at this
        exact ihx hc.1 q R hQ hR s a w this ⟨I, β, ob, hst⟩
      · have := h.2 hf
        rw [hf] at href
        rw [href] at this
        exact ihy hc.2 q R hQ hR s a w this ⟨I, β, ob, hst⟩
    · exact h.elim
  | block id body ih =>
    intro hc q R hQ hR s a w h hse
    simp only [cokP] at hc
    simp only [pwpK] at h
    refine wp_block (ih hc _ _ (fun e s a w hk hse => ?_) (fun ch a w h => ?_) s a w h hse)
    rotate_left
    · exact hR ch a w h
    cases e with
    | normal => exact hQ .normal s a w hk hse
    | exit i =>
      simp only [VE.ex, Exit.inBlock] at hk ⊢
      split
      · rename_i e; rw [if_pos e] at hk; exact hQ .normal s a w hk hse
      · rename_i e; rw [if_neg e] at hk; exact hQ (.exit i) s a w hk hse
    | ret => exact hQ .ret s a w hk hse
  | loop body ih =>
    intro hc q R hQ hR s a w h hse
    simp only [cokP] at hc
    simp only [pwpK] at h
    obtain ⟨k, h⟩ := h
    refine wp_loop_rounds k ?_
    induction k generalizing s a w with
    | zero => exact h.elim
    | succ k ihk =>
      simp only [vrounds] at h
      obtain ⟨s', hle, h⟩ := h
      rw [rounds_succ]
      refine ih hc _ _ (fun e s a w hk hse => ?_) (fun ch a w h => ?_) s' a w h (by rcases hle with rfl | hle; exact hse; exact hse.weaken hext hle)
      rotate_left
      · exact hR ch a w h
      cases e with
      | normal => exact ihk s a w hse hk
      | exit i => exact hQ (.exit i) s a w hk hse
      | ret => exact hQ .ret s a w hk hse
  | scope body ih =>
    intro hc q R hQ hR s a w h hse
    simp only [cokP] at hc
    simp only [pwpK] at h
    refine wp_scope_straight (ih hc _ _ (fun e s a w hk hse => ?_) (fun ch a w h => ?_) s a w h hse)
    rotate_left
    · exact hR ch a w h
    cases e with
    | normal => exact hQ .normal s a w hk hse
    | exit i => exact hQ (.exit i) s a w hk hse
    | ret => exact hQ .ret s a w hk hse
  | _ => intro _ q R hQ _ s a w h hse; exact vwpK_sound hm hext _ (n := n) (tr := tr) (by simp [cok]) q R hQ s a w h hse

/-- The end of a function that panics: the boxes that stay, and what they hold. -/
def endX (k : Nat) (pv : Value) (b1 : List (List V)) (v : Value) (s : S) : Prop := v = pv ∧ ∃ l, S.Le k (hdS l b1) s

/-- From the text to the contract: it panics. -/
theorem FnX_ofK {f : FuncId} {fn : Func} {c : Code} {args : List V} {b0 b1 : List (List V)} {pv : Value} (tr : List Nat) (hm : P.follows .mixedOrders = true) (hf : P.funcs[f]? = some fn) (hb : fn.body = some c)
    (hname : (fn.name == "runtime.NumGoroutine") = false) (hn : args.length ≤ fn.ntmps) (hck : cokP fn.ntmps tr c = true)
    (hwf : (∀ x ∈ args, x.lt b0.length) ∧ (∀ b ∈ b0, ∀ x ∈ b, x.lt b0.length) ∧ b0.length ≤ b1.length)
    (h : pwpK P G tr b0.length (endX b0.length pv b1) c (fun _ _ => False) ⟨fun j => args.getD j .un, bxs b0, b0.length⟩) : FnX P G f args b0 pv b1 := by
  refine ⟨⟨fn, hf, hname, c, hb⟩, hwf, fun I M w vs β ob hI hg hB hsz ha => ?_⟩
  have hsize : fn.ntmps = (vs ++ Array.replicate (fn.ntmps - vs.size) undef).size := by simp; omega
  have hst := St.initB (n := fn.ntmps) hI hg hB hsz ha hsize
  have hβlt : ∀ i b, β i = some b → i < b0.length := fun i b hi => by
    by_cases h : i < b0.length
    · exact h
    · rw [hB.bnone i (by omega)] at hi; cases hi
  refine calls_of_wp hf hb (pwpK_sound hm (fun i b hi => hβlt i b hi) _ _ (fun v s a w' hq hse => ?_) c hck _ _ (fun e s a w' hq hse => hq.elim) (fun _ _ _ h => h) _ _ _ h ⟨_, _, _, hst⟩)
  obtain ⟨rfl, l, hle⟩ := hq
  obtain ⟨I', β', ob', hst'⟩ := hse.weaken (fun i b hi => hβlt i b hi) hle
  refine ⟨hst'.defers, I', β', fun i j => if i < b1.length then ob' (.b i j) else none, rfl, ⟨hst'.below.os, hst'.below.tape, hst'.below.output, hst'.below.size, hst'.below.block⟩, hst'.ilow, fun b o hbo => ?_, hst'.kept, fun i hi => ?_, fun i b hi hb => ?_, ?_⟩
  · rcases hst'.ihigh b o hbo with h4 | h4
    · exact .inl h4
    · exact .inr ⟨h4, hst'.ibnd b o hbo⟩
  · obtain ⟨blk, _, e1, _⟩ := hB.bx i _ (List.getElem?_eq_getElem hi)
    rw [e1]; exact hst'.ext i blk e1
  · rcases hst'.bnew i b hb with h4 | h4
    · have := hβlt i b h4; omega
    · exact h4
  · exact {
      bx := fun i cs hcs => by
        have hi : i < b1.length := (List.getElem?_eq_some_iff.1 hcs).1
        obtain ⟨blk, cur, e1, e2, e3, e4, e5, e7⟩ := hst'.bx i hi
        have e : bxs b1 i = cs := by simp [bxs, List.getD, hcs]
        refine ⟨blk, cur, e1, e2, by simp only [hdS, e] at e3; exact e3, by simp only [hdS, e] at e4; exact e4, fun j => ?_, e7⟩
        have := e5 j
        simp only [hdS, e] at this
        rw [if_pos hi]; exact this
      bnone := fun i hi => hst'.bnone i hi
      binj := hst'.binj
      oinj := fun i j i' j' b h h' => by
        split at h <;> try cases h
        split at h' <;> try cases h'
        have := hst'.oinj _ _ b h h'
        simp only [Loc.b.injEq] at this; exact this
      obx := fun i j b k h => by
        split at h <;> try cases h
        exact hst'.obx _ b k h
      obnd := fun i j b h => by
        split at h <;> try cases h
        exact hst'.obnd _ b h
      olen := fun i j hi => by rw [if_neg (by omega)] }

/-! A deferred closure that recovers, and writes results. -/

/-- Writes through captured pointers: which one, of what type, what. -/
def Wts (P : Program) (caps : Array Value) : List (Nat × TypeId × Value) → World → World → Prop
  | [], w, w' => w' = w
  | (i, T, z) :: l, w, w' => ∃ w1, (Instr.storeAt T (caps.getD i undef) z).run P w = .ok () w1 ∧ Wts P caps l w1 w'

/-- The closure, entered as a deferred call of a frame that panics with 'v', recovers and writes. -/
def RecD (P : Program) (g : FuncId) (k : Nat) (v : Value) (l : List (Nat × TypeId × Value)) : Prop := ∀ (caps : Array Value) (w w' : World), caps.size = k → Wts P caps l w w' →
  CallsD P g caps (.panicking [{ v := v, recovered := false }]) w fun e u' w'' => (∃ x, e = .returned x) ∧ u' = .panicking [{ v := v, recovered := true }] ∧ w'' = w'

/-- The same writes, seen from the frame that panics: by slot 'd'. -/
def recK (P : Program) (G : Gl) (tr : List Nat) (d : Tmp) (cs : List V) (K : S → Prop) : List (Tmp × Nat × TypeId × Value × V) → S → Prop
  | [], s => K s
  | (p, i, T, z, x) :: l, s => (p ≠ d ∧ (∃ j off, s.fr p = .bp j off ∧ cs[i]? = some (.bp j off)) ∧ ∀ I w, DR I w z x) ∧
      VStep P G tr ⟨none, .store T (.tmp p) (.tmp d), T, "", #[], none⟩ (s.put (some d) x) (fun s' => recK P G tr d cs K l (s'.put (some d) .un))

theorem put_back {d : Tmp} {z : Value} (h : d < a.tmps.size) : (a.put (some d) z).put (some d) (a.tmps.getD d undef) = a := by
  have : (a.tmps.set! d z).set! d (a.tmps.getD d undef) = a.tmps := by
    apply Array.ext
    · simp [Array.set!_eq_setIfInBounds]
    · intro i h1 h2
      simp only [Array.set!_eq_setIfInBounds, Array.setIfInBounds_setIfInBounds, Array.getElem_setIfInBounds h2]
      split
      · rename_i e; subst e; simp []
      · rfl
  show (⟨(a.tmps.set! d z).set! d (a.tmps.getD d undef), a.defers⟩ : Act) = a
  rw [this]
theorem wt_sound {p d : Tmp} {T : TypeId} {z : Value} {x : V} {K : S → Prop} (hst : St G n I0 M w0 I β ob s a w) (hd : d < n) (hp : p ≠ d) (hz : ∀ I w, DR I w z x)
    (h : VStep P G tr ⟨none, .store T (.tmp p) (.tmp d), T, "", #[], none⟩ (s.put (some d) x) K) : ∃ w1 s1, (Instr.storeAt T (a.tmps.getD p undef) z).run P w = .ok () w1 ∧ K s1 ∧ SE G n I0 M w0 (s1.put (some d) .un) a w1 := by
  have hse : SE G n I0 M w0 (s.put (some d) x) (a.put (some d) z) w := SE.put hst (dst := some d) (fun d' h' => by cases h'; exact hd) (.ofDR (hz I w))
  obtain ⟨I1, β1, ob1, hst1⟩ := hse
  have hsz : d < a.tmps.size := by rw [hst.size]; exact hd
  have e1 : (a.put (some d) z).eval (.tmp p) = a.tmps.getD p undef := by
    show (a.tmps.set! d z).getD p undef = _
    simp [Array.getD_eq_getD_getElem?, Array.set!_eq_setIfInBounds, Ne.symm hp]
  have e2 : (a.put (some d) z).eval (.tmp d) = z := eval_put_tmp hsz
  have hw := VStep_sound (tr := tr) (next := fun a' w' => a' = a.put (some d) z → ∃ s1, K s1 ∧ SE G n I0 M w0 s1 (a.put (some d) z) w') (Q := fun _ _ _ => False) hst1 (fun d' h' => by cases h') h (fun a' w' s' hk hse e => ⟨s', hk, e ▸ hse⟩)
  unfold Oper.wp at hw
  have hx : (execOp (a.put (some d) z).eval ⟨none, .store T (.tmp p) (.tmp d), T, "", #[], none⟩) = (do Instr.storeAt T (a.tmps.getD p undef) z; pure .skip) := by
    unfold execOp
    simp only [e1, e2]
  rw [hx] at hw
  simp only [Sem.run_bind] at hw
  cases hr : (Instr.storeAt T (a.tmps.getD p undef) z).run P w with
  | halt h' w' =>
    rw [hr] at hw
    simp only [Result.andThen] at hw
    cases h' <;> simp only [Oper.upon] at hw
  | ok u w1 =>
    rw [hr] at hw
    have hw : (a.put (some d) z).put none undef = a.put (some d) z → ∃ s1, K s1 ∧ SE G n I0 M w0 s1 (a.put (some d) z) w1 := hw
    obtain ⟨s1, hk, hse⟩ := hw rfl
    refine ⟨w1, s1, rfl, hk, ?_⟩
    obtain ⟨I2, β2, ob2, hst2⟩ := hse
    have := SE.put (v := a.tmps.getD d undef) hst2 (dst := some d) (fun d' h' => by cases h'; exact hd) (x := .un) (by simp only [LR]; exact .un _)
    rw [put_back hsz] at this
    exact this

/-- All writes, as the closure sees them and as the frame does. -/
theorem wts_sound {d : Tmp} (hd : d < n) {cs : List V} {vc : Array Value} {K : S → Prop} : ∀ (l : List (Tmp × Nat × TypeId × Value × V)) (s : S) (w : World), recK P G tr d cs K l s → SE G n I0 M w0 s a w →
    (∀ I β ob w s p i j off, St G n I0 M w0 I β ob s a w → s.fr p = .bp j off → cs[i]? = some (.bp j off) → a.tmps.getD p undef = vc.getD i undef) →
    ∃ w' s', Wts P vc (l.map fun q => (q.2.1, q.2.2.1, q.2.2.2.1)) w w' ∧ K s' ∧ SE G n I0 M w0 s' a w'
  | [], s, w, h, hse, _ => ⟨w, s, rfl, h, hse⟩
  | (p, i, T, z, x) :: l, s, w, h, hse, hv => by
    obtain ⟨⟨hp, ⟨j, off, hf, hc⟩, hz⟩, h⟩ := h
    obtain ⟨I, β, ob, hst⟩ := hse
    obtain ⟨w1, s1, hrun, hk, hse1⟩ := wt_sound (z := z) hst hd hp hz h
    obtain ⟨w', s', h1, h2, h3⟩ := wts_sound hd l _ _ hk hse1 hv
    refine ⟨w', s', ⟨w1, ?_, h1⟩, h2, h3⟩
    rw [← hv I β ob w s p i j off hst hf hc]; exact hrun

/-- A panic that the deferred closure recovers from: what it writes, and what is returned then. -/
def recX (P : Program) (G : Gl) (tr : List Nat) (g : FuncId) (k : Nat) (cs : List V) (r : V) (rs : List ResultVar) (m : Nat) (v : Value) (s : S) : Prop :=
  ∃ (d : Tmp) (l : List (Tmp × Nat × TypeId × Value × V)), d < m ∧ RecD P g k v (l.map fun q => (q.2.1, q.2.2.1, q.2.2.2.1)) ∧ recK P G tr d cs (retV P false · r rs) l s

def dfrLX (P : Program) (G : Gl) (tr : List Nat) (t : Nat) (g : FuncId) (k : Nat) (rest : Code) (r : V) (rs : List ResultVar) (m : Nat) (s : S) : Prop :=
  ∃ cs, (s.fr t = .clo (.func g) [] cs ∧ cs.length = k) ∧ s.nb = extK tr ∧ pwpK P G tr (extK tr) (recX P G tr g k cs r rs m) rest (endK P false r rs) s
def dfrKX (P : Program) (G : Gl) (tr : List Nat) (o1 : Oper) (t : Nat) (g : FuncId) (k : Nat) (rest : Code) (r : V) (rs : List ResultVar) (m : Nat) (e : VE) (s : S) : Prop := match e with
  | .normal => VStep P G tr o1 s (dfrLX P G tr t g k rest r rs m)
  | _ => False
theorem dfrKX_n {o1 : Oper} {t : Nat} {g : FuncId} {k m : Nat} {rest : Code} {r : V} {rs : List ResultVar} {s : S} : dfrKX P G tr o1 t g k rest r rs m .normal s = VStep P G tr o1 s (dfrLX P G tr t g k rest r rs m) := rfl

/-- From the text to the contract: the first region, the closure and its being deferred, the rest, which may panic. -/
theorem FnOK_ofX {f g : FuncId} {t : Nat} {fn : Func} {id : Nat} {r0 rest : Code} {o1 o2 : Oper} {args : List V} {r : V} (k : Nat) (tr : List Nat) (hm : P.follows .mixedOrders = true) (hf : P.funcs[f]? = some fn)
    (hb : fn.body = some (.seq r0 (.seq (.region id #[o1, o2] false) rest))) (hname : (fn.name == "runtime.NumGoroutine") = false)
    (hn : args.length ≤ fn.ntmps) (hck : cok fn.ntmps tr r0 = true) (hck2 : cokP fn.ntmps tr rest = true) (h1 : o1.guard = none ∧ o1.dst = some t ∧ t < fn.ntmps)
    (h2 : o2.guard = none ∧ o2.dst = none ∧ o2.op = .defer { callee := .value (.tmp t), args := #[], argTypes := #[] }) (hidle : IdleD P g k)
    (hr : r.out = true) (hcomp : r.compT = true)
    (h : vwp P G tr r0 (dfrKX P G tr o1 t g k rest r fn.results.toList fn.ntmps) (initS args)) : FnOK P G f args r := by
  refine ⟨⟨fn, hf, hname, _, hb⟩, fun I w vs hI hg hsz ha => ?_⟩
  have hsize : fn.ntmps = (vs ++ Array.replicate (fn.ntmps - vs.size) undef).size := by simp; omega
  have hst := St.init (n := fn.ntmps) hI hg hsz ha hsize
  refine calls_of_wp_defers hf hb (wp_seq ?_)
  refine vwp_sound hm (fun _ _ h => by cases h) r0 hck _ _ (fun e s a w1 hq hse => ?_) _ _ _ h ⟨_, _, _, hst⟩
  cases e with
  | exit i => exact hq.elim
  | ret => exact hq.elim
  | normal =>
  refine wp_seq (wp_region ?_)
  obtain ⟨I1, β1, ob1, hst1⟩ := hse
  show wpOps P #[o1, o2] _ [0, 1] a w1
  have hg1 : Region.wanted o1 (yielded #[o1, o2] a.tmps) = true := by simp [Region.wanted, h1.1]
  have hg2 : ∀ a : Act, Region.wanted o2 (yielded #[o1, o2] a.tmps) = true := fun a => by simp [Region.wanted, h2.1]
  unfold wpOps
  simp only [List.getElem?_toArray, List.getElem?_cons_zero]
  rw [if_pos hg1]
  refine .inl (VStep_sound (tr := tr) hst1 (fun d hd => by rw [h1.2.1] at hd; cases hd; exact h1.2.2) hq fun a2 w2 s2 hs2 hse2 => ?_)
  obtain ⟨cs, ⟨hclo, hcl⟩, hnb, hrest⟩ := hs2
  obtain ⟨I2, β2, ob2, hst2⟩ := hse2
  unfold wpOps
  simp only [List.getElem?_toArray, List.getElem?_cons_succ, List.getElem?_cons_zero]
  rw [if_pos (hg2 a2)]
  left
  -- the deferred call
  have hv := hst2.fr t
  rw [hclo] at hv
  simp only [LR] at hv
  obtain ⟨vf, vc, hval, hvf, hvc, _, hcap⟩ := hv
  have hvf0 : vf = #[] := Array.eq_empty_of_size_eq_zero (by simpa using hvf)
  have hrun : (execOp a2.eval o2).run P w2 = .ok (.defer { target := .fn (.func g) vc, args := #[] }) w2 := by
    have he : a2.eval (.tmp t) = .func (.func g) vf vc := hval
    unfold execOp
    simp only [h2.2.2, resolve, Deferred.ofValue, he, Sem.run_bind, Sem.run_pure, Result.andThen_ok, hvf0]
    simp
  unfold Oper.wp
  rw [hrun]
  simp only [Oper.upon, h2.2.1, Act.put, wpOps]
  have hst3 := hst2.deferred { target := .fn (.func g) vc, args := #[] }
  have hβ2 : ∀ i b, β2 i = some b → i < extK tr := fun i b hi => by
    by_cases hlt : i < extK tr
    · exact hlt
    · rw [hst2.bnone i (by omega)] at hi; cases hi
  -- what is returned at last
  have fin : ∀ (d : Deferred) (s : S) (a a' : Act) (w' : World), a'.tmps = a.tmps → SE G fn.ntmps I ⟨fun _ => False, β2, [d]⟩ w s a w' → retV P false s r fn.results.toList →
      ∃ v, (results fn a'.tmps).run P w' = .ok v w' ∧ ∃ v' I'', (Ending.returned v = .returned v') ∧ w.grownBy w' none ∧ (∀ b o, I b o → I'' b o) ∧
        (∀ b o, I'' b o → I b o ∨ (w.heap.size ≤ b ∧ b < w'.heap.size)) ∧ RetR (fun b => w.heap.size ≤ b) I'' w' v' r := by
    intro d s a a' w' hta hse hret
    obtain ⟨I', β, ob, hst'⟩ := hse
    have hwr : ∀ (e : Nat → Option Nat) (d : List Deferred) b, Wr ⟨fun _ => False, e, d⟩ w b → w.heap.size ≤ b := fun e d b hb => by rcases hb with hb | hb; exact hb; exact hb.elim
    obtain ⟨v, o', q1, q2, q3⟩ := run_ret_ok (P := P) (fn := fn) hst' hcomp (Ic := I') (fun _ => rfl) (fun _ _ h => h) (fun hz => by cases hz) hret
    refine ⟨v, by rw [hta]; exact q1, v, I', rfl, ⟨hst'.below.os, hst'.below.tape, hst'.below.output, hst'.below.size, fun k hk _ => hst'.below.block k hk (fun e => e.elim)⟩, hst'.ilow, fun b o hbo => ?_, o', ?_, fun b hb => ?_⟩
    · rcases hst'.ihigh b o hbo with h4 | h4
      · exact .inl h4
      · exact .inr ⟨hwr _ _ b h4, hst'.ibnd b o hbo⟩
    · have h2' := q2.leave hr (β' := fun _ => none)
      exact h2'.wider fun b hb => hwr _ _ b (by obtain ⟨L, hL⟩ := q3 b hb; exact (hst'.obnd _ b hL).2)
    · obtain ⟨L, hL⟩ := q3 b hb
      obtain ⟨h4, h5⟩ := hst'.obnd _ b hL
      exact ⟨hwr _ _ b h5, h4⟩
  obtain ⟨⟨fg, hfg1, hfg2, cg, hfg3⟩, hcall⟩ := hidle
  have hinv : ∀ w', (invoke (Deferred.mk (.fn (.func g) vc) #[]).target (Deferred.mk (.fn (.func g) vc) #[]).args).run P w' = .ok (.enter g (#[] ++ vc)) w' := fun w' => by
    have hg2' : fg.name ≠ "runtime.NumGoroutine" := by simpa using hfg2
    simp [invoke, callFunc, hfg1, hg2', hfg3]
  have hdef : a2.defers = [] := hst2.defers
  refine pwpK_sound hm (fun i b hi => hβ2 i b hi) _ _ (fun v s a w' hq hse => ?_) rest hck2 _ _ (fun e s a w' hq hse => ?_) (fun _ _ _ h => h) _ _ _ hrest ⟨_, _, _, hst3⟩
  · obtain ⟨d, l, hd, hrec, hK⟩ := hq
    have hdf : a.defers = [{ target := .fn (.func g) vc, args := #[] }] := by obtain ⟨_, _, _, h'⟩ := hse; exact h'.defers
    obtain ⟨w'', s', h4, h5, h6⟩ := wts_sound (vc := vc) hd l s w' hK hse (fun I β ob w s p i j off hst' hf hc => by
      have h7 := hst'.fr p
      rw [hf] at h7
      simp only [LR] at h7
      obtain ⟨blk, e1, e2⟩ := h7
      have h8 := hcap i _ hc
      simp only [PR] at h8
      obtain ⟨blk', e3, e4⟩ := h8
      have h9 := hst'.ext j blk' e3
      rw [h9] at e1
      cases e1
      rw [e2, e4])
    show Leaves P fn a.tmps _ a.defers (.panicking _) w'
    rw [hdf]
    refine leaves_cons (f := g) (args := #[] ++ vc) (by simp) (hinv w') ?_
    refine (hrec (#[] ++ vc) w' w'' (by simp [hvc, hcl]) (by simpa using h4)).mono ?_
    rintro e u' w3 ⟨⟨v', rfl⟩, rfl, rfl⟩
    obtain ⟨v, h7, h8⟩ := fin _ s' a a _ rfl h6 h5
    exact ⟨v, h7, h8⟩
  · obtain ⟨hex, hret⟩ := hq
    have hdf : a.defers = [{ target := .fn (.func g) vc, args := #[] }] := by obtain ⟨_, _, _, h'⟩ := hse; exact h'.defers
    have main : Leaves P fn a.tmps (fun e w' => ∃ v I', e = .returned v ∧ w.grownBy w' none ∧ (∀ b o, I b o → I' b o) ∧
        (∀ b o, I' b o → I b o ∨ (w.heap.size ≤ b ∧ b < w'.heap.size)) ∧ RetR (fun b => w.heap.size ≤ b) I' w' v r) a.defers .returning w' := by
      rw [hdf]
      refine leaves_cons (f := g) (args := #[] ++ vc) (by simp) (hinv w') ?_
      refine (hcall (#[] ++ vc) w' (by simp [hvc, hcl])).mono ?_
      rintro e u' w'' ⟨⟨v', rfl⟩, rfl, rfl⟩
      obtain ⟨v, h7, h8⟩ := fin _ s a a _ rfl hse hret
      exact ⟨v, h7, h8⟩
    cases e with
    | normal => exact main
    | exit i => exact hex.elim
    | ret => exact main

/-- A function that does not panic, by conditions of a text that might. -/
theorem FnOK_ofP {f : FuncId} {fn : Func} {c : Code} {args : List V} {r : V} (z : Bool) (tr : List Nat) (hm : P.follows .mixedOrders = true) (hf : P.funcs[f]? = some fn) (hb : fn.body = some c) (hname : (fn.name == "runtime.NumGoroutine") = false)
    (hn : args.length ≤ fn.ntmps) (hck : cokP fn.ntmps tr c = true)
    (hr : r.out = true) (hcomp : r.compT = true) {k0 : Nat}
    (h : pwpK P G tr k0 (fun _ _ => False) c (fun e s => (match e with | .exit _ => False | _ => True) ∧ retV P z s r fn.results.toList) (initS args)) : FnOK P G f args r := by
  refine ⟨⟨fn, hf, hname, c, hb⟩, fun I w vs hI hg hsz ha => ?_⟩
  have hsize : fn.ntmps = (vs ++ Array.replicate (fn.ntmps - vs.size) undef).size := by simp; omega
  have hst := St.init (n := fn.ntmps) hI hg hsz ha hsize
  refine calls_of_wp hf hb (pwpK_sound (Q := fun _ _ _ => False) hm (fun _ _ h => by cases h) _ (fun v s a w' hq hse => hq.elim) c hck _ _ (fun e s a w' hq hse => ?_) (fun _ _ _ h => h.elim) _ _ _ h ⟨_, _, _, hst⟩)
  obtain ⟨hex, hret⟩ := hq
  obtain ⟨I', β, ob, hst'⟩ := hse
  have hwr : ∀ b, Wr ⟨fun _ => False, fun _ => none, []⟩ w b → w.heap.size ≤ b := fun b hb => by rcases hb with hb | hb; exact hb; exact hb.elim
  have main : a.defers = [] ∧ ∃ v, (results fn a.tmps).run P w' = .ok v w' ∧ ∃ v' I'', (Ending.returned v = .returned v') ∧ w.grownBy w' none ∧ (∀ b o, I b o → I'' b o) ∧
      (∀ b o, I'' b o → I b o ∨ (w.heap.size ≤ b ∧ b < w'.heap.size)) ∧ RetR (fun b => w.heap.size ≤ b) I'' w' v' r := by
    refine ⟨hst'.defers, ?_⟩
    obtain ⟨v, o', h1, h2, h3⟩ := run_ret_ok (P := P) (fn := fn) hst' hcomp (Ic := fun b o => I' b o ∨ (z = true ∧ ∃ i, β i = some b)) (fun hz => by subst hz; simp) (fun _ _ h => .inl h) (fun hz i b o hi => .inr ⟨hz, i, hi⟩) hret
    refine ⟨v, h1, v, (fun b o => I' b o ∨ (z = true ∧ ∃ i, β i = some b)), rfl, ⟨hst'.below.os, hst'.below.tape, hst'.below.output, hst'.below.size, fun k hk _ => hst'.below.block k hk (fun e => e.elim)⟩, fun b o h => .inl (hst'.ilow b o h), fun b o hbo => ?_, o', ?_, fun b hb => ?_⟩
    · rcases hbo with hbo | ⟨_, i, hi⟩
      · rcases hst'.ihigh b o hbo with h4 | h4
        · exact .inl h4
        · exact .inr ⟨hwr b h4, hst'.ibnd b o hbo⟩
      · obtain ⟨_, h5, h6⟩ := hst'.boxblk hi
        exact .inr ⟨hwr b h5, h6⟩
    · have h2' := h2.leave hr (β' := fun _ => none)
      have e : Wr ⟨fun _ => False, fun _ => none, []⟩ w = fun b => w.heap.size ≤ b := by funext b; simp [Wr]
      rw [e] at h2'
      exact h2'
    · obtain ⟨L, hL⟩ := h3 b hb
      obtain ⟨h4, h5⟩ := hst'.obnd _ b hL
      exact ⟨hwr b h5, h4⟩
  cases e with
  | normal => exact main
  | exit i => exact hex.elim
  | ret => exact main

/-! How the conditions are computed. -/
section
variable {fr : Nat → V} {bx : Nat → List V} {nb : Nat} {K : S → Prop} {KP : Value → S → Prop} {Q : VE → S → Prop}

def pwp (P : Program) (G : Gl) (tr : List Nat) (KP : Value → S → Prop) : Code → (VE → S → Prop) → S → Prop := pwpK P G tr (extK tr) KP
def pseqK (P : Program) (G : Gl) (tr : List Nat) (KP : Value → S → Prop) (b : Code) (Q : VE → S → Prop) (e : VE) (s : S) : Prop := match e with | .normal => pwp P G tr KP b Q s | e => Q e s
def pcond (P : Program) (G : Gl) (tr : List Nat) (KP : Value → S → Prop) (v : V) (c : Operand) (x y : Code) (Q : VE → S → Prop) (s : S) : Prop := match v with
  | .c (.lit (.bool p)) => (p = true → pwp P G tr KP x Q (refine s c true)) ∧ (p = false → pwp P G tr KP y Q (refine s c false))
  | _ => False
def popK (P : Program) (G : Gl) (tr : List Nat) (ops : Array Oper) (r : List Oper) (K : S → Prop) (KP : Value → S → Prop) (s : S) : Prop := pops P G tr ops r s K KP
/-- May it panic? -/
def canPan : Op → Bool
  | .makeInterface _ _ => true
  | .call { callee := .value _, .. } => true
  | _ => false
def pstep (P : Program) (G : Gl) (tr : List Nat) (ops : Array Oper) (o : Oper) (r : List Oper) (K : S → Prop) (KP : Value → S → Prop) (s : S) : Bool → Prop
  | false => vops P G tr ops [o] s (popK P G tr ops r K KP)
  | true => vops P G tr ops [o] s (popK P G tr ops r K KP) ∨ (o.guard = none ∧ vpan P G s o r KP)

/-- What is asked behind the parting. -/
def splK (P : Program) (G : Gl) (tr : List Nat) (ops : Array Oper) (K : S → Prop) (KP : Value → S → Prop) (d : Bool) (s : S) : Prop := if d then vops P G tr ops ops.toList s K ∨ pdraw P G tr ops s KP else pops P G tr ops ops.toList s K KP
theorem splK_mk {ops : Array Oper} {d : Bool} : splK P G tr ops K KP d ⟨fr, bx, nb⟩ = if d then vops P G tr ops ops.toList ⟨fr, bx, nb⟩ K ∨ pdraw P G tr ops ⟨fr, bx, nb⟩ KP else pops P G tr ops ops.toList ⟨fr, bx, nb⟩ K KP := rfl
theorem isSp_mk {i : Nat} : isSp tr i = tr.contains (2300000 + i) := rfl
theorem prun_region {i : Nat} {ops : Array Oper} {d : Bool} : pwp P G tr KP (.region i ops d) Q ⟨fr, bx, nb⟩ = if isPn tr i then (if isSp tr i then spl tr i ops ⟨fr, bx, nb⟩ (splK P G tr ops (Q .normal) KP d) else splK P G tr ops (Q .normal) KP d ⟨fr, bx, nb⟩) else vwp P G tr (.region i ops d) Q ⟨fr, bx, nb⟩ := by
  show (if isPn tr i then spl tr i ops ⟨fr, bx, nb⟩ (splK P G tr ops (Q .normal) KP d) else vwp P G tr (.region i ops d) Q ⟨fr, bx, nb⟩) = _
  congr 1
  unfold spl
  split <;> rfl
/-- The parting. -/
theorem spl_of {i : Nat} {ops : Array Oper} {s : S} (b k q : Nat) {E : Option (TypeId × Nat)} {es : List (List C)} (hi : isSp tr i = true) (hb : b < s.nb) (hk : (s.bx b)[k]? = some (.ow E es)) (hq : (ops.toList.any fun o => o.dst == some q) = true) (h : ∀ v, K (s.split b k q v E es)) : spl tr i ops s K := by
  unfold spl
  rw [if_pos hi]
  exact ⟨b, k, q, E, es, ⟨hb, hk, hq⟩, h⟩
theorem isPn_mk {i : Nat} : isPn tr i = tr.contains (2900000 + i) := rfl
theorem dfrLX_mk {t : Nat} {g : FuncId} {k m : Nat} {rest : Code} {r : V} {rs : List ResultVar} {s : S} : dfrLX P G tr t g k rest r rs m s = (∃ cs, (s.fr t = .clo (.func g) [] cs ∧ cs.length = k) ∧ s.nb = extK tr ∧ pwp P G tr (recX P G tr g k cs r rs m) rest (endK P false r rs) s) := rfl
theorem prun_seq {a b : Code} : pwp P G tr KP (.seq a b) Q ⟨fr, bx, nb⟩ = pwp P G tr KP a (pseqK P G tr KP b Q) ⟨fr, bx, nb⟩ := rfl
theorem prun_skip : pwp P G tr KP .skip Q ⟨fr, bx, nb⟩ = Q .normal ⟨fr, bx, nb⟩ := rfl
theorem prun_ret : pwp P G tr KP .ret Q ⟨fr, bx, nb⟩ = Q .ret ⟨fr, bx, nb⟩ := rfl
theorem prun_exit {i : Nat} : pwp P G tr KP (.exit i) Q ⟨fr, bx, nb⟩ = Q (.exit i) ⟨fr, bx, nb⟩ := rfl
theorem prun_label {i : Nat} : pwp P G tr KP (.label i) Q ⟨fr, bx, nb⟩ = Q .normal ⟨fr, bx, nb⟩ := rfl
theorem prun_scope {a : Code} : pwp P G tr KP (.scope a) Q ⟨fr, bx, nb⟩ = pwp P G tr KP a Q ⟨fr, bx, nb⟩ := rfl
theorem prun_block {i : Nat} {a : Code} : pwp P G tr KP (.block i a) Q ⟨fr, bx, nb⟩ = pwp P G tr KP a (blkK i Q) ⟨fr, bx, nb⟩ := rfl
theorem prun_cond {c : Operand} {x y : Code} : pwp P G tr KP (.cond c x y) Q ⟨fr, bx, nb⟩ = pcond P G tr KP (ev G ⟨fr, bx, nb⟩ c) c x y Q ⟨fr, bx, nb⟩ := rfl
theorem prun_cond_true {c : Operand} {x y : Code} : pcond P G tr KP (.c (.lit (.bool true))) c x y Q ⟨fr, bx, nb⟩ = pwp P G tr KP x Q (refine ⟨fr, bx, nb⟩ c true) := by simp [pcond]
theorem prun_cond_false {c : Operand} {x y : Code} : pcond P G tr KP (.c (.lit (.bool false))) c x y Q ⟨fr, bx, nb⟩ = pwp P G tr KP y Q (refine ⟨fr, bx, nb⟩ c false) := by simp [pcond]
theorem pcond_of {c : Operand} {x y : Code} {p : Bool} {s : S} (h1 : p = true → pwp P G tr KP x Q (refine s c true)) (h2 : p = false → pwp P G tr KP y Q (refine s c false)) :
    pcond P G tr KP (.c (.lit (.bool p))) c x y Q s := ⟨h1, h2⟩
theorem pseqK_normal {b : Code} {s : S} : pseqK P G tr KP b Q .normal s = pwp P G tr KP b Q s := rfl
theorem pseqK_ret {b : Code} {s : S} : pseqK P G tr KP b Q .ret s = Q .ret s := rfl
theorem pseqK_exit {b : Code} {s : S} {i : Nat} : pseqK P G tr KP b Q (.exit i) s = Q (.exit i) s := rfl
theorem pops_nil {ops : Array Oper} : pops P G tr ops [] ⟨fr, bx, nb⟩ K KP = K ⟨fr, bx, nb⟩ := rfl
theorem pops_op {ops : Array Oper} {d : Option Tmp} {op : Op} {ty : TypeId} {pos : String} {af : Array Edge} {g : Option (Nat × Bool)} {r : List Oper} :
    pops P G tr ops (⟨d, op, ty, pos, af, g⟩ :: r) ⟨fr, bx, nb⟩ K KP = pstep P G tr ops ⟨d, op, ty, pos, af, g⟩ r K KP ⟨fr, bx, nb⟩ (canPan op) := by
  have gen : canPan op = false → pops P G tr ops (⟨d, op, ty, pos, af, g⟩ :: r) ⟨fr, bx, nb⟩ K KP = vops P G tr ops [⟨d, op, ty, pos, af, g⟩] ⟨fr, bx, nb⟩ (popK P G tr ops r K KP) := fun h => by
    refine propext ⟨fun hh => ?_, fun hh => .inl hh⟩
    rcases hh with hh | ⟨_, hh⟩
    · exact hh
    · exfalso
      unfold vpan at hh
      unfold canPan at h
      split at hh <;> first | exact hh | (rename_i e; simp only at e; rw [e] at h; cases h)
  cases h : canPan op with
  | false => exact gen h
  | true => rfl
theorem pstep_no {ops : Array Oper} {o : Oper} {r : List Oper} : pstep P G tr ops o r K KP ⟨fr, bx, nb⟩ false = vops P G tr ops [o] ⟨fr, bx, nb⟩ (popK P G tr ops r K KP) := rfl
theorem pstep_yes {ops : Array Oper} {o : Oper} {r : List Oper} : pstep P G tr ops o r K KP ⟨fr, bx, nb⟩ true = (vops P G tr ops [o] ⟨fr, bx, nb⟩ (popK P G tr ops r K KP) ∨ (o.guard = none ∧ vpan P G ⟨fr, bx, nb⟩ o r KP)) := rfl
theorem popK_mk {ops : Array Oper} {r : List Oper} : popK P G tr ops r K KP ⟨fr, bx, nb⟩ = pops P G tr ops r ⟨fr, bx, nb⟩ K KP := rfl
theorem pkX : type_of% (And.intro @prun_region (And.intro @isPn_mk (And.intro @isSp_mk (And.intro @splK_mk (And.intro @prun_seq (And.intro @prun_skip (And.intro @prun_ret (And.intro @prun_exit (And.intro @prun_label (And.intro @prun_scope (And.intro @prun_block (And.intro @prun_cond (And.intro @prun_cond_true (And.intro @prun_cond_false (And.intro @pseqK_normal (And.intro @pseqK_ret (And.intro @pseqK_exit (And.intro @pops_nil (And.intro @pops_op (And.intro @pstep_no (And.intro @pstep_yes (@popK_mk)))))))))))))))))))))) := And.intro @prun_region (And.intro @isPn_mk (And.intro @isSp_mk (And.intro @splK_mk (And.intro @prun_seq (And.intro @prun_skip (And.intro @prun_ret (And.intro @prun_exit (And.intro @prun_label (And.intro @prun_scope (And.intro @prun_block (And.intro @prun_cond (And.intro @prun_cond_true (And.intro @prun_cond_false (And.intro @pseqK_normal (And.intro @pseqK_ret (And.intro @pseqK_exit (And.intro @pops_nil (And.intro @pops_op (And.intro @pstep_no (And.intro @pstep_yes (@popK_mk)))))))))))))))))))))

theorem prun_loop {α : Type} (hd : α → S) (m : α → Nat) (Inv : α → Prop) {body : Code} (x : α) (hx : Inv x) (hle : S.Le (extK tr) (hd x) ⟨fr, bx, nb⟩)
    (hb : ∀ x, Inv x → ∀ R : VE → S → Prop, (∀ y s', Inv y → m y < m x → S.Le (extK tr) (hd y) s' → R .normal s') → (∀ i s', Q (.exit i) s' → R (.exit i) s') → (∀ s', Q .ret s' → R .ret s') → pwp P G tr KP body R (hd x)) :
    pwp P G tr KP (.loop body) Q ⟨fr, bx, nb⟩ :=
  ⟨m x + 1, vrounds_by hb _ x _ hx (Nat.lt_succ_self _) hle⟩

/-- A value is made for an interface, and panics. -/
theorem pan_ifc {T ty ty' : TypeId} {d : Nat} {x : Operand} {u : Value} {pos pos' : String} {af af' : Array Edge} {d' : Option Tmp} {A : Prop} {s : S} (hT : ifcOk P T) (hx : ev G s x = .c (.lit u)) (h : KP (.iface T u) (s.put (some d) .un)) :
    A ∨ vpan P G s ⟨some d, .makeInterface T x, ty, pos, af, none⟩ [⟨d', .panic (.tmp d), ty', pos', af', none⟩] KP := by
  refine .inr ?_
  unfold vpan
  simp only [hx]
  refine ⟨⟨hT, ?_, ?_⟩, h⟩ <;> trivial

/-- A call that panics, whose one box is one of the caller's. -/
theorem pan_one {s : S} {d : Option Tmp} {ty : TypeId} {pos : String} {af : Array Edge} {gd : Option (Nat × Bool)} {r : List Oper} {f : Operand} {args : Array Operand} {ts : Array TypeId} {g : FuncId} {all cargs : List V} {pv : Value} {c0 c1 : List C} {A : Prop} (q : Nat)
    (hc : calleeV (ev G s f) (args.toList.map (ev G s)) = some (g, all)) (hf : FnX P G g cargs [c0.map .c] pv [c1.map .c]) (hall : all.map V.fz = cargs.map (V.ren (rho [q] s.nb))) (hq : q < s.nb) (hb : s.bx q = c0.map .c)
    (hK : KP pv ⟨s.fr, up s.bx q (c1.map .c), s.nb⟩) : A ∨ vpan P G s ⟨d, .call { callee := .value f, args := args, argTypes := ts }, ty, pos, af, gd⟩ r KP := by
  have hm : ∀ (ρ : Nat → Nat) (l : List C), (l.map V.c).map (V.ren ρ) = l.map .c := fun ρ l => by
    rw [List.map_map]; rfl
  have h0 : rho [q] s.nb 0 = q := rfl
  refine .inr ?_
  unfold vpan
  simp only [hc]
  refine ⟨[q], cargs, [c0.map .c], pv, [c1.map .c], hf, hall, ⟨rfl, by simp⟩, ⟨⟨by rw [h0]; exact hq, by rw [h0, hm]; exact hb⟩, trivial⟩, ?_⟩
  have e : setBx (rho [q] s.nb) 0 [c1.map .c] s.bx = up s.bx q (c1.map .c) := by
    simp only [setBx, hm, h0]
  rw [e]
  exact hK

theorem FnX_by {f : FuncId} {fn : Func} {c : Code} {args : List V} {b0 b1 : List (List V)} {pv : Value} (tr : List Nat) (hm : P.follows .mixedOrders = true) (hf : P.funcs[f]? = some fn) (hb : fn.body = some c) (hname : (fn.name == "runtime.NumGoroutine") = false)
    {n : Nat} (hn : fn.ntmps = n) (hck : cokP n tr c = true) (hlen : args.length ≤ n) {k : Nat} (hk : extK tr = k) (hk0 : b0.length = k)
    (hargs : xargsOk args b0 = true) (hle : b0.length ≤ b1.length)
    (h : pwp P G tr (endX k pv b1) c (fun _ _ => False) ⟨frm 0 args, bxs b0, k⟩) : FnX P G f args b0 pv b1 := by
  subst hn
  subst hk0
  simp only [xargsOk, Bool.and_eq_true, List.all_eq_true] at hargs
  refine FnX_ofK tr hm hf hb hname hlen hck ⟨fun x hx => V.ltB_ok (hargs.1 x hx), fun b hb x hx => V.ltB_ok (hargs.2 b hb x hx), hle⟩ ?_
  unfold pwp at h
  rw [hk] at h
  rw [frm_eq] at h; exact h

/-- The end of a function that panics. -/
theorem end_X {k : Nat} {pv : Value} {b1 : List (List V)} (hk : k ≤ b1.length) (hok : leOk [] b1 = true) (hn : b1.length ≤ nb) (h2 : BL 0 b1 bx) : endX k pv b1 pv ⟨fr, bx, nb⟩ :=
  ⟨rfl, [], le_hd hok hk hn trivial h2⟩

theorem FnOK_byP {f : FuncId} {fn : Func} {c : Code} {args : List V} {r : V} (z : Bool) (tr : List Nat) (hm : P.follows .mixedOrders = true) (hf : P.funcs[f]? = some fn) (hb : fn.body = some c) (hname : (fn.name == "runtime.NumGoroutine") = false)
    {rs : List ResultVar} (hrs : fn.results.toList = rs) {n : Nat} (hn : fn.ntmps = n) (hck : cokP n tr c = true) (hlen : args.length ≤ n)
    (hr : r.out = true) (hcomp : r.compT = true)
    (h : pwp P G tr (fun _ _ => False) c (endK P z r rs) ⟨frm 0 args, fun _ => [], 0⟩) : FnOK P G f args r := by
  subst hn
  subst hrs
  refine FnOK_ofP (k0 := extK tr) z tr hm hf hb hname hlen hck hr hcomp ?_
  rw [initS_eq]; exact h

theorem FnOK_byX {f g : FuncId} {t : Nat} {fn : Func} {id : Nat} {r0 rest : Code} {o1 o2 : Oper} {args : List V} {r : V} (k : Nat) (tr : List Nat) (hm : P.follows .mixedOrders = true) (hf : P.funcs[f]? = some fn)
    (hb : fn.body = some (.seq r0 (.seq (.region id #[o1, o2] false) rest))) (hname : (fn.name == "runtime.NumGoroutine") = false) {rs : List ResultVar} (hrs : fn.results.toList = rs) {n : Nat} (hnt : fn.ntmps = n)
    (hn : args.length ≤ n) (hck : cok n tr r0 = true) (hck2 : cokP n tr rest = true) (h1 : o1.guard = none ∧ o1.dst = some t ∧ t < n)
    (h2 : o2.guard = none ∧ o2.dst = none ∧ o2.op = .defer { callee := .value (.tmp t), args := #[], argTypes := #[] }) (hidle : IdleD P g k)
    (hr : r.out = true) (hcomp : r.compT = true)
    (h : vwp P G tr r0 (dfrKX P G tr o1 t g k rest r rs n) ⟨frm 0 args, fun _ => [], 0⟩) : FnOK P G f args r := by
  subst hnt
  subst hrs
  refine FnOK_ofX (t := t) (g := g) k tr hm hf hb hname hn hck hck2 h1 h2 hidle hr hcomp ?_
  rw [initS_eq]; exact h

end
end
end Go.Vl

