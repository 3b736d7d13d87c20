/- Values without memory: how the conditions are computed: each law fires at a state that is written out, so that what follows stays as it is until its turn comes. -/
import Derived.Test.YtkbkajabchhbeaaDoorVlFn
set_option linter.unusedSimpArgs false
set_option linter.unusedVariables false
namespace Go.Vl
open Go Go.RowKit
section
variable {P : Program} {G : Gl} {tr : List Nat} {fr : Nat → V} {bx : Nat → List V} {nb k0 : Nat} {K : S → Prop} {KV : V → Prop} {Q : VE → S → Prop}
def opsK (P : Program) (G : Gl) (tr : List Nat) (ops : Array Oper) (r : List Oper) (K : S → Prop) (s : S) : Prop := vops P G tr ops r s K
def seqK (P : Program) (G : Gl) (tr : List Nat) (k0 : Nat) (b : Code) (Q : VE → S → Prop) (e : VE) (s : S) : Prop := match e with | .normal => vwpK P G tr k0 b Q s | e => Q e s
def blkK (id : Nat) (Q : VE → S → Prop) (e : VE) (s : S) : Prop := match e with | .exit i => if i = id then Q .normal s else Q (.exit i) s | e => Q e s
def vcond (P : Program) (G : Gl) (tr : List Nat) (k0 : Nat) (v : V) (c : Operand) (x y : Code) (Q : VE → S → Prop) (s : S) : Prop := match v with
 | .c (.lit (.bool p)) => (p = true → vwpK P G tr k0 x Q (refine s c true)) ∧ (p = false → vwpK P G tr k0 y Q (refine s c false))
 | _ => False
def vgd (P : Program) (G : Gl) (tr : List Nat) (ops : Array Oper) (o : Oper) (r : List Oper) (K : S → Prop) (d : Option Tmp) (v : V) (want : Bool) (s : S) : Prop := match d with
 | some d => match v with
  | .c (.lit (.bool p)) => (p = want → VStep P G tr o { s with fr := up s.fr d (.c (.lit (.bool want))) } (opsK P G tr ops r K)) ∧
    (p = (!want) → vops P G tr ops r (({ s with fr := up s.fr d (.c (.lit (.bool (!want)))) } : S).put o.dst .sk) K)
  | .sk => vops P G tr ops r (s.put o.dst .sk) K
  | _ => False
 | none => False
def slotOf (s : S) : Option Tmp → V
 | some d => s.fr d
 | none => .un
def fzK (P : Program) (G : Gl) (tr : List Nat) (k0 : Nat) (id : Nat) (ops : Array Oper) (Q : VE → S → Prop) (s : S) : Prop := ∃ s', S.Fz (k0) s' s ∧ vtw P G tr id ops s' (Q .normal)
def splN (P : Program) (G : Gl) (tr : List Nat) (ops : Array Oper) (K : S → Prop) (s : S) : Prop := vops P G tr ops ops.toList s K
theorem splN_mk {ops : Array Oper} : splN P G tr ops K ⟨fr, bx, nb⟩ = vops P G tr ops ops.toList ⟨fr, bx, nb⟩ K := rfl
theorem isSp_mk {i : Nat} : isSp tr i = tr.contains (2300000 + i) := rfl
theorem isSp_nil {i : Nat} : isSp [] i = false := rfl
theorem run_region {i : Nat} {ops : Array Oper} {d : Bool} : vwpK P G tr k0 (.region i ops d) Q ⟨fr, bx, nb⟩ = if isPa tr i then vpa P G tr i ops (Q .normal) ⟨fr, bx, nb⟩ else if isFz tr i then fzK P G tr k0 i ops Q ⟨fr, bx, nb⟩ else if isSp tr i then spl tr i ops ⟨fr, bx, nb⟩ (splN P G tr ops (Q .normal)) else vops P G tr ops ops.toList ⟨fr, bx, nb⟩ (Q .normal) := by
 show (if isPa tr i then _ else if isFz tr i then _ else spl tr i ops ⟨fr, bx, nb⟩ _) = _
 congr 1
 congr 1
 unfold spl
 split <;> rfl
theorem isPa_nil {i : Nat} : isPa [] i = false := rfl
theorem isPa_mk {i : Nat} : isPa tr i = tr.contains (2850000 + i) := rfl
theorem isFz_mk {i : Nat} : isFz tr i = tr.contains (2600000 + i) := rfl
theorem run_seq {a b : Code} : vwpK P G tr k0 (.seq a b) Q ⟨fr, bx, nb⟩ = vwpK P G tr k0 a (seqK P G tr k0 b Q) ⟨fr, bx, nb⟩ := rfl
theorem run_skipC : vwpK P G tr k0 .skip Q ⟨fr, bx, nb⟩ = Q .normal ⟨fr, bx, nb⟩ := rfl
theorem run_ret : vwpK P G tr k0 .ret Q ⟨fr, bx, nb⟩ = Q .ret ⟨fr, bx, nb⟩ := rfl
theorem run_exit {i : Nat} : vwpK P G tr k0 (.exit i) Q ⟨fr, bx, nb⟩ = Q (.exit i) ⟨fr, bx, nb⟩ := rfl
theorem run_scope {a : Code} : vwpK P G tr k0 (.scope a) Q ⟨fr, bx, nb⟩ = vwpK P G tr k0 a Q ⟨fr, bx, nb⟩ := rfl
theorem run_label {i : Nat} : vwpK P G tr k0 (.label i) Q ⟨fr, bx, nb⟩ = Q .normal ⟨fr, bx, nb⟩ := rfl
theorem run_block {i : Nat} {a : Code} : vwpK P G tr k0 (.block i a) Q ⟨fr, bx, nb⟩ = vwpK P G tr k0 a (blkK i Q) ⟨fr, bx, nb⟩ := rfl
theorem run_cond {c : Operand} {x y : Code} : vwpK P G tr k0 (.cond c x y) Q ⟨fr, bx, nb⟩ = vcond P G tr k0 (ev G ⟨fr, bx, nb⟩ c) c x y Q ⟨fr, bx, nb⟩ := rfl
theorem run_cond_true {c : Operand} {x y : Code} : vcond P G tr k0 (.c (.lit (.bool true))) c x y Q ⟨fr, bx, nb⟩ = vwpK P G tr k0 x Q (refine ⟨fr, bx, nb⟩ c true) := by simp [vcond]
theorem run_cond_false {c : Operand} {x y : Code} : vcond P G tr k0 (.c (.lit (.bool false))) c x y Q ⟨fr, bx, nb⟩ = vwpK P G tr k0 y Q (refine ⟨fr, bx, nb⟩ c false) := by simp [vcond]
theorem vcond_of {c : Operand} {x y : Code} {p : Bool} {s : S} (h1 : p = true → vwpK P G tr k0 x Q (refine s c true)) (h2 : p = false → vwpK P G tr k0 y Q (refine s c false)) :
  vcond P G tr k0 (.c (.lit (.bool p))) c x y Q s := ⟨h1, h2⟩
theorem seqK_normal {b : Code} {s : S} : seqK P G tr k0 b Q .normal s = vwpK P G tr k0 b Q s := rfl
theorem seqK_ret {b : Code} {s : S} : seqK P G tr k0 b Q .ret s = Q .ret s := rfl
theorem seqK_exit {b : Code} {s : S} {i : Nat} : seqK P G tr k0 b Q (.exit i) s = Q (.exit i) s := rfl
theorem blkK_normal {id : Nat} {s : S} : blkK id Q .normal s = Q .normal s := rfl
theorem blkK_ret {id : Nat} {s : S} : blkK id Q .ret s = Q .ret s := rfl
theorem blkK_exit {id i : Nat} {s : S} : blkK id Q (.exit i) s = if i = id then Q .normal s else Q (.exit i) s := rfl
theorem refine_tmp {t : Tmp} {p : Bool} : refine ⟨fr, bx, nb⟩ (.tmp t) p = ⟨up fr t (.c (.lit (.bool p))), bx, nb⟩ := rfl
theorem run_nil {ops : Array Oper} : vops P G tr ops [] ⟨fr, bx, nb⟩ K = K ⟨fr, bx, nb⟩ := rfl
theorem run_op {ops : Array Oper} {d : Option Tmp} {op : Op} {ty : TypeId} {pos : String} {af : Array Edge} {r : List Oper} :
  vops P G tr ops (⟨d, op, ty, pos, af, none⟩ :: r) ⟨fr, bx, nb⟩ K = VStep P G tr ⟨d, op, ty, pos, af, none⟩ ⟨fr, bx, nb⟩ (opsK P G tr ops r K) := rfl
theorem run_opg {ops : Array Oper} {d : Option Tmp} {op : Op} {ty : TypeId} {pos : String} {af : Array Edge} {j : Nat} {w : Bool} {r : List Oper} :
  vops P G tr ops (⟨d, op, ty, pos, af, some (j, w)⟩ :: r) ⟨fr, bx, nb⟩ K =
   vgd P G tr ops ⟨d, op, ty, pos, af, some (j, w)⟩ r K ((ops[j]?).bind (·.dst)) (slotOf ⟨fr, bx, nb⟩ ((ops[j]?).bind (·.dst))) w ⟨fr, bx, nb⟩ := by
 simp only [vops, vguard, vgd]
 cases hd : (ops[j]?).bind (·.dst) with
 | none => rfl
 | some d => rfl
theorem vgd_yes {ops : Array Oper} {o : Oper} {r : List Oper} {d : Tmp} {w : Bool} : vgd P G tr ops o r K (some d) (.c (.lit (.bool w))) w ⟨fr, bx, nb⟩ = VStep P G tr o ⟨up fr d (.c (.lit (.bool w))), bx, nb⟩ (opsK P G tr ops r K) := by
 simp [vgd]
theorem vgd_tf {ops : Array Oper} {o : Oper} {r : List Oper} {d : Tmp} : vgd P G tr ops o r K (some d) (.c (.lit (.bool true))) false ⟨fr, bx, nb⟩ = vops P G tr ops r ((⟨up fr d (.c (.lit (.bool true))), bx, nb⟩ : S).put o.dst .sk) K := by
 simp [vgd]
theorem vgd_ft {ops : Array Oper} {o : Oper} {r : List Oper} {d : Tmp} : vgd P G tr ops o r K (some d) (.c (.lit (.bool false))) true ⟨fr, bx, nb⟩ = vops P G tr ops r ((⟨up fr d (.c (.lit (.bool false))), bx, nb⟩ : S).put o.dst .sk) K := by
 simp [vgd]
theorem vgd_sk {ops : Array Oper} {o : Oper} {r : List Oper} {d : Tmp} {w : Bool} : vgd P G tr ops o r K (some d) .sk w ⟨fr, bx, nb⟩ = vops P G tr ops r ((⟨fr, bx, nb⟩ : S).put o.dst .sk) K := rfl
theorem vgd_of {ops : Array Oper} {o : Oper} {r : List Oper} {d : Tmp} {w p : Bool} {s : S} (h1 : p = w → VStep P G tr o { s with fr := up s.fr d (.c (.lit (.bool w))) } (opsK P G tr ops r K))
  (h2 : p = (!w) → vops P G tr ops r (({ s with fr := up s.fr d (.c (.lit (.bool (!w)))) } : S).put o.dst .sk) K) : vgd P G tr ops o r K (some d) (.c (.lit (.bool p))) w s := ⟨h1, h2⟩
theorem slotOf_some {d : Tmp} : slotOf ⟨fr, bx, nb⟩ (some d) = fr d := rfl
theorem opsK_mk {ops : Array Oper} {r : List Oper} : opsK P G tr ops r K ⟨fr, bx, nb⟩ = vops P G tr ops r ⟨fr, bx, nb⟩ K := rfl
theorem put_some {d : Nat} {v : V} : (⟨fr, bx, nb⟩ : S).put (some d) v = ⟨up fr d v, bx, nb⟩ := rfl
theorem put_none {v : V} : (⟨fr, bx, nb⟩ : S).put none v = ⟨fr, bx, nb⟩ := rfl
section
variable {d : Nat} {dO : Option Tmp} {t : Tmp} {ty T : TypeId} {pos : String} {af : Array Edge} {g : Option (Nat × Bool)}
theorem st_move : VStep P G tr ⟨some d, .move (.tmp t), ty, pos, af, g⟩ ⟨fr, bx, nb⟩ K = if tr.contains d then K (((⟨fr, bx, nb⟩ : S).use (some t)).put (some d) (fr t)) else K ⟨up fr d (fr t).fz, bx, nb⟩ := by
 simp only [VStep, VYK, inTr, ev]
 split
 ·rename_i h; simp only [S.after, consT, inTr, h, if_true]
 ·rename_i h; simp only [S.after, consT, inTr, h]; rfl
theorem st_move_const {v : Value} : VStep P G tr ⟨some d, .move (.const v), ty, pos, af, g⟩ ⟨fr, bx, nb⟩ K = if tr.contains d then K ⟨up fr d (constV v), bx, nb⟩ else K ⟨up fr d (constV v).fz, bx, nb⟩ := rfl
theorem st_assign : VStep P G tr ⟨some d, .assign (.tmp t), ty, pos, af, g⟩ ⟨fr, bx, nb⟩ K = K (((⟨fr, bx, nb⟩ : S).use (some t)).put (some d) (fr t)) := rfl
theorem st_assign_const {v : Value} : VStep P G tr ⟨some d, .assign (.const v), ty, pos, af, g⟩ ⟨fr, bx, nb⟩ K = K ⟨up fr d (constV v), bx, nb⟩ := rfl
def pickV (c a b : V) (K : V → Prop) : Prop := match c with
 | .c (.lit (.bool p)) => K (if p then a.fz else b.fz)
 | _ => False
def putK (dO : Option Tmp) (s : S) (K : S → Prop) (v : V) : Prop := K (s.put dO v)
theorem putK_mk {v : V} : putK (some d) ⟨fr, bx, nb⟩ K v = K ⟨up fr d v, bx, nb⟩ := rfl
theorem putK_none {v : V} : putK none ⟨fr, bx, nb⟩ K v = K ⟨fr, bx, nb⟩ := rfl
theorem st_pick' {c a b : Operand} : VStep P G tr ⟨dO, .pick c a b, ty, pos, af, g⟩ ⟨fr, bx, nb⟩ K = pickV (ev G ⟨fr, bx, nb⟩ c) (ev G ⟨fr, bx, nb⟩ a) (ev G ⟨fr, bx, nb⟩ b) (putK dO ⟨fr, bx, nb⟩ K) := rfl
theorem pickV_true {a b : V} : pickV (.c (.lit (.bool true))) a b KV = KV a.fz := rfl
theorem pickV_false {a b : V} : pickV (.c (.lit (.bool false))) a b KV = KV b.fz := rfl
theorem st_bin {op : BinOp} {x : Operand} {t : Tmp} {yT : TypeId} : VStep P G tr ⟨dO, .binOp op T x (.tmp t) yT, ty, pos, af, g⟩ ⟨fr, bx, nb⟩ K = vbin P op T (ev G ⟨fr, bx, nb⟩ x) (fr t) (putK dO ⟨fr, bx, nb⟩ K) := rfl
theorem st_bin_i {op : BinOp} {x : Operand} {k : IntKind} {m : Int} {yT : TypeId} : VStep P G tr ⟨dO, .binOp op T x (.const (.int k m)) yT, ty, pos, af, g⟩ ⟨fr, bx, nb⟩ K = vbin P op T (ev G ⟨fr, bx, nb⟩ x) (.c (.lit (.int k m))) (putK dO ⟨fr, bx, nb⟩ K) := rfl
theorem st_bin_b {op : BinOp} {x : Operand} {b : Bool} {yT : TypeId} : VStep P G tr ⟨dO, .binOp op T x (.const (.bool b)) yT, ty, pos, af, g⟩ ⟨fr, bx, nb⟩ K = vbin P op T (ev G ⟨fr, bx, nb⟩ x) (.c (.lit (.bool b))) (putK dO ⟨fr, bx, nb⟩ K) := rfl
theorem st_bin_s {op : BinOp} {x : Operand} {b : ByteArray} {yT : TypeId} : VStep P G tr ⟨dO, .binOp op T x (.const (.string b)) yT, ty, pos, af, g⟩ ⟨fr, bx, nb⟩ K = vbin P op T (ev G ⟨fr, bx, nb⟩ x) (.c (.lit (.string b))) (putK dO ⟨fr, bx, nb⟩ K) := rfl
theorem st_bin_nil {op : BinOp} {x : Operand} {yT : TypeId} : VStep P G tr ⟨dO, .binOp op T x (.const (.slice none 0 0)) yT, ty, pos, af, g⟩ ⟨fr, bx, nb⟩ K = vnil P op T (ev G ⟨fr, bx, nb⟩ x) (putK dO ⟨fr, bx, nb⟩ K) := rfl
theorem st_bin_np {op : BinOp} {x : Operand} {yT : TypeId} : VStep P G tr ⟨dO, .binOp op T x (.const (.pointer none)) yT, ty, pos, af, g⟩ ⟨fr, bx, nb⟩ K = vnilP P op T false (ev G ⟨fr, bx, nb⟩ x) (putK dO ⟨fr, bx, nb⟩ K) := rfl
theorem st_bin_nf {op : BinOp} {x : Operand} {yT : TypeId} : VStep P G tr ⟨dO, .binOp op T x (.const .nilFunc) yT, ty, pos, af, g⟩ ⟨fr, bx, nb⟩ K = vnilP P op T true (ev G ⟨fr, bx, nb⟩ x) (putK dO ⟨fr, bx, nb⟩ K) := rfl
theorem st_un {op : UnOp} {x : Operand} : VStep P G tr ⟨dO, .unOp op T x, ty, pos, af, g⟩ ⟨fr, bx, nb⟩ K = vun op (ev G ⟨fr, bx, nb⟩ x) (putK dO ⟨fr, bx, nb⟩ K) := rfl
def zK (dO : Option Tmp) (s : S) (K : S → Prop) (v : V) : Prop := K (s.put dO v)
theorem zK_mk {v : V} : zK dO ⟨fr, bx, nb⟩ K v = K ((⟨fr, bx, nb⟩ : S).put dO v) := rfl
theorem isZ_nil : isZ [] dO = false := by cases dO <;> rfl
theorem isZ_some : isZ tr (some d) = tr.contains (2500000 + d) := rfl
theorem isZ_none : isZ tr none = false := rfl
theorem st_load {x : Operand} : VStep P G tr ⟨dO, .load T x, ty, pos, af, g⟩ ⟨fr, bx, nb⟩ K =
  if isZ tr dO then vloadZ P T ⟨fr, bx, nb⟩ (ev G ⟨fr, bx, nb⟩ x) (zK dO ⟨fr, bx, nb⟩ K) else declV tr dO (ev G ⟨fr, bx, nb⟩ x) = true ∧ vload P T ⟨fr, bx, nb⟩ (ev G ⟨fr, bx, nb⟩ x) (putK dO ⟨fr, bx, nb⟩ K) := rfl
theorem declV_nil {t : Option Tmp} {v : V} : declV [] t v = true := by
 cases t with
 | none => cases v <;> rfl
 | some t =>
  cases v with
  | c x => cases x <;> rfl
  | _ => rfl
theorem declV_none {v : V} : declV tr none v = true := by cases v <;> rfl
theorem declV_bp {t b k : Nat} : declV tr (some t) (.bp b k) = (!tr.contains (200000 + t) || (decide (b < 100) && tr.contains (300000 + t * 100 + b))) := rfl
theorem declV_c {t : Nat} {cs : List C} {k : Nat} : declV tr (some t) (.c (.rp cs k)) = true := rfl
theorem declV_ex {t : Nat} {v : Value} : declV tr (some t) (.c (.ex v)) = !tr.contains (200000 + t) := rfl
theorem ptrT_t {t : Tmp} : ptrT (.tmp t) = some t := rfl
theorem st_fieldAddr {x : Operand} {f : Nat} : VStep P G tr ⟨dO, .fieldAddr T x f, ty, pos, af, g⟩ ⟨fr, bx, nb⟩ K = vfieldAddr P T (ev G ⟨fr, bx, nb⟩ x) f (putK dO ⟨fr, bx, nb⟩ K) := rfl
theorem st_field {x : Operand} {f : Nat} : VStep P G tr ⟨dO, .field T x f, ty, pos, af, g⟩ ⟨fr, bx, nb⟩ K = vfield P T (ev G ⟨fr, bx, nb⟩ x) f (putK dO ⟨fr, bx, nb⟩ K) := rfl
theorem st_indexAddr {x i : Operand} : VStep P G tr ⟨dO, .indexAddr T x i, ty, pos, af, g⟩ ⟨fr, bx, nb⟩ K = vindexAddr P T (ev G ⟨fr, bx, nb⟩ x).fz (ev G ⟨fr, bx, nb⟩ i) (putK dO ⟨fr, bx, nb⟩ K) := rfl
theorem st_index {x i : Operand} : VStep P G tr ⟨dO, .index T x i, ty, pos, af, g⟩ ⟨fr, bx, nb⟩ K = vindex P T (ev G ⟨fr, bx, nb⟩ x) (ev G ⟨fr, bx, nb⟩ i) (putK dO ⟨fr, bx, nb⟩ K) := rfl
theorem st_slice {x : Operand} {lo hi mx : Option Operand} : VStep P G tr ⟨dO, .slice T x lo hi mx, ty, pos, af, g⟩ ⟨fr, bx, nb⟩ K =
  vslice P T (ev G ⟨fr, bx, nb⟩ x).fz (lo.map (ev G ⟨fr, bx, nb⟩)) (hi.map (ev G ⟨fr, bx, nb⟩)) (mx.map (ev G ⟨fr, bx, nb⟩)) (putK dO ⟨fr, bx, nb⟩ K) := rfl
theorem st_convert {x : Operand} {U : TypeId} : VStep P G tr ⟨dO, .convert T U x, ty, pos, af, g⟩ ⟨fr, bx, nb⟩ K =
  if isNew tr dO then vbytes P ⟨fr, bx, nb⟩ dO T U K (ev G ⟨fr, bx, nb⟩ x) else vconv P T U (vw ⟨fr, bx, nb⟩ (ev G ⟨fr, bx, nb⟩ x)).fz (putK dO ⟨fr, bx, nb⟩ K) := rfl
theorem st_sap {x : Operand} : VStep P G tr ⟨dO, .sliceToArrayPointer T x, ty, pos, af, g⟩ ⟨fr, bx, nb⟩ K = vsap P T (ev G ⟨fr, bx, nb⟩ x) (putK dO ⟨fr, bx, nb⟩ K) := rfl
def nilchkV (x : V) (K : V → Prop) : Prop := match x with
 | .bp i o => K (.bp i o)
 | .c (.rp cs k) => K (.c (.rp cs k))
 | _ => False
theorem st_nilCheck {x : Operand} : VStep P G tr ⟨dO, .nilCheck x, ty, pos, af, g⟩ ⟨fr, bx, nb⟩ K = nilchkV (ev G ⟨fr, bx, nb⟩ x) (putK dO ⟨fr, bx, nb⟩ K) := rfl
theorem nilchk_bp {i o : Nat} : nilchkV (.bp i o) KV = KV (.bp i o) := rfl
theorem nilchk_rp {cs : List C} {k : Nat} : nilchkV (.c (.rp cs k)) KV = KV (.c (.rp cs k)) := rfl
theorem st_build {parts : Array (Nat × Operand)} : VStep P G tr ⟨dO, .build T parts, ty, pos, af, g⟩ ⟨fr, bx, nb⟩ K =
  if isZ tr dO then vbuildZ P T (parts.toList.map fun p => (p.1, ev G ⟨fr, bx, nb⟩ p.2)) (zK dO ⟨fr, bx, nb⟩ K) else vbuild P T (parts.toList.map fun p => (p.1, ev G ⟨fr, bx, nb⟩ p.2)) (putK dO ⟨fr, bx, nb⟩ K) := rfl
theorem st_buildSlice {len : Nat} {parts : Array (Nat × Operand)} : VStep P G tr ⟨dO, .buildSlice T len parts, ty, pos, af, g⟩ ⟨fr, bx, nb⟩ K =
  if isNew tr dO then vbuildSlice P T len (parts.toList.map fun p => (p.1, ev G ⟨fr, bx, nb⟩ p.2)) (vnew ⟨fr, bx, nb⟩ dO len len K)
  else if isBs tr dO then (vbuildB P T len (parts.toList.map fun p => (p.1, ev G ⟨fr, bx, nb⟩ p.2)) ⟨fr, bx, nb⟩ dO K ∨ vbuildSlice P T len (parts.toList.map fun p => (p.1, ev G ⟨fr, bx, nb⟩ p.2)) (exK (putK dO ⟨fr, bx, nb⟩ K)))
  else vbuildSlice P T len (parts.toList.map fun p => (p.1, ev G ⟨fr, bx, nb⟩ p.2)) (putK dO ⟨fr, bx, nb⟩ K) := rfl
theorem vnew_ow {e : TypeId} {sz n m : Nat} {es : List (List C)} : vnew ⟨fr, bx, nb⟩ dO n m K (.ow (some (e, sz)) es) = K ((⟨fr, up bx nb (es.flatten.map .c), nb + 1⟩ : S).put dO (.ms nb 0 n m sz)) := rfl
theorem isNew_nil : isNew [] dO = false := by cases dO <;> rfl
theorem isMut_nil : isMut [] dO = false := rfl
theorem isBs_nil : isBs [] dO = false := by cases dO <;> rfl
theorem isBs_some : isBs tr (some d) = tr.contains (1400000 + d) := rfl
theorem isBs_none : isBs tr none = false := rfl
theorem isYf_nil : isYf [] dO = false := rfl
theorem isYf_some : isYf tr (some d) = tr.contains (1100000 + d) := rfl
theorem isYf_none : isYf tr none = tr.contains 1199999 := rfl
theorem evX_t {s : S} {t : Tmp} : evX G s (.tmp t) = s.fr t := rfl
theorem evX_f {s : S} {f : FuncId} : evX G s (.func f) = .c (.fn (.func f) [] []) := rfl
theorem evX_nil {s : S} : evX G s (.const (.slice none 0 0)) = .c (.ex (.slice none 0 0)) := rfl
theorem isEf_nil : isEf [] dO = false := rfl
theorem isEf_some : isEf tr (some d) = tr.contains (1500000 + d) := rfl
theorem isEf_none : isEf tr none = tr.contains 1599999 := rfl
theorem isNew_some : isNew tr (some d) = tr.contains (2000000 + d) := rfl
theorem isNew_none : isNew tr none = false := rfl
theorem isMut_some : isMut tr (some d) = tr.contains (1000000 + d) := rfl
theorem isMut_none : isMut tr none = tr.contains 999999 := rfl
theorem isLc_some : isLc tr (some d) = tr.contains (400000 + d) := rfl
theorem isLc_none : isLc tr none = tr.contains 399999 := rfl
theorem lcK_mk {s : S} {v : V} : lcK tr dO s K ⟨fr, bx, nb⟩ v = (lcOk tr dO s ⟨fr, bx, nb⟩ ∧ K ((⟨fr, bx, nb⟩ : S).put dO v)) := rfl
def mkK (dO : Option Tmp) (s : S) (K : S → Prop) (n m sz : Nat) (z : List C) : Prop := K ({ s with bx := up s.bx s.nb ((List.replicate m z).flatten.map .c), nb := s.nb + 1 }.put dO (.ms s.nb 0 n m sz))
theorem st_makeSlice {l c : Operand} : VStep P G tr ⟨dO, .makeSlice T l c, ty, pos, af, g⟩ ⟨fr, bx, nb⟩ K = vmake P T (ev G ⟨fr, bx, nb⟩ l) (ev G ⟨fr, bx, nb⟩ c) (mkK dO ⟨fr, bx, nb⟩ K) := rfl
theorem mkK_mk {n m sz : Nat} {z : List C} : mkK dO ⟨fr, bx, nb⟩ K n m sz z = K ((⟨fr, up bx nb ((List.replicate m z).flatten.map .c), nb + 1⟩ : S).put dO (.ms nb 0 n m sz)) := rfl
def extV (x : V) (i : Nat) (K : V → Prop) : Prop := match x with
 | .tup ds => match ds[i]? with
  | some d => K d
  | none => False
 | _ => False
theorem st_extract {x : Operand} {i : Nat} : VStep P G tr ⟨dO, .extract x i, ty, pos, af, g⟩ ⟨fr, bx, nb⟩ K = extV (ev G ⟨fr, bx, nb⟩ x) i (putK dO ⟨fr, bx, nb⟩ K) := rfl
theorem extV_zero {v : V} {ds : List V} : extV (.tup (v :: ds)) 0 KV = KV v := rfl
theorem extV_one {v u : V} {ds : List V} : extV (.tup (v :: u :: ds)) 1 KV = KV u := rfl
theorem extV_two {v u x : V} {ds : List V} : extV (.tup (v :: u :: x :: ds)) 2 KV = KV x := rfl
theorem st_makeFunc {f : Fn} {a b : Array Operand} : VStep P G tr ⟨dO, .makeFunc f a b, ty, pos, af, g⟩ ⟨fr, bx, nb⟩ K =
  ((((a.toList.map (ev G ⟨fr, bx, nb⟩)).all V.isPR = true ∧ (b.toList.map (ev G ⟨fr, bx, nb⟩)).all V.isPR = true)) ∧ putK dO ⟨fr, bx, nb⟩ K (.clo f (a.toList.map (ev G ⟨fr, bx, nb⟩)) (b.toList.map (ev G ⟨fr, bx, nb⟩)))) := rfl
theorem mutK_mk {v : V} : mutK dO K ⟨fr, bx, nb⟩ v = K ((⟨fr, bx, nb⟩ : S).put dO v) := rfl
theorem st_call {f : Operand} {args : Array Operand} {ts : Array TypeId} : VStep P G tr ⟨dO, .call ⟨.value f, args, ts⟩, ty, pos, af, g⟩ ⟨fr, bx, nb⟩ K =
  if isYf tr dO then vcallY P G ⟨fr, bx, nb⟩ (ev G ⟨fr, bx, nb⟩ f) (args.toList.map (ev G ⟨fr, bx, nb⟩)) (mutK dO K) else
  if isEf tr dO then vcallR P G ⟨fr, bx, nb⟩ (ev G ⟨fr, bx, nb⟩ f) (args.toList.map (evX G ⟨fr, bx, nb⟩)) (mutK dO K) else
  if isMut tr dO then vcallB P G ⟨fr, bx, nb⟩ (ev G ⟨fr, bx, nb⟩ f) (args.toList.map (ev G ⟨fr, bx, nb⟩)) (if isLc tr dO then lcK tr dO ⟨fr, bx, nb⟩ K else mutK dO K)
  else vcall P G ⟨fr, bx, nb⟩ (ev G ⟨fr, bx, nb⟩ f) (args.toList.map (ev G ⟨fr, bx, nb⟩)) (putK dO ⟨fr, bx, nb⟩ K) := rfl
theorem st_len {args : Array Operand} {ts : Array TypeId} : VStep P G tr ⟨dO, .call ⟨.builtin .len, args, ts⟩, ty, pos, af, g⟩ ⟨fr, bx, nb⟩ K =
  if isMl tr dO then vlenM P ⟨fr, bx, nb⟩ (putK dO ⟨fr, bx, nb⟩ K) ts.toList (args.toList.map (ev G ⟨fr, bx, nb⟩)) else vbuiltin P .len ts.toList (args.toList.map (ev G ⟨fr, bx, nb⟩)) (putK dO ⟨fr, bx, nb⟩ K) := rfl
theorem isMl_nil : isMl [] dO = false := by cases dO <;> rfl
theorem isMl_some : isMl tr (some d) = tr.contains (1600000 + d) := rfl
theorem isMl_none : isMl tr none = false := rfl
theorem st_min {args : Array Operand} {ts : Array TypeId} : VStep P G tr ⟨dO, .call ⟨.builtin .min, args, ts⟩, ty, pos, af, g⟩ ⟨fr, bx, nb⟩ K =
  vmin false (args.toList.map (ev G ⟨fr, bx, nb⟩)) (putK dO ⟨fr, bx, nb⟩ K) := rfl
theorem st_max {args : Array Operand} {ts : Array TypeId} : VStep P G tr ⟨dO, .call ⟨.builtin .max, args, ts⟩, ty, pos, af, g⟩ ⟨fr, bx, nb⟩ K =
  vmin true (args.toList.map (ev G ⟨fr, bx, nb⟩)) (putK dO ⟨fr, bx, nb⟩ K) := rfl
def useK (t : Option Tmp) (dO : Option Tmp) (s : S) (K : S → Prop) (v : V) : Prop := K ((s.use t).put dO v)
def appT : List Operand → Option Tmp
 | .tmp t :: _ => some t
 | _ => none
theorem st_append {args : Array Operand} {T U : TypeId} : VStep P G tr ⟨dO, .call ⟨.builtin .append, args, #[T, U]⟩, ty, pos, af, g⟩ ⟨fr, bx, nb⟩ K =
  if isNew tr dO then vappNew P ⟨fr, bx, nb⟩ dO K [T, U] (args.toList.map fun x => vw ⟨fr, bx, nb⟩ (ev G ⟨fr, bx, nb⟩ x))
  else if isRoom tr dO then vappRoom P ⟨fr, bx, nb⟩ (mutK dO K) [T, U] (args.toList.map (ev G ⟨fr, bx, nb⟩))
  else if isGh tr dO then (if isHo tr dO then vhot P G ⟨fr, bx, nb⟩ dO [T, U] args.toList (useK (appT args.toList) dO ⟨fr, bx, nb⟩ K) else vghost P G ⟨fr, bx, nb⟩ dO [T, U] args.toList (useK (appT args.toList) dO ⟨fr, bx, nb⟩ K))
  else vbuiltin P .append [T, U] (args.toList.map fun x => vw ⟨fr, bx, nb⟩ (ev G ⟨fr, bx, nb⟩ x)) (useK (appT args.toList) dO ⟨fr, bx, nb⟩ K) := rfl
theorem isGh_some : isGh tr (some d) = tr.contains (2400000 + d) := rfl
theorem isHo_some : isHo tr (some d) = tr.contains (2450000 + d) := rfl
theorem isHo_nil : isHo [] dO = false := by cases dO <;> rfl
theorem isRoom_nil : isRoom [] dO = false := by cases dO <;> rfl
theorem isRoom_some : isRoom tr (some d) = tr.contains (2700000 + d) := rfl
theorem isRoom_none : isRoom tr none = false := rfl
theorem st_clear {args : Array Operand} {T : TypeId} : VStep P G tr ⟨dO, .call ⟨.builtin .clear, args, #[T]⟩, ty, pos, af, g⟩ ⟨fr, bx, nb⟩ K = vclear P ⟨fr, bx, nb⟩ (fun s' => K (s'.put dO .un)) [T] (args.toList.map (ev G ⟨fr, bx, nb⟩)) := rfl
theorem st_copy {args : Array Operand} {T U : TypeId} : VStep P G tr ⟨dO, .call ⟨.builtin .copy, args, #[T, U]⟩, ty, pos, af, g⟩ ⟨fr, bx, nb⟩ K = vcopy P ⟨fr, bx, nb⟩ (mutK dO K) [T, U] (args.toList.map (ev G ⟨fr, bx, nb⟩)) := rfl
theorem vappNew_ow {T : TypeId} {es : List (List C)} {y : V} : vappNew P ⟨fr, bx, nb⟩ dO K [T, T] [.ow none es, y] = vappend P T (.ow none es) y.fz (vanK ⟨fr, bx, nb⟩ dO K) := by simp [vappNew]
theorem vanK_ow {e : TypeId} {sz : Nat} {es : List (List C)} : vanK ⟨fr, bx, nb⟩ dO K (.ow (some (e, sz)) es) = K ((⟨fr, up bx nb (es.flatten.map .c), nb + 1⟩ : S).put dO (.ms nb 0 es.length es.length sz)) := rfl
theorem useK_tmp {v : V} : useK (some t) (some d) ⟨fr, bx, nb⟩ K v = K (((⟨fr, bx, nb⟩ : S).use (some t)).put (some d) v) := rfl
theorem useK_none {v : V} : useK none (some d) ⟨fr, bx, nb⟩ K v = K ⟨up fr d v, bx, nb⟩ := rfl
theorem st_alloc : VStep P G tr ⟨some d, .alloc T, ty, pos, af, g⟩ ⟨fr, bx, nb⟩ K = match ti P T with
  | some { zero := some z, .. } => K ⟨up fr d (.bp nb 0), up bx nb (z.map zeroV), nb + 1⟩
  | _ => False := rfl
def boxK (t : Option Tmp) (d : Nat) (v : V) (s : S) (K : S → Prop) : Prop := match v.bcells with
 | some cs => K ((let s' := s.use t; { s' with bx := up s'.bx s'.nb cs, nb := s'.nb + 1 } : S).put (some d) (.bp s.nb 0))
 | none => False
theorem st_box : VStep P G tr ⟨some d, .box T (.tmp t), ty, pos, af, g⟩ ⟨fr, bx, nb⟩ K = boxK (some t) d (fr t) ⟨fr, bx, nb⟩ K := rfl
theorem st_box_const {v : Value} : VStep P G tr ⟨some d, .box T (.const v), ty, pos, af, g⟩ ⟨fr, bx, nb⟩ K = boxK none d (constV v) ⟨fr, bx, nb⟩ K := rfl
def stoK (i : Option TI) (t : Option Tmp) (dO : Option Tmp) (p v : V) (s : S) (K : S → Prop) : Prop := match i, p, v.bcells with
 | some i, .bp b k, some cs => (b < s.nb ∧ cs.length = i.size ∧ k + i.size ≤ (s.bx b).length ∧ isMb (s.bx b) = false) ∧
   K ((let s' := s.use t; { s' with bx := up s'.bx b (setV (s'.bx b) k cs) } : S).put dO .sk)
 | some i, .c (.ex (.pointer (some ⟨blk, j, none⟩))), _ => (∃ (b k len cap : Nat) (E : Option (TypeId × Nat)) (es : List (List C)) (r : Nat) (e : List C) (c : C), (i.size = 1 ∧ b < s.nb ∧ isMb (s.bx b) = false ∧ (s.bx b)[k]? = some (V.hh (some (.slice (some ⟨blk, 0, none⟩) len cap)) E (es ++ [e])) ∧
    (es.flatten.length + r = j ∧ r < e.length) ∧ v.asC = some c) ∧
   K ((let s' := s.use t; { s' with bx := up s'.bx b ((s'.bx b).set k (.hh (some (.slice (some ⟨blk, 0, none⟩) len cap)) E (es ++ [e.set r c]))) } : S).put dO .sk)) ∨
   stoG s.bx s.nb i blk j v (fun bx => K ((let s' := s.use t; { s' with bx := bx } : S).put dO .sk))
 | _, _, _ => False
theorem st_store {p : Operand} : VStep P G tr ⟨dO, .store T p (.tmp t), ty, pos, af, g⟩ ⟨fr, bx, nb⟩ K = (declV tr (ptrT p) (ev G ⟨fr, bx, nb⟩ p) = true ∧ stoK (ti P T) (some t) dO (ev G ⟨fr, bx, nb⟩ p) (fr t) ⟨fr, bx, nb⟩ K) := rfl
theorem st_store_const {p : Operand} {v : Value} : VStep P G tr ⟨dO, .store T p (.const v), ty, pos, af, g⟩ ⟨fr, bx, nb⟩ K = (declV tr (ptrT p) (ev G ⟨fr, bx, nb⟩ p) = true ∧ stoK (ti P T) none dO (ev G ⟨fr, bx, nb⟩ p) (constV v) ⟨fr, bx, nb⟩ K) := rfl
theorem use_some : (⟨fr, bx, nb⟩ : S).use (some t) = if (fr t).isOw = true then ⟨up fr t .un, bx, nb⟩ else ⟨fr, bx, nb⟩ := rfl
theorem use_none : (⟨fr, bx, nb⟩ : S).use none = ⟨fr, bx, nb⟩ := rfl
theorem ev_tmp : ev G ⟨fr, bx, nb⟩ (.tmp t) = fr t := rfl
theorem ev_const {v : Value} : ev G ⟨fr, bx, nb⟩ (.const v) = constV v := rfl
theorem ev_func {f : FuncId} : ev G ⟨fr, bx, nb⟩ (.func f) = .c (.fn (.func f) [] []) := rfl
theorem constV_int {k : IntKind} {n : Int} : constV (.int k n) = .c (.lit (.int k n)) := rfl
theorem constV_bool {b : Bool} : constV (.bool b) = .c (.lit (.bool b)) := rfl
theorem constV_string {b : ByteArray} : constV (.string b) = .c (.lit (.string b)) := rfl
theorem constV_agg {l : List Value} : constV (.agg l.toArray) = if l.all constOk then .agg (l.map constC) else .un := rfl
theorem constOk_int {k : IntKind} {n : Int} : constOk (.int k n) = true := rfl
theorem constOk_bool {b : Bool} : constOk (.bool b) = true := rfl
theorem constOk_str {b : ByteArray} : constOk (.string b) = true := rfl
theorem constOk_nil : constOk (.slice none 0 0) = true := rfl
theorem constC_int {k : IntKind} {n : Int} : constC (.int k n) = .lit (.int k n) := rfl
theorem constC_bool {b : Bool} : constC (.bool b) = .lit (.bool b) := rfl
theorem constC_str {b : ByteArray} : constC (.string b) = .lit (.string b) := rfl
theorem constC_nil : constC (.slice none 0 0) = .sl [] := rfl
theorem constV_nil : constV (.slice none 0 0) = .ow none [] := rfl
theorem vw_c {s : S} {x : C} : vw s (.c x) = .c x := rfl
theorem vw_ow' {s : S} {E : Option (TypeId × Nat)} {es : List (List C)} : vw s (.ow E es) = .ow E es := rfl
section
variable {k : IntKind} {a b : Int} {op : BinOp} {T : TypeId} {t : Tmp}
theorem vbin_int : vbin P op T (.c (.lit (.int k a))) (.c (.lit (.int k b))) KV = vint op k a b KV := by
 simp only [vbin]
 split <;> rfl
theorem vbin_str {a b : ByteArray} : vbin P op T (.c (.lit (.string a))) (.c (.lit (.string b))) KV = vstr op a b KV := rfl
def vboolK (i : Option TI) (op : BinOp) (a b : Bool) (K : V → Prop) : Prop := match i with
 | some { kd := .bool, .. } => match op with
  | .eql => K (.c (.lit (.bool (a == b))))
  | .neq => K (.c (.lit (.bool (!(a == b)))))
  | _ => False
 | _ => False
theorem vint_add : vint .add k a b KV = KV (.c (.lit (.int k (k.wrap (a + b))))) := rfl
theorem vint_sub : vint .sub k a b KV = KV (.c (.lit (.int k (k.wrap (a - b))))) := rfl
theorem vint_mul : vint .mul k a b KV = KV (.c (.lit (.int k (k.wrap (a * b))))) := rfl
theorem vint_eql : vint .eql k a b KV = KV (.c (.lit (.bool (decide (a = b))))) := rfl
theorem vint_neq : vint .neq k a b KV = KV (.c (.lit (.bool (!decide (a = b))))) := rfl
theorem vint_lss : vint .lss k a b KV = KV (.c (.lit (.bool (decide (a < b))))) := rfl
theorem vint_leq : vint .leq k a b KV = KV (.c (.lit (.bool (decide (a ≤ b))))) := rfl
theorem vint_gtr : vint .gtr k a b KV = KV (.c (.lit (.bool (decide (b < a))))) := rfl
theorem vint_geq : vint .geq k a b KV = KV (.c (.lit (.bool (decide (b ≤ a))))) := rfl
theorem ldv_c {x : C} : (V.c x).ldv = .c x := rfl
theorem ldv_agg {cs : List C} : (V.agg cs).ldv = .agg cs := rfl
theorem ldv_none {es : List (List C)} : (V.ow none es).ldv = .ow none es := rfl
theorem ldv_some {E : TypeId × Nat} {es : List (List C)} : (V.ow (some E) es).ldv = .c (.sl es) := rfl
theorem ldv_bp {i o : Nat} : (V.bp i o).ldv = .bp i o := rfl
theorem ldv_clo {f : Fn} {x y : List V} : (V.clo f x y).ldv = .clo f x y := rfl
theorem ldv_ms {i o l c z : Nat} : (V.ms i o l c z).ldv = .ms i o l c z := rfl
theorem ldv_mr {i : Nat} : (V.mr i).ldv = .mr i := rfl
theorem ldv_yl {i : Nat} : (V.yl i).ldv = .yl i := rfl
theorem fz_c {x : C} : (V.c x).fz = .c x := rfl
theorem fz_agg {cs : List C} : (V.agg cs).fz = .agg cs := rfl
theorem fz_ow {E : Option (TypeId × Nat)} {es : List (List C)} : (V.ow E es).fz = .c (.sl es) := rfl
theorem fz_bp {i o : Nat} : (V.bp i o).fz = .bp i o := rfl
theorem fz_clo {f : Fn} {x y : List V} : (V.clo f x y).fz = .clo f x y := rfl
theorem fz_ms {i o l c z : Nat} : (V.ms i o l c z).fz = .ms i o l c z := rfl
theorem fz_mag {x : List V} : (V.mag x).fz = .mag x := rfl
theorem isOw_ms {i o l c z : Nat} : (V.ms i o l c z).isOw = false := rfl
theorem isOw_mag {x : List V} : (V.mag x).isOw = false := rfl
theorem fz_tup {x : List V} : (V.tup x).fz = .tup x := rfl
theorem isOw_c {x : C} : (V.c x).isOw = false := rfl
theorem isOw_agg {cs : List C} : (V.agg cs).isOw = false := rfl
theorem isOw_ow {E : Option (TypeId × Nat)} {es : List (List C)} : (V.ow E es).isOw = true := rfl
theorem isOw_bp {i o : Nat} : (V.bp i o).isOw = false := rfl
theorem isOw_clo {f : Fn} {x y : List V} : (V.clo f x y).isOw = false := rfl
theorem isOw_tup {x : List V} : (V.tup x).isOw = false := rfl
theorem isOw_sk : V.sk.isOw = false := rfl
def frm : Nat → List V → Nat → V
 | _, [] => fun _ => .un
 | i, v :: r => up (frm (i + 1) r) i v
theorem frm_nil {i : Nat} : frm i [] = fun _ => .un := rfl
theorem frm_cons {i : Nat} {v : V} {r : List V} : frm i (v :: r) = up (frm (i + 1) r) i v := rfl
theorem frm_get : ∀ (l : List V) (i j : Nat), frm i l j = if i ≤ j then l.getD (j - i) .un else .un
 | [], i, j => by simp [frm]
 | v :: r, i, j => by
  simp only [frm, up_apply, frm_get r (i + 1) j]
  by_cases h : j = i
  ·subst h; simp
  ·rw [if_neg h]
   by_cases h1 : i ≤ j
   ·rw [if_pos h1, if_pos (by omega)]
    have : j - i = (j - (i + 1)) + 1 := by omega
    rw [this]; rfl
   ·rw [if_neg h1, if_neg (by omega)]
theorem initS_eq (args : List V) : initS args = ⟨frm 0 args, fun _ => [], 0⟩ := by
 unfold initS
 congr 1
 funext j
 rw [frm_get]
 simp
def endK (P : Program) (z : Bool) (r : V) (rs : List ResultVar) (e : VE) (s : S) : Prop := (match e with | .exit _ => False | _ => True) ∧ retV P z s r rs
theorem endK_ret {z : Bool} {r : V} {rs : List ResultVar} {s : S} : endK P z r rs .ret s = retV P z s r rs := by simp [endK]
theorem endK_normal {z : Bool} {r : V} {rs : List ResultVar} {s : S} : endK P z r rs .normal s = retV P z s r rs := by simp [endK]
theorem retV_one {r : V} {t : Tmp} : retV P false ⟨fr, bx, nb⟩ r [.tmp t] = (fr t = r) := rfl
theorem retV_cell {r : V} {t : Tmp} {T : TypeId} : retV P false ⟨fr, bx, nb⟩ r [.cell t T] = vload P T ⟨fr, bx, nb⟩ (fr t) (fun u => u = r) := rfl
theorem FnOK_by {f : FuncId} {fn : Func} {c : Code} {args : List V} {r : V} (z : Bool) (tr : List Nat) (hm : P.follows .mixedOrders = true) (hf : P.funcs[f]? = some fn) (hb : fn.body = some c) (hname : (fn.name == "runtime.NumGoroutine") = false)
  {rs : List ResultVar} (hrs : fn.results.toList = rs) {n : Nat} (hn : fn.ntmps = n) (hck : cok n tr c = true) (hlen : args.length ≤ n)
  (hr : r.out = true) (hcomp : r.compT = true)
  (h : vwpK P G tr (extK tr) c (endK P z r rs) ⟨frm 0 args, fun _ => [], 0⟩) : FnOK P G f args r := by
 subst hn
 subst hrs
 refine FnOK_of z tr hm hf hb hname hlen hck hr hcomp ?_
 rw [initS_eq]; exact h
end
end
end
end Go.Vl
/- Values without memory: loops by an invariant, and the laws of the operations on memory. -/
namespace Go.Vl
open Go Go.RowKit
section
variable {P : Program} {G : Gl} {tr : List Nat} {fr : Nat → V} {bx : Nat → List V} {nb k0 : Nat} {K : S → Prop} {KV : V → Prop} {Q : VE → S → Prop}
def frs : List (Nat × V) → Nat → V
 | [] => fun _ => .un
 | (i, v) :: r => up (frs r) i v
theorem frs_nil : frs [] = fun _ => .un := rfl
theorem frs_cons {i : Nat} {v : V} {r : List (Nat × V)} : frs ((i, v) :: r) = up (frs r) i v := rfl
def FL : List (Nat × V) → (Nat → V) → Prop
 | [], _ => True
 | (i, v) :: r, f => f i = v ∧ FL r f
theorem FL.le : ∀ {l : List (Nat × V)} {f : Nat → V}, FL l f → FrLe (frs l) f
 | [], _, _ => fun _ => .inl rfl
 | (i, v) :: r, f, h => fun t => by
  by_cases ht : t = i
  ·subst ht; right; simp only [frs, up_same]; exact h.1.symm
  ·simp only [frs, up_ne _ _ ht]; exact h.2.le t
def bxs (bl : List (List V)) : Nat → List V := fun i => bl.getD i []
def BL : Nat → List (List V) → (Nat → List V) → Prop
 | _, [], _ => True
 | i, b :: r, f => f i = b ∧ BL (i + 1) r f
theorem BL.get : ∀ {bl : List (List V)} {k : Nat} {f : Nat → List V}, BL k bl f → ∀ i, i < bl.length → bl.getD i [] = f (k + i)
 | [], _, _, _, i, hi => by simp at hi
 | b :: r, k, f, h, i, hi => by
  cases i with
  | zero => simp [h.1]
  | succ i =>
   have := h.2.get i (by simpa using hi)
   simpa [Nat.add_assoc, Nat.add_comm, Nat.add_left_comm] using this
def V.ltPB (m : Nat) : V → Bool
 | .bp i _ => decide (i < m)
 | .ms i _ _ _ _ => decide (i < m)
 | .mr i => decide (i < m)
 | .yl i => decide (i < m)
 | _ => true
theorem V.ltPB_ok {m : Nat} {v : V} (h : v.ltPB m = true) : v.ltP m := by
 cases v <;> simp only [V.ltP] <;> simpa [V.ltPB] using h
def V.ltB (m : Nat) : V → Bool
 | .bp i _ => decide (i < m)
 | .ms i _ _ _ _ => decide (i < m)
 | .clo _ fs cs => fs.all (V.ltPB m) && cs.all (V.ltPB m)
 | .mag vs => vs.all (V.ltPB m)
 | .mr i => decide (i < m)
 | .it i _ _ _ => decide (i < m)
 | .yl i => decide (i < m)
 | .lp _ fl => fl.all fun p => p.2.ltPB m
 | _ => true
theorem V.ltB_ok {m : Nat} {v : V} (h : v.ltB m = true) : v.lt m := by
 cases v <;> simp only [V.lt] <;> simp only [V.ltB] at h
 ·simpa using h
 ·simp only [Bool.and_eq_true, List.all_eq_true] at h
  exact ⟨fun x hx => V.ltPB_ok (h.1 x hx), fun x hx => V.ltPB_ok (h.2 x hx)⟩
 ·simpa using h
 ·simp only [List.all_eq_true] at h
  exact fun x hx => V.ltPB_ok (h x hx)
 ·simpa using h
 ·simpa using h
 ·simpa using h
 ·simp only [List.all_eq_true] at h
  exact fun p hp => V.ltPB_ok (h p hp)
def leOk (l : List (Nat × V)) (bl : List (List V)) : Bool := l.all (fun p => p.2.ltB bl.length) && bl.all fun b => b.all fun x => x.ltB bl.length
theorem frs_lt {m : Nat} : ∀ {l : List (Nat × V)}, (∀ p ∈ l, p.2.lt m) → ∀ t, (frs l t).lt m
 | [], _, _ => trivial
 | (i, v) :: r, h, t => by
  by_cases ht : t = i
  ·subst ht; simp only [frs, up_same]; exact h _ (List.mem_cons_self ..)
  ·simp only [frs, up_ne _ _ ht]; exact frs_lt (fun p hp => h p (List.mem_cons_of_mem _ hp)) t
def hdS (l : List (Nat × V)) (bl : List (List V)) : S := ⟨frs l, bxs bl, bl.length⟩
theorem le_hd {l : List (Nat × V)} {bl : List (List V)} {k : Nat} (hok : leOk l bl = true) (hk : k ≤ bl.length) (hn : bl.length ≤ nb) (h1 : FL l fr) (h2 : BL 0 bl bx) : S.Le k (hdS l bl) ⟨fr, bx, nb⟩ := by
 simp only [leOk, Bool.and_eq_true, List.all_eq_true] at hok
 refine ⟨hk, h1.le, hn, fun i hi => ?_, fun t => frs_lt (fun p hp => V.ltB_ok (hok.1 p hp)) t, fun i hi x hx => ?_⟩
 ·have := h2.get i hi; simpa [hdS, bxs] using this
 ·simp only [hdS] at hi hx
  have : bxs bl i ∈ bl := by
   simp only [bxs, List.getD, List.getElem?_eq_getElem hi, Option.getD_some]; exact List.getElem_mem hi
  exact V.ltB_ok (hok.2 _ this x hx)
def FZL (s : S) (m : Nat) : List (Nat × V) → (Nat → V) → Prop
 | [], _ => True
 | (i, v) :: r, f => (f i = v ∨ FzV s m v (f i)) ∧ FZL s m r f
def LZ (s : S) (m : Nat) : List V → List V → Prop
 | [], [] => True
 | x :: xs, y :: ys => (x = y ∨ FzV s m x y) ∧ LZ s m xs ys
 | _, _ => False
def BZL (s : S) (m : Nat) : Nat → List (List V) → (Nat → List V) → Prop
 | _, [], _ => True
 | i, b :: r, f => LZ s m b (f i) ∧ BZL s m (i + 1) r f
theorem LZ.ok {s : S} {m : Nat} : ∀ {xs ys : List V}, LZ s m xs ys → xs.length = ys.length ∧ ∀ j, xs.getD j .un = ys.getD j .un ∨ FzV s m (xs.getD j .un) (ys.getD j .un)
 | [], [], _ => ⟨rfl, fun _ => .inl rfl⟩
 | x :: xs, y :: ys, h => by
  obtain ⟨h1, h2⟩ := LZ.ok h.2
  refine ⟨by simp [h1], fun j => ?_⟩
  cases j with
  | zero => simpa using h.1
  | succ j => simpa using h2 j
 | [], _ :: _, h => h.elim
 | _ :: _, [], h => h.elim
theorem BZL.get {s : S} {m : Nat} : ∀ {bl : List (List V)} {k : Nat} {f : Nat → List V}, BZL s m k bl f → ∀ i, i < bl.length → LZ s m (bl.getD i []) (f (k + i))
 | [], _, _, _, i, hi => by simp at hi
 | b :: r, k, f, h, i, hi => by
  cases i with
  | zero => simpa using h.1
  | succ i =>
   have := h.2.get i (by simpa using hi)
   simpa [Nat.add_assoc, Nat.add_comm, Nat.add_left_comm] using this
theorem FZL.ok {s : S} {m : Nat} : ∀ {l : List (Nat × V)} {f : Nat → V}, FZL s m l f → ∀ t, frs l t = .un ∨ frs l t = f t ∨ FzV s m (frs l t) (f t)
 | [], _, _, _ => .inl rfl
 | (i, v) :: r, f, h, t => by
  by_cases ht : t = i
  ·subst ht
   simp only [frs, up_same]
   rcases h.1 with e | e
   ·exact .inr (.inl e.symm)
   ·exact .inr (.inr e)
  ·simp only [frs, up_ne _ _ ht]; exact h.2.ok t
theorem fz_hd {i : Nat} {ops : Array Oper} {l : List (Nat × V)} {bl : List (List V)} (hok : leOk l bl = true) (hk : k0 ≤ bl.length) (hn : bl.length ≤ nb) (h1 : FZL ⟨fr, bx, nb⟩ bl.length l fr) (h2 : BZL ⟨fr, bx, nb⟩ bl.length 0 bl bx)
  (h : vops P G tr ops ops.toList (hdS l bl) (Q .normal)) (hw : isTw tr i = false := by rfl) : fzK P G tr k0 i ops Q ⟨fr, bx, nb⟩ := by
 simp only [leOk, Bool.and_eq_true, List.all_eq_true] at hok
 refine ⟨hdS l bl, ⟨hk, h1.ok, hn, fun i hi => ?_, fun i hi => ?_, fun t => frs_lt (fun p hp => V.ltB_ok (hok.1 p hp)) t, fun i hi x hx => ?_⟩, by unfold vtw; rw [if_neg (by rw [hw]; decide)]; exact h⟩
 ·have := (h2.get i hi).ok.1; simpa [hdS, bxs] using this
 ·have := (h2.get i hi).ok.2; simpa [hdS, bxs] using this
 ·simp only [hdS] at hi hx
  have : bxs bl i ∈ bl := by
   simp only [bxs, List.getD, List.getElem?_eq_getElem hi, Option.getD_some]; exact List.getElem_mem hi
  exact V.ltB_ok (hok.2 _ this x hx)
theorem vrounds_by {k : Nat} {α : Type} {hd : α → S} {m : α → Nat} {Inv : α → Prop} {body : (VE → S → Prop) → S → Prop}
  (hb : ∀ x, Inv x → ∀ R : VE → S → Prop, (∀ y s', Inv y → m y < m x → S.Le k (hd y) s' → R .normal s') → (∀ i s', Q (.exit i) s' → R (.exit i) s') → (∀ s', Q .ret s' → R .ret s') → body R (hd x)) :
  ∀ n x s, Inv x → m x < n → S.Le k (hd x) s → vrounds k body Q n s
 | 0, _, _, _, h, _ => absurd h (Nat.not_lt_zero _)
 | n + 1, x, s, hx, hm, hle => ⟨hd x, .inr hle, hb x hx _ (fun y s' hy hlt hle' => vrounds_by hb n y s' hy (by omega) hle') (fun _ _ h => h) (fun _ h => h)⟩
theorem run_loop {α : Type} (hd : α → S) (m : α → Nat) (Inv : α → Prop) {body : Code} (x : α) (hx : Inv x) (hle : S.Le (k0) (hd x) ⟨fr, bx, nb⟩)
  (hb : ∀ x, Inv x → ∀ R : VE → S → Prop, (∀ y s', Inv y → m y < m x → S.Le (k0) (hd y) s' → R .normal s') → (∀ i s', Q (.exit i) s' → R (.exit i) s') → (∀ s', Q .ret s' → R .ret s') → vwpK P G tr k0 body R (hd x)) :
  vwpK P G tr k0 (.loop body) Q ⟨fr, bx, nb⟩ :=
 ⟨m x + 1, vrounds_by hb _ x _ hx (Nat.lt_succ_self _) hle⟩
theorem vun_not {b : Bool} : vun .not (.c (.lit (.bool b))) KV = KV (.c (.lit (.bool (!b)))) := rfl
theorem vlen_sl {T e : TypeId} {i : TI} {es : List (List C)} (hT : ti P T = some i) (hk : i.kd = .slice e) : vlen P T (.c (.sl es)) KV = KV (.c (.lit (.int .i64 es.length))) := by
 obtain ⟨kd, a, b, c, d, f, g⟩ := i; subst hk; simp only [vlen, hT]
theorem vlen_ow {T e : TypeId} {i : TI} {E : Option (TypeId × Nat)} {es : List (List C)} (hT : ti P T = some i) (hk : i.kd = .slice e) : vlen P T (.ow E es) KV = KV (.c (.lit (.int .i64 es.length))) := by
 obtain ⟨kd, a, b, c, d, f, g⟩ := i; subst hk; simp only [vlen, hT]
theorem vlen_ms {T e : TypeId} {i : TI} {b o l c z : Nat} (hT : ti P T = some i) (hk : i.kd = .slice e) : vlen P T (.ms b o l c z) KV = KV (.c (.lit (.int .i64 l))) := by
 obtain ⟨kd, a, b, c, d, f, g⟩ := i; subst hk; simp only [vlen, hT]
theorem vlen_str {T : TypeId} {i : TI} {b : ByteArray} (hT : ti P T = some i) (hk : i.kd = .str) : vlen P T (.c (.lit (.string b))) KV = KV (.c (.lit (.int .i64 b.size))) := by
 obtain ⟨kd, a, b, c, d, f, g⟩ := i; subst hk; simp only [vlen, hT]
theorem vbuiltin_len {t : TypeId} {x : V} : vbuiltin P .len [t] [x] KV = vlen P t x KV := rfl
theorem vbuiltin_app {t u : TypeId} {x y : V} : vbuiltin P .append [t, u] [x, y] KV = if t = u then vappend P t x y.fz KV else vappStr P t u x y.fz KV := rfl
theorem ia_of {T e : TypeId} {i j : TI} {k : IntKind} {n : Int} {c : List C} {es : List (List C)} (hT : ti P T = some i) (hk : i.kd = .slice e) (hj : ti P e = some j) (hs : j.size ≠ 0) (hn : 0 ≤ n)
  (he : es[n.toNat]? = some c) (hc : c.length = j.size) (hK : KV (.c (.rp c 0))) : vindexAddr P T (.c (.sl es)) (.c (.lit (.int k n))) KV := by
 obtain ⟨kd, a, b, x, d, f, g⟩ := i
 simp only at hk; subst hk
 simp only [vindexAddr, hT, hj, he]
 exact ⟨⟨hn, hs⟩, hc, hK⟩
theorem partV_all {ag : Bool} {sz : Nat} {cs : List C} (ha : ag = true) (h : cs.length = sz) : partV ag sz 0 cs KV = KV (.agg cs) := by
 subst ha; subst h; simp [partV]
theorem ld_all {T : TypeId} {i : TI} {s : S} {cs : List C} (hT : ti P T = some i) (ha : i.agg = true) (h : cs.length = i.size) : vload P T s (.c (.rp cs 0)) KV = KV (.agg cs) := by
 simp only [vload, hT]; exact partV_all ha h
theorem fa_rp {T : TypeId} {i : TI} {f k off sz : Nat} {ag : Bool} {cs : List C} (hT : ti P T = some i) (hf : i.flds[f]? = some (off, sz, ag)) (hs : sz ≠ 0) : vfieldAddr P T (.c (.rp cs k)) f KV = KV (.c (.rp cs (k + off))) := by
 simp only [vfieldAddr, hT, hf]; simp [hs]
theorem fa_bp {T : TypeId} {i : TI} {f k off sz b : Nat} {ag : Bool} (hT : ti P T = some i) (hf : i.flds[f]? = some (off, sz, ag)) (hs : sz ≠ 0) : vfieldAddr P T (.bp b k) f KV = KV (.bp b (k + off)) := by
 simp only [vfieldAddr, hT, hf]; simp [hs]
theorem ld_cell {T : TypeId} {i : TI} {s : S} {cs : List C} {o : Nat} (hT : ti P T = some i) (ha : i.agg = false) (hs : i.size = 1) : vload P T s (.c (.rp cs o)) KV = partV false 1 o cs KV := by
 simp only [vload, hT, ha, hs]
theorem partV_z {sz : Nat} {c : C} {cs : List C} : partV false sz 0 (c :: cs) KV = KV (.c c) := rfl
theorem partV_s {sz n : Nat} {c : C} {cs : List C} : partV false sz (n + 1) (c :: cs) KV = partV false sz n cs KV := by simp [partV]
def ldA (nb b : Nat) (l : List V) (o n : Nat) (K : V → Prop) : Prop := b < nb ∧ ((((l.drop o).take n).length = n ∧ ((l.drop o).take n).all V.isPO = true) ∧ K (aggV (((l.drop o).take n).map V.fz)))
def consA (a : C) : V → V
 | .agg cs => .agg (a :: cs)
 | .mag vs => .mag (.c a :: vs)
 | x => x
theorem aggV_nil : aggV [] = .agg [] := rfl
theorem aggV_c {a : C} {r : List V} : aggV (.c a :: r) = consA a (aggV r) := by
 unfold aggV
 simp only [List.mapM_cons]
 cases h : r.mapM V.asC <;> simp [V.asC, consA]
theorem aggV_ms {i o l c z : Nat} {r : List V} : aggV (.ms i o l c z :: r) = .mag (.ms i o l c z :: r) := by
 unfold aggV; simp [List.mapM_cons, V.asC]
theorem aggV_bp {i o : Nat} {r : List V} : aggV (.bp i o :: r) = .mag (.bp i o :: r) := by
 unfold aggV; simp [List.mapM_cons, V.asC]
theorem consA_agg {a : C} {cs : List C} : consA a (.agg cs) = .agg (a :: cs) := rfl
theorem consA_mag {a : C} {vs : List V} : consA a (.mag vs) = .mag (.c a :: vs) := rfl
theorem ldA_cons {b o n : Nat} {v : V} {l : List V} : ldA nb b (v :: l) o n KV = (b < nb ∧ (((((v :: l).drop o).take n).length = n ∧ (((v :: l).drop o).take n).all V.isPO = true) ∧ KV (aggV ((((v :: l).drop o).take n).map V.fz)))) := rfl
theorem isPR_bp {i o : Nat} : (V.bp i o).isPR = true := rfl
theorem isPR_c {x : C} : (V.c x).isPR = true := rfl
theorem isPR_ms {i o l c z : Nat} : (V.ms i o l c z).isPR = true := rfl
theorem isPO_c {x : C} : (V.c x).isPO = true := rfl
theorem isPO_ow {E : Option (TypeId × Nat)} {es : List (List C)} : (V.ow E es).isPO = true := rfl
theorem isPO_bp {i o : Nat} : (V.bp i o).isPO = true := rfl
theorem isPO_ms {i o l c z : Nat} : (V.ms i o l c z).isPO = true := rfl
def ldB (nb b : Nat) (l : List V) (o : Nat) (K : V → Prop) : Prop := b < nb ∧ match l[o]? with
 | some v => K v.ldv
 | none => False
theorem ldA_of {T : TypeId} {i : TI} {b o n : Nat} (hT : ti P T = some i) (ha : i.agg = true) (hs : i.size = n) : vload P T ⟨fr, bx, nb⟩ (.bp b o) KV = (isMb (bx b) = false ∧ ldA nb b (bx b) o n KV) := by
 subst hs; simp only [vload, hT, ha, if_true, ldA]; exact propext ⟨fun ⟨⟨a, b⟩, c⟩ => ⟨b, a, c⟩, fun ⟨b, a, c⟩ => ⟨⟨a, b⟩, c⟩⟩
theorem ldB_of {T : TypeId} {i : TI} {b o : Nat} (hT : ti P T = some i) (ha : i.agg = false) : vload P T ⟨fr, bx, nb⟩ (.bp b o) KV = (isMb (bx b) = false ∧ ldB nb b (bx b) o KV) := by
 simp only [vload, hT, ha, ldB]; exact propext ⟨fun ⟨⟨a, b⟩, c⟩ => ⟨b, a, c⟩, fun ⟨b, a, c⟩ => ⟨⟨a, b⟩, c⟩⟩
theorem ldB_z {b : Nat} {v : V} {l : List V} : ldB nb b (v :: l) 0 KV = (b < nb ∧ KV v.ldv) := rfl
theorem ldB_s {b o : Nat} {v : V} {l : List V} : ldB nb b (v :: l) (o + 1) KV = ldB nb b l o KV := by simp [ldB]
theorem ldB_map {b o : Nat} {cs : List C} : ldB nb b (cs.map V.c) o KV = (b < nb ∧ partV false 1 o cs KV) := by
 simp only [ldB, partV, List.getElem?_map, Bool.false_eq_true, if_false]
 cases cs[o]? <;> rfl
theorem vstr_eql {a b : ByteArray} : vstr .eql a b KV = KV (.c (.lit (.bool (decide (a = b))))) := rfl
theorem vstr_neq {a b : ByteArray} : vstr .neq a b KV = KV (.c (.lit (.bool (!decide (a = b))))) := rfl
theorem aggV_map : ∀ cs : List C, aggV (cs.map V.c) = .agg cs
 | [] => rfl
 | c :: cs => by rw [List.map_cons, aggV_c, aggV_map cs]; rfl
theorem ldA_box {b n : Nat} {cs : List C} (h : cs.length = n) : ldA nb b (cs.map V.c) 0 n KV = (b < nb ∧ KV (.agg cs)) := by
 have h1 : (cs.map V.c).take n = cs.map V.c := List.take_of_length_le (by simp [h])
 have h2 : (cs.map V.c).map V.fz = cs.map V.c := by simp [List.map_map, Function.comp_def, V.fz]
 have h3 : (cs.map V.c).all V.isPO = true := by simp [List.all_map, Function.comp_def, V.isPO]
 simp only [ldA, List.drop_zero, h1, h2, h3, aggV_map, List.length_map, h, true_and]
theorem boxK_c {t : Option Tmp} {d : Nat} {x : C} (h : ∀ u, t = some u → (fr u).isOw = false) : boxK t d (.c x) ⟨fr, bx, nb⟩ K = K ⟨up fr d (.bp nb 0), up bx nb [.c x], nb + 1⟩ := by
 cases t with
 | none => rfl
 | some u => simp [boxK, V.bcells, use_some, h u rfl, S.put]
theorem box_c {t : Tmp} {d : Nat} {x : C} (h : fr t = .c x) : boxK (some t) d (.c x) ⟨fr, bx, nb⟩ K = K ⟨up fr d (.bp nb 0), up bx nb [.c x], nb + 1⟩ := boxK_c (fun u hu => by cases hu; rw [h]; rfl)
theorem box_none {d : Nat} {x : C} : boxK none d (.c x) ⟨fr, bx, nb⟩ K = K ⟨up fr d (.bp nb 0), up bx nb [.c x], nb + 1⟩ := rfl
theorem box_noneo {d : Nat} {E : Option (TypeId × Nat)} {es : List (List C)} : boxK none d (.ow E es) ⟨fr, bx, nb⟩ K = K ⟨up fr d (.bp nb 0), up bx nb [.ow E es], nb + 1⟩ := rfl
theorem box_agg {t : Tmp} {d : Nat} {cs : List C} (h : fr t = .agg cs) : boxK (some t) d (.agg cs) ⟨fr, bx, nb⟩ K = K ⟨up fr d (.bp nb 0), up bx nb (cs.map .c), nb + 1⟩ := by
 simp [boxK, V.bcells, use_some, h, S.put, V.isOw]
theorem box_ow {t : Tmp} {d : Nat} {E : Option (TypeId × Nat)} {es : List (List C)} (h : fr t = .ow E es) : boxK (some t) d (.ow E es) ⟨fr, bx, nb⟩ K = K ⟨up (up fr t .un) d (.bp nb 0), up bx nb [.ow E es], nb + 1⟩ := by
 simp [boxK, V.bcells, use_some, h, S.put, V.isOw]
theorem box_bp {t : Tmp} {d : Nat} {i o : Nat} (h : fr t = .bp i o) : boxK (some t) d (.bp i o) ⟨fr, bx, nb⟩ K = K ⟨up fr d (.bp nb 0), up bx nb [.bp i o], nb + 1⟩ := by
 simp [boxK, V.bcells, use_some, h, S.put, V.isOw]
theorem box_ms {t : Tmp} {d : Nat} {i o l c z : Nat} (h : fr t = .ms i o l c z) : boxK (some t) d (.ms i o l c z) ⟨fr, bx, nb⟩ K = K ⟨up fr d (.bp nb 0), up bx nb [.ms i o l c z], nb + 1⟩ := by
 simp [boxK, V.bcells, use_some, h, S.put, V.isOw]
theorem box_mag {t : Tmp} {d : Nat} {vs : List V} (h : fr t = .mag vs) : boxK (some t) d (.mag vs) ⟨fr, bx, nb⟩ K = K ⟨up fr d (.bp nb 0), up bx nb vs, nb + 1⟩ := by
 simp [boxK, V.bcells, use_some, h, S.put, V.isOw]
theorem box_clo {t : Tmp} {d : Nat} {f : Fn} {x y : List V} (h : fr t = .clo f x y) : boxK (some t) d (.clo f x y) ⟨fr, bx, nb⟩ K = K ⟨up fr d (.bp nb 0), up bx nb [.clo f x y], nb + 1⟩ := by
 simp [boxK, V.bcells, use_some, h, S.put, V.isOw]
def stS (n : Nat) (t : Option Tmp) (dO : Option Tmp) (b o : Nat) (v : V) (s : S) (K : S → Prop) : Prop := match v.bcells with
 | some cs => (b < s.nb ∧ cs.length = n ∧ o + n ≤ (s.bx b).length) ∧ K ((let s' := s.use t; { s' with bx := up s'.bx b (setV (s'.bx b) o cs) } : S).put dO .sk)
 | none => False
theorem stS_of {i : TI} {n : Nat} {t dO : Option Tmp} {b o : Nat} {v : V} {s : S} (h : i.size = n) : stoK (some i) t dO (.bp b o) v s K = (isMb (s.bx b) = false ∧ stS n t dO b o v s K) := by
 subst h; cases hv : v.bcells <;> simp only [stoK, stS, hv]
 ·simp
 ·exact propext ⟨fun ⟨⟨a, b, c, d⟩, e⟩ => ⟨d, ⟨a, b, c⟩, e⟩, fun ⟨d, ⟨a, b, c⟩, e⟩ => ⟨⟨a, b, c, d⟩, e⟩⟩
theorem isMb_cons {v : V} {l : List V} : isMb (v :: l) = v.isMk := rfl
theorem isMb_nil : isMb [] = false := rfl
theorem isMb_map : ∀ {l : List C}, isMb (l.map V.c) = false
 | [] => rfl
 | _ :: _ => rfl
theorem isMk_c {x : C} : (V.c x).isMk = false := rfl
theorem isMk_ow {E : Option (TypeId × Nat)} {es : List (List C)} : (V.ow E es).isMk = false := rfl
theorem isMk_bp {i o : Nat} : (V.bp i o).isMk = false := rfl
theorem isMk_ms {i o l c z : Nat} : (V.ms i o l c z).isMk = false := rfl
theorem isMk_clo {f : Fn} {x y : List V} : (V.clo f x y).isMk = false := rfl
theorem isMk_mr {i : Nat} : (V.mr i).isMk = false := rfl
theorem isMk_yl {i : Nat} : (V.yl i).isMk = false := rfl
theorem isMk_mk {bs : List Nat} {cl : Nat} : (V.mk bs cl).isMk = true := rfl
theorem stS_none {dO : Option Tmp} {b o : Nat} {x : C} : stS 1 none dO b o (.c x) ⟨fr, bx, nb⟩ K = ((b < nb ∧ o + 1 ≤ (bx b).length) ∧ K ((⟨fr, up bx b (setV (bx b) o [.c x]), nb⟩ : S).put dO .sk)) := by
 simp [stS, V.bcells, use_none]
theorem stS_c {t : Tmp} {dO : Option Tmp} {b o : Nat} {x : C} (h : fr t = .c x) : stS 1 (some t) dO b o (.c x) ⟨fr, bx, nb⟩ K = ((b < nb ∧ o + 1 ≤ (bx b).length) ∧ K ((⟨fr, up bx b (setV (bx b) o [.c x]), nb⟩ : S).put dO .sk)) := by
 simp [stS, V.bcells, use_some, h, V.isOw]
theorem stS_ow {t : Tmp} {dO : Option Tmp} {b o : Nat} {E : Option (TypeId × Nat)} {es : List (List C)} (h : fr t = .ow E es) : stS 1 (some t) dO b o (.ow E es) ⟨fr, bx, nb⟩ K =
  ((b < nb ∧ o + 1 ≤ (bx b).length) ∧ K ((⟨up fr t .un, up bx b (setV (bx b) o [.ow E es]), nb⟩ : S).put dO .sk)) := by
 simp [stS, V.bcells, use_some, h, V.isOw]
theorem stS_agg {n : Nat} {t : Tmp} {dO : Option Tmp} {b o : Nat} {cs : List C} (h : fr t = .agg cs) : stS n (some t) dO b o (.agg cs) ⟨fr, bx, nb⟩ K =
  ((b < nb ∧ cs.length = n ∧ o + n ≤ (bx b).length) ∧ K ((⟨fr, up bx b (setV (bx b) o (cs.map .c)), nb⟩ : S).put dO .sk)) := by
 simp [stS, V.bcells, use_some, h, V.isOw]
theorem stS_bp {t : Tmp} {dO : Option Tmp} {b o i k : Nat} (h : fr t = .bp i k) : stS 1 (some t) dO b o (.bp i k) ⟨fr, bx, nb⟩ K = ((b < nb ∧ o + 1 ≤ (bx b).length) ∧ K ((⟨fr, up bx b (setV (bx b) o [.bp i k]), nb⟩ : S).put dO .sk)) := by
 simp [stS, V.bcells, use_some, h, V.isOw]
theorem stS_clo {t : Tmp} {dO : Option Tmp} {b o : Nat} {f : Fn} {x y : List V} (h : fr t = .clo f x y) : stS 1 (some t) dO b o (.clo f x y) ⟨fr, bx, nb⟩ K = ((b < nb ∧ o + 1 ≤ (bx b).length) ∧ K ((⟨fr, up bx b (setV (bx b) o [.clo f x y]), nb⟩ : S).put dO .sk)) := by
 simp [stS, V.bcells, use_some, h, V.isOw]
theorem stS_ms {t : Tmp} {dO : Option Tmp} {b o i k l c z : Nat} (h : fr t = .ms i k l c z) : stS 1 (some t) dO b o (.ms i k l c z) ⟨fr, bx, nb⟩ K = ((b < nb ∧ o + 1 ≤ (bx b).length) ∧ K ((⟨fr, up bx b (setV (bx b) o [.ms i k l c z]), nb⟩ : S).put dO .sk)) := by
 simp [stS, V.bcells, use_some, h, V.isOw]
theorem stS_mag {n : Nat} {t : Tmp} {dO : Option Tmp} {b o : Nat} {vs : List V} (h : fr t = .mag vs) : stS n (some t) dO b o (.mag vs) ⟨fr, bx, nb⟩ K =
  ((b < nb ∧ vs.length = n ∧ o + n ≤ (bx b).length) ∧ K ((⟨fr, up bx b (setV (bx b) o vs), nb⟩ : S).put dO .sk)) := by
 simp [stS, V.bcells, use_some, h, V.isOw]
theorem setV_z {v x : V} {r : List V} : setV (v :: r) 0 [x] = x :: r := by simp [setV]
theorem setV_s {v x : V} {r : List V} {k : Nat} : setV (v :: r) (k + 1) [x] = v :: setV r k [x] := by simp [setV, Nat.add_right_comm]
theorem wrap_i64 (n : Int) (h : -9223372036854775808 ≤ n ∧ n ≤ 9223372036854775807) : IntKind.i64.wrap n = n := by rw [IntKind.wrap_i64]; omega
theorem call_fn {s : S} {g : FuncId} {fs cs : List C} {args as : List V} {r : V} (hm : args.mapM (imm s) = some as) (h : FnOK P G g (fs.map .c ++ as ++ cs.map .c) r) (hb : args.any V.boxy = true → r.isFlat = true) (hK : KV r) :
  vcall P G s (.c (.fn (.func g) fs cs)) args KV := by
 simp only [vcall, hm]
 exact ⟨r, h, hb, hK⟩
end
end Go.Vl
/- Values without memory: contracts of functions that get to see boxes, from their texts. -/
namespace Go.Vl
open Go Go.RowKit
section
variable {P : Program} {G : Gl} {tr : List Nat} {n : Nat} {I0 : Ft} {M : Mx} {w0 : World} {I : Ft} {β : Nat → Option Nat} {ob : Loc → Option Nat} {s : S} {a : Act} {w : World}
def obB (ob : Nat → Nat → Option Nat) : Loc → Option Nat
 | .t _ => none
 | .b i j => ob i j
theorem St.initB {ob : Nat → Nat → Option Nat} {vs : Array Value} {args : List V} {b0 : List (List V)} {m : Nat} (hI : ∀ b o, I b o → b < w.heap.size) (hg : GOK G I w) (hB : BxR (Wr M w) I w β ob b0) (hsz : vs.size = args.length)
  (ha : ∀ j x, args[j]? = some x → LR (Wr M w) I β w none (vs.getD j undef) x) (hm : m = (vs ++ Array.replicate (n - vs.size) undef).size) :
  St G m I ⟨M.m, β, []⟩ w I β (obB ob) ⟨fun j => args.getD j .un, bxs b0, b0.length⟩ { tmps := vs ++ Array.replicate (n - vs.size) undef, defers := [] } w where
 size := hm.symm
 defers := rfl
 below := BelowM.refl _ _
 kept := fun _ _ _ => rfl
 ilow := fun _ _ h => h
 ihigh := fun _ _ h => .inl h
 ibnd := hI
 fr := fun t => by
  simp only [obB]
  by_cases ht : t < args.length
  ·have e1 : args.getD t .un = args[t] := by simp [List.getD, ht]
   have e2 : (vs ++ Array.replicate (n - vs.size) undef).getD t undef = vs.getD t undef := by
    rw [Array.getD_eq_getD_getElem?, Array.getElem?_append_left (by omega), ← Array.getD_eq_getD_getElem?]
   rw [e1, e2]
   exact ha t _ (List.getElem?_eq_getElem ht)
  ·have e1 : args.getD t .un = .un := by simp [List.getD, List.getElem?_eq_none (Nat.le_of_not_lt ht)]
   rw [e1]; simp only [LR]; exact .un _
 bx := fun i hi => by
  simp only at hi
  obtain ⟨blk, cur, e1, e2, e3, e4, e5, e7⟩ := hB.bx i _ (List.getElem?_eq_getElem hi)
  have e : bxs b0 i = b0[i] := by simp [bxs, List.getD, hi]
  refine ⟨blk, cur, e1, e2, by simp only [e]; exact e3, by simp only [e]; exact e4, fun j => ?_, e7⟩
  simp only [e]; exact e5 j
 bnone := fun i hi => hB.bnone i hi
 ext := fun _ _ h => h
 bnew := fun _ _ h => .inl h
 binj := hB.binj
 oinj := fun L L' b h h' => by
  cases L <;> simp only [obB] at h <;> try cases h
  cases L' <;> simp only [obB] at h' <;> try cases h'
  obtain ⟨e1, e2⟩ := hB.oinj _ _ _ _ b h h'
  rw [e1, e2]
 obx := fun L b i h => by
  cases L <;> simp only [obB] at h <;> try cases h
  exact hB.obx _ _ b i h
 obnd := fun L b h => by
  cases L <;> simp only [obB] at h <;> try cases h
  exact hB.obnd _ _ b h
 glob := hg
def endB (P : Program) (k : Nat) (r : V) (b1 : List (List V)) (rs : List ResultVar) (e : VE) (s : S) : Prop :=
 (match e with | .exit _ => False | _ => True) ∧ ∃ l, S.Le k (hdS l b1) s ∧ retV P false (hdS l b1) r rs
theorem FnB_ofK {f : FuncId} {fn : Func} {c : Code} {args : List V} {b0 b1 : List (List V)} {r : V} (tr : List Nat) (hm : P.follows .mixedOrders = true) (hf : P.funcs[f]? = some fn) (hb : fn.body = some c)
  (hname : (fn.name == "runtime.NumGoroutine") = false) (hn : args.length ≤ fn.ntmps) (hck : cok fn.ntmps tr c = true) (hcomp : r.compT = true)
  (hwf : (∀ x ∈ args, x.lt b0.length) ∧ (∀ b ∈ b0, ∀ x ∈ b, x.lt b0.length) ∧ b0.length ≤ b1.length)
  (h : vwpK P G tr b0.length c (endB P b0.length r b1 fn.results.toList) ⟨fun j => args.getD j .un, bxs b0, b0.length⟩) : FnB P G f args b0 r b1 := by
 refine ⟨⟨fn, hf, hname, c, hb⟩, hwf, fun I M w vs β ob hI hg hB hsz ha => ?_⟩
 have hsize : fn.ntmps = (vs ++ Array.replicate (fn.ntmps - vs.size) undef).size := by simp; omega
 have hst := St.initB (n := fn.ntmps) hI hg hB hsz ha hsize
 have hβlt : ∀ i b, β i = some b → i < b0.length := fun i b hi => by
  by_cases h : i < b0.length
  ·exact h
  ·rw [hB.bnone i (by omega)] at hi; cases hi
 refine callsIn_FW.1 (callsIn_of_wp_marks (F := FW none) (n := 0) hf hb trivial (vwpK_soundIn (l := none) hm (fun i b hi => hβlt i b hi) (.inl rfl) c hck _ _ (fun e s a w' hq hse => ?_) _ _ _ h (.of ⟨_, _, _, hst⟩)))
 obtain ⟨hex, l, hle, hret⟩ := hq
 have hse : SX G fn.ntmps tr I ⟨M.m, β, []⟩ w (hdS l b1) a w' := by
  obtain ⟨I1, M1, w1, rs, hreb, hsame, hse⟩ := hse
  exact ⟨I1, M1, w1, rs, hreb, hsame, hse.weaken (by rw [hreb.e]; exact fun i b hi => hβlt i b hi) hle⟩
 have main : LeavesInM (FW none) 0 P fn a.tmps (fun e w' => ∃ v' I' β' ob' o', e = .returned v' ∧ BelowM (GT G) M w w' ∧ (∀ b o, I b o → I' b o) ∧ (∀ b o, I' b o → I b o ∨ (Wr M w b ∧ b < w'.heap.size)) ∧
   (∀ b o, I b o → w'.cell? ⟨b, o, none⟩ = w.cell? ⟨b, o, none⟩) ∧ (∀ i, i < b0.length → β' i = β i) ∧ (∀ i b, b0.length ≤ i → β' i = some b → Wr M w b) ∧ BxR (Wr M w) I' w' β' ob' b1 ∧
   LR (Wr M w) I' β' w' o' v' r ∧ (∀ b, o' = some b → (b < w'.heap.size ∧ Wr M w b) ∧ (∀ i j, ob' i j ≠ some b) ∧ ∀ i, β' i ≠ some b)) a.defers .returning w' := by
  refine hse.leaves rfl fun w' I' β' ob' hst' => ?_
  obtain ⟨v, o', h1, h2, h3⟩ := run_ret_ok (P := P) (fn := fn) hst' hcomp (Ic := I') (fun _ => rfl) (fun _ _ h => h) (fun hz => by cases hz) hret
  have hext : ∀ i, i < b0.length → β' i = β i := fun i hi => by
   obtain ⟨blk, _, e1, _⟩ := hB.bx i _ (List.getElem?_eq_getElem hi)
   rw [e1]; exact hst'.ext i blk e1
  refine ⟨v, h1, v, I', β', fun i j => if i < b1.length then ob' (.b i j) else none, o', rfl, ⟨hst'.below.os, hst'.below.tape, hst'.below.output, hst'.below.size, hst'.below.block, hst'.below.drawn⟩, hst'.ilow, fun b o hbo => ?_, hst'.kept, hext, fun i b hi hb => ?_, ?_, h2, fun b hb => ?_⟩
  ·rcases hst'.ihigh b o hbo with h4 | h4
   ·exact .inl h4
   ·exact .inr ⟨h4, hst'.ibnd b o hbo⟩
  ·rcases hst'.bnew i b hb with h4 | h4
   ·have := hβlt i b h4; omega
   ·exact h4
  ·exact {
    bx := fun i cs hcs => by
     have hi : i < b1.length := (List.getElem?_eq_some_iff.1 hcs).1
     obtain ⟨blk, cur, e1, e2, e3, e4, e5, e7⟩ := hst'.bx i hi
     have e : bxs b1 i = cs := by simp [bxs, List.getD, hcs]
     refine ⟨blk, cur, e1, e2, by simp only [hdS, e] at e3; exact e3, by simp only [hdS, e] at e4; exact e4, fun j => ?_, e7⟩
     have := e5 j
     simp only [hdS, e] at this
     rw [if_pos hi]; exact this
    bnone := fun i hi => hst'.bnone i hi
    binj := hst'.binj
    oinj := fun i j i' j' b h h' => by
     split at h <;> try cases h
     split at h' <;> try cases h'
     have := hst'.oinj _ _ b h h'
     simp only [Loc.b.injEq] at this; exact this
    obx := fun i j b k h => by
     split at h <;> try cases h
     exact hst'.obx _ b k h
    obnd := fun i j b h => by
     split at h <;> try cases h
     exact hst'.obnd _ b h
    olen := fun i j hi => by rw [if_neg (by omega)] }
  ·obtain ⟨t, ht⟩ := h3 b hb
   refine ⟨hst'.obnd _ b ht, fun i j h => ?_, fun i => hst'.obx _ b i ht⟩
   simp only at h
   split at h <;> try cases h
   have := hst'.oinj _ _ b ht h
   cases this
 cases e with
 | normal => exact main
 | exit i => exact hex.elim
 | ret => exact main
theorem FnE_ofK {f : FuncId} {fn : Func} {c : Code} {args : List V} {b0 : List (List V)} {R : V → List (List V) → Prop} (tr : List Nat) (hm : P.follows .mixedOrders = true) (hf : P.funcs[f]? = some fn) (hb : fn.body = some c)
  (hname : (fn.name == "runtime.NumGoroutine") = false) (hn : args.length ≤ fn.ntmps) (hck : cok fn.ntmps tr c = true) (hcomp : ∀ r b1, R r b1 → r.compT = true)
  (hwf : (∀ x ∈ args, x.lt b0.length) ∧ (∀ b ∈ b0, ∀ x ∈ b, x.lt b0.length) ∧ ∀ r b1, R r b1 → b0.length ≤ b1.length)
  (h : vwpK P G tr b0.length c (fun e s => ∃ r b1, R r b1 ∧ endB P b0.length r b1 fn.results.toList e s) ⟨fun j => args.getD j .un, bxs b0, b0.length⟩) : FnE P G f args b0 R := by
 refine ⟨⟨fn, hf, hname, c, hb⟩, hwf, fun I M w vs β ob hI hg hB hsz ha => ?_⟩
 have hsize : fn.ntmps = (vs ++ Array.replicate (fn.ntmps - vs.size) undef).size := by simp; omega
 have hst := St.initB (n := fn.ntmps) hI hg hB hsz ha hsize
 have hβlt : ∀ i b, β i = some b → i < b0.length := fun i b hi => by
  by_cases h : i < b0.length
  ·exact h
  ·rw [hB.bnone i (by omega)] at hi; cases hi
 refine callsIn_FW.1 (callsIn_of_wp_marks (F := FW none) (n := 0) hf hb trivial (vwpK_soundIn (l := none) hm (fun i b hi => hβlt i b hi) (.inl rfl) c hck _ _ (fun e s a w' hq hse => ?_) _ _ _ h (.of ⟨_, _, _, hst⟩)))
 obtain ⟨r, b1, hR, hex, l, hle, hret⟩ := hq
 have hse : SX G fn.ntmps tr I ⟨M.m, β, []⟩ w (hdS l b1) a w' := by
  obtain ⟨I1, M1, w1, rs, hreb, hsame, hse⟩ := hse
  exact ⟨I1, M1, w1, rs, hreb, hsame, hse.weaken (by rw [hreb.e]; exact fun i b hi => hβlt i b hi) hle⟩
 have main : LeavesInM (FW none) 0 P fn a.tmps (fun e w' => ∃ r b1, R r b1 ∧ ∃ v' I' β' ob' o', e = .returned v' ∧ BelowM (GT G) M w w' ∧ (∀ b o, I b o → I' b o) ∧ (∀ b o, I' b o → I b o ∨ (Wr M w b ∧ b < w'.heap.size)) ∧
   (∀ b o, I b o → w'.cell? ⟨b, o, none⟩ = w.cell? ⟨b, o, none⟩) ∧ (∀ i, i < b0.length → β' i = β i) ∧ (∀ i b, b0.length ≤ i → β' i = some b → Wr M w b) ∧ BxR (Wr M w) I' w' β' ob' b1 ∧
   LR (Wr M w) I' β' w' o' v' r ∧ (∀ b, o' = some b → (b < w'.heap.size ∧ Wr M w b) ∧ (∀ i j, ob' i j ≠ some b) ∧ ∀ i, β' i ≠ some b)) a.defers .returning w' := by
  refine hse.leaves rfl fun w' I' β' ob' hst' => ?_
  obtain ⟨v, o', h1, h2, h3⟩ := run_ret_ok (P := P) (fn := fn) hst' (hcomp r b1 hR) (Ic := I') (fun _ => rfl) (fun _ _ h => h) (fun hz => by cases hz) hret
  have hext : ∀ i, i < b0.length → β' i = β i := fun i hi => by
   obtain ⟨blk, _, e1, _⟩ := hB.bx i _ (List.getElem?_eq_getElem hi)
   rw [e1]; exact hst'.ext i blk e1
  refine ⟨v, h1, r, b1, hR, v, I', β', fun i j => if i < b1.length then ob' (.b i j) else none, o', rfl, ⟨hst'.below.os, hst'.below.tape, hst'.below.output, hst'.below.size, hst'.below.block, hst'.below.drawn⟩, hst'.ilow, fun b o hbo => ?_, hst'.kept, hext, fun i b hi hb => ?_, ?_, h2, fun b hb => ?_⟩
  ·rcases hst'.ihigh b o hbo with h4 | h4
   ·exact .inl h4
   ·exact .inr ⟨h4, hst'.ibnd b o hbo⟩
  ·rcases hst'.bnew i b hb with h4 | h4
   ·have := hβlt i b h4; omega
   ·exact h4
  ·exact {
    bx := fun i cs hcs => by
     have hi : i < b1.length := (List.getElem?_eq_some_iff.1 hcs).1
     obtain ⟨blk, cur, e1, e2, e3, e4, e5, e7⟩ := hst'.bx i hi
     have e : bxs b1 i = cs := by simp [bxs, List.getD, hcs]
     refine ⟨blk, cur, e1, e2, by simp only [hdS, e] at e3; exact e3, by simp only [hdS, e] at e4; exact e4, fun j => ?_, e7⟩
     have := e5 j
     simp only [hdS, e] at this
     rw [if_pos hi]; exact this
    bnone := fun i hi => hst'.bnone i hi
    binj := hst'.binj
    oinj := fun i j i' j' b h h' => by
     split at h <;> try cases h
     split at h' <;> try cases h'
     have := hst'.oinj _ _ b h h'
     simp only [Loc.b.injEq] at this; exact this
    obx := fun i j b k h => by
     split at h <;> try cases h
     exact hst'.obx _ b k h
    obnd := fun i j b h => by
     split at h <;> try cases h
     exact hst'.obnd _ b h
    olen := fun i j hi => by rw [if_neg (by omega)] }
  ·obtain ⟨t, ht⟩ := h3 b hb
   refine ⟨hst'.obnd _ b ht, fun i j h => ?_, fun i => hst'.obx _ b i ht⟩
   simp only at h
   split at h <;> try cases h
   have := hst'.oinj _ _ b ht h
   cases this
 cases e with
 | normal => exact main
 | exit i => exact hex.elim
 | ret => exact main
end
end Go.Vl
namespace Go.Vl
open Go Go.RowKit
theorem BL_self : ∀ (bl : List (List V)) (k : Nat) (f : Nat → List V), (∀ i b, bl[i]? = some b → f (k + i) = b) → BL k bl f
 | [], _, _, _ => trivial
 | b :: r, k, f, h => ⟨by simpa using h 0 b rfl, BL_self r (k + 1) f fun i c hc => by have := h (i + 1) c (by simpa using hc); rw [Nat.add_assoc, Nat.add_comm 1 i]; exact this⟩
theorem renP_id (x : V) : x.renP (fun i => i) = x := by cases x <;> rfl
theorem ren_id (x : V) : x.ren (fun i => i) = x := by
 cases x <;> simp only [V.ren]
 ·rw [List.map_congr_left (g := id) (fun x _ => renP_id x), List.map_congr_left (g := id) (fun x _ => renP_id x)]; simp
 ·rw [List.map_congr_left (g := id) (fun x _ => renP_id x)]; simp
 ·rw [List.map_congr_left (g := id) (fun p _ => by rw [renP_id]; rfl)]; simp
theorem ren_map_id (l : List V) : l.map (V.ren fun i => i) = l := by
 rw [List.map_congr_left (g := id) (fun x _ => ren_id x)]; simp
theorem map_same {α : Type} {f : α → α} : ∀ {l : List α}, (∀ x ∈ l, f x = x) → l.map f = l
 | [], _ => rfl
 | x :: l, h => by rw [List.map_cons, h x (List.mem_cons_self ..), map_same fun y hy => h y (List.mem_cons_of_mem _ hy)]
theorem renP_lt0 {ρ : Nat → Nat} {x : V} (h : x.ltP 0) : x.renP ρ = x := by cases x <;> simp_all [V.renP, V.ltP]
theorem ren_lt0 {ρ : Nat → Nat} {x : V} (h : x.lt 0) : x.ren ρ = x := by
 cases x <;> simp only [V.ren] <;> simp only [V.lt] at h <;> try omega
 ·rw [map_same fun x hx => renP_lt0 (h.1 x hx), map_same fun x hx => renP_lt0 (h.2 x hx)]
 ·rw [map_same fun x hx => renP_lt0 (h x hx)]
 ·rw [map_same fun p hp => by rw [renP_lt0 (h p hp)]]
theorem rho_range (nb : Nat) : rho (List.range nb) nb = fun i => i := by
 funext i
 unfold rho
 rw [List.length_range]
 split
 ·rename_i h; simp [List.getD, h]
 ·omega
theorem rho_nil (nb : Nat) : rho [] nb = fun i => nb + i := by
 funext i; simp [rho]
theorem setBx_id : ∀ (b1 : List (List V)) (k : Nat) (f : Nat → List V), setBx (fun i => i) k b1 f = fun i => if k ≤ i ∧ i < k + b1.length then b1.getD (i - k) [] else f i
 | [], k, f => by funext i; simp only [setBx, List.length_nil]; rw [if_neg (by omega)]
 | b :: r, k, f => by
  funext i
  simp only [setBx, setBx_id r, ren_map_id, List.length_cons, up]
  by_cases h1 : k + 1 ≤ i ∧ i < k + 1 + r.length
  ·rw [if_pos h1, if_pos (by omega)]
   have : i - k = (i - (k + 1)) + 1 := by omega
   rw [this]; rfl
  ·rw [if_neg h1]
   by_cases h2 : i = k
   ·subst h2; rw [if_pos rfl, if_pos (by omega)]; simp
   ·rw [if_neg h2, if_neg (by omega)]
theorem bxIn_id : ∀ (b0 : List (List V)) (k nb : Nat) (f : Nat → List V), (∀ i b, b0[i]? = some b → k + i < nb ∧ f (k + i) = b) → bxIn f nb (fun i => i) k b0
 | [], _, _, _, _ => trivial
 | b :: r, k, nb, f, h => by
  refine ⟨?_, bxIn_id r (k + 1) nb f fun i c hc => ?_⟩
  ·have := h 0 b rfl
   rw [ren_map_id]; exact this
  ·have := h (i + 1) c (by simpa using hc)
   rw [Nat.add_assoc, Nat.add_comm 1 i]; exact this
def isEnd : VE → Bool
 | .exit _ => false
 | _ => true
theorem isEnd_ok : ∀ e : VE, isEnd e = true → (match e with | .exit _ => False | _ => True)
 | .exit _, h => by cases h
 | .normal, _ => trivial
 | .ret, _ => trivial
def xargsOk (args : List V) (b0 : List (List V)) : Bool := args.all (fun v => v.ltB b0.length) && b0.all fun b => b.all fun v => v.ltB b0.length
end Go.Vl
/- Maps, fourth part: what a walk needs: the operations on maps as rows, and where a key is. -/
namespace Go.Vl
open Go Go.RowKit
section
variable {P : Program} {G : Gl} {tr : List Nat} {fr : Nat → V} {bx : Nat → List V} {nb : Nat} {K : S → Prop} {KV : V → Prop} {dO : Option Tmp} {T ty : TypeId} {pos : String} {af : Array Edge} {g : Option (Nat × Bool)}
def mapK (dO : Option Tmp) (K : S → Prop) (s : S) : Prop := K (s.put dO .sk)
theorem mapK_mk : mapK dO K ⟨fr, bx, nb⟩ = K ((⟨fr, bx, nb⟩ : S).put dO .sk) := rfl
def nextK (t : Tmp) (dO : Option Tmp) (s : S) (K : S → Prop) (it : Option V) (v : V) : Prop := K ((match it with | some x => { s with fr := up s.fr t x } | none => s : S).put dO v)
theorem nextK_some {t : Tmp} {x v : V} : nextK t dO ⟨fr, bx, nb⟩ K (some x) v = K ((⟨up fr t x, bx, nb⟩ : S).put dO v) := rfl
theorem nextK_none {t : Tmp} {v : V} : nextK t dO ⟨fr, bx, nb⟩ K none v = K ((⟨fr, bx, nb⟩ : S).put dO v) := rfl
theorem st_makeMap {i : TI} {kt et : TypeId} (hT : ti P T = some i) (hk : i.kd = .map kt et) : VStep P G tr ⟨dO, .makeMap T none, ty, pos, af, g⟩ ⟨fr, bx, nb⟩ K = K ((⟨fr, up bx nb [.mk [] 0], nb + 1⟩ : S).put dO (.mr nb)) := by
 obtain ⟨kd, a, b, c, d, f, e⟩ := i
 simp only at hk; subst hk
 simp only [VStep, hT]
theorem st_mapUpdate {m k x : Operand} : VStep P G tr ⟨dO, .mapUpdate T m k x, ty, pos, af, g⟩ ⟨fr, bx, nb⟩ K = vmapSet P T ⟨fr, bx, nb⟩ (ev G ⟨fr, bx, nb⟩ m) (ev G ⟨fr, bx, nb⟩ k) (ev G ⟨fr, bx, nb⟩ x) (mapK dO K) := rfl
theorem st_insert {m k x : Operand} : VStep P G tr ⟨dO, .insert T m k x, ty, pos, af, g⟩ ⟨fr, bx, nb⟩ K = vmapSet P T ⟨fr, bx, nb⟩ (ev G ⟨fr, bx, nb⟩ m) (ev G ⟨fr, bx, nb⟩ k) (ev G ⟨fr, bx, nb⟩ x) (mapK dO K) := rfl
theorem st_mapEntry {m k : Operand} : VStep P G tr ⟨dO, .mapEntry T m k, ty, pos, af, g⟩ ⟨fr, bx, nb⟩ K = vmapEntry P T ⟨fr, bx, nb⟩ (ev G ⟨fr, bx, nb⟩ m) (ev G ⟨fr, bx, nb⟩ k) (mutK dO K) := rfl
theorem st_entryStore {m k x : Operand} : VStep P G tr ⟨dO, .entryStore T m k x, ty, pos, af, g⟩ ⟨fr, bx, nb⟩ K = ventrySet ⟨fr, bx, nb⟩ (ev G ⟨fr, bx, nb⟩ m) (ev G ⟨fr, bx, nb⟩ k) (ev G ⟨fr, bx, nb⟩ x) (mapK dO K) := rfl
theorem st_next {t : Tmp} : VStep P G tr ⟨dO, .next (.tmp t) false, ty, pos, af, g⟩ ⟨fr, bx, nb⟩ K = vnext ⟨fr, bx, nb⟩ (fr t) (nextK t dO ⟨fr, bx, nb⟩ K) := rfl
theorem st_lookup {m k : Operand} {ok : Bool} : VStep P G tr ⟨dO, .lookup T m k ok, ty, pos, af, g⟩ ⟨fr, bx, nb⟩ K = vlookup P T ⟨fr, bx, nb⟩ (ev G ⟨fr, bx, nb⟩ m) (ev G ⟨fr, bx, nb⟩ k) ok (putK dO ⟨fr, bx, nb⟩ K) := rfl
theorem st_range {x : Operand} : VStep P G tr ⟨dO, .range T x, ty, pos, af, g⟩ ⟨fr, bx, nb⟩ K = vrange P T ⟨fr, bx, nb⟩ (ev G ⟨fr, bx, nb⟩ x) (putK dO ⟨fr, bx, nb⟩ K) := rfl
theorem st_entry {x : Operand} : VStep P G tr ⟨dO, .entry x, ty, pos, af, g⟩ ⟨fr, bx, nb⟩ K = ventry ⟨fr, bx, nb⟩ (ev G ⟨fr, bx, nb⟩ x) (putK dO ⟨fr, bx, nb⟩ K) := rfl
theorem fz_mr {i : Nat} : (V.mr i).fz = .mr i := rfl
theorem fz_yl {i : Nat} : (V.yl i).fz = .yl i := rfl
theorem isOw_mr {i : Nat} : (V.mr i).isOw = false := rfl
theorem isOw_yl {i : Nat} : (V.yl i).isOw = false := rfl
theorem isOw_it {i a b : Nat} {l : List Nat} : (V.it i a b l).isOw = true := rfl
theorem isPO_mr {i : Nat} : (V.mr i).isPO = true := rfl
theorem isPO_yl {i : Nat} : (V.yl i).isPO = true := rfl
theorem isPR_mr {i : Nat} : (V.mr i).isPR = true := rfl
theorem isPR_yl {i : Nat} : (V.yl i).isPR = true := rfl
theorem dr_c {x : C} : (V.c x).dr = .c x := rfl
theorem dr_agg {x : List C} : (V.agg x).dr = .agg x := rfl
def ents {α β : Type} (f : α → V) (h : β → V) : List (α × β) → List V
 | [] => []
 | (a, b) :: l => f a :: h b :: ents f h l
theorem ents_append {α β : Type} {f : α → V} {h : β → V} : ∀ l m : List (α × β), ents f h (l ++ m) = ents f h l ++ ents f h m
 | [], _ => rfl
 | (a, b) :: l, m => by simp [ents, ents_append l m]
theorem keysOf_ents {α β : Type} {ag : Bool} {f : α → V} {h : β → V} {c : α → List C} (hf : ∀ a, (f a).kcs ag = some (c a)) : ∀ l : List (α × β), keysOf ag (ents f h l) = some (l.map fun p => c p.1)
 | [] => rfl
 | (a, b) :: l => by simp [ents, keysOf, hf, keysOf_ents hf l]
theorem ents_val {α β : Type} {f : α → V} {h : β → V} : ∀ (l : List (α × β)) (j : Nat) (p : α × β), l[j]? = some p → (ents f h l).getD (2 * j + 1) .un = h p.2 ∧ (ents f h l).getD (2 * j) .un = f p.1
 | [], j, p, hp => by simp at hp
 | (a, b) :: l, 0, p, hp => by simp at hp; subst hp; exact ⟨rfl, rfl⟩
 | (a, b) :: l, j + 1, p, hp => by
  have := ents_val (f := f) (h := h) l j p (by simpa using hp)
  rw [show 2 * (j + 1) = 2 * j + 1 + 1 by omega]
  simpa only [ents, List.getD_cons_succ] using this
theorem ents_set {α β : Type} {f : α → V} {h : β → V} : ∀ (l : List (α × β)) (j : Nat) (a : α) (b b' : β), l[j]? = some (a, b) → (ents f h l).set (2 * j + 1) (h b') = ents f h (l.set j (a, b'))
 | [], j, a, b, b', hp => by simp at hp
 | (a, b) :: l, 0, a', b0, b', hp => by simp at hp; simp [ents, hp.1]
 | (a, b) :: l, j + 1, a', b0, b', hp => by
  have := ents_set (f := f) (h := h) l j a' b0 b' (by simpa using hp)
  rw [show 2 * (j + 1) + 1 = 2 * j + 1 + 1 + 1 by omega]
  simp only [ents, List.set_cons_succ, this]
theorem findK_map {α : Type} {ks : List EK} {c : α → List C} [DecidableEq α] (hl : ∀ a, (c a).length = ks.length) (he : ∀ a b, eqCs ks (c a) (c b) = some (decide (a = b))) (a : α) : ∀ (l : List α) (i : Nat),
  findK ks (c a) (l.map c) i = some ((l.findIdx? (fun b => decide (a = b))).map (i + ·))
 | [], i => rfl
 | b :: l, i => by
  simp only [List.map_cons, findK, hl, if_true, he, List.findIdx?_cons]
  by_cases h : a = b
  ·simp [h]
  ·simp only [h, decide_false, Bool.false_eq_true, if_false]
   rw [findK_map hl he a l (i + 1)]
   cases l.findIdx? (fun b => decide (a = b)) <;> simp; omega
end
end Go.Vl
/- Values without memory: how the conditions of a function with boxes are computed. -/
namespace Go.Vl
open Go Go.RowKit
section
variable {P : Program} {G : Gl} {tr : List Nat} {fr : Nat → V} {bx : Nat → List V} {nb : Nat} {K : S → Prop} {KV : V → Prop} {Q : VE → S → Prop}
theorem frm_eq (args : List V) : frm 0 args = fun j => args.getD j .un := by
 have := initS_eq args
 simp only [initS, S.mk.injEq] at this
 exact this.1.symm
theorem bxs_zero {b : List V} {r : List (List V)} : bxs (b :: r) 0 = b := rfl
theorem bxs_succ {b : List V} {r : List (List V)} {n : Nat} : bxs (b :: r) (n + 1) = bxs r n := rfl
theorem bxs_nil {n : Nat} : bxs [] n = [] := by simp [bxs]
theorem FnB_by {f : FuncId} {fn : Func} {c : Code} {args : List V} {b0 b1 : List (List V)} {r : V} (tr : List Nat) (hm : P.follows .mixedOrders = true) (hf : P.funcs[f]? = some fn) (hb : fn.body = some c) (hname : (fn.name == "runtime.NumGoroutine") = false)
  {rs : List ResultVar} (hrs : fn.results.toList = rs) {n : Nat} (hn : fn.ntmps = n) (hck : cok n tr c = true) (hlen : args.length ≤ n) (hcomp : r.compT = true) {k : Nat} (hk : extK tr = k) (hk0 : b0.length = k)
  (hargs : xargsOk args b0 = true) (hle : b0.length ≤ b1.length)
  (h : vwpK P G tr k c (endB P k r b1 rs) ⟨frm 0 args, bxs b0, k⟩) : FnB P G f args b0 r b1 := by
 subst hn
 subst hrs
 subst hk0
 simp only [xargsOk, Bool.and_eq_true, List.all_eq_true] at hargs
 refine FnB_ofK tr hm hf hb hname hlen hck hcomp ⟨fun x hx => V.ltB_ok (hargs.1 x hx), fun b hb x hx => V.ltB_ok (hargs.2 b hb x hx), hle⟩ ?_
 rw [frm_eq] at h; exact h
theorem end_B {k : Nat} {r : V} {b1 : List (List V)} {rs : List ResultVar} {e : VE} (l : List (Nat × V)) (he : isEnd e = true) (hok : leOk l b1 = true) (hk : k ≤ b1.length) (hn : b1.length ≤ nb) (h1 : FL l fr) (h2 : BL 0 b1 bx) (hr : retV P false (hdS l b1) r rs) :
  endB P k r b1 rs e ⟨fr, bx, nb⟩ := ⟨isEnd_ok _ he, l, le_hd hok hk hn h1 h2, hr⟩
theorem retV_none {fr : Nat → V} {bx : Nat → List V} {nb : Nat} : retV P false ⟨fr, bx, nb⟩ (.tup []) [] := ⟨[], rfl, rfl, fun _ _ _ h => by simp at h⟩
theorem all_ltB_c (m : Nat) (cs : List C) : (cs.map V.c).all (fun x => x.ltB m) = true := by
 rw [List.all_map, List.all_eq_true]; intro x _; rfl
theorem callB_new {s : S} {f : V} {args all cargs : List V} {g : FuncId} {K : S → V → Prop} {r : V} {b1 : List (List V)} (hc : calleeV f args = some (g, all)) (hf : FnB P G g cargs [] r b1) (hall : all.map V.fz = cargs)
  (hK : K { s with bx := setBx (fun i => s.nb + i) 0 b1 s.bx, nb := s.nb + b1.length } (r.ren fun i => s.nb + i)) : vcallB P G s f args K := by
 unfold vcallB vcallE
 simp only [hc]
 refine ⟨[], cargs, [], r, b1, hf, ?_, ⟨rfl, List.nodup_nil⟩, trivial, ?_⟩
 ·rw [hall, map_same fun x hx => ren_lt0 (hf.2.1.1 x hx)]
 ·rw [rho_nil]
  simpa using hK
theorem callB_all {s : S} {f : V} {args all cargs : List V} {g : FuncId} {K : S → V → Prop} {r : V} {b0 b1 : List (List V)} (hc : calleeV f args = some (g, all)) (hf : FnB P G g cargs b0 r b1) (hall : all.map V.fz = cargs)
  (hn : b0.length = s.nb) (hb : BL 0 b0 s.bx) (hK : K { s with bx := fun i => if i < b1.length then b1.getD i [] else s.bx i, nb := b1.length } r) : vcallB P G s f args K := by
 unfold vcallB vcallE
 simp only [hc]
 refine ⟨List.range s.nb, cargs, b0, r, b1, hf, ?_, ⟨by simp [hn], List.nodup_range⟩, ?_, ?_⟩
 ·rw [rho_range, hall, ren_map_id]
 ·rw [rho_range]
  refine bxIn_id _ _ _ _ fun i b hb' => ?_
  have hi := (List.getElem?_eq_some_iff.1 hb').1
  have := hb.get i hi
  rw [Nat.zero_add] at this ⊢
  refine ⟨by omega, ?_⟩
  rw [← this]
  simp [hb']
 ·rw [rho_range, setBx_id, ren_id]
  have hle := hf.2.1.2.2
  have e1 : s.nb + (b1.length - b0.length) = b1.length := by omega
  rw [e1]
  have e2 : (fun i => if 0 ≤ i ∧ i < 0 + b1.length then b1.getD (i - 0) [] else s.bx i) = fun i => if i < b1.length then b1.getD i [] else s.bx i := by
   funext i; simp
  rw [e2]; exact hK
end
end Go.Vl
namespace Go.Vl
open Go Go.RowKit
section
variable {P : Program} {G : Gl} {tr : List Nat} {fr : Nat → V} {bx : Nat → List V} {nb : Nat} {K : S → Prop} {KV : V → Prop} {Q : VE → S → Prop}
def optK {α : Type} (o : Option α) (K : α → Prop) : Prop := match o with
 | some a => K a
 | none => False
def fillF (f : Option (Nat × Nat × Bool)) (ds : List C) (flds : List (Nat × Nat × Bool)) (r : List (Nat × V)) (cs : List C) : Option (List C) := match f with
 | some (off, sz, _) => if ds.length = sz ∧ off + sz ≤ cs.length then fillS flds r (setAt cs off ds) else none
 | none => none
def bslK (e sz : Nat) (z : List C) (len : Nat) (parts : List (Nat × V)) (K : V → Prop) : Prop := match fillA sz parts (List.replicate len z) with
 | some es => K (.ow (if len = 0 then none else some (e, sz)) es)
 | none => False
theorem bsl_of {T e : TypeId} {i j : TI} {z : List C} {sz len : Nat} {parts : List (Nat × V)} (hT : ti P T = some i) (hk : i.kd = .slice e) (hE : ti P e = some j) (hz : j.zero = some z) (hs : j.size = sz) (hp : 0 < sz) (hl : z.length = sz) (hn : len * sz ≤ 16777216) :
  vbuildSlice P T len parts KV = bslK e sz z len parts KV := by
 obtain ⟨kd, a, b, c, d, f, g⟩ := i; subst hk
 obtain ⟨kd', a', b', c', d', f', g'⟩ := j; simp only at hz hs; subst hz; subst hs
 simp only [vbuildSlice, hT, hE, hp, hl, hn, true_and]; rfl
theorem fillA_nil {sz : Nat} {es : List (List C)} : fillA sz [] es = some es := rfl
theorem fillA_agg {sz i : Nat} {ds : List C} {r : List (Nat × V)} {es : List (List C)} : fillA sz ((i, .agg ds) :: r) es = if ds.length = sz ∧ i < es.length then fillA sz r (es.set i ds) else none := rfl
theorem fillA_c {sz i : Nat} {x : C} {r : List (Nat × V)} {es : List (List C)} : fillA sz ((i, .c x) :: r) es = if [x].length = sz ∧ i < es.length then fillA sz r (es.set i [x]) else none := rfl
theorem fillA_ow {sz i : Nat} {E : Option (TypeId × Nat)} {x : List (List C)} {r : List (Nat × V)} {es : List (List C)} : fillA sz ((i, .ow E x) :: r) es = if [C.sl x].length = sz ∧ i < es.length then fillA sz r (es.set i [.sl x]) else none := rfl
theorem bslK_eq {e sz len : Nat} {z : List C} {parts : List (Nat × V)} : bslK e sz z len parts KV = optK (fillA sz parts (List.replicate len z)) (fun es => KV (.ow (if len = 0 then none else some (e, sz)) es)) := by
 unfold bslK optK; cases fillA sz parts (List.replicate len z) <;> rfl
def bldK (flds : List (Nat × Nat × Bool)) (z : List C) (parts : List (Nat × V)) (K : V → Prop) : Option (List C) → Prop
 | some cs => K (.agg cs)
 | none => optK (fillM flds parts (z.map .c)) fun vs => K (.mag vs)
theorem bld_of {T : TypeId} {i : TI} {z : List C} {flds : List (Nat × Nat × Bool)} {parts : List (Nat × V)} (hT : ti P T = some i) (hk : i.kd = .struct) (hz : i.zero = some z) (hf : i.flds = flds) :
  vbuild P T parts KV = bldK flds z parts KV (fillS flds parts z) := by
 obtain ⟨kd, a, b, c, d, f, g⟩ := i; simp only at hk hz hf; subst hk; subst hz; subst hf
 simp only [vbuild, hT]; unfold bldK
 cases fillS f parts z with
 | some cs => rfl
 | none => cases fillM f parts (z.map .c) <;> rfl
theorem bldK_some {z cs : List C} {flds : List (Nat × Nat × Bool)} {parts : List (Nat × V)} : bldK flds z parts KV (some cs) = KV (.agg cs) := rfl
theorem optK_some {α : Type} {a : α} {K : α → Prop} : optK (some a) K = K a := rfl
theorem fillS_nil {flds : List (Nat × Nat × Bool)} {cs : List C} : fillS flds [] cs = some cs := rfl
theorem fillS_c {flds : List (Nat × Nat × Bool)} {i : Nat} {x : C} {r : List (Nat × V)} {cs : List C} : fillS flds ((i, .c x) :: r) cs = fillF flds[i]? [x] flds r cs := by
 unfold fillS fillF; cases flds[i]? <;> rfl
theorem fillS_ow {flds : List (Nat × Nat × Bool)} {i : Nat} {E : Option (TypeId × Nat)} {x : List (List C)} {r : List (Nat × V)} {cs : List C} : fillS flds ((i, .ow E x) :: r) cs = fillF flds[i]? [.sl x] flds r cs := by
 unfold fillS fillF; cases flds[i]? <;> rfl
theorem fillS_agg {flds : List (Nat × Nat × Bool)} {i : Nat} {ds : List C} {r : List (Nat × V)} {cs : List C} : fillS flds ((i, .agg ds) :: r) cs = fillF flds[i]? ds flds r cs := by
 unfold fillS fillF; cases flds[i]? <;> rfl
theorem fillF_some {off sz : Nat} {ag : Bool} {ds : List C} {flds : List (Nat × Nat × Bool)} {r : List (Nat × V)} {cs : List C} : fillF (some (off, sz, ag)) ds flds r cs = if ds.length = sz ∧ off + sz ≤ cs.length then fillS flds r (setAt cs off ds) else none := rfl
theorem setAt_zero {cs ds : List C} : setAt cs 0 ds = ds ++ cs.drop ds.length := by simp [setAt]
theorem setAt_succ {c : C} {cs ds : List C} {n : Nat} : setAt (c :: cs) (n + 1) ds = c :: setAt cs n ds := by simp [setAt, Nat.succ_add]
def ldZ (nb b : Nat) (l : List V) (o : Nat) (K : V → Prop) : Prop := b < nb ∧ match l[o]? with
 | some (.ow none es) => K (.ow none es)
 | _ => False
theorem ldZ_of {T : TypeId} {i : TI} {b o : Nat} (hT : ti P T = some i) (ha : i.agg = false) : vloadZ P T ⟨fr, bx, nb⟩ (.bp b o) KV = (isMb (bx b) = false ∧ ldZ nb b (bx b) o KV) := by
 simp only [vloadZ, hT, ha, ldZ]; exact propext ⟨fun ⟨⟨a, _, b⟩, c⟩ => ⟨b, a, c⟩, fun ⟨b, a, c⟩ => ⟨⟨a, trivial, b⟩, c⟩⟩
theorem ldZ_z {b : Nat} {es : List (List C)} {l : List V} : ldZ nb b (.ow none es :: l) 0 KV = (b < nb ∧ KV (.ow none es)) := rfl
theorem ldZ_s {b o : Nat} {v : V} {l : List V} : ldZ nb b (v :: l) (o + 1) KV = ldZ nb b l o KV := by simp [ldZ]
def fillFM (f : Option (Nat × Nat × Bool)) (ds : List V) (flds : List (Nat × Nat × Bool)) (r : List (Nat × V)) (cs : List V) : Option (List V) := match f with
 | some (off, sz, _) => if ds.length = sz ∧ off + sz ≤ cs.length then fillM flds r (setP cs off ds) else none
 | none => none
def bldZK (K : V → Prop) : Option (List V) → Prop
 | some vs => K (.mag vs)
 | none => False
theorem bldZ_of {T : TypeId} {i : TI} {z : List C} {flds : List (Nat × Nat × Bool)} {parts : List (Nat × V)} (hT : ti P T = some i) (hk : i.kd = .struct) (hz : i.zero = some z) (hf : i.flds = flds) :
  vbuildZ P T parts KV = bldZK KV (fillM flds parts (z.map zeroV)) := by
 obtain ⟨kd, a, b, c, d, f, g⟩ := i; simp only at hk hz hf; subst hk; subst hz; subst hf
 simp only [vbuildZ, hT]
 cases fillM f parts (z.map zeroV) <;> rfl
theorem bldZK_some {vs : List V} : bldZK KV (some vs) = KV (.mag vs) := rfl
theorem fillM_nil {flds : List (Nat × Nat × Bool)} {cs : List V} : fillM flds [] cs = some cs := rfl
theorem fillM_c {flds : List (Nat × Nat × Bool)} {i : Nat} {x : C} {r : List (Nat × V)} {cs : List V} : fillM flds ((i, .c x) :: r) cs = fillFM flds[i]? [.c x] flds r cs := by
 unfold fillFM; simp only [fillM, V.ps]; cases flds[i]? <;> rfl
theorem fillM_ow {flds : List (Nat × Nat × Bool)} {i : Nat} {E : Option (TypeId × Nat)} {x : List (List C)} {r : List (Nat × V)} {cs : List V} : fillM flds ((i, .ow E x) :: r) cs = fillFM flds[i]? [.c (.sl x)] flds r cs := by
 unfold fillFM; simp only [fillM, V.ps]; cases flds[i]? <;> rfl
theorem fillM_agg {flds : List (Nat × Nat × Bool)} {i : Nat} {ds : List C} {r : List (Nat × V)} {cs : List V} : fillM flds ((i, .agg ds) :: r) cs = fillFM flds[i]? (ds.map .c) flds r cs := by
 unfold fillFM; simp only [fillM, V.ps]; cases flds[i]? <;> rfl
theorem fillM_ms {flds : List (Nat × Nat × Bool)} {i b o l c z : Nat} {r : List (Nat × V)} {cs : List V} : fillM flds ((i, .ms b o l c z) :: r) cs = fillFM flds[i]? [.ms b o l c z] flds r cs := by
 unfold fillFM; simp only [fillM, V.ps]; cases flds[i]? <;> rfl
theorem fillFM_some {off sz : Nat} {ag : Bool} {ds : List V} {flds : List (Nat × Nat × Bool)} {r : List (Nat × V)} {cs : List V} : fillFM (some (off, sz, ag)) ds flds r cs = if ds.length = sz ∧ off + sz ≤ cs.length then fillM flds r (setP cs off ds) else none := rfl
theorem setP_zero {cs ds : List V} : setP cs 0 ds = ds ++ cs.drop ds.length := by simp [setP]
theorem setP_succ {c : V} {cs ds : List V} {n : Nat} : setP (c :: cs) (n + 1) ds = c :: setP cs n ds := by simp [setP, Nat.succ_add]
theorem app_of {T e : TypeId} {i j : TI} {z : List C} {sz by_ : Nat} {E : Option (TypeId × Nat)} {es ys : List (List C)} (hT : ti P T = some i) (hk : i.kd = .slice e) (hE : ti P e = some j) (hz : j.zero = some z) (hs : j.size = sz) (hb : j.bytes = by_) (hp : 0 < sz) (hl : z.length = sz) :
  vappend P T (.ow E es) (.c (.sl ys)) KV = (((E = none ∨ E = some (e, sz)) ∧ ∀ x ∈ es, x.length = sz) ∧ ((es.length + ys.length) * by_ ≤ 140737488355328 ∧ es.length + ys.length ≤ 9223372036854775807 ∧ ∀ x ∈ ys, x.length = sz) ∧ KV (.ow (if ys.isEmpty then E else some (e, sz)) (es ++ ys))) := by
 obtain ⟨kd, a, b, c, d, f, g⟩ := i; subst hk
 obtain ⟨kd', a', b', c', d', f', g'⟩ := j; simp only at hz hs hb; subst hz; subst hs; subst hb
 simp only [vappend, hT, hE, hp, hl, true_and]
end
end Go.Vl
namespace Go.Vl
open Go Go.RowKit
theorem wrap_of {n : Int} {k : Nat} (h : n = (k : Nat)) (hk : k ≤ 9223372036854775807) : IntKind.i64.wrap n = (k : Nat) := by
 subst h; exact wrap_i64 _ (by omega)
end Go.Vl
/- Values without memory: steps of a walk at a slice whose last element may still be written. -/
namespace Go.Vl
open Go Go.RowKit
section
variable {P : Program} {T e : TypeId} {i j : TI} {K : V → Prop} {blk off len cap k n' sz : Nat} {E : Option (TypeId × Nat)} {es : List (List C)} {s : S}
theorem len_hot {a : Option Addr} (hT : ti P T = some i) (hk : i.kd = .slice e) (hK : K (.c (.lit (.int .i64 len)))) : vlen P T (.c (.ex (.slice a len cap))) K := by
 obtain ⟨kd, a1, a2, a3, a4, a5, a6⟩ := i; simp only at hk; subst hk
 simp only [vlen, hT]; exact hK
theorem ix_hot {kd : IntKind} {n : Int} (hT : ti P T = some i) (hk : i.kd = .slice e) (hE : ti P e = some j) (hs : j.size = sz) (hz : sz ≠ 0) (hn : n = (k : Nat)) (hl : k < len) (hK : K (.c (.ex (.pointer (some ⟨blk, off + k * sz, none⟩))))) :
  vindexAddr P T (.c (.ex (.slice (some ⟨blk, off, none⟩) len cap))) (.c (.lit (.int kd n))) K := by
 obtain ⟨kd', a1, a2, a3, a4, a5, a6⟩ := i; simp only at hk; subst hk
 subst hn; subst hs
 simp only [vindexAddr, hT, hE, Int.toNat_natCast]
 exact ⟨⟨Int.natCast_nonneg k, by omega, hz⟩, hK⟩
theorem fa_hot {f : Nat} {ag : Bool} (hT : ti P T = some i) (hf : i.flds[f]? = some (off, sz, ag)) (hz : sz ≠ 0) (hK : K (.c (.ex (.pointer (some ⟨blk, k + off, none⟩))))) : vfieldAddr P T (.c (.ex (.pointer (some ⟨blk, k, none⟩)))) f K := by
 simp only [vfieldAddr, hT, hf]
 exact ⟨hz, hK⟩
end
