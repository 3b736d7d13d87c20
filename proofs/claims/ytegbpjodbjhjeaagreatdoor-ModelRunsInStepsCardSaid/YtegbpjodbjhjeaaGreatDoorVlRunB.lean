/- Values without memory: how the conditions are computed: each law fires at a state that is written out, so that what follows stays as it is until its turn comes. -/
import Derived.Test.YtegbpjodbjhjeaaGreatDoorVlFn
set_option linter.all false
namespace Go.Vl
open Go Go.RowKit
section
variable {P:Program} {G:Gl} {tr:List Nat} {fr:Nat→V} {bx:Nat→List V} {nb k0:Nat} {K:S→Prop} {KV:V→Prop} {Q:VE→S→Prop}
def Lq (P:Program) (G:Gl) (tr:List Nat) (ops:Array Oper) (r:List Oper) (K:S→Prop) (s:S):Prop:=ea P G tr ops r s K
def Qn (P:Program) (G:Gl) (tr:List Nat) (k0:Nat) (b:Code) (Q:VE→S→Prop) (e:VE) (s:S):Prop:=match e with | .normal=>fw P G tr k0 b Q s | e=>Q e s
def Lr (id:Nat) (Q:VE→S→Prop) (e:VE) (s:S):Prop:=match e with | .exit i=>if i=id then Q .normal s else Q (.exit i) s | e=>Q e s
def yz (P:Program) (G:Gl) (tr:List Nat) (k0:Nat) (v:V) (c:Operand) (x y:Code) (Q:VE→S→Prop) (s:S):Prop:=match v with
 | .c (.lit (.bool p))=>(p=true→fw P G tr k0 x Q (refine s c true))∧(p=false→fw P G tr k0 y Q (refine s c false))
 |_=>False
def vgd (P:Program) (G:Gl) (tr:List Nat) (ops:Array Oper) (o:Oper) (r:List Oper) (K:S→Prop) (d:Option Tmp) (v:V) (want:Bool) (s:S):Prop:=match d with
 |some d=>match v with
  | .c (.lit (.bool p))=>(p=want→VStep P G tr o { s with fr:=up s.fr d (.c (.lit (.bool want))) } (Lq P G tr ops r K))∧
   (p=(!want)→ea P G tr ops r (({ s with fr:=up s.fr d (.c (.lit (.bool (!want)))) }:S).put o.dst .sk) K)
  | .sk=>ea P G tr ops r (s.put o.dst .sk) K
  |_=>False
 |none=>False
def Ls (s:S):Option Tmp→V
 |some d=>s.fr d
 |none=>.un
def fzK (P:Program) (G:Gl) (tr:List Nat) (k0:Nat) (id:Nat) (ops:Array Oper) (Q:VE→S→Prop) (s:S):Prop:=∃ s',S.Fz (k0) s' s∧vtw P G tr id ops s' (Q .normal)
def YR (P:Program) (G:Gl) (tr:List Nat) (ops:Array Oper) (K:S→Prop) (s:S):Prop:=ea P G tr ops ops.toList s K
theorem Qo {ops:Array Oper}:YR P G tr ops K ⟨fr,bx,nb⟩=ea P G tr ops ops.toList ⟨fr,bx,nb⟩ K:=rfl
theorem Qp {i:Nat}:Et tr i=tr.contains (2300000+i):=rfl
theorem Lt {i:Nat}:Et [] i=false:=rfl
theorem ET {i:Nat} {ops:Array Oper} {s:S} (hi:Et tr i=true) (h:GsK ops K s):spl tr i ops s K:=by
 unfold spl
 rw[if_pos hi]
 exact .inr (.inr (.inr h))
theorem EU {i:Nat} {ops:Array Oper} {d:Bool}:fw P G tr k0 (.region i ops d) Q ⟨fr,bx,nb⟩=if Eu tr i then vpa P G tr i ops (Q .normal) ⟨fr,bx,nb⟩ else if KU tr i then fzK P G tr k0 i ops Q ⟨fr,bx,nb⟩ else if Et tr i then spl tr i ops ⟨fr,bx,nb⟩ (YR P G tr ops (Q .normal)) else ea P G tr ops ops.toList ⟨fr,bx,nb⟩ (Q .normal):=by
 show(if Eu tr i then _ else if KU tr i then _ else spl tr i ops ⟨fr,bx,nb⟩ _)=_
 congr 1
 congr 1
 unfold spl
 split<;>rfl
theorem Lu {i:Nat}:Eu [] i=false:=rfl
theorem Qq {i:Nat}:Eu tr i=tr.contains (2850000+i):=rfl
theorem Qr {i:Nat}:KU tr i=tr.contains (2600000+i):=rfl
theorem Qs {a b:Code}:fw P G tr k0 (.seq a b) Q ⟨fr,bx,nb⟩=fw P G tr k0 a (Qn P G tr k0 b Q) ⟨fr,bx,nb⟩:=rfl
theorem Iv:fw P G tr k0 .skip Q ⟨fr,bx,nb⟩=Q .normal ⟨fr,bx,nb⟩:=rfl
theorem Qt:fw P G tr k0 .ret Q ⟨fr,bx,nb⟩=Q .ret ⟨fr,bx,nb⟩:=rfl
theorem Lv {i:Nat}:fw P G tr k0 (.exit i) Q ⟨fr,bx,nb⟩=Q (.exit i) ⟨fr,bx,nb⟩:=rfl
theorem Iw {a:Code}:fw P G tr k0 (.scope a) Q ⟨fr,bx,nb⟩=fw P G tr k0 a Q ⟨fr,bx,nb⟩:=rfl
theorem Ix {i:Nat}:fw P G tr k0 (.label i) Q ⟨fr,bx,nb⟩=Q .normal ⟨fr,bx,nb⟩:=rfl
theorem Iy {i:Nat} {a:Code}:fw P G tr k0 (.block i a) Q ⟨fr,bx,nb⟩=fw P G tr k0 a (Lr i Q) ⟨fr,bx,nb⟩:=rfl
theorem Lx {c:Operand} {x y:Code}:fw P G tr k0 (.cond c x y) Q ⟨fr,bx,nb⟩=yz P G tr k0 (ev G ⟨fr,bx,nb⟩ c) c x y Q ⟨fr,bx,nb⟩:=rfl
theorem xM {c:Operand} {x y:Code}:yz P G tr k0 (.c (.lit (.bool true))) c x y Q ⟨fr,bx,nb⟩=fw P G tr k0 x Q (refine ⟨fr,bx,nb⟩ c true):=by simp[yz]
theorem wh {c:Operand} {x y:Code}:yz P G tr k0 (.c (.lit (.bool false))) c x y Q ⟨fr,bx,nb⟩=fw P G tr k0 y Q (refine ⟨fr,bx,nb⟩ c false):=by simp[yz]
theorem aZ {c:Operand} {x y:Code} {p:Bool} {s:S} (h1:p=true→fw P G tr k0 x Q (refine s c true)) (h2:p=false→fw P G tr k0 y Q (refine s c false)) :
 yz P G tr k0 (.c (.lit (.bool p))) c x y Q s:=⟨h1,h2⟩
theorem Ct {b:Code} {s:S}:Qn P G tr k0 b Q .normal s=fw P G tr k0 b Q s:=rfl
theorem Ly {b:Code} {s:S}:Qn P G tr k0 b Q .ret s=Q .ret s:=rfl
theorem Iz {b:Code} {s:S} {i:Nat}:Qn P G tr k0 b Q (.exit i) s=Q (.exit i) s:=rfl
theorem Cu {id:Nat} {s:S}:Lr id Q .normal s=Q .normal s:=rfl
theorem Lz {id:Nat} {s:S}:Lr id Q .ret s=Q .ret s:=rfl
theorem IA {id i:Nat} {s:S}:Lr id Q (.exit i) s=if i=id then Q .normal s else Q (.exit i) s:=rfl
theorem EV {t:Tmp} {p:Bool}:refine ⟨fr,bx,nb⟩ (.tmp t) p=⟨up fr t (.c (.lit (.bool p))),bx,nb⟩:=rfl
theorem Qv {ops:Array Oper}:ea P G tr ops [] ⟨fr,bx,nb⟩ K=K ⟨fr,bx,nb⟩:=rfl
theorem Vv {ops:Array Oper} {d:Option Tmp} {op:Op} {ty:TypeId} {pos:String} {af:Array Edge} {r:List Oper} :
 ea P G tr ops (⟨d,op,ty,pos,af,none⟩::r) ⟨fr,bx,nb⟩ K=VStep P G tr ⟨d,op,ty,pos,af,none⟩ ⟨fr,bx,nb⟩ (Lq P G tr ops r K):=rfl
theorem Qw {ops:Array Oper} {d:Option Tmp} {op:Op} {ty:TypeId} {pos:String} {af:Array Edge} {j:Nat} {w:Bool} {r:List Oper} :
 ea P G tr ops (⟨d,op,ty,pos,af,some (j,w)⟩::r) ⟨fr,bx,nb⟩ K=
  vgd P G tr ops ⟨d,op,ty,pos,af,some (j,w)⟩ r K ((ops[j]?).bind (·.dst)) (Ls ⟨fr,bx,nb⟩ ((ops[j]?).bind (·.dst))) w ⟨fr,bx,nb⟩:=by
 simp only[ea,lE,vgd]
 cases hd:(ops[j]?).bind (·.dst) with
 |none=>rfl
 |some d=>rfl
theorem Qx {ops:Array Oper} {o:Oper} {r:List Oper} {d:Tmp} {w:Bool}:vgd P G tr ops o r K (some d) (.c (.lit (.bool w))) w ⟨fr,bx,nb⟩=VStep P G tr o ⟨up fr d (.c (.lit (.bool w))),bx,nb⟩ (Lq P G tr ops r K):=by
 simp[vgd]
theorem Vw {ops:Array Oper} {o:Oper} {r:List Oper} {d:Tmp}:vgd P G tr ops o r K (some d) (.c (.lit (.bool true))) false ⟨fr,bx,nb⟩=ea P G tr ops r ((⟨up fr d (.c (.lit (.bool true))),bx,nb⟩:S).put o.dst .sk) K:=by
 simp[vgd]
theorem Vx {ops:Array Oper} {o:Oper} {r:List Oper} {d:Tmp}:vgd P G tr ops o r K (some d) (.c (.lit (.bool false))) true ⟨fr,bx,nb⟩=ea P G tr ops r ((⟨up fr d (.c (.lit (.bool false))),bx,nb⟩:S).put o.dst .sk) K:=by
 simp[vgd]
theorem Vy {ops:Array Oper} {o:Oper} {r:List Oper} {d:Tmp} {w:Bool}:vgd P G tr ops o r K (some d) .sk w ⟨fr,bx,nb⟩=ea P G tr ops r ((⟨fr,bx,nb⟩:S).put o.dst .sk) K:=rfl
theorem jc {ops:Array Oper} {o:Oper} {r:List Oper} {d:Tmp} {w p:Bool} {s:S} (h1:p=w→VStep P G tr o { s with fr:=up s.fr d (.c (.lit (.bool w))) } (Lq P G tr ops r K))
 (h2:p=(!w)→ea P G tr ops r (({ s with fr:=up s.fr d (.c (.lit (.bool (!w)))) }:S).put o.dst .sk) K):vgd P G tr ops o r K (some d) (.c (.lit (.bool p))) w s:=⟨h1,h2⟩
theorem Cv {d:Tmp}:Ls ⟨fr,bx,nb⟩ (some d)=fr d:=rfl
theorem Qy {ops:Array Oper} {r:List Oper}:Lq P G tr ops r K ⟨fr,bx,nb⟩=ea P G tr ops r ⟨fr,bx,nb⟩ K:=rfl
theorem LA {d:Nat} {v:V}:(⟨fr,bx,nb⟩:S).put (some d) v=⟨up fr d v,bx,nb⟩:=rfl
theorem LC {v:V}:(⟨fr,bx,nb⟩:S).put none v=⟨fr,bx,nb⟩:=rfl
section
variable {d:Nat} {dO:Option Tmp} {t:Tmp} {ty T:TypeId} {pos:String} {af:Array Edge} {g:Option (Nat×Bool)}
theorem Qz:VStep P G tr ⟨some d,.move (.tmp t),ty,pos,af,g⟩ ⟨fr,bx,nb⟩ K=if tr.contains d then K (((⟨fr,bx,nb⟩:S).use (some t)).put (some d) (fr t)) else K ⟨up fr d (fr t).fz,bx,nb⟩:=by
 simp only[VStep,VYK,KN,ev]
 split
 ·rename_i h;simp only[S.after,bN,KN,h,cA]
 ·rename_i h;simp only[S.after,bN,KN,h];rfl
theorem xN {v:Value}:VStep P G tr ⟨some d,.move (.const v),ty,pos,af,g⟩ ⟨fr,bx,nb⟩ K=if tr.contains d then K ⟨up fr d (kw v),bx,nb⟩ else K ⟨up fr d (kw v).fz,bx,nb⟩:=rfl
theorem IB:VStep P G tr ⟨some d,.assign (.tmp t),ty,pos,af,g⟩ ⟨fr,bx,nb⟩ K=K (((⟨fr,bx,nb⟩:S).use (some t)).put (some d) (fr t)):=rfl
theorem u6 {v:Value}:VStep P G tr ⟨some d,.assign (.const v),ty,pos,af,g⟩ ⟨fr,bx,nb⟩ K=K ⟨up fr d (kw v),bx,nb⟩:=rfl
def LD (c a b:V) (K:V→Prop):Prop:=match c with
 | .c (.lit (.bool p))=>K (if p then a.fz else b.fz)
 |_=>False
def j0 (dO:Option Tmp) (s:S) (K:S→Prop) (v:V):Prop:=K (s.put dO v)
theorem QA {v:V}:j0 (some d) ⟨fr,bx,nb⟩ K v=K ⟨up fr d v,bx,nb⟩:=rfl
theorem IC {v:V}:j0 none ⟨fr,bx,nb⟩ K v=K ⟨fr,bx,nb⟩:=rfl
theorem LF {c a b:Operand}:VStep P G tr ⟨dO,.pick c a b,ty,pos,af,g⟩ ⟨fr,bx,nb⟩ K=LD (ev G ⟨fr,bx,nb⟩ c) (ev G ⟨fr,bx,nb⟩ a) (ev G ⟨fr,bx,nb⟩ b) (j0 dO ⟨fr,bx,nb⟩ K):=rfl
theorem EW {a b:V}:LD (.c (.lit (.bool true))) a b KV=KV a.fz:=rfl
theorem Cw {a b:V}:LD (.c (.lit (.bool false))) a b KV=KV b.fz:=rfl
theorem Vz {op:BinOp} {x:Operand} {t:Tmp} {yT:TypeId}:VStep P G tr ⟨dO,.binOp op T x (.tmp t) yT,ty,pos,af,g⟩ ⟨fr,bx,nb⟩ K=jY P op T (ev G ⟨fr,bx,nb⟩ x) (fr t) (j0 dO ⟨fr,bx,nb⟩ K):=rfl
theorem LG {op:BinOp} {x:Operand} {k:IntKind} {m:Int} {yT:TypeId}:VStep P G tr ⟨dO,.binOp op T x (.const (.int k m)) yT,ty,pos,af,g⟩ ⟨fr,bx,nb⟩ K=jY P op T (ev G ⟨fr,bx,nb⟩ x) (.c (.lit (.int k m))) (j0 dO ⟨fr,bx,nb⟩ K):=rfl
theorem LH {op:BinOp} {x:Operand} {b:Bool} {yT:TypeId}:VStep P G tr ⟨dO,.binOp op T x (.const (.bool b)) yT,ty,pos,af,g⟩ ⟨fr,bx,nb⟩ K=jY P op T (ev G ⟨fr,bx,nb⟩ x) (.c (.lit (.bool b))) (j0 dO ⟨fr,bx,nb⟩ K):=rfl
theorem LI {op:BinOp} {x:Operand} {b:ByteArray} {yT:TypeId}:VStep P G tr ⟨dO,.binOp op T x (.const (.string b)) yT,ty,pos,af,g⟩ ⟨fr,bx,nb⟩ K=jY P op T (ev G ⟨fr,bx,nb⟩ x) (.c (.lit (.string b))) (j0 dO ⟨fr,bx,nb⟩ K):=rfl
theorem EX {op:BinOp} {x:Operand} {yT:TypeId}:VStep P G tr ⟨dO,.binOp op T x (.const (.slice none 0 0)) yT,ty,pos,af,g⟩ ⟨fr,bx,nb⟩ K=P7 P op T (ev G ⟨fr,bx,nb⟩ x) (j0 dO ⟨fr,bx,nb⟩ K):=rfl
theorem ID {op:BinOp} {x:Operand} {yT:TypeId}:VStep P G tr ⟨dO,.binOp op T x (.const (.pointer none)) yT,ty,pos,af,g⟩ ⟨fr,bx,nb⟩ K=BD P op T false (ev G ⟨fr,bx,nb⟩ x) (j0 dO ⟨fr,bx,nb⟩ K):=rfl
theorem IE {op:BinOp} {x:Operand} {yT:TypeId}:VStep P G tr ⟨dO,.binOp op T x (.const .nilFunc) yT,ty,pos,af,g⟩ ⟨fr,bx,nb⟩ K=BD P op T true (ev G ⟨fr,bx,nb⟩ x) (j0 dO ⟨fr,bx,nb⟩ K):=rfl
theorem YS {op:UnOp} {x:Operand}:VStep P G tr ⟨dO,.unOp op T x,ty,pos,af,g⟩ ⟨fr,bx,nb⟩ K=vun op (ev G ⟨fr,bx,nb⟩ x) (j0 dO ⟨fr,bx,nb⟩ K):=rfl
def zK (dO:Option Tmp) (s:S) (K:S→Prop) (v:V):Prop:=K (s.put dO v)
theorem YT {v:V}:zK dO ⟨fr,bx,nb⟩ K v=K ((⟨fr,bx,nb⟩:S).put dO v):=rfl
theorem QB:isZ [] dO=false:=by cases dO<;>rfl
theorem LJ:isZ tr (some d)=tr.contains (2500000+d):=rfl
theorem LK:isZ tr none=false:=rfl
theorem QC {x:Operand}:VStep P G tr ⟨dO,.load T x,ty,pos,af,g⟩ ⟨fr,bx,nb⟩ K=
 if isZ tr dO then mn P T ⟨fr,bx,nb⟩ (ev G ⟨fr,bx,nb⟩ x) (zK dO ⟨fr,bx,nb⟩ K) else mE tr dO (ev G ⟨fr,bx,nb⟩ x)=true∧cy P T ⟨fr,bx,nb⟩ (ev G ⟨fr,bx,nb⟩ x) (j0 dO ⟨fr,bx,nb⟩ K):=rfl
theorem IF {t:Option Tmp} {v:V}:mE [] t v=true:=by
 cases t with
 |none=>cases v<;>rfl
 |some t=>
  cases v with
  |c x=>cases x<;>rfl
  |_=>rfl
theorem EY {v:V}:mE tr none v=true:=by cases v<;>rfl
theorem LL {t b k:Nat}:mE tr (some t) (.bp b k)=(!tr.contains (200000+t)||(decide (b<100)&&tr.contains (300000+t*100+b))):=rfl
theorem QD {t:Nat} {cs:List C} {k:Nat}:mE tr (some t) (.c (.rp cs k))=true:=rfl
theorem LM {t:Nat} {v:Value}:mE tr (some t) (.c (.ex v))=!tr.contains (200000+t):=rfl
theorem VA {t:Tmp}:Es (.tmp t)=some t:=rfl
theorem Ao {x:Operand} {f:Nat}:VStep P G tr ⟨dO,.fieldAddr T x f,ty,pos,af,g⟩ ⟨fr,bx,nb⟩ K=aK P T (ev G ⟨fr,bx,nb⟩ x) f (j0 dO ⟨fr,bx,nb⟩ K):=rfl
theorem LN {x:Operand} {f:Nat}:VStep P G tr ⟨dO,.field T x f,ty,pos,af,g⟩ ⟨fr,bx,nb⟩ K=oM P T (ev G ⟨fr,bx,nb⟩ x) f (j0 dO ⟨fr,bx,nb⟩ K):=rfl
theorem Ap {x i:Operand}:VStep P G tr ⟨dO,.indexAddr T x i,ty,pos,af,g⟩ ⟨fr,bx,nb⟩ K=cw P T (ev G ⟨fr,bx,nb⟩ x).fz (ev G ⟨fr,bx,nb⟩ i) (j0 dO ⟨fr,bx,nb⟩ K):=rfl
theorem LO {x i:Operand}:VStep P G tr ⟨dO,.index T x i,ty,pos,af,g⟩ ⟨fr,bx,nb⟩ K=lC P T (ev G ⟨fr,bx,nb⟩ x) (ev G ⟨fr,bx,nb⟩ i) (j0 dO ⟨fr,bx,nb⟩ K):=rfl
theorem LP {x:Operand} {lo hi mx:Option Operand}:VStep P G tr ⟨dO,.slice T x lo hi mx,ty,pos,af,g⟩ ⟨fr,bx,nb⟩ K=
 fP P T (ev G ⟨fr,bx,nb⟩ x).fz (lo.map (ev G ⟨fr,bx,nb⟩)) (hi.map (ev G ⟨fr,bx,nb⟩)) (mx.map (ev G ⟨fr,bx,nb⟩)) (j0 dO ⟨fr,bx,nb⟩ K):=rfl
theorem EZ {x:Operand} {U:TypeId}:VStep P G tr ⟨dO,.convert T U x,ty,pos,af,g⟩ ⟨fr,bx,nb⟩ K=
 if lV tr dO then zw P ⟨fr,bx,nb⟩ dO T U K (ev G ⟨fr,bx,nb⟩ x) else mD P T U (vw ⟨fr,bx,nb⟩ (ev G ⟨fr,bx,nb⟩ x)).fz (j0 dO ⟨fr,bx,nb⟩ K):=rfl
theorem VB {x:Operand}:VStep P G tr ⟨dO,.sliceToArrayPointer T x,ty,pos,af,g⟩ ⟨fr,bx,nb⟩ K=BC P T (ev G ⟨fr,bx,nb⟩ x) (j0 dO ⟨fr,bx,nb⟩ K):=rfl
def Aq (x:V) (K:V→Prop):Prop:=match x with
 | .bp i o=>K (.bp i o)
 | .c (.rp cs k)=>K (.c (.rp cs k))
 |_=>False
theorem Cx {x:Operand}:VStep P G tr ⟨dO,.nilCheck x,ty,pos,af,g⟩ ⟨fr,bx,nb⟩ K=Aq (ev G ⟨fr,bx,nb⟩ x) (j0 dO ⟨fr,bx,nb⟩ K):=rfl
theorem IG {i o:Nat}:Aq (.bp i o) KV=KV (.bp i o):=rfl
theorem IH {cs:List C} {k:Nat}:Aq (.c (.rp cs k)) KV=KV (.c (.rp cs k)):=rfl
theorem LQ {parts:Array (Nat×Operand)}:VStep P G tr ⟨dO,.build T parts,ty,pos,af,g⟩ ⟨fr,bx,nb⟩ K=
 if isZ tr dO then iE P T (parts.toList.map fun p=>(p.1,ev G ⟨fr,bx,nb⟩ p.2)) (zK dO ⟨fr,bx,nb⟩ K) else fQ P T (parts.toList.map fun p=>(p.1,ev G ⟨fr,bx,nb⟩ p.2)) (j0 dO ⟨fr,bx,nb⟩ K):=rfl
theorem xO {len:Nat} {parts:Array (Nat×Operand)}:VStep P G tr ⟨dO,.buildSlice T len parts,ty,pos,af,g⟩ ⟨fr,bx,nb⟩ K=
 if lV tr dO then ci P T len (parts.toList.map fun p=>(p.1,ev G ⟨fr,bx,nb⟩ p.2)) (KO ⟨fr,bx,nb⟩ dO len len K)
 else if Ep tr dO then(zx P T len (parts.toList.map fun p=>(p.1,ev G ⟨fr,bx,nb⟩ p.2)) ⟨fr,bx,nb⟩ dO K∨ci P T len (parts.toList.map fun p=>(p.1,ev G ⟨fr,bx,nb⟩ p.2)) (exK (j0 dO ⟨fr,bx,nb⟩ K)))
 else ci P T len (parts.toList.map fun p=>(p.1,ev G ⟨fr,bx,nb⟩ p.2)) (j0 dO ⟨fr,bx,nb⟩ K):=rfl
theorem QE {e:TypeId} {sz n m:Nat} {es:List (List C)}:KO ⟨fr,bx,nb⟩ dO n m K (.ow (some (e,sz)) es)=K ((⟨fr,up bx nb (es.flatten.map .c),nb+1⟩:S).put dO (.ms nb 0 n m sz)):=rfl
theorem II:lV [] dO=false:=by cases dO<;>rfl
theorem IJ:rM [] dO=false:=rfl
theorem LS:HY [] dO=false:=rfl
theorem LU:Ep [] dO=false:=by cases dO<;>rfl
theorem IK:Ep tr (some d)=tr.contains (1400000+d):=rfl
theorem IL:Ep tr none=false:=rfl
theorem LV:zr [] dO=false:=rfl
theorem IM:zr tr (some d)=tr.contains (1100000+d):=rfl
theorem IP:zr tr none=tr.contains 1199999:=rfl
theorem YU {s:S} {t:Tmp}:evX G s (.tmp t)=s.fr t:=rfl
theorem YV {s:S} {f:FuncId}:evX G s (.func f)=.c (.fn (.func f) [] []):=rfl
theorem QF {s:S}:evX G s (.const (.slice none 0 0))=.c (.ex (.slice none 0 0)):=rfl
theorem LW:Eo [] dO=false:=rfl
theorem IQ:Eo tr (some d)=tr.contains (1500000+d):=rfl
theorem IR:Eo tr none=tr.contains 1599999:=rfl
theorem E0:lV tr (some d)=tr.contains (2000000+d):=rfl
theorem E1:lV tr none=false:=rfl
theorem E2:rM tr (some d)=tr.contains (1000000+d):=rfl
theorem E3:rM tr none=tr.contains 999999:=rfl
theorem IS {d:Tmp}:HY tr (some d)=tr.contains (1900000+d):=rfl
theorem IT:HY tr none=tr.contains 1999999:=rfl
theorem IU:xt tr (some d)=tr.contains (400000+d):=rfl
theorem IV:xt tr none=tr.contains 399999:=rfl
theorem VC {s:S} {v:V}:lcK tr dO s K ⟨fr,bx,nb⟩ v=(Vr tr dO s ⟨fr,bx,nb⟩∧K ((⟨fr,bx,nb⟩:S).put dO v)):=rfl
def mkK (dO:Option Tmp) (s:S) (K:S→Prop) (n m sz:Nat) (z:List C):Prop:=K ({ s with bx:=up s.bx s.nb ((List.replicate m z).flatten.map .c),nb:=s.nb+1 }.put dO (.ms s.nb 0 n m sz))
theorem Ar {l c:Operand}:VStep P G tr ⟨dO,.makeSlice T l c,ty,pos,af,g⟩ ⟨fr,bx,nb⟩ K=oe P T (ev G ⟨fr,bx,nb⟩ l) (ev G ⟨fr,bx,nb⟩ c) (mkK dO ⟨fr,bx,nb⟩ K):=rfl
theorem VD {n m sz:Nat} {z:List C}:mkK dO ⟨fr,bx,nb⟩ K n m sz z=K ((⟨fr,up bx nb ((List.replicate m z).flatten.map .c),nb+1⟩:S).put dO (.ms nb 0 n m sz)):=rfl
def QG (x:V) (i:Nat) (K:V→Prop):Prop:=match x with
 | .tup ds=>match ds[i]? with
  |some d=>K d
  |none=>False
 |_=>False
theorem E4 {x:Operand} {i:Nat}:VStep P G tr ⟨dO,.extract x i,ty,pos,af,g⟩ ⟨fr,bx,nb⟩ K=QG (ev G ⟨fr,bx,nb⟩ x) i (j0 dO ⟨fr,bx,nb⟩ K):=rfl
theorem IW {v:V} {ds:List V}:QG (.tup (v::ds)) 0 KV=KV v:=rfl
theorem LX {v u:V} {ds:List V}:QG (.tup (v::u::ds)) 1 KV=KV u:=rfl
theorem LY {v u x:V} {ds:List V}:QG (.tup (v::u::x::ds)) 2 KV=KV x:=rfl
theorem Cy {f:Fn} {a b:Array Operand}:VStep P G tr ⟨dO,.makeFunc f a b,ty,pos,af,g⟩ ⟨fr,bx,nb⟩ K=
 ((((a.toList.map (ev G ⟨fr,bx,nb⟩)).all V.isPR=true∧(b.toList.map (ev G ⟨fr,bx,nb⟩)).all V.isPR=true))∧j0 dO ⟨fr,bx,nb⟩ K (.clo f (a.toList.map (ev G ⟨fr,bx,nb⟩)) (b.toList.map (ev G ⟨fr,bx,nb⟩)))):=rfl
theorem QH {v:V}:xu dO K ⟨fr,bx,nb⟩ v=K ((⟨fr,bx,nb⟩:S).put dO v):=rfl
theorem QI {f:Operand} {args:Array Operand} {ts:Array TypeId}:VStep P G tr ⟨dO,.call ⟨.value f,args,ts⟩,ty,pos,af,g⟩ ⟨fr,bx,nb⟩ K=
 if zr tr dO then tz P G ⟨fr,bx,nb⟩ (ev G ⟨fr,bx,nb⟩ f) (args.toList.map (ev G ⟨fr,bx,nb⟩)) (xu dO K) else
 if Eo tr dO then mj P G ⟨fr,bx,nb⟩ (ev G ⟨fr,bx,nb⟩ f) (args.toList.map (evX G ⟨fr,bx,nb⟩)) (xu dO K) else
 if rM tr dO then vcallB P G ⟨fr,bx,nb⟩ (ev G ⟨fr,bx,nb⟩ f) (args.toList.map (ev G ⟨fr,bx,nb⟩)) (if xt tr dO then lcK tr dO ⟨fr,bx,nb⟩ K else xu dO K)
 else if HY tr dO then kz P G ⟨fr,bx,nb⟩ (ev G ⟨fr,bx,nb⟩ f) (args.toList.map (ev G ⟨fr,bx,nb⟩)) (j0 dO ⟨fr,bx,nb⟩ K)
 else oc P G ⟨fr,bx,nb⟩ (ev G ⟨fr,bx,nb⟩ f) (args.toList.map (ev G ⟨fr,bx,nb⟩)) (j0 dO ⟨fr,bx,nb⟩ K):=rfl
theorem VF {args:Array Operand} {ts:Array TypeId}:VStep P G tr ⟨dO,.call ⟨.builtin .len,args,ts⟩,ty,pos,af,g⟩ ⟨fr,bx,nb⟩ K=
 if Er tr dO then BE P ⟨fr,bx,nb⟩ (j0 dO ⟨fr,bx,nb⟩ K) ts.toList (args.toList.map (ev G ⟨fr,bx,nb⟩)) else dW P .len ts.toList (args.toList.map (ev G ⟨fr,bx,nb⟩)) (j0 dO ⟨fr,bx,nb⟩ K):=rfl
theorem L2:Er [] dO=false:=by cases dO<;>rfl
theorem IX:Er tr (some d)=tr.contains (1600000+d):=rfl
theorem IY:Er tr none=false:=rfl
theorem VG {args:Array Operand} {ts:Array TypeId}:VStep P G tr ⟨dO,.call ⟨.builtin .min,args,ts⟩,ty,pos,af,g⟩ ⟨fr,bx,nb⟩ K=
 zt false (args.toList.map (ev G ⟨fr,bx,nb⟩)) (j0 dO ⟨fr,bx,nb⟩ K):=rfl
theorem VH {args:Array Operand} {ts:Array TypeId}:VStep P G tr ⟨dO,.call ⟨.builtin .max,args,ts⟩,ty,pos,af,g⟩ ⟨fr,bx,nb⟩ K=
 zt true (args.toList.map (ev G ⟨fr,bx,nb⟩)) (j0 dO ⟨fr,bx,nb⟩ K):=rfl
def L6 (t:Option Tmp) (dO:Option Tmp) (s:S) (K:S→Prop) (v:V):Prop:=K ((s.use t).put dO v)
def IZ:List Operand→Option Tmp
 | .tmp t::_=>some t
 |_=>none
theorem I4 {args:Array Operand} {T U:TypeId}:VStep P G tr ⟨dO,.call ⟨.builtin .append,args,#[T,U]⟩,ty,pos,af,g⟩ ⟨fr,bx,nb⟩ K=
 if lV tr dO then rN P ⟨fr,bx,nb⟩ dO K [T,U] (args.toList.map fun x=>vw ⟨fr,bx,nb⟩ (ev G ⟨fr,bx,nb⟩ x))
 else if re tr dO then d6 P ⟨fr,bx,nb⟩ (xu dO K) [T,U] (args.toList.map (ev G ⟨fr,bx,nb⟩))
 else if vB tr dO then(if rK tr dO then rL P G ⟨fr,bx,nb⟩ dO [T,U] args.toList (L6 (IZ args.toList) dO ⟨fr,bx,nb⟩ K) else iQ P G ⟨fr,bx,nb⟩ dO [T,U] args.toList (L6 (IZ args.toList) dO ⟨fr,bx,nb⟩ K))
 else dW P .append [T,U] (args.toList.map fun x=>vw ⟨fr,bx,nb⟩ (ev G ⟨fr,bx,nb⟩ x)) (L6 (IZ args.toList) dO ⟨fr,bx,nb⟩ K):=rfl
theorem tQ:vB tr (some d)=tr.contains (2400000+d):=rfl
theorem I5:rK tr (some d)=tr.contains (2450000+d):=rfl
theorem L8:rK [] dO=false:=by cases dO<;>rfl
theorem E5:re [] dO=false:=by cases dO<;>rfl
theorem Cz:re tr (some d)=tr.contains (2700000+d):=rfl
theorem CB:re tr none=false:=rfl
theorem L9 {args:Array Operand} {T:TypeId}:VStep P G tr ⟨dO,.call ⟨.builtin .clear,args,#[T]⟩,ty,pos,af,g⟩ ⟨fr,bx,nb⟩ K=gz P ⟨fr,bx,nb⟩ (fun s'=>K (s'.put dO .un)) [T] (args.toList.map (ev G ⟨fr,bx,nb⟩)):=rfl
theorem QJ {args:Array Operand} {T U:TypeId}:VStep P G tr ⟨dO,.call ⟨.builtin .copy,args,#[T,U]⟩,ty,pos,af,g⟩ ⟨fr,bx,nb⟩ K=lu P ⟨fr,bx,nb⟩ (xu dO K) [T,U] (args.toList.map (ev G ⟨fr,bx,nb⟩)):=rfl
theorem E6 {T:TypeId} {es:List (List C)} {y:V}:rN P ⟨fr,bx,nb⟩ dO K [T,T] [.ow none es,y]=dX P T (.ow none es) y.fz (P6 ⟨fr,bx,nb⟩ dO K):=by simp[rN]
theorem QK {e:TypeId} {sz:Nat} {es:List (List C)}:P6 ⟨fr,bx,nb⟩ dO K (.ow (some (e,sz)) es)=K ((⟨fr,up bx nb (es.flatten.map .c),nb+1⟩:S).put dO (.ms nb 0 es.length es.length sz)):=rfl
theorem Ma {v:V}:L6 (some t) (some d) ⟨fr,bx,nb⟩ K v=K (((⟨fr,bx,nb⟩:S).use (some t)).put (some d) v):=rfl
theorem I6 {v:V}:L6 none (some d) ⟨fr,bx,nb⟩ K v=K ⟨up fr d v,bx,nb⟩:=rfl
theorem Mb:VStep P G tr ⟨some d,.alloc T,ty,pos,af,g⟩ ⟨fr,bx,nb⟩ K=match ti P T with
 |some { zero:=some z,.. }=>K ⟨up fr d (.bp nb 0),up bx nb (z.map kS),nb+1⟩
 |_=>False:=rfl
def boxK (t:Option Tmp) (d:Nat) (v:V) (s:S) (K:S→Prop):Prop:=match v.bcells with
 |some cs=>K ((let s':=s.use t;{ s' with bx:=up s'.bx s'.nb cs,nb:=s'.nb+1 }:S).put (some d) (.bp s.nb 0))
 |none=>False
theorem VI:VStep P G tr ⟨some d,.box T (.tmp t),ty,pos,af,g⟩ ⟨fr,bx,nb⟩ K=boxK (some t) d (fr t) ⟨fr,bx,nb⟩ K:=rfl
theorem As {v:Value}:VStep P G tr ⟨some d,.box T (.const v),ty,pos,af,g⟩ ⟨fr,bx,nb⟩ K=boxK none d (kw v) ⟨fr,bx,nb⟩ K:=rfl
def lj (i:Option TI) (t:Option Tmp) (dO:Option Tmp) (p v:V) (s:S) (K:S→Prop):Prop:=match i,p,v.bcells with
 |some i,.bp b k,some cs=>(b<s.nb∧cs.length=i.size∧k+i.size≤(s.bx b).length∧ck (s.bx b)=false)∧
   K ((let s':=s.use t;{ s' with bx:=up s'.bx b (eF (s'.bx b) k cs) }:S).put dO .sk)
 |some i,.c (.ex (.pointer (some ⟨blk,j,none⟩))),_=>(∃ (b k len cap:Nat) (E:Option (TypeId×Nat)) (es:List (List C)) (r:Nat) (e:List C) (c:C),(i.size=1∧b<s.nb∧ck (s.bx b)=false∧(s.bx b)[k]?=some (V.hh (some (.slice (some ⟨blk,0,none⟩) len cap)) E (es++[e]))∧
   (es.flatten.length+r=j∧r<e.length)∧v.asC=some c)∧
   K ((let s':=s.use t;{ s' with bx:=up s'.bx b ((s'.bx b).set k (.hh (some (.slice (some ⟨blk,0,none⟩) len cap)) E (es++[e.set r c]))) }:S).put dO .sk))∨
   Vs s.bx s.nb i blk j v (fun bx=>K ((let s':=s.use t;{ s' with bx:=bx }:S).put dO .sk))
 |_,_,_=>False
theorem Mc {p:Operand}:VStep P G tr ⟨dO,.store T p (.tmp t),ty,pos,af,g⟩ ⟨fr,bx,nb⟩ K=(mE tr (Es p) (ev G ⟨fr,bx,nb⟩ p)=true∧lj (ti P T) (some t) dO (ev G ⟨fr,bx,nb⟩ p) (fr t) ⟨fr,bx,nb⟩ K):=rfl
theorem wi {p:Operand} {v:Value}:VStep P G tr ⟨dO,.store T p (.const v),ty,pos,af,g⟩ ⟨fr,bx,nb⟩ K=(mE tr (Es p) (ev G ⟨fr,bx,nb⟩ p)=true∧lj (ti P T) none dO (ev G ⟨fr,bx,nb⟩ p) (kw v) ⟨fr,bx,nb⟩ K):=rfl
theorem fR:(⟨fr,bx,nb⟩:S).use (some t)=if(fr t).isOw=true then⟨up fr t .un,bx,nb⟩ else⟨fr,bx,nb⟩:=rfl
theorem CC:(⟨fr,bx,nb⟩:S).use none=⟨fr,bx,nb⟩:=rfl
theorem VJ:ev G ⟨fr,bx,nb⟩ (.tmp t)=fr t:=rfl
theorem Md {v:Value}:ev G ⟨fr,bx,nb⟩ (.const v)=kw v:=rfl
theorem QL {f:FuncId}:ev G ⟨fr,bx,nb⟩ (.func f)=.c (.fn (.func f) [] []):=rfl
theorem E7 {k:IntKind} {n:Int}:kw (.int k n)=.c (.lit (.int k n)):=rfl
theorem CE {b:Bool}:kw (.bool b)=.c (.lit (.bool b)):=rfl
theorem xP {b:ByteArray}:kw (.string b)=.c (.lit (.string b)):=rfl
theorem E8 {l:List Value}:kw (.agg l.toArray)=if l.all nC then .agg (l.map constC) else .un:=rfl
theorem CG {k:IntKind} {n:Int}:nC (.int k n)=true:=rfl
theorem Au {b:Bool}:nC (.bool b)=true:=rfl
theorem CH {b:ByteArray}:nC (.string b)=true:=rfl
theorem CJ:nC (.slice none 0 0)=true:=rfl
theorem E9 {k:IntKind} {n:Int}:constC (.int k n)=.lit (.int k n):=rfl
theorem CL {b:Bool}:constC (.bool b)=.lit (.bool b):=rfl
theorem Fb {b:ByteArray}:constC (.string b)=.lit (.string b):=rfl
theorem Fc:constC (.slice none 0 0)=.sl []:=rfl
theorem Fe:kw (.slice none 0 0)=.ow none []:=rfl
theorem aax {s:S} {x:C}:vw s (.c x)=.c x:=rfl
theorem VK {s:S} {E:Option (TypeId×Nat)} {es:List (List C)}:vw s (.ow E es)=.ow E es:=rfl
section
variable {k:IntKind} {a b:Int} {op:BinOp} {T:TypeId} {t:Tmp}
theorem Me:jY P op T (.c (.lit (.int k a))) (.c (.lit (.int k b))) KV=oL op k a b KV:=by
 simp only[jY]
 split<;>rfl
theorem Mf {a b:ByteArray}:jY P op T (.c (.lit (.string a))) (.c (.lit (.string b))) KV=uV op a b KV:=rfl
def VL (i:Option TI) (op:BinOp) (a b:Bool) (K:V→Prop):Prop:=match i with
 |some { kd:=.bool,.. }=>match op with
  | .eql=>K (.c (.lit (.bool (a==b))))
  | .neq=>K (.c (.lit (.bool (!(a==b)))))
  |_=>False
 |_=>False
theorem yA {a b:Bool}:jY P op T (.c (.lit (.bool a))) (.c (.lit (.bool b))) KV=VL (ti P T) op a b KV:=rfl
def CM (i:Option TI) (op:BinOp) (xs ys:List C) (K:V→Prop):Prop:=match i with
 |some { eqs:=some ks,agg:=true,.. }=>match ig ks xs ys with
  |some r=>(xs.length=ks.length∧ys.length=ks.length)∧match op with
   | .eql=>K (.c (.lit (.bool r)))
   | .neq=>K (.c (.lit (.bool (!r))))
   |_=>False
  |none=>False
 |_=>False
theorem CN {xs ys:List C}:jY P op T (.agg xs) (.agg ys) KV=CM (ti P T) op xs ys KV:=rfl
theorem Mg:oL .add k a b KV=KV (.c (.lit (.int k (k.wrap (a+b))))):=rfl
theorem Mh:oL .sub k a b KV=KV (.c (.lit (.int k (k.wrap (a - b))))):=rfl
theorem Mi:oL .mul k a b KV=KV (.c (.lit (.int k (k.wrap (a*b))))):=rfl
theorem Mj:oL .eql k a b KV=KV (.c (.lit (.bool (decide (a=b))))):=rfl
theorem Mk:oL .neq k a b KV=KV (.c (.lit (.bool (!decide (a=b))))):=rfl
theorem Ml:oL .lss k a b KV=KV (.c (.lit (.bool (decide (a<b))))):=rfl
theorem Mm:oL .leq k a b KV=KV (.c (.lit (.bool (decide (a≤b))))):=rfl
theorem Mn:oL .gtr k a b KV=KV (.c (.lit (.bool (decide (b<a))))):=rfl
theorem Mo:oL .geq k a b KV=KV (.c (.lit (.bool (decide (b≤a))))):=rfl
theorem YW {x:C}:(V.c x).ldv=.c x:=rfl
theorem QM {cs:List C}:(V.agg cs).ldv=.agg cs:=rfl
theorem Mp {es:List (List C)}:(V.ow none es).ldv=.ow none es:=rfl
theorem Mq {E:TypeId×Nat} {es:List (List C)}:(V.ow (some E) es).ldv=.c (.sl es):=rfl
theorem VM {i o:Nat}:(V.bp i o).ldv=.bp i o:=rfl
theorem QN {f:Fn} {x y:List V}:(V.clo f x y).ldv=.clo f x y:=rfl
theorem VN {i o l c z:Nat}:(V.ms i o l c z).ldv=.ms i o l c z:=rfl
theorem VO {i:Nat}:(V.mr i).ldv=.mr i:=rfl
theorem VP {i:Nat}:(V.yl i).ldv=.yl i:=rfl
theorem aay {x:C}:(V.c x).fz=.c x:=rfl
theorem VQ {cs:List C}:(V.agg cs).fz=.agg cs:=rfl
theorem YX {E:Option (TypeId×Nat)} {es:List (List C)}:(V.ow E es).fz=.c (.sl es):=rfl
theorem YY {i o:Nat}:(V.bp i o).fz=.bp i o:=rfl
theorem VR {f:Fn} {x y:List V}:(V.clo f x y).fz=.clo f x y:=rfl
theorem YZ {i o l c z:Nat}:(V.ms i o l c z).fz=.ms i o l c z:=rfl
theorem VS {x:List V}:(V.mag x).fz=.mag x:=rfl
theorem QO {i o l c z:Nat}:(V.ms i o l c z).isOw=false:=rfl
theorem Mr {x:List V}:(V.mag x).isOw=false:=rfl
theorem VT {x:List V}:(V.tup x).fz=.tup x:=rfl
theorem VU {x:C}:(V.c x).isOw=false:=rfl
theorem Ms {cs:List C}:(V.agg cs).isOw=false:=rfl
theorem QP {E:Option (TypeId×Nat)} {es:List (List C)}:(V.ow E es).isOw=true:=rfl
theorem QQ {i o:Nat}:(V.bp i o).isOw=false:=rfl
theorem Mt {f:Fn} {x y:List V}:(V.clo f x y).isOw=false:=rfl
theorem Mv {x:List V}:(V.tup x).isOw=false:=rfl
theorem QR:V.sk.isOw=false:=rfl
def frm:Nat→List V→Nat→V
 |_,[]=>fun _=>.un
 |i,v::r=>up (frm (i+1) r) i v
theorem QS {i:Nat}:frm i []=fun _=>.un:=rfl
theorem Mw {i:Nat} {v:V} {r:List V}:frm i (v::r)=up (frm (i+1) r) i v:=rfl
theorem GM:∀ (l:List V) (i j:Nat),frm i l j=if i≤j then l.getD (j - i) .un else .un
 |[],i,j=>by simp[frm]
 |v::r,i,j=>by
  simp only[frm,ar,GM r (i+1) j]
  by_cases h:j=i
  ·subst h;simp
  ·rw[if_neg h]
   by_cases h1:i≤j
   ·rw[if_pos h1,if_pos (by omega)]
    have:j - i=(j - (i+1))+1:=by omega
    rw[this];rfl
   ·rw[if_neg h1,if_neg (by omega)]
theorem CO (args:List V):uC args=⟨frm 0 args,fun _=>[],0⟩:=by
 unfold uC
 congr 1
 funext j
 rw[GM]
 simp
def My (P:Program) (z:Bool) (r:V) (rs:List ResultVar) (e:VE) (s:S):Prop:=(match e with | .exit _=>False | _=>True)∧nS P z s r rs
theorem Mz {z:Bool} {r:V} {rs:List ResultVar} {s:S}:My P z r rs .ret s=nS P z s r rs:=by simp[My]
theorem CP {z:Bool} {r:V} {rs:List ResultVar} {s:S}:My P z r rs .normal s=nS P z s r rs:=by simp[My]
theorem fy {r:V} {t:Tmp}:nS P false ⟨fr,bx,nb⟩ r [.tmp t]=(fr t=r):=rfl
theorem GN {r:V} {t:Tmp}:nS P true ⟨fr,bx,nb⟩ r [.tmp t]=(imm ⟨fr,bx,nb⟩ (fr t)=some r):=by simp[nS,ER]
theorem eE {r:V} {t:Tmp} {T:TypeId}:nS P false ⟨fr,bx,nb⟩ r [.cell t T]=cy P T ⟨fr,bx,nb⟩ (fr t) (fun u=>u=r):=rfl
theorem pP {d e:V} {t u:Tmp} (h1:(fr t).fz=d) (h2:(fr u).fz=e):nS P false ⟨fr,bx,nb⟩ (.tup [d,e]) [.tmp t,.tmp u]:=by
 refine⟨_,rfl,rfl,fun i R x hR hx=>?_⟩
 match i with
 |0=>simp only[bD,am] at hR hx;subst hR;subst hx;exact h1
 |1=>simp only[cn,bD,am] at hR hx;subst hR;subst hx;exact h2
 |n+2=>simp at hR
theorem bP {f:FuncId} {fn:Func} {c:Code} {args:List V} {r:V} (z:Bool) (tr:List Nat) (hm:P.follows .mixedOrders=true) (hf:P.funcs[f]?=some fn) (hb:fn.body=some c) (hname:(fn.name== "runtime.NumGoroutine")=false)
 {rs:List ResultVar} (hrs:fn.results.toList=rs) {n:Nat} (hn:fn.ntmps=n) (hck:cok n tr c=true) (hlen:args.length≤n)
 (hr:r.out=true) (hcomp:r.compT=true)
 (h:fw P G tr (mo tr) c (My P z r rs) ⟨frm 0 args,fun _=>[],0⟩):FnOK P G f args r:=by
 subst hn
 subst hrs
 refine Qm z tr hm hf hb hname hlen hck hr hcomp ?_
 rw[CO];exact h
end
end
end
section
variable {P:Program} {G:Gl} {tr:List Nat} {fr:Nat→V} {bx:Nat→List V} {nb k0:Nat} {K:S→Prop} {KV:V→Prop} {Q:VE→S→Prop}
def frs:List (Nat×V)→Nat→V
 |[]=>fun _=>.un
 |(i,v)::r=>up (frs r) i v
theorem QT:frs []=fun _=>.un:=rfl
theorem MA {i:Nat} {v:V} {r:List (Nat×V)}:frs ((i,v)::r)=up (frs r) i v:=rfl
def FL:List (Nat×V)→(Nat→V)→Prop
 |[],_=>True
 |(i,v)::r,f=>f i=v∧FL r f
theorem FL.le:∀ {l:List (Nat×V)} {f:Nat→V},FL l f→YM (frs l) f
 |[],_,_=>fun _=>.inl rfl
 |(i,v)::r,f,h=>fun t=>by
  by_cases ht:t=i
  ·subst ht;right;simp only[frs,bZ];exact h.1.symm
  ·simp only[frs,cM _ _ ht];exact h.2.le t
def bxs (bl:List (List V)):Nat→List V:=fun i=>bl.getD i []
def BL:Nat→List (List V)→(Nat→List V)→Prop
 |_,[],_=>True
 |i,b::r,f=>f i=b∧BL (i+1) r f
theorem BL.get:∀ {bl:List (List V)} {k:Nat} {f:Nat→List V},BL k bl f→∀ i,i<bl.length→bl.getD i []=f (k+i)
 |[],_,_,_,i,hi=>by simp at hi
 |b::r,k,f,h,i,hi=>by
  cases i with
  |zero=>simp[h.1]
  |succ i=>
   have:=h.2.get i (by simpa using hi)
   simpa[cO,j4,Nat.add_left_comm] using this
def V.ltPB (m:Nat):V→Bool
 | .bp i _=>decide (i<m)
 | .bm _ i _=>decide (i<m)
 | .ms i _ _ _ _=>decide (i<m)
 | .mr i=>decide (i<m)
 | .yl i=>decide (i<m)
 |_=>true
theorem V.ltPB_ok {m:Nat} {v:V} (h:v.ltPB m=true):v.ltP m:=by
 cases v<;>simp only[V.ltP]<;>simpa[V.ltPB] using h
def V.ltB (m:Nat):V→Bool
 | .bp i _=>decide (i<m)
 | .bm _ i _=>decide (i<m)
 | .ms i _ _ _ _=>decide (i<m)
 | .clo _ fs cs=>fs.all (V.ltPB m)&&cs.all (V.ltPB m)
 | .mag vs=>vs.all (V.ltPB m)
 | .mr i=>decide (i<m)
 | .it i _ _ _=>decide (i<m)
 | .yl i=>decide (i<m)
 | .lp _ fl=>fl.all fun p=>p.2.ltPB m
 |_=>true
theorem V.ltB_ok {m:Nat} {v:V} (h:v.ltB m=true):v.lt m:=by
 cases v<;>simp only[V.lt]<;>simp only[V.ltB] at h
 ·simpa using h
 ·simp only[aF,aU] at h
  exact⟨fun x hx=>V.ltPB_ok (h.1 x hx),fun x hx=>V.ltPB_ok (h.2 x hx)⟩
 ·simpa using h
 ·simp only[aU] at h
  exact fun x hx=>V.ltPB_ok (h x hx)
 ·simpa using h
 ·simpa using h
 ·simpa using h
 ·simp only[aU] at h
  exact fun p hp=>V.ltPB_ok (h p hp)
 ·simpa using h
def fC (l:List (Nat×V)) (bl:List (List V)):Bool:=l.all (fun p=>p.2.ltB bl.length)&&bl.all fun b=>b.all fun x=>x.ltB bl.length
theorem Av {m:Nat}:∀ {l:List (Nat×V)},(∀ p∈l,p.2.lt m)→∀ t,(frs l t).lt m
 |[],_,_=>trivial
 |(i,v)::r,h,t=>by
  by_cases ht:t=i
  ·subst ht;simp only[frs,bZ];exact h _ (aR ..)
  ·simp only[frs,cM _ _ ht];exact Av (fun p hp=>h p (aN _ hp)) t
def hdS (l:List (Nat×V)) (bl:List (List V)):S:=⟨frs l,bxs bl,bl.length⟩
theorem cR {l:List (Nat×V)} {bl:List (List V)} {k:Nat} (hok:fC l bl=true) (hk:k≤bl.length) (hn:bl.length≤nb) (h1:FL l fr) (h2:BL 0 bl bx):S.Le k (hdS l bl) ⟨fr,bx,nb⟩:=by
 simp only[fC,aF,aU] at hok
 refine⟨hk,h1.le,hn,fun i hi=>?_,fun t=>Av (fun p hp=>V.ltB_ok (hok.1 p hp)) t,fun i hi x hx=>?_⟩
 ·have:=h2.get i hi;simpa[hdS,bxs] using this
 ·simp only[hdS] at hi hx
  have:bxs bl i∈bl:=by
   simp only[bxs,List.getD,ak hi,bM];exact aL hi
  exact V.ltB_ok (hok.2 _ this x hx)
def FZL (s:S) (m:Nat):List (Nat×V)→(Nat→V)→Prop
 |[],_=>True
 |(i,v)::r,f=>(f i=v∨FzV s m v (f i))∧FZL s m r f
def LZ (s:S) (m:Nat):List V→List V→Prop
 |[],[]=>True
 |x::xs,y::ys=>(x=y∨FzV s m x y)∧LZ s m xs ys
 |_,_=>False
def BZL (s:S) (m:Nat):Nat→List (List V)→(Nat→List V)→Prop
 |_,[],_=>True
 |i,b::r,f=>LZ s m b (f i)∧BZL s m (i+1) r f
theorem LZ.ok {s:S} {m:Nat}:∀ {xs ys:List V},LZ s m xs ys→xs.length=ys.length∧∀ j,xs.getD j .un=ys.getD j .un∨FzV s m (xs.getD j .un) (ys.getD j .un)
 |[],[],_=>⟨rfl,fun _=>.inl rfl⟩
 |x::xs,y::ys,h=>by
  obtain⟨h1,h2⟩:=LZ.ok h.2
  refine⟨by simp[h1],fun j=>?_⟩
  cases j with
  |zero=>simpa using h.1
  |succ j=>simpa using h2 j
 |[],_::_,h=>h.elim
 |_::_,[],h=>h.elim
theorem BZL.get {s:S} {m:Nat}:∀ {bl:List (List V)} {k:Nat} {f:Nat→List V},BZL s m k bl f→∀ i,i<bl.length→LZ s m (bl.getD i []) (f (k+i))
 |[],_,_,_,i,hi=>by simp at hi
 |b::r,k,f,h,i,hi=>by
  cases i with
  |zero=>simpa using h.1
  |succ i=>
   have:=h.2.get i (by simpa using hi)
   simpa[cO,j4,Nat.add_left_comm] using this
theorem FZL.ok {s:S} {m:Nat}:∀ {l:List (Nat×V)} {f:Nat→V},FZL s m l f→∀ t,frs l t=.un∨frs l t=f t∨FzV s m (frs l t) (f t)
 |[],_,_,_=>.inl rfl
 |(i,v)::r,f,h,t=>by
  by_cases ht:t=i
  ·subst ht
   simp only[frs,bZ]
   rcases h.1 with e | e
   ·exact .inr (.inl e.symm)
   ·exact .inr (.inr e)
  ·simp only[frs,cM _ _ ht];exact h.2.ok t
theorem Y0 {i:Nat} {ops:Array Oper} {l:List (Nat×V)} {bl:List (List V)} (hok:fC l bl=true) (hk:k0≤bl.length) (hn:bl.length≤nb) (h1:FZL ⟨fr,bx,nb⟩ bl.length l fr) (h2:BZL ⟨fr,bx,nb⟩ bl.length 0 bl bx)
 (h:ea P G tr ops ops.toList (hdS l bl) (Q .normal)) (hw:HZ tr i=false:=by rfl):fzK P G tr k0 i ops Q ⟨fr,bx,nb⟩:=by
 simp only[fC,aF,aU] at hok
 refine⟨hdS l bl,⟨hk,h1.ok,hn,fun i hi=>?_,fun i hi=>?_,fun t=>Av (fun p hp=>V.ltB_ok (hok.1 p hp)) t,fun i hi x hx=>?_⟩,by unfold vtw;rw[if_neg (by rw[hw];decide)];exact h⟩
 ·have:=(h2.get i hi).ok.1;simpa[hdS,bxs] using this
 ·have:=(h2.get i hi).ok.2;simpa[hdS,bxs] using this
 ·simp only[hdS] at hi hx
  have:bxs bl i∈bl:=by
   simp only[bxs,List.getD,ak hi,bM];exact aL hi
  exact V.ltB_ok (hok.2 _ this x hx)
theorem wj {k:Nat} {α:Type} {hd:α→S} {m:α→Nat} {Inv:α→Prop} {body:(VE→S→Prop)→S→Prop}
 (hb:∀ x,Inv x→∀ R:VE→S→Prop,(∀ y s',Inv y→m y<m x→S.Le k (hd y) s'→R .normal s')→(∀ i s',Q (.exit i) s'→R (.exit i) s')→(∀ s',Q .ret s'→R .ret s')→body R (hd x)) :
 ∀ n x s,Inv x→m x<n→S.Le k (hd x) s→ql k body Q n s
 |0,_,_,_,h,_=>absurd h (Nat.not_lt_zero _)
 |n+1,x,s,hx,hm,hle=>⟨hd x,.inr hle,hb x hx _ (fun y s' hy hlt hle'=>wj hb n y s' hy (by omega) hle') (fun _ _ h=>h) (fun _ h=>h)⟩
theorem cZ {α:Type} (hd:α→S) (m:α→Nat) (Inv:α→Prop) {body:Code} (x:α) (hx:Inv x) (hle:S.Le (k0) (hd x) ⟨fr,bx,nb⟩)
 (hb:∀ x,Inv x→∀ R:VE→S→Prop,(∀ y s',Inv y→m y<m x→S.Le (k0) (hd y) s'→R .normal s')→(∀ i s',Q (.exit i) s'→R (.exit i) s')→(∀ s',Q .ret s'→R .ret s')→fw P G tr k0 body R (hd x)) :
 fw P G tr k0 (.loop body) Q ⟨fr,bx,nb⟩:=
 ⟨m x+1,wj hb _ x _ hx (bn _) hle⟩
theorem QU {b:Bool}:vun .not (.c (.lit (.bool b))) KV=KV (.c (.lit (.bool (!b)))):=rfl
theorem kY {T e:TypeId} {i:TI} {es:List (List C)} (hT:ti P T=some i) (hk:i.kd=.slice e):fB P T (.c (.sl es)) KV=KV (.c (.lit (.int .i64 es.length))):=by
 obtain⟨kd,a,b,c,d,f,g⟩:=i;subst hk;simp only[fB,hT]
theorem kZ {T e:TypeId} {i:TI} {E:Option (TypeId×Nat)} {es:List (List C)} (hT:ti P T=some i) (hk:i.kd=.slice e):fB P T (.ow E es) KV=KV (.c (.lit (.int .i64 es.length))):=by
 obtain⟨kd,a,b,c,d,f,g⟩:=i;subst hk;simp only[fB,hT]
theorem k5 {T e:TypeId} {i:TI} {b o l c z:Nat} (hT:ti P T=some i) (hk:i.kd=.slice e):fB P T (.ms b o l c z) KV=KV (.c (.lit (.int .i64 l))):=by
 obtain⟨kd,a,b,c,d,f,g⟩:=i;subst hk;simp only[fB,hT]
theorem MB {T:TypeId} {i:TI} {b:ByteArray} (hT:ti P T=some i) (hk:i.kd=.str):fB P T (.c (.lit (.string b))) KV=KV (.c (.lit (.int .i64 b.size))):=by
 obtain⟨kd,a,b,c,d,f,g⟩:=i;subst hk;simp only[fB,hT]
theorem Aw {t:TypeId} {x:V}:dW P .len [t] [x] KV=fB P t x KV:=rfl
theorem Ax {t u:TypeId} {x y:V}:dW P .append [t,u] [x,y] KV=if t=u then dX P t x y.fz KV else nD P t u x y.fz KV:=rfl
theorem MC {T e:TypeId} {i j:TI} {b off len cap sz:Nat} {z:List C} {K2:S→Prop} (hT:ti P T=some i) (hk:i.kd=.slice e) (hE:ti P e=some j) (hs:j.size=sz) (hz:j.zero=some z) (hp:0<sz) (hl:z.length=sz) (hb:b<nb) (hm:ck (bx b)=false)
 (hf:off+len*sz≤(bx b).length) (hK:K2 ⟨fr,up bx b (eF (bx b) off ((List.replicate len z).flatten.map .c)),nb⟩):gz P ⟨fr,bx,nb⟩ K2 [T] [.ms b off len cap sz]:=by
 obtain⟨kd,a,b',c,d,f,g⟩:=i;simp only at hk;subst hk
 obtain⟨kd',a',b'',c',d',f',g'⟩:=j;simp only at hs hz;subst hs;subst hz
 simp only[gz,hT,hE]
 exact⟨⟨trivial,hp,hl,hb,hm,hf⟩,hK⟩
theorem dL {T e:TypeId} {i j:TI} {k:IntKind} {n:Int} {c:List C} {es:List (List C)} (hT:ti P T=some i) (hk:i.kd=.slice e) (hj:ti P e=some j) (hs:j.size≠0) (hn:0≤n)
 (he:es[n.toNat]?=some c) (hc:c.length=j.size) (hK:KV (.c (.rp c 0))):cw P T (.c (.sl es)) (.c (.lit (.int k n))) KV:=by
 obtain⟨kd,a,b,x,d,f,g⟩:=i
 simp only at hk;subst hk
 simp only[cw,hT,hj,he]
 exact⟨⟨hn,hs⟩,hc,hK⟩
theorem UM {T e:TypeId} {i j:TI} {k:IntKind} {n:Int} {b o l c z:Nat} (hT:ti P T=some i) (hk:i.kd=.slice e) (hj:ti P e=some j) (hs:j.size=z) (hz:z≠0) (hn:0≤n) (hl:n<l)
 (hK:KV (.bp b (o+n.toNat*z))):cw P T (.ms b o l c z) (.c (.lit (.int k n))) KV:=by
 obtain⟨kd,a,b,x,d,f,g⟩:=i
 simp only at hk;subst hk
 simp only[cw,hT,hj]
 exact⟨⟨hn,hl,hs,hz⟩,hK⟩
theorem j8 {T e:TypeId} {i j:TI} {k:IntKind} {n:Int} {m o q:Nat} (hT:ti P T=some i) (hk:i.kd=.arr m e) (hj:ti P e=some j) (hn:0≤n) (hm:n<m)
 (hK:KV (.bp q (o+n.toNat*j.size))):cw P T (.bp q o) (.c (.lit (.int k n))) KV:=by
 obtain⟨kd,a,b,x,d,f,g⟩:=i
 simp only at hk;subst hk
 simp only[cw,hT,hj]
 exact⟨⟨hn,hm⟩,hK⟩
theorem I7 {ag:Bool} {sz:Nat} {cs:List C} (ha:ag=true) (h:cs.length=sz):cU ag sz 0 cs KV=KV (.agg cs):=by
 subst ha;subst h;simp[cU]
theorem nT {T:TypeId} {i:TI} {s:S} {cs:List C} (hT:ti P T=some i) (ha:i.agg=true) (h:cs.length=i.size):cy P T s (.c (.rp cs 0)) KV=KV (.agg cs):=by
 simp only[cy,hT];exact I7 ha h
theorem eP {T:TypeId} {i:TI} {f k off sz:Nat} {ag:Bool} {cs:List C} (hT:ti P T=some i) (hf:i.flds[f]?=some (off,sz,ag)) (hs:sz≠0):aK P T (.c (.rp cs k)) f KV=KV (.c (.rp cs (k+off))):=by
 simp only[aK,hT,hf];simp[hs]
theorem eQ {T:TypeId} {i:TI} {f k off sz b:Nat} {ag:Bool} (hT:ti P T=some i) (hf:i.flds[f]?=some (off,sz,ag)) (hs:sz≠0):aK P T (.bp b k) f KV=KV (.bp b (k+off)):=by
 simp only[aK,hT,hf];simp[hs]
theorem jn {T:TypeId} {i:TI} {s:S} {cs:List C} {o:Nat} (hT:ti P T=some i) (ha:i.agg=false) (hs:i.size=1):cy P T s (.c (.rp cs o)) KV=cU false 1 o cs KV:=by
 simp only[cy,hT,ha,hs]
theorem QV {sz:Nat} {c:C} {cs:List C}:cU false sz 0 (c::cs) KV=KV (.c c):=rfl
theorem QW {sz n:Nat} {c:C} {cs:List C}:cU false sz (n+1) (c::cs) KV=cU false sz n cs KV:=by simp[cU]
def ldA (nb b:Nat) (l:List V) (o n:Nat) (K:V→Prop):Prop:=b<nb∧((((l.drop o).take n).length=n∧((l.drop o).take n).all V.isPO=true)∧K (rc (((l.drop o).take n).map V.fz)))
def GO (a:C):V→V
 | .agg cs=>.agg (a::cs)
 | .mag vs=>.mag (.c a::vs)
 |x=>x
theorem MD:rc []=.agg []:=rfl
theorem ME {a:C} {r:List V}:rc (.c a::r)=GO a (rc r):=by
 unfold rc
 simp only[ek]
 cases h:r.mapM V.asC<;>simp[V.asC,GO]
theorem QX {i o l c z:Nat} {r:List V}:rc (.ms i o l c z::r)=.mag (.ms i o l c z::r):=by
 unfold rc;simp[ek,V.asC]
theorem QY {i o:Nat} {r:List V}:rc (.bp i o::r)=.mag (.bp i o::r):=by
 unfold rc;simp[ek,V.asC]
theorem I8 {a:C} {cs:List C}:GO a (.agg cs)=.agg (a::cs):=rfl
theorem I9 {a:C} {vs:List V}:GO a (.mag vs)=.mag (.c a::vs):=rfl
theorem MF {b o n:Nat} {v:V} {l:List V}:ldA nb b (v::l) o n KV=(b<nb∧(((((v::l).drop o).take n).length=n∧(((v::l).drop o).take n).all V.isPO=true)∧KV (rc ((((v::l).drop o).take n).map V.fz)))):=rfl
theorem QZ {i o:Nat}:(V.bp i o).isPR=true:=rfl
theorem VV {x:C}:(V.c x).isPR=true:=rfl
theorem Q1 {i o l c z:Nat}:(V.ms i o l c z).isPR=true:=rfl
theorem VW {x:C}:(V.c x).isPO=true:=rfl
theorem Q2 {E:Option (TypeId×Nat)} {es:List (List C)}:(V.ow E es).isPO=true:=rfl
theorem Q3 {i o:Nat}:(V.bp i o).isPO=true:=rfl
theorem Q4 {i o l c z:Nat}:(V.ms i o l c z).isPO=true:=rfl
def ldB (nb b:Nat) (l:List V) (o:Nat) (K:V→Prop):Prop:=b<nb∧match l[o]? with
 |some v=>K v.ldv
 |none=>False
theorem k6 {T:TypeId} {i:TI} {b o n:Nat} (hT:ti P T=some i) (ha:i.agg=true) (hs:i.size=n):cy P T ⟨fr,bx,nb⟩ (.bp b o) KV=(ck (bx b)=false∧ldA nb b (bx b) o n KV):=by
 subst hs;simp only[cy,hT,ha,cA,ldA];exact propext ⟨fun⟨⟨a,b⟩,c⟩=>⟨b,a,c⟩,fun⟨b,a,c⟩=>⟨⟨a,b⟩,c⟩⟩
theorem eN {T:TypeId} {i:TI} {b o:Nat} (hT:ti P T=some i) (ha:i.agg=false):cy P T ⟨fr,bx,nb⟩ (.bp b o) KV=(ck (bx b)=false∧ldB nb b (bx b) o KV):=by
 simp only[cy,hT,ha,ldB];exact propext ⟨fun⟨⟨a,b⟩,c⟩=>⟨b,a,c⟩,fun⟨b,a,c⟩=>⟨⟨a,b⟩,c⟩⟩
theorem Y1 {b:Nat} {v:V} {l:List V}:ldB nb b (v::l) 0 KV=(b<nb∧KV v.ldv):=rfl
theorem Y2 {b o:Nat} {v:V} {l:List V}:ldB nb b (v::l) (o+1) KV=ldB nb b l o KV:=by simp[ldB]
theorem GP {b o:Nat} {cs:List C}:ldB nb b (cs.map V.c) o KV=(b<nb∧cU false 1 o cs KV):=by
 simp only[ldB,cU,ba,aS,cX]
 cases cs[o]?<;>rfl
theorem Ja {i:TI} {ks:List EK} {xs ys:List C} {r:Bool} (he:i.eqs=some ks) (ha:i.agg=true) (h:ig ks xs ys=some r) (h1:xs.length=ks.length) (h2:ys.length=ks.length):CM (some i) .eql xs ys KV=KV (.c (.lit (.bool r))):=by
 obtain⟨kd,a,b,c,d,f,g⟩:=i
 simp only at he ha;subst he;subst ha
 simp[CM,h,h1,h2]
theorem Jb {i:TI} {ks:List EK} {xs ys:List C} {r:Bool} (he:i.eqs=some ks) (ha:i.agg=true) (h:ig ks xs ys=some r) (h1:xs.length=ks.length) (h2:ys.length=ks.length):CM (some i) .neq xs ys KV=KV (.c (.lit (.bool (!r)))):=by
 obtain⟨kd,a,b,c,d,f,g⟩:=i
 simp only at he ha;subst he;subst ha
 simp[CM,h,h1,h2]
theorem sn {T:TypeId} {i:TI} {ks:List EK} {xs ys:List C} {r:Bool} (hT:ti P T=some i) (he:i.eqs=some ks) (ha:i.agg=true) (h:ig ks xs ys=some r) (h1:xs.length=ks.length) (h2:ys.length=ks.length) :
 jY P .eql T (.agg xs) (.agg ys) KV=KV (.c (.lit (.bool r))):=by rw[CN,hT];exact Ja he ha h h1 h2
theorem sq {T:TypeId} {i:TI} {ks:List EK} {xs ys:List C} {r:Bool} (hT:ti P T=some i) (he:i.eqs=some ks) (ha:i.agg=true) (h:ig ks xs ys=some r) (h1:xs.length=ks.length) (h2:ys.length=ks.length) :
 jY P .neq T (.agg xs) (.agg ys) KV=KV (.c (.lit (.bool (!r)))):=by rw[CN,hT];exact Jb he ha h h1 h2
theorem Jc {T:TypeId} {i:TI} {a b:Bool} (hT:ti P T=some i) (hk:i.kd=.bool):jY P .eql T (.c (.lit (.bool a))) (.c (.lit (.bool b))) KV=KV (.c (.lit (.bool (a==b)))):=by
 obtain⟨kd,a,b,c,d,f,g⟩:=i
 simp only at hk;subst hk
 rw[yA,hT];rfl
theorem Jd {T:TypeId} {i:TI} {a b:Bool} (hT:ti P T=some i) (hk:i.kd=.bool):jY P .neq T (.c (.lit (.bool a))) (.c (.lit (.bool b))) KV=KV (.c (.lit (.bool (!(a==b))))):=by
 obtain⟨kd,a,b,c,d,f,g⟩:=i
 simp only at hk;subst hk
 rw[yA,hT];rfl
theorem MG {a b:ByteArray}:uV .eql a b KV=KV (.c (.lit (.bool (decide (a=b))))):=rfl
theorem MH {a b:ByteArray}:uV .neq a b KV=KV (.c (.lit (.bool (!decide (a=b))))):=rfl
theorem Ff {T:TypeId} {i:TI} {k:IntKind} {n:Int} {st:ByteArray} {b:UInt8} (hT:ti P T=some i) (hk:i.kd=.str) (hn:0≤n) (hb:st.data[n.toNat]?=some b) :
 lC P T (.c (.lit (.string st))) (.c (.lit (.int k n))) KV=KV (.c (.lit (.int .u8 b.toNat))):=by
 obtain⟨kd,a,b,c,d,f,g⟩:=i
 simp only at hk;subst hk
 simp only[lC,hT,hn,hb,fm]
theorem sr:∀ cs:List C,rc (cs.map V.c)=.agg cs
 |[]=>rfl
 |c::cs=>by rw[aI,ME,sr cs];rfl
theorem GQ {b n:Nat} {cs:List C} (h:cs.length=n):ldA nb b (cs.map V.c) 0 n KV=(b<nb∧KV (.agg cs)):=by
 have h1:(cs.map V.c).take n=cs.map V.c:=dY (by simp[h])
 have h2:(cs.map V.c).map V.fz=cs.map V.c:=by simp[fM,Function.comp_def,V.fz]
 have h3:(cs.map V.c).all V.isPO=true:=by simp[List.all_map,Function.comp_def,V.isPO]
 simp only[ldA,ei,h1,h2,h3,sr,ap,h,fm]
theorem VX {t:Option Tmp} {d:Nat} {x:C} (h:∀ u,t=some u→(fr u).isOw=false):boxK t d (.c x) ⟨fr,bx,nb⟩ K=K ⟨up fr d (.bp nb 0),up bx nb [.c x],nb+1⟩:=by
 cases t with
 |none=>rfl
 |some u=>simp[boxK,V.bcells,fR,h u rfl,S.put]
theorem Y3 {t:Tmp} {d:Nat} {x:C} (h:fr t=.c x):boxK (some t) d (.c x) ⟨fr,bx,nb⟩ K=K ⟨up fr d (.bp nb 0),up bx nb [.c x],nb+1⟩:=VX (fun u hu=>by cases hu;rw[h];rfl)
theorem MI {d:Nat} {x:C}:boxK none d (.c x) ⟨fr,bx,nb⟩ K=K ⟨up fr d (.bp nb 0),up bx nb [.c x],nb+1⟩:=rfl
theorem Je {d:Nat} {E:Option (TypeId×Nat)} {es:List (List C)}:boxK none d (.ow E es) ⟨fr,bx,nb⟩ K=K ⟨up fr d (.bp nb 0),up bx nb [.ow E es],nb+1⟩:=rfl
theorem Q5 {t:Tmp} {d:Nat} {cs:List C} (h:fr t=.agg cs):boxK (some t) d (.agg cs) ⟨fr,bx,nb⟩ K=K ⟨up fr d (.bp nb 0),up bx nb (cs.map .c),nb+1⟩:=by
 simp[boxK,V.bcells,fR,h,S.put,V.isOw]
theorem VY {t:Tmp} {d:Nat} {E:Option (TypeId×Nat)} {es:List (List C)} (h:fr t=.ow E es):boxK (some t) d (.ow E es) ⟨fr,bx,nb⟩ K=K ⟨up (up fr t .un) d (.bp nb 0),up bx nb [.ow E es],nb+1⟩:=by
 simp[boxK,V.bcells,fR,h,S.put,V.isOw]
theorem VZ {t:Tmp} {d:Nat} {i o:Nat} (h:fr t=.bp i o):boxK (some t) d (.bp i o) ⟨fr,bx,nb⟩ K=K ⟨up fr d (.bp nb 0),up bx nb [.bp i o],nb+1⟩:=by
 simp[boxK,V.bcells,fR,h,S.put,V.isOw]
theorem V0 {t:Tmp} {d:Nat} {i o l c z:Nat} (h:fr t=.ms i o l c z):boxK (some t) d (.ms i o l c z) ⟨fr,bx,nb⟩ K=K ⟨up fr d (.bp nb 0),up bx nb [.ms i o l c z],nb+1⟩:=by
 simp[boxK,V.bcells,fR,h,S.put,V.isOw]
theorem Q6 {t:Tmp} {d:Nat} {vs:List V} (h:fr t=.mag vs):boxK (some t) d (.mag vs) ⟨fr,bx,nb⟩ K=K ⟨up fr d (.bp nb 0),up bx nb vs,nb+1⟩:=by
 simp[boxK,V.bcells,fR,h,S.put,V.isOw]
theorem Q7 {t:Tmp} {d:Nat} {f:Fn} {x y:List V} (h:fr t=.clo f x y):boxK (some t) d (.clo f x y) ⟨fr,bx,nb⟩ K=K ⟨up fr d (.bp nb 0),up bx nb [.clo f x y],nb+1⟩:=by
 simp[boxK,V.bcells,fR,h,S.put,V.isOw]
def stS (n:Nat) (t:Option Tmp) (dO:Option Tmp) (b o:Nat) (v:V) (s:S) (K:S→Prop):Prop:=match v.bcells with
 |some cs=>(b<s.nb∧cs.length=n∧o+n≤(s.bx b).length)∧K ((let s':=s.use t;{ s' with bx:=up s'.bx b (eF (s'.bx b) o cs) }:S).put dO .sk)
 |none=>False
theorem ix {i:TI} {n:Nat} {t dO:Option Tmp} {b o:Nat} {v:V} {s:S} (h:i.size=n):lj (some i) t dO (.bp b o) v s K=(ck (s.bx b)=false∧stS n t dO b o v s K):=by
 subst h;cases hv:v.bcells<;>simp only[lj,stS,hv]
 ·simp
 ·exact propext ⟨fun⟨⟨a,b,c,d⟩,e⟩=>⟨d,⟨a,b,c⟩,e⟩,fun⟨d,⟨a,b,c⟩,e⟩=>⟨⟨a,b,c,d⟩,e⟩⟩
theorem Jf {v:V} {l:List V}:ck (v::l)=v.isMk:=rfl
theorem MJ:ck []=false:=rfl
theorem CQ:∀ {l:List C},ck (l.map V.c)=false
 |[]=>rfl
 |_::_=>rfl
theorem V1 {x:C}:(V.c x).isMk=false:=rfl
theorem Q8 {E:Option (TypeId×Nat)} {es:List (List C)}:(V.ow E es).isMk=false:=rfl
theorem Q9 {i o:Nat}:(V.bp i o).isMk=false:=rfl
theorem Ra {i o l c z:Nat}:(V.ms i o l c z).isMk=false:=rfl
theorem ML {f:Fn} {x y:List V}:(V.clo f x y).isMk=false:=rfl
theorem Rb {i:Nat}:(V.mr i).isMk=false:=rfl
theorem Rc {i:Nat}:(V.yl i).isMk=false:=rfl
theorem Re {bs:List Nat} {cl:Nat}:(V.mk bs cl).isMk=true:=rfl
theorem MM {dO:Option Tmp} {b o:Nat} {x:C}:stS 1 none dO b o (.c x) ⟨fr,bx,nb⟩ K=((b<nb∧o+1≤(bx b).length)∧K ((⟨fr,up bx b (eF (bx b) o [.c x]),nb⟩:S).put dO .sk)):=by
 simp[stS,V.bcells,CC]
theorem Y4 {t:Tmp} {dO:Option Tmp} {b o:Nat} {x:C} (h:fr t=.c x):stS 1 (some t) dO b o (.c x) ⟨fr,bx,nb⟩ K=((b<nb∧o+1≤(bx b).length)∧K ((⟨fr,up bx b (eF (bx b) o [.c x]),nb⟩:S).put dO .sk)):=by
 simp[stS,V.bcells,fR,h,V.isOw]
theorem V2 {t:Tmp} {dO:Option Tmp} {b o:Nat} {E:Option (TypeId×Nat)} {es:List (List C)} (h:fr t=.ow E es):stS 1 (some t) dO b o (.ow E es) ⟨fr,bx,nb⟩ K=
 ((b<nb∧o+1≤(bx b).length)∧K ((⟨up fr t .un,up bx b (eF (bx b) o [.ow E es]),nb⟩:S).put dO .sk)):=by
 simp[stS,V.bcells,fR,h,V.isOw]
theorem Rf {n:Nat} {t:Tmp} {dO:Option Tmp} {b o:Nat} {cs:List C} (h:fr t=.agg cs):stS n (some t) dO b o (.agg cs) ⟨fr,bx,nb⟩ K=
 ((b<nb∧cs.length=n∧o+n≤(bx b).length)∧K ((⟨fr,up bx b (eF (bx b) o (cs.map .c)),nb⟩:S).put dO .sk)):=by
 simp[stS,V.bcells,fR,h,V.isOw]
theorem V3 {t:Tmp} {dO:Option Tmp} {b o i k:Nat} (h:fr t=.bp i k):stS 1 (some t) dO b o (.bp i k) ⟨fr,bx,nb⟩ K=((b<nb∧o+1≤(bx b).length)∧K ((⟨fr,up bx b (eF (bx b) o [.bp i k]),nb⟩:S).put dO .sk)):=by
 simp[stS,V.bcells,fR,h,V.isOw]
theorem Rh {t:Tmp} {dO:Option Tmp} {b o:Nat} {f:Fn} {x y:List V} (h:fr t=.clo f x y):stS 1 (some t) dO b o (.clo f x y) ⟨fr,bx,nb⟩ K=((b<nb∧o+1≤(bx b).length)∧K ((⟨fr,up bx b (eF (bx b) o [.clo f x y]),nb⟩:S).put dO .sk)):=by
 simp[stS,V.bcells,fR,h,V.isOw]
theorem V4 {t:Tmp} {dO:Option Tmp} {b o i k l c z:Nat} (h:fr t=.ms i k l c z):stS 1 (some t) dO b o (.ms i k l c z) ⟨fr,bx,nb⟩ K=((b<nb∧o+1≤(bx b).length)∧K ((⟨fr,up bx b (eF (bx b) o [.ms i k l c z]),nb⟩:S).put dO .sk)):=by
 simp[stS,V.bcells,fR,h,V.isOw]
theorem Ri {n:Nat} {t:Tmp} {dO:Option Tmp} {b o:Nat} {vs:List V} (h:fr t=.mag vs):stS n (some t) dO b o (.mag vs) ⟨fr,bx,nb⟩ K=
 ((b<nb∧vs.length=n∧o+n≤(bx b).length)∧K ((⟨fr,up bx b (eF (bx b) o vs),nb⟩:S).put dO .sk)):=by
 simp[stS,V.bcells,fR,h,V.isOw]
theorem V5 {v x:V} {r:List V}:eF (v::r) 0 [x]=x::r:=by simp[eF]
theorem V6 {v x:V} {r:List V} {k:Nat}:eF (v::r) (k+1) [x]=v::eF r k [x]:=by simp[eF,Nat.add_right_comm]
def k7 {α:Type} (p:α→Bool) (l:List α):Int:=match l.findIdx? p with
 |some i=>i
 |none=>-1
theorem ma {α:Type} {p:α→Bool} {l:List α} {i:Nat} (hi:i<l.length) (hy:p l[i]=true) (hno:∀ j (h:j<l.length),j<i→p l[j]=false):k7 p l=i:=by
 have:l.findIdx? p=some i:=by
  rw[bO]
  exact⟨hi,hy,fun j hj=>by simp[hno j (by omega) hj]⟩
 simp[k7,this]
theorem jI {α:Type} {p:α→Bool} {l:List α} (hno:∀ j (h:j<l.length),j<l.length→p l[j]=false):k7 p l=-1:=by
 have:l.findIdx? p=none:=by
  rw[di]
  intro x hx
  obtain⟨j,hj,rfl⟩:=ga.1 hx
  exact hno j hj hj
 simp[k7,this]
theorem jo {α:Type} {p:α→Bool} {l:List α}:decide (0≤k7 p l)=l.any p:=by
 unfold k7
 cases h:l.findIdx? p with
 |some i=>
  obtain⟨hi,hy,_⟩:=bO.1 h
  have:l.any p=true:=dE.2 ⟨_,aL hi,hy⟩
  simp[this]
 |none=>
  have h2:=di.1 h
  have:l.any p=false:=List.any_eq_false.2 fun x hx=>by simp[h2 x hx]
  simp[this]
theorem wrap_i64 (n:Int) (h:-9223372036854775808≤n∧n≤9223372036854775807):IntKind.i64.wrap n=n:=by rw[IntKind.wrap_i64];omega
theorem aD {s:S} {g:FuncId} {fs cs:List C} {args as:List V} {r:V} (hm:args.mapM (imm s)=some as) (h:FnOK P G g (fs.map .c++as++cs.map .c) r) (hb:args.any V.boxy=true→r.isFlat=true) (hK:KV r) :
 oc P G s (.c (.fn (.func g) fs cs)) args KV:=by
 simp only[oc,hm]
 exact⟨r,h,hb,hK⟩
end
section
variable {P:Program} {G:Gl} {tr:List Nat} {n:Nat} {I0:Ft} {M:Mx} {w0:World} {I:Ft} {β:Nat→Option Nat} {ob:Loc→Option Nat} {s:S} {a:Act} {w:World}
def obB (ob:Nat→Nat→Option Nat):Loc→Option Nat
 | .t _=>none
 | .b i j=>ob i j
theorem St.initB {ob:Nat→Nat→Option Nat} {vs:Array Value} {args:List V} {b0:List (List V)} {m:Nat} (hI:∀ b o,I b o→b<w.heap.size) (hg:GOK G I w) (hB:BxR (Wr M w) I w β ob b0) (hsz:vs.size=args.length)
 (ha:∀ j x,args[j]?=some x→LR (Wr M w) I β w none (vs.getD j undef) x) (hm:m=(vs++Array.replicate (n - vs.size) undef).size) :
 St G m I ⟨M.m,β,[]⟩ w I β (obB ob) ⟨fun j=>args.getD j .un,bxs b0,b0.length⟩ { tmps:=vs++Array.replicate (n - vs.size) undef,defers:=[] } w where
 size:=hm.symm
 defers:=rfl
 below:=BelowM.refl _ _
 kept:=fun _ _ _=>rfl
 ilow:=fun _ _ h=>h
 ihigh:=fun _ _ h=>.inl h
 ibnd:=hI
 fr:=fun t=>by
  simp only[obB]
  by_cases ht:t<args.length
  ·have e1:args.getD t .un=args[t]:=by simp[List.getD,ht]
   have e2:(vs++Array.replicate (n - vs.size) undef).getD t undef=vs.getD t undef:=by
    rw[ao,db (by omega),← ao]
   rw[e1,e2]
   exact ha t _ (ak ht)
  ·have e1:args.getD t .un=.un:=by simp[List.getD,bW (du ht)]
   rw[e1];simp only[LR];exact .un _
 bx:=fun i hi=>by
  simp only at hi
  obtain⟨blk,cur,e1,e2,e3,e4,e5,e7⟩:=hB.bx i _ (ak hi)
  have e:bxs b0 i=b0[i]:=by simp[bxs,List.getD,hi]
  refine⟨blk,cur,e1,e2,by simp only[e];exact e3,by simp only[e];exact e4,fun j=>?_,e7⟩
  simp only[e];exact e5 j
 bnone:=fun i hi=>hB.bnone i hi
 ext:=fun _ _ h=>h
 bnew:=fun _ _ h=>.inl h
 binj:=hB.binj
 oinj:=fun L L' b h h'=>by
  cases L<;>simp only[obB] at h<;>try cases h
  cases L'<;>simp only[obB] at h'<;>try cases h'
  obtain⟨e1,e2⟩:=hB.oinj _ _ _ _ b h h'
  rw[e1,e2]
 obx:=fun L b i h=>by
  cases L<;>simp only[obB] at h<;>try cases h
  exact hB.obx _ _ b i h
 obnd:=fun L b h=>by
  cases L<;>simp only[obB] at h<;>try cases h
  exact hB.obnd _ _ b h
 glob:=hg
def rq (P:Program) (k:Nat) (r:V) (b1:List (List V)) (rs:List ResultVar) (e:VE) (s:S):Prop:=
 (match e with | .exit _=>False | _=>True)∧∃ l,S.Le k (hdS l b1) s∧nS P false (hdS l b1) r rs
theorem GR {f:FuncId} {fn:Func} {c:Code} {args:List V} {b0 b1:List (List V)} {r:V} (tr:List Nat) (hm:P.follows .mixedOrders=true) (hf:P.funcs[f]?=some fn) (hb:fn.body=some c)
 (hname:(fn.name== "runtime.NumGoroutine")=false) (hn:args.length≤fn.ntmps) (hck:cok fn.ntmps tr c=true) (hcomp:r.compT=true)
 (hwf:(∀ x∈args,x.lt b0.length)∧(∀ b∈b0,∀ x∈b,x.lt b0.length)∧b0.length≤b1.length)
 (h:fw P G tr b0.length c (rq P b0.length r b1 fn.results.toList) ⟨fun j=>args.getD j .un,bxs b0,b0.length⟩):FnB P G f args b0 r b1:=by
 refine⟨⟨fn,hf,hname,c,hb⟩,hwf,fun I M w vs β ob hI hg hB hsz ha=>?_⟩
 have hsize:fn.ntmps=(vs++Array.replicate (fn.ntmps - vs.size) undef).size:=by simp;omega
 have hst:=St.initB (n:=fn.ntmps) hI hg hB hsz ha hsize
 have hβlt:∀ i b,β i=some b→i<b0.length:=fun i b hi=>by
  by_cases h:i<b0.length
  ·exact h
  ·rw[hB.bnone i (by omega)] at hi;cases hi
 refine m0.1 (callsIn_of_wp_marks (F:=FW none) (n:=0) hf hb trivial (jZ (l:=none) hm (fun i b hi=>hβlt i b hi) (.inl rfl) c hck _ _ (fun e s a w' hq hse=>?_) _ _ _ h (.of ⟨_,_,_,hst⟩)))
 obtain⟨hex,l,hle,hret⟩:=hq
 have hse:SX G fn.ntmps tr I ⟨M.m,β,[]⟩ w (hdS l b1) a w':=by
  obtain⟨I1,M1,w1,rs,hreb,hsame,hse⟩:=hse
  exact⟨I1,M1,w1,rs,hreb,hsame,hse.weaken (by rw[hreb.e];exact fun i b hi=>hβlt i b hi) hle⟩
 have main:LeavesInM (FW none) 0 P fn a.tmps (fun e w'=>∃ v' I' β' ob' o',e=.returned v'∧BelowM (GT G) M w w'∧(∀ b o,I b o→I' b o)∧(∀ b o,I' b o→I b o∨(Wr M w b∧b<w'.heap.size))∧
  (∀ b o,I b o→w'.cell? ⟨b,o,none⟩=w.cell? ⟨b,o,none⟩)∧(∀ i,i<b0.length→β' i=β i)∧(∀ i b,b0.length≤i→β' i=some b→Wr M w b)∧BxR (Wr M w) I' w' β' ob' b1∧
  LR (Wr M w) I' β' w' o' v' r∧(∀ b,o'=some b→(b<w'.heap.size∧Wr M w b)∧(∀ i j,ob' i j≠some b)∧∀ i,β' i≠some b)) a.defers .returning w':=by
  refine hse.leaves rfl fun w' I' β' ob' hst'=>?_
  obtain⟨v,o',h1,h2,h3⟩:=m7 (P:=P) (fn:=fn) hst' hcomp (Ic:=I') (fun _=>rfl) (fun _ _ h=>h) (fun hz=>by cases hz) hret
  have hext:∀ i,i<b0.length→β' i=β i:=fun i hi=>by
   obtain⟨blk,_,e1,_⟩:=hB.bx i _ (ak hi)
   rw[e1];exact hst'.ext i blk e1
  refine⟨v,h1,v,I',β',fun i j=>if i<b1.length then ob' (.b i j) else none,o',rfl,⟨hst'.below.os,hst'.below.tape,hst'.below.output,hst'.below.size,hst'.below.block,hst'.below.drawn⟩,hst'.ilow,fun b o hbo=>?_,hst'.kept,hext,fun i b hi hb=>?_,?_,h2,fun b hb=>?_⟩
  ·rcases hst'.ihigh b o hbo with h4 | h4
   ·exact .inl h4
   ·exact .inr ⟨h4,hst'.ibnd b o hbo⟩
  ·rcases hst'.bnew i b hb with h4 | h4
   ·have:=hβlt i b h4;omega
   ·exact h4
  ·exact {
    bx:=fun i cs hcs=>by
     have hi:i<b1.length:=(aj.1 hcs).1
     obtain⟨blk,cur,e1,e2,e3,e4,e5,e7⟩:=hst'.bx i hi
     have e:bxs b1 i=cs:=by simp[bxs,List.getD,hcs]
     refine⟨blk,cur,e1,e2,by simp only[hdS,e] at e3;exact e3,by simp only[hdS,e] at e4;exact e4,fun j=>?_,e7⟩
     have:=e5 j
     simp only[hdS,e] at this
     rw[if_pos hi];exact this
    bnone:=fun i hi=>hst'.bnone i hi
    binj:=hst'.binj
    oinj:=fun i j i' j' b h h'=>by
     split at h<;>try cases h
     split at h'<;>try cases h'
     have:=hst'.oinj _ _ b h h'
     simp only[Loc.b.injEq] at this;exact this
    obx:=fun i j b k h=>by
     split at h<;>try cases h
     exact hst'.obx _ b k h
    obnd:=fun i j b h=>by
     split at h<;>try cases h
     exact hst'.obnd _ b h
    olen:=fun i j hi=>by rw[if_neg (by omega)] }
  ·obtain⟨t,ht⟩:=h3 b hb
   refine⟨hst'.obnd _ b ht,fun i j h=>?_,fun i=>hst'.obx _ b i ht⟩
   simp only at h
   split at h<;>try cases h
   have:=hst'.oinj _ _ b ht h
   cases this
 cases e with
 |normal=>exact main
 |exit i=>exact hex.elim
 |ret=>exact main
theorem Rj {f:FuncId} {fn:Func} {c:Code} {args:List V} {b0:List (List V)} {R:V→List (List V)→Prop} (tr:List Nat) (hm:P.follows .mixedOrders=true) (hf:P.funcs[f]?=some fn) (hb:fn.body=some c)
 (hname:(fn.name== "runtime.NumGoroutine")=false) (hn:args.length≤fn.ntmps) (hck:cok fn.ntmps tr c=true) (hcomp:∀ r b1,R r b1→r.compT=true)
 (hwf:(∀ x∈args,x.lt b0.length)∧(∀ b∈b0,∀ x∈b,x.lt b0.length)∧∀ r b1,R r b1→b0.length≤b1.length)
 (h:fw P G tr b0.length c (fun e s=>∃ r b1,R r b1∧rq P b0.length r b1 fn.results.toList e s) ⟨fun j=>args.getD j .un,bxs b0,b0.length⟩):FnE P G f args b0 R:=by
 refine⟨⟨fn,hf,hname,c,hb⟩,hwf,fun I M w vs β ob hI hg hB hsz ha=>?_⟩
 have hsize:fn.ntmps=(vs++Array.replicate (fn.ntmps - vs.size) undef).size:=by simp;omega
 have hst:=St.initB (n:=fn.ntmps) hI hg hB hsz ha hsize
 have hβlt:∀ i b,β i=some b→i<b0.length:=fun i b hi=>by
  by_cases h:i<b0.length
  ·exact h
  ·rw[hB.bnone i (by omega)] at hi;cases hi
 refine m0.1 (callsIn_of_wp_marks (F:=FW none) (n:=0) hf hb trivial (jZ (l:=none) hm (fun i b hi=>hβlt i b hi) (.inl rfl) c hck _ _ (fun e s a w' hq hse=>?_) _ _ _ h (.of ⟨_,_,_,hst⟩)))
 obtain⟨r,b1,hR,hex,l,hle,hret⟩:=hq
 have hse:SX G fn.ntmps tr I ⟨M.m,β,[]⟩ w (hdS l b1) a w':=by
  obtain⟨I1,M1,w1,rs,hreb,hsame,hse⟩:=hse
  exact⟨I1,M1,w1,rs,hreb,hsame,hse.weaken (by rw[hreb.e];exact fun i b hi=>hβlt i b hi) hle⟩
 have main:LeavesInM (FW none) 0 P fn a.tmps (fun e w'=>∃ r b1,R r b1∧∃ v' I' β' ob' o',e=.returned v'∧BelowM (GT G) M w w'∧(∀ b o,I b o→I' b o)∧(∀ b o,I' b o→I b o∨(Wr M w b∧b<w'.heap.size))∧
  (∀ b o,I b o→w'.cell? ⟨b,o,none⟩=w.cell? ⟨b,o,none⟩)∧(∀ i,i<b0.length→β' i=β i)∧(∀ i b,b0.length≤i→β' i=some b→Wr M w b)∧BxR (Wr M w) I' w' β' ob' b1∧
  LR (Wr M w) I' β' w' o' v' r∧(∀ b,o'=some b→(b<w'.heap.size∧Wr M w b)∧(∀ i j,ob' i j≠some b)∧∀ i,β' i≠some b)) a.defers .returning w':=by
  refine hse.leaves rfl fun w' I' β' ob' hst'=>?_
  obtain⟨v,o',h1,h2,h3⟩:=m7 (P:=P) (fn:=fn) hst' (hcomp r b1 hR) (Ic:=I') (fun _=>rfl) (fun _ _ h=>h) (fun hz=>by cases hz) hret
  have hext:∀ i,i<b0.length→β' i=β i:=fun i hi=>by
   obtain⟨blk,_,e1,_⟩:=hB.bx i _ (ak hi)
   rw[e1];exact hst'.ext i blk e1
  refine⟨v,h1,r,b1,hR,v,I',β',fun i j=>if i<b1.length then ob' (.b i j) else none,o',rfl,⟨hst'.below.os,hst'.below.tape,hst'.below.output,hst'.below.size,hst'.below.block,hst'.below.drawn⟩,hst'.ilow,fun b o hbo=>?_,hst'.kept,hext,fun i b hi hb=>?_,?_,h2,fun b hb=>?_⟩
  ·rcases hst'.ihigh b o hbo with h4 | h4
   ·exact .inl h4
   ·exact .inr ⟨h4,hst'.ibnd b o hbo⟩
  ·rcases hst'.bnew i b hb with h4 | h4
   ·have:=hβlt i b h4;omega
   ·exact h4
  ·exact {
    bx:=fun i cs hcs=>by
     have hi:i<b1.length:=(aj.1 hcs).1
     obtain⟨blk,cur,e1,e2,e3,e4,e5,e7⟩:=hst'.bx i hi
     have e:bxs b1 i=cs:=by simp[bxs,List.getD,hcs]
     refine⟨blk,cur,e1,e2,by simp only[hdS,e] at e3;exact e3,by simp only[hdS,e] at e4;exact e4,fun j=>?_,e7⟩
     have:=e5 j
     simp only[hdS,e] at this
     rw[if_pos hi];exact this
    bnone:=fun i hi=>hst'.bnone i hi
    binj:=hst'.binj
    oinj:=fun i j i' j' b h h'=>by
     split at h<;>try cases h
     split at h'<;>try cases h'
     have:=hst'.oinj _ _ b h h'
     simp only[Loc.b.injEq] at this;exact this
    obx:=fun i j b k h=>by
     split at h<;>try cases h
     exact hst'.obx _ b k h
    obnd:=fun i j b h=>by
     split at h<;>try cases h
     exact hst'.obnd _ b h
    olen:=fun i j hi=>by rw[if_neg (by omega)] }
  ·obtain⟨t,ht⟩:=h3 b hb
   refine⟨hst'.obnd _ b ht,fun i j h=>?_,fun i=>hst'.obx _ b i ht⟩
   simp only at h
   split at h<;>try cases h
   have:=hst'.oinj _ _ b ht h
   cases this
 cases e with
 |normal=>exact main
 |exit i=>exact hex.elim
 |ret=>exact main
end
theorem Ay:∀ (bl:List (List V)) (k:Nat) (f:Nat→List V),(∀ i b,bl[i]?=some b→f (k+i)=b)→BL k bl f
 |[],_,_,_=>trivial
 |b::r,k,f,h=>⟨by simpa using h 0 b rfl,Ay r (k+1) f fun i c hc=>by have:=h (i+1) c (by simpa using hc);rw[cO,j4 1 i];exact this⟩
theorem vo (x:V):x.renP (fun i=>i)=x:=by cases x<;>rfl
theorem Az (x:V):x.ren (fun i=>i)=x:=by
 cases x<;>simp only[V.ren]
 ·rw[cd (g:=id) (fun x _=>vo x),cd (g:=id) (fun x _=>vo x)];simp
 ·rw[cd (g:=id) (fun x _=>vo x)];simp
 ·rw[cd (g:=id) (fun p _=>by rw[vo];rfl)];simp
theorem m8 (l:List V):l.map (V.ren fun i=>i)=l:=by
 rw[cd (g:=id) (fun x _=>Az x)];simp
theorem gP {α:Type} {f:α→α}:∀ {l:List α},(∀ x∈l,f x=x)→l.map f=l
 |[],_=>rfl
 |x::l,h=>by rw[aI,h x (aR ..),gP fun y hy=>h y (aN _ hy)]
theorem su {ρ:Nat→Nat} {x:V} (h:x.ltP 0):x.renP ρ=x:=by cases x<;>simp_all[V.renP,V.ltP]
theorem Rk {ρ:Nat→Nat} {x:V} (h:x.lt 0):x.ren ρ=x:=by
 cases x<;>simp only[V.ren]<;>simp only[V.lt] at h<;>try omega
 ·rw[gP fun x hx=>su (h.1 x hx),gP fun x hx=>su (h.2 x hx)]
 ·rw[gP fun x hx=>su (h x hx)]
 ·rw[gP fun p hp=>by rw[su (h p hp)]]
theorem tR (nb:Nat):rho (List.range nb) nb=fun i=>i:=by
 funext i
 unfold rho
 rw[iJ]
 split
 ·rename_i h;simp[List.getD,h]
 ·omega
theorem Rl (nb:Nat):rho [] nb=fun i=>nb+i:=by
 funext i;simp[rho]
theorem oo:∀ (b1:List (List V)) (k:Nat) (f:Nat→List V),eO (fun i=>i) k b1 f=fun i=>if k≤i∧i<k+b1.length then b1.getD (i - k) [] else f i
 |[],k,f=>by funext i;simp only[eO,aJ];rw[if_neg (by omega)]
 |b::r,k,f=>by
  funext i
  simp only[eO,oo r,m8,aC,up]
  by_cases h1:k+1≤i∧i<k+1+r.length
  ·rw[if_pos h1,if_pos (by omega)]
   have:i - k=(i - (k+1))+1:=by omega
   rw[this];rfl
  ·rw[if_neg h1]
   by_cases h2:i=k
   ·subst h2;rw[if_pos rfl,if_pos (by omega)];simp
   ·rw[if_neg h2,if_neg (by omega)]
theorem qw:∀ (b0:List (List V)) (k nb:Nat) (f:Nat→List V),(∀ i b,b0[i]?=some b→k+i<nb∧f (k+i)=b)→nw f nb (fun i=>i) k b0
 |[],_,_,_,_=>trivial
 |b::r,k,nb,f,h=>by
  refine⟨?_,qw r (k+1) nb f fun i c hc=>?_⟩
  ·have:=h 0 b rfl
   rw[m8];exact this
  ·have:=h (i+1) c (by simpa using hc)
   rw[cO,j4 1 i];exact this
def yB:VE→Bool
 | .exit _=>false
 |_=>true
theorem CS:∀ e:VE,yB e=true→(match e with | .exit _=>False | _=>True)
 | .exit _,h=>by cases h
 | .normal,_=>trivial
 | .ret,_=>trivial
def dU (args:List V) (b0:List (List V)):Bool:=args.all (fun v=>v.ltB b0.length)&&b0.all fun b=>b.all fun v=>v.ltB b0.length
section
variable {P:Program} {G:Gl} {tr:List Nat} {fr:Nat→V} {bx:Nat→List V} {nb:Nat} {K:S→Prop} {KV:V→Prop} {dO:Option Tmp} {T ty:TypeId} {pos:String} {af:Array Edge} {g:Option (Nat×Bool)}
def Rm (dO:Option Tmp) (K:S→Prop) (s:S):Prop:=K (s.put dO .sk)
theorem Rn:Rm dO K ⟨fr,bx,nb⟩=K ((⟨fr,bx,nb⟩:S).put dO .sk):=rfl
def MN (t:Tmp) (dO:Option Tmp) (s:S) (K:S→Prop) (it:Option V) (v:V):Prop:=K ((match it with | some x=>{ s with fr:=up s.fr t x } | none=>s:S).put dO v)
theorem Fg {t:Tmp} {x v:V}:MN t dO ⟨fr,bx,nb⟩ K (some x) v=K ((⟨up fr t x,bx,nb⟩:S).put dO v):=rfl
theorem Fh {t:Tmp} {v:V}:MN t dO ⟨fr,bx,nb⟩ K none v=K ((⟨fr,bx,nb⟩:S).put dO v):=rfl
theorem wl {i:TI} {kt et:TypeId} (hT:ti P T=some i) (hk:i.kd=.map kt et):VStep P G tr ⟨dO,.makeMap T none,ty,pos,af,g⟩ ⟨fr,bx,nb⟩ K=K ((⟨fr,up bx nb [.mk [] 0],nb+1⟩:S).put dO (.mr nb)):=by
 obtain⟨kd,a,b,c,d,f,e⟩:=i
 simp only at hk;subst hk
 simp only[VStep,hT]
theorem AA {m k x:Operand}:VStep P G tr ⟨dO,.mapUpdate T m k x,ty,pos,af,g⟩ ⟨fr,bx,nb⟩ K=gj P T ⟨fr,bx,nb⟩ (ev G ⟨fr,bx,nb⟩ m) (ev G ⟨fr,bx,nb⟩ k) (ev G ⟨fr,bx,nb⟩ x) (Rm dO K):=rfl
theorem Jg {m k x:Operand}:VStep P G tr ⟨dO,.insert T m k x,ty,pos,af,g⟩ ⟨fr,bx,nb⟩ K=gj P T ⟨fr,bx,nb⟩ (ev G ⟨fr,bx,nb⟩ m) (ev G ⟨fr,bx,nb⟩ k) (ev G ⟨fr,bx,nb⟩ x) (Rm dO K):=rfl
theorem CU {m k:Operand}:VStep P G tr ⟨dO,.mapEntry T m k,ty,pos,af,g⟩ ⟨fr,bx,nb⟩ K=eS P T ⟨fr,bx,nb⟩ (ev G ⟨fr,bx,nb⟩ m) (ev G ⟨fr,bx,nb⟩ k) (xu dO K):=rfl
theorem xQ {m k x:Operand}:VStep P G tr ⟨dO,.entryStore T m k x,ty,pos,af,g⟩ ⟨fr,bx,nb⟩ K=eX ⟨fr,bx,nb⟩ (ev G ⟨fr,bx,nb⟩ m) (ev G ⟨fr,bx,nb⟩ k) (ev G ⟨fr,bx,nb⟩ x) (Rm dO K):=rfl
theorem Ro {t:Tmp}:VStep P G tr ⟨dO,.next (.tmp t) false,ty,pos,af,g⟩ ⟨fr,bx,nb⟩ K=vA ⟨fr,bx,nb⟩ (fr t) (MN t dO ⟨fr,bx,nb⟩ K):=rfl
theorem Jh {m k:Operand} {ok:Bool}:VStep P G tr ⟨dO,.lookup T m k ok,ty,pos,af,g⟩ ⟨fr,bx,nb⟩ K=eW P T ⟨fr,bx,nb⟩ (ev G ⟨fr,bx,nb⟩ m) (ev G ⟨fr,bx,nb⟩ k) ok (j0 dO ⟨fr,bx,nb⟩ K):=rfl
theorem MO {x:Operand}:VStep P G tr ⟨dO,.range T x,ty,pos,af,g⟩ ⟨fr,bx,nb⟩ K=ml P T ⟨fr,bx,nb⟩ (ev G ⟨fr,bx,nb⟩ x) (j0 dO ⟨fr,bx,nb⟩ K):=rfl
theorem MP {x:Operand}:VStep P G tr ⟨dO,.entry x,ty,pos,af,g⟩ ⟨fr,bx,nb⟩ K=lD ⟨fr,bx,nb⟩ (ev G ⟨fr,bx,nb⟩ x) (j0 dO ⟨fr,bx,nb⟩ K):=rfl
theorem Y5 {i:Nat}:(V.mr i).fz=.mr i:=rfl
theorem Y6 {i:Nat}:(V.yl i).fz=.yl i:=rfl
theorem Rp {i:Nat}:(V.mr i).isOw=false:=rfl
theorem Rq {i:Nat}:(V.yl i).isOw=false:=rfl
theorem Rr {i a b:Nat} {l:List Nat}:(V.it i a b l).isOw=true:=rfl
theorem Rs {i:Nat}:(V.mr i).isPO=true:=rfl
theorem Rt {i:Nat}:(V.yl i).isPO=true:=rfl
theorem Rv {i:Nat}:(V.mr i).isPR=true:=rfl
theorem Rw {i:Nat}:(V.yl i).isPR=true:=rfl
theorem aaz {x:C}:(V.c x).dr=.c x:=rfl
theorem V7 {x:List C}:(V.agg x).dr=.agg x:=rfl
def nU {α β:Type} (f:α→V) (h:β→V):List (α×β)→List V
 |[]=>[]
 |(a,b)::l=>f a::h b::nU f h l
theorem uE {α β:Type} {f:α→V} {h:β→V}:∀ l m:List (α×β),nU f h (l++m)=nU f h l++nU f h m
 |[],_=>rfl
 |(a,b)::l,m=>by simp[nU,uE l m]
theorem uF {α β:Type} {ag:Bool} {f:α→V} {h:β→V} {c:α→List C} (hf:∀ a,(f a).kcs ag=some (c a)):∀ l:List (α×β),iP ag (nU f h l)=some (l.map fun p=>c p.1)
 |[]=>rfl
 |(a,b)::l=>by simp[nU,iP,hf,uF hf l]
theorem pQ {α β:Type} {f:α→V} {h:β→V}:∀ (l:List (α×β)) (j:Nat) (p:α×β),l[j]?=some p→(nU f h l).getD (2*j+1) .un=h p.2∧(nU f h l).getD (2*j) .un=f p.1
 |[],j,p,hp=>by simp at hp
 |(a,b)::l,0,p,hp=>by simp at hp;subst hp;exact⟨rfl,rfl⟩
 |(a,b)::l,j+1,p,hp=>by
  have:=pQ (f:=f) (h:=h) l j p (by simpa using hp)
  rw[show 2*(j+1)=2*j+1+1 by omega]
  simpa only[nU,dl] using this
theorem CV {α β:Type} {f:α→V} {h:β→V}:∀ (l:List (α×β)) (j:Nat) (a:α) (b b':β),l[j]?=some (a,b)→(nU f h l).set (2*j+1) (h b')=nU f h (l.set j (a,b'))
 |[],j,a,b,b',hp=>by simp at hp
 |(a,b)::l,0,a',b0,b',hp=>by simp at hp;simp[nU,hp.1]
 |(a,b)::l,j+1,a',b0,b',hp=>by
  have:=CV (f:=f) (h:=h) l j a' b0 b' (by simpa using hp)
  rw[show 2*(j+1)+1=2*j+1+1+1 by omega]
  simp only[nU,List.set_cons_succ,this]
theorem yC {α:Type} {ks:List EK} {c:α→List C} [DecidableEq α] (hl:∀ a,(c a).length=ks.length) (he:∀ a b,ig ks (c a) (c b)=some (decide (a=b))) (a:α):∀ (l:List α) (i:Nat),
 lm ks (c a) (l.map c) i=some ((l.findIdx? (fun b=>decide (a=b))).map (i+·))
 |[],i=>rfl
 |b::l,i=>by
  simp only[aI,lm,hl,cA,he,List.findIdx?_cons]
  by_cases h:a=b
  ·simp[h]
  ·simp only[h,bE,aS,cX]
   rw[yC hl he a l (i+1)]
   cases l.findIdx? (fun b=>decide (a=b))<;>simp;omega
end
section
variable {P:Program} {G:Gl} {tr:List Nat} {fr:Nat→V} {bx:Nat→List V} {nb:Nat} {K:S→Prop} {KV:V→Prop} {Q:VE→S→Prop}
theorem tU (args:List V):frm 0 args=fun j=>args.getD j .un:=by
 have:=CO args
 simp only[uC,S.mk.injEq] at this
 exact this.1.symm
theorem MQ {b:List V} {r:List (List V)}:bxs (b::r) 0=b:=rfl
theorem MR {b:List V} {r:List (List V)} {n:Nat}:bxs (b::r) (n+1)=bxs r n:=rfl
theorem Rx {n:Nat}:bxs [] n=[]:=by simp[bxs]
theorem lH {f:FuncId} {fn:Func} {c:Code} {args:List V} {b0 b1:List (List V)} {r:V} (tr:List Nat) (hm:P.follows .mixedOrders=true) (hf:P.funcs[f]?=some fn) (hb:fn.body=some c) (hname:(fn.name== "runtime.NumGoroutine")=false)
 {rs:List ResultVar} (hrs:fn.results.toList=rs) {n:Nat} (hn:fn.ntmps=n) (hck:cok n tr c=true) (hlen:args.length≤n) (hcomp:r.compT=true) {k:Nat} (hk:mo tr=k) (hk0:b0.length=k)
 (hargs:dU args b0=true) (hle:b0.length≤b1.length)
 (h:fw P G tr k c (rq P k r b1 rs) ⟨frm 0 args,bxs b0,k⟩):FnB P G f args b0 r b1:=by
 subst hn
 subst hrs
 subst hk0
 simp only[dU,aF,aU] at hargs
 refine GR tr hm hf hb hname hlen hck hcomp ⟨fun x hx=>V.ltB_ok (hargs.1 x hx),fun b hb x hx=>V.ltB_ok (hargs.2 b hb x hx),hle⟩ ?_
 rw[tU] at h;exact h
theorem dj {k:Nat} {r:V} {b1:List (List V)} {rs:List ResultVar} {e:VE} (l:List (Nat×V)) (he:yB e=true) (hok:fC l b1=true) (hk:k≤b1.length) (hn:b1.length≤nb) (h1:FL l fr) (h2:BL 0 b1 bx) (hr:nS P false (hdS l b1) r rs) :
 rq P k r b1 rs e ⟨fr,bx,nb⟩:=⟨CS _ he,l,cR hok hk hn h1 h2,hr⟩
theorem cV {fr:Nat→V} {bx:Nat→List V} {nb:Nat}:nS P false ⟨fr,bx,nb⟩ (.tup []) []:=⟨[],rfl,rfl,fun _ _ _ h=>by simp at h⟩
theorem hZ (m:Nat) (cs:List C):(cs.map V.c).all (fun x=>x.ltB m)=true:=by
 rw[List.all_map,aU];intro x _;rfl
theorem tV {s:S} {f:V} {args all cargs:List V} {g:FuncId} {K:S→V→Prop} {r:V} {b1:List (List V)} (hc:dS f args=some (g,all)) (hf:FnB P G g cargs [] r b1) (hall:all.map V.fz=cargs)
 (hK:K { s with bx:=eO (fun i=>s.nb+i) 0 b1 s.bx,nb:=s.nb+b1.length } (r.ren fun i=>s.nb+i)):vcallB P G s f args K:=by
 unfold vcallB ja
 simp only[hc]
 refine⟨[],cargs,[],r,b1,hf,?_,⟨rfl,iq⟩,trivial,?_⟩
 ·rw[hall,gP fun x hx=>Rk (hf.2.1.1 x hx)]
 ·rw[Rl]
  simpa using hK
theorem Ji {s:S} {f:V} {args all cargs:List V} {g:FuncId} {K:S→V→Prop} {r:V} {b0 b1:List (List V)} (hc:dS f args=some (g,all)) (hf:FnB P G g cargs b0 r b1) (hall:all.map V.fz=cargs)
 (hn:b0.length=s.nb) (hb:BL 0 b0 s.bx) (hK:K { s with bx:=fun i=>if i<b1.length then b1.getD i [] else s.bx i,nb:=b1.length } r):vcallB P G s f args K:=by
 unfold vcallB ja
 simp only[hc]
 refine⟨List.range s.nb,cargs,b0,r,b1,hf,?_,⟨by simp[hn],jg⟩,?_,?_⟩
 ·rw[tR,hall,m8]
 ·rw[tR]
  refine qw _ _ _ _ fun i b hb'=>?_
  have hi:=(aj.1 hb').1
  have:=hb.get i hi
  rw[ah] at this ⊢
  refine⟨by omega,?_⟩
  rw[← this]
  simp[hb']
 ·rw[tR,oo,Az]
  have hle:=hf.2.1.2.2
  have e1:s.nb+(b1.length - b0.length)=b1.length:=by omega
  rw[e1]
  have e2:(fun i=>if 0≤i∧i<0+b1.length then b1.getD (i - 0) [] else s.bx i)=fun i=>if i<b1.length then b1.getD i [] else s.bx i:=by
   funext i;simp
  rw[e2];exact hK
end
section
variable {P:Program} {G:Gl} {tr:List Nat} {fr:Nat→V} {bx:Nat→List V} {nb:Nat} {K:S→Prop} {KV:V→Prop} {Q:VE→S→Prop}
def Ry {α:Type} (o:Option α) (K:α→Prop):Prop:=match o with
 |some a=>K a
 |none=>False
def wm (f:Option (Nat×Nat×Bool)) (ds:List C) (flds:List (Nat×Nat×Bool)) (r:List (Nat×V)) (cs:List C):Option (List C):=match f with
 |some (off,sz,_)=>if ds.length=sz∧off+sz≤cs.length then iD flds r (mA cs off ds) else none
 |none=>none
def u7 (e sz:Nat) (z:List C) (len:Nat) (parts:List (Nat×V)) (K:V→Prop):Prop:=match mV sz parts (List.replicate len z) with
 |some es=>K (.ow (if len=0 then none else some (e,sz)) es)
 |none=>False
theorem o5 {T e:TypeId} {i j:TI} {z:List C} {sz len:Nat} {parts:List (Nat×V)} (hT:ti P T=some i) (hk:i.kd=.slice e) (hE:ti P e=some j) (hz:j.zero=some z) (hs:j.size=sz) (hp:0<sz) (hl:z.length=sz) (hn:len*sz≤16777216) :
 ci P T len parts KV=u7 e sz z len parts KV:=by
 obtain⟨kd,a,b,c,d,f,g⟩:=i;subst hk
 obtain⟨kd',a',b',c',d',f',g'⟩:=j;simp only at hz hs;subst hz;subst hs
 simp only[ci,hT,hE,hp,hl,hn,fm];rfl
theorem Jj {sz:Nat} {es:List (List C)}:mV sz [] es=some es:=rfl
theorem Jk {sz i:Nat} {ds:List C} {r:List (Nat×V)} {es:List (List C)}:mV sz ((i,.agg ds)::r) es=if ds.length=sz∧i<es.length then mV sz r (es.set i ds) else none:=rfl
theorem Rz {sz i:Nat} {x:C} {r:List (Nat×V)} {es:List (List C)}:mV sz ((i,.c x)::r) es=if[x].length=sz∧i<es.length then mV sz r (es.set i [x]) else none:=rfl
theorem MS {sz i:Nat} {E:Option (TypeId×Nat)} {x:List (List C)} {r:List (Nat×V)} {es:List (List C)}:mV sz ((i,.ow E x)::r) es=if[C.sl x].length=sz∧i<es.length then mV sz r (es.set i [.sl x]) else none:=rfl
theorem RA {e sz len:Nat} {z:List C} {parts:List (Nat×V)}:u7 e sz z len parts KV=Ry (mV sz parts (List.replicate len z)) (fun es=>KV (.ow (if len=0 then none else some (e,sz)) es)):=by
 unfold u7 Ry;cases mV sz parts (List.replicate len z)<;>rfl
def ru (flds:List (Nat×Nat×Bool)) (z:List C) (parts:List (Nat×V)) (K:V→Prop):Option (List C)→Prop
 |some cs=>K (.agg cs)
 |none=>Ry (gi flds parts (z.map .c)) fun vs=>K (.mag vs)
theorem lJ {T:TypeId} {i:TI} {z:List C} {flds:List (Nat×Nat×Bool)} {parts:List (Nat×V)} (hT:ti P T=some i) (hk:i.kd=.struct) (hz:i.zero=some z) (hf:i.flds=flds) :
 fQ P T parts KV=ru flds z parts KV (iD flds parts z):=by
 obtain⟨kd,a,b,c,d,f,g⟩:=i;simp only at hk hz hf;subst hk;subst hz;subst hf
 simp only[fQ,hT];unfold ru
 cases iD f parts z with
 |some cs=>rfl
 |none=>cases gi f parts (z.map .c)<;>rfl
theorem Jl {z cs:List C} {flds:List (Nat×Nat×Bool)} {parts:List (Nat×V)}:ru flds z parts KV (some cs)=KV (.agg cs):=rfl
theorem Jm {α:Type} {a:α} {K:α→Prop}:Ry (some a) K=K a:=rfl
theorem Jn {flds:List (Nat×Nat×Bool)} {cs:List C}:iD flds [] cs=some cs:=rfl
theorem RB {flds:List (Nat×Nat×Bool)} {i:Nat} {x:C} {r:List (Nat×V)} {cs:List C}:iD flds ((i,.c x)::r) cs=wm flds[i]? [x] flds r cs:=by
 unfold iD wm;cases flds[i]?<;>rfl
theorem MU {flds:List (Nat×Nat×Bool)} {i:Nat} {E:Option (TypeId×Nat)} {x:List (List C)} {r:List (Nat×V)} {cs:List C}:iD flds ((i,.ow E x)::r) cs=wm flds[i]? [.sl x] flds r cs:=by
 unfold iD wm;cases flds[i]?<;>rfl
theorem Jo {flds:List (Nat×Nat×Bool)} {i:Nat} {ds:List C} {r:List (Nat×V)} {cs:List C}:iD flds ((i,.agg ds)::r) cs=wm flds[i]? ds flds r cs:=by
 unfold iD wm;cases flds[i]?<;>rfl
theorem Fi {off sz:Nat} {ag:Bool} {ds:List C} {flds:List (Nat×Nat×Bool)} {r:List (Nat×V)} {cs:List C}:wm (some (off,sz,ag)) ds flds r cs=if ds.length=sz∧off+sz≤cs.length then iD flds r (mA cs off ds) else none:=rfl
theorem Fj {cs ds:List C}:mA cs 0 ds=ds++cs.drop ds.length:=by simp[mA]
theorem Fl {c:C} {cs ds:List C} {n:Nat}:mA (c::cs) (n+1) ds=c::mA cs n ds:=by simp[mA,Nat.succ_add]
def ldZ (nb b:Nat) (l:List V) (o:Nat) (K:V→Prop):Prop:=b<nb∧match l[o]? with
 |some (.ow none es)=>K (.ow none es)
 |_=>False
theorem tW {T:TypeId} {i:TI} {b o:Nat} (hT:ti P T=some i) (ha:i.agg=false):mn P T ⟨fr,bx,nb⟩ (.bp b o) KV=(ck (bx b)=false∧ldZ nb b (bx b) o KV):=by
 simp only[mn,hT,ha,ldZ];exact propext ⟨fun⟨⟨a,_,b⟩,c⟩=>⟨b,a,c⟩,fun⟨b,a,c⟩=>⟨⟨a,trivial,b⟩,c⟩⟩
theorem Y7 {b:Nat} {es:List (List C)} {l:List V}:ldZ nb b (.ow none es::l) 0 KV=(b<nb∧KV (.ow none es)):=rfl
theorem Y8 {b o:Nat} {v:V} {l:List V}:ldZ nb b (v::l) (o+1) KV=ldZ nb b l o KV:=by simp[ldZ]
def o6 (f:Option (Nat×Nat×Bool)) (ds:List V) (flds:List (Nat×Nat×Bool)) (r:List (Nat×V)) (cs:List V):Option (List V):=match f with
 |some (off,sz,_)=>if ds.length=sz∧off+sz≤cs.length then gi flds r (uW cs off ds) else none
 |none=>none
def oq (K:V→Prop):Option (List V)→Prop
 |some vs=>K (.mag vs)
 |none=>False
theorem k9 {T:TypeId} {i:TI} {z:List C} {flds:List (Nat×Nat×Bool)} {parts:List (Nat×V)} (hT:ti P T=some i) (hk:i.kd=.struct) (hz:i.zero=some z) (hf:i.flds=flds) :
 iE P T parts KV=oq KV (gi flds parts (z.map kS)):=by
 obtain⟨kd,a,b,c,d,f,g⟩:=i;simp only at hk hz hf;subst hk;subst hz;subst hf
 simp only[iE,hT]
 cases gi f parts (z.map kS)<;>rfl
theorem Fo {vs:List V}:oq KV (some vs)=KV (.mag vs):=rfl
theorem Jp {flds:List (Nat×Nat×Bool)} {cs:List V}:gi flds [] cs=some cs:=rfl
theorem RE {flds:List (Nat×Nat×Bool)} {i:Nat} {x:C} {r:List (Nat×V)} {cs:List V}:gi flds ((i,.c x)::r) cs=o6 flds[i]? [.c x] flds r cs:=by
 unfold o6;simp only[gi,V.ps];cases flds[i]?<;>rfl
theorem MV {flds:List (Nat×Nat×Bool)} {i:Nat} {E:Option (TypeId×Nat)} {x:List (List C)} {r:List (Nat×V)} {cs:List V}:gi flds ((i,.ow E x)::r) cs=o6 flds[i]? [.c (.sl x)] flds r cs:=by
 unfold o6;simp only[gi,V.ps];cases flds[i]?<;>rfl
theorem Jq {flds:List (Nat×Nat×Bool)} {i:Nat} {ds:List C} {r:List (Nat×V)} {cs:List V}:gi flds ((i,.agg ds)::r) cs=o6 flds[i]? (ds.map .c) flds r cs:=by
 unfold o6;simp only[gi,V.ps];cases flds[i]?<;>rfl
theorem MW {flds:List (Nat×Nat×Bool)} {i b o l c z:Nat} {r:List (Nat×V)} {cs:List V}:gi flds ((i,.ms b o l c z)::r) cs=o6 flds[i]? [.ms b o l c z] flds r cs:=by
 unfold o6;simp only[gi,V.ps];cases flds[i]?<;>rfl
theorem CW {off sz:Nat} {ag:Bool} {ds:List V} {flds:List (Nat×Nat×Bool)} {r:List (Nat×V)} {cs:List V}:o6 (some (off,sz,ag)) ds flds r cs=if ds.length=sz∧off+sz≤cs.length then gi flds r (uW cs off ds) else none:=rfl
theorem Jr {cs ds:List V}:uW cs 0 ds=ds++cs.drop ds.length:=by simp[uW]
theorem Js {c:V} {cs ds:List V} {n:Nat}:uW (c::cs) (n+1) ds=c::uW cs n ds:=by simp[uW,Nat.succ_add]
theorem MX {T e:TypeId} {i j:TI} {z:List C} {sz by_:Nat} {E:Option (TypeId×Nat)} {es ys:List (List C)} (hT:ti P T=some i) (hk:i.kd=.slice e) (hE:ti P e=some j) (hz:j.zero=some z) (hs:j.size=sz) (hb:j.bytes=by_) (hp:0<sz) (hl:z.length=sz) :
 dX P T (.ow E es) (.c (.sl ys)) KV=(((E=none∨E=some (e,sz))∧∀ x∈es,x.length=sz)∧((es.length+ys.length)*by_≤140737488355328∧es.length+ys.length≤9223372036854775807∧∀ x∈ys,x.length=sz)∧KV (.ow (if ys.isEmpty then E else some (e,sz)) (es++ys))):=by
 obtain⟨kd,a,b,c,d,f,g⟩:=i;subst hk
 obtain⟨kd',a',b',c',d',f',g'⟩:=j;simp only at hz hs hb;subst hz;subst hs;subst hb
 simp only[dX,hT,hE,hp,hl,fm]
end
theorem fj {n:Int} {k:Nat} (h:n=(k:Nat)) (hk:k≤9223372036854775807):IntKind.i64.wrap n=(k:Nat):=by
 subst h;exact wrap_i64 _ (by omega)
section
variable {P:Program} {T e:TypeId} {i j:TI} {K:V→Prop} {blk off len cap k n' sz:Nat} {E:Option (TypeId×Nat)} {es:List (List C)} {s:S}
theorem lR {a:Option Addr} (hT:ti P T=some i) (hk:i.kd=.slice e) (hK:K (.c (.lit (.int .i64 len)))):fB P T (.c (.ex (.slice a len cap))) K:=by
 obtain⟨kd,a1,a2,a3,a4,a5,a6⟩:=i;simp only at hk;subst hk
 simp only[fB,hT];exact hK
theorem wn {kd:IntKind} {n:Int} (hT:ti P T=some i) (hk:i.kd=.slice e) (hE:ti P e=some j) (hs:j.size=sz) (hz:sz≠0) (hn:n=(k:Nat)) (hl:k<len) (hK:K (.c (.ex (.pointer (some ⟨blk,off+k*sz,none⟩))))) :
 cw P T (.c (.ex (.slice (some ⟨blk,off,none⟩) len cap))) (.c (.lit (.int kd n))) K:=by
 obtain⟨kd',a1,a2,a3,a4,a5,a6⟩:=i;simp only at hk;subst hk
 subst hn;subst hs
 simp only[cw,hT,hE,iK]
 exact⟨⟨aM k,by omega,hz⟩,hK⟩
theorem V8 {f:Nat} {ag:Bool} (hT:ti P T=some i) (hf:i.flds[f]?=some (off,sz,ag)) (hz:sz≠0) (hK:K (.c (.ex (.pointer (some ⟨blk,k+off,none⟩))))):aK P T (.c (.ex (.pointer (some ⟨blk,k,none⟩)))) f K:=by
 simp only[aK,hT,hf]
 exact⟨hz,hK⟩
