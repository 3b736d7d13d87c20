/- Values without memory: how the conditions are computed: each law fires at a state that is written out, so that what follows stays as it is until its turn comes. -/
import Derived.Test.YtegbpjodbjhjeaaGreatDoorVlFn
set_option linter.all false
namespace Go.Vl
open Go Go.RowKit
section
variable {P:Program} {G:Gl} {tr:List Nat} {fr:Nat→V} {bx:Nat→List V} {nb k0:Nat} {K:S→Prop} {KV:V→Prop} {Q:VE→S→Prop}
def PX (P:Program) (G:Gl) (tr:List Nat) (ops:Array Oper) (r:List Oper) (K:S→Prop) (s:S):Prop:=eJ P G tr ops r s K
def U2 (P:Program) (G:Gl) (tr:List Nat) (k0:Nat) (b:Code) (Q:VE→S→Prop) (e:VE) (s:S):Prop:=match e with | .normal=>gy P G tr k0 b Q s | e=>Q e s
def U3 (id:Nat) (Q:VE→S→Prop) (e:VE) (s:S):Prop:=match e with | .exit i=>if i=id then Q .normal s else Q (.exit i) s | e=>Q e s
def BO (P:Program) (G:Gl) (tr:List Nat) (k0:Nat) (v:V) (c:Operand) (x y:Code) (Q:VE→S→Prop) (s:S):Prop:=match v with
 | .c (.lit (.bool p))=>(p=true→gy P G tr k0 x Q (refine s c true))∧(p=false→gy P G tr k0 y Q (refine s c false))
 |_=>False
def vgd (P:Program) (G:Gl) (tr:List Nat) (ops:Array Oper) (o:Oper) (r:List Oper) (K:S→Prop) (d:Option Tmp) (v:V) (want:Bool) (s:S):Prop:=match d with
 |some d=>match v with
  | .c (.lit (.bool p))=>(p=want→VStep P G tr o { s with fr:=up s.fr d (.c (.lit (.bool want))) } (PX P G tr ops r K))∧
   (p=(!want)→eJ P G tr ops r (({ s with fr:=up s.fr d (.c (.lit (.bool (!want)))) }:S).put o.dst .sk) K)
  | .sk=>eJ P G tr ops r (s.put o.dst .sk) K
  |_=>False
 |none=>False
def PY (s:S):Option Tmp→V
 |some d=>s.fr d
 |none=>.un
def fzK (P:Program) (G:Gl) (tr:List Nat) (k0:Nat) (id:Nat) (ops:Array Oper) (Q:VE→S→Prop) (s:S):Prop:=∃ s',S.Fz (k0) s' s∧vtw P G tr id ops s' (Q .normal)
def acQ (P:Program) (G:Gl) (tr:List Nat) (ops:Array Oper) (K:S→Prop) (s:S):Prop:=eJ P G tr ops ops.toList s K
theorem U4 {ops:Array Oper}:acQ P G tr ops K ⟨fr,bx,nb⟩=eJ P G tr ops ops.toList ⟨fr,bx,nb⟩ K:=rfl
theorem U5 {i:Nat}:Ms tr i=tr.contains (2300000+i):=rfl
theorem IQ {i:Nat} {ops:Array Oper} {s:S} (hi:Ms tr i=true) (h:GsK ops K s):spl tr i ops s K:=by
 unfold spl
 rw[if_pos hi]
 exact .inr (.inr (.inr h))
theorem IR {i:Nat} {ops:Array Oper} {d:Bool}:gy P G tr k0 (.region i ops d) Q ⟨fr,bx,nb⟩=if Mt tr i then vpa P G tr i ops (Q .normal) ⟨fr,bx,nb⟩ else if Pq tr i then fzK P G tr k0 i ops Q ⟨fr,bx,nb⟩ else if Ms tr i then spl tr i ops ⟨fr,bx,nb⟩ (acQ P G tr ops (Q .normal)) else eJ P G tr ops ops.toList ⟨fr,bx,nb⟩ (Q .normal):=by
 show(if Mt tr i then _ else if Pq tr i then _ else spl tr i ops ⟨fr,bx,nb⟩ _)=_
 congr 1
 congr 1
 unfold spl
 split<;>rfl
theorem U6 {i:Nat}:Mt tr i=tr.contains (2850000+i):=rfl
theorem U7 {i:Nat}:Pq tr i=tr.contains (2600000+i):=rfl
theorem U8 {a b:Code}:gy P G tr k0 (.seq a b) Q ⟨fr,bx,nb⟩=gy P G tr k0 a (U2 P G tr k0 b Q) ⟨fr,bx,nb⟩:=rfl
theorem MW:gy P G tr k0 .skip Q ⟨fr,bx,nb⟩=Q .normal ⟨fr,bx,nb⟩:=rfl
theorem U9:gy P G tr k0 .ret Q ⟨fr,bx,nb⟩=Q .ret ⟨fr,bx,nb⟩:=rfl
theorem PZ {i:Nat}:gy P G tr k0 (.exit i) Q ⟨fr,bx,nb⟩=Q (.exit i) ⟨fr,bx,nb⟩:=rfl
theorem MX {i:Nat} {a:Code}:gy P G tr k0 (.block i a) Q ⟨fr,bx,nb⟩=gy P G tr k0 a (U3 i Q) ⟨fr,bx,nb⟩:=rfl
theorem P0 {c:Operand} {x y:Code}:gy P G tr k0 (.cond c x y) Q ⟨fr,bx,nb⟩=BO P G tr k0 (ev G ⟨fr,bx,nb⟩ c) c x y Q ⟨fr,bx,nb⟩:=rfl
theorem Ba {c:Operand} {x y:Code}:BO P G tr k0 (.c (.lit (.bool true))) c x y Q ⟨fr,bx,nb⟩=gy P G tr k0 x Q (refine ⟨fr,bx,nb⟩ c true):=by simp[BO]
theorem zH {c:Operand} {x y:Code}:BO P G tr k0 (.c (.lit (.bool false))) c x y Q ⟨fr,bx,nb⟩=gy P G tr k0 y Q (refine ⟨fr,bx,nb⟩ c false):=by simp[BO]
theorem aV {c:Operand} {x y:Code} {p:Bool} {s:S} (h1:p=true→gy P G tr k0 x Q (refine s c true)) (h2:p=false→gy P G tr k0 y Q (refine s c false)) :
 BO P G tr k0 (.c (.lit (.bool p))) c x y Q s:=⟨h1,h2⟩
theorem Ga {b:Code} {s:S}:U2 P G tr k0 b Q .normal s=gy P G tr k0 b Q s:=rfl
theorem P1 {b:Code} {s:S}:U2 P G tr k0 b Q .ret s=Q .ret s:=rfl
theorem MY {b:Code} {s:S} {i:Nat}:U2 P G tr k0 b Q (.exit i) s=Q (.exit i) s:=rfl
theorem Gb {id:Nat} {s:S}:U3 id Q .normal s=Q .normal s:=rfl
theorem P2 {id:Nat} {s:S}:U3 id Q .ret s=Q .ret s:=rfl
theorem MZ {id i:Nat} {s:S}:U3 id Q (.exit i) s=if i=id then Q .normal s else Q (.exit i) s:=rfl
theorem IS {t:Tmp} {p:Bool}:refine ⟨fr,bx,nb⟩ (.tmp t) p=⟨up fr t (.c (.lit (.bool p))),bx,nb⟩:=rfl
theorem Va {ops:Array Oper}:eJ P G tr ops [] ⟨fr,bx,nb⟩ K=K ⟨fr,bx,nb⟩:=rfl
theorem Ze {ops:Array Oper} {d:Option Tmp} {op:Op} {ty:TypeId} {pos:String} {af:Array Edge} {r:List Oper} :
 eJ P G tr ops (⟨d,op,ty,pos,af,none⟩::r) ⟨fr,bx,nb⟩ K=VStep P G tr ⟨d,op,ty,pos,af,none⟩ ⟨fr,bx,nb⟩ (PX P G tr ops r K):=rfl
theorem Vb {ops:Array Oper} {d:Option Tmp} {op:Op} {ty:TypeId} {pos:String} {af:Array Edge} {j:Nat} {w:Bool} {r:List Oper} :
 eJ P G tr ops (⟨d,op,ty,pos,af,some (j,w)⟩::r) ⟨fr,bx,nb⟩ K=
  vgd P G tr ops ⟨d,op,ty,pos,af,some (j,w)⟩ r K ((ops[j]?).bind (·.dst)) (PY ⟨fr,bx,nb⟩ ((ops[j]?).bind (·.dst))) w ⟨fr,bx,nb⟩:=by
 simp only[eJ,mU,vgd]
 cases hd:(ops[j]?).bind (·.dst) with
 |none=>rfl
 |some d=>rfl
theorem Vd {ops:Array Oper} {o:Oper} {r:List Oper} {d:Tmp} {w:Bool}:vgd P G tr ops o r K (some d) (.c (.lit (.bool w))) w ⟨fr,bx,nb⟩=VStep P G tr o ⟨up fr d (.c (.lit (.bool w))),bx,nb⟩ (PX P G tr ops r K):=by
 simp[vgd]
theorem Zf {ops:Array Oper} {o:Oper} {r:List Oper} {d:Tmp}:vgd P G tr ops o r K (some d) (.c (.lit (.bool true))) false ⟨fr,bx,nb⟩=eJ P G tr ops r ((⟨up fr d (.c (.lit (.bool true))),bx,nb⟩:S).put o.dst .sk) K:=by
 simp[vgd]
theorem Zg {ops:Array Oper} {o:Oper} {r:List Oper} {d:Tmp}:vgd P G tr ops o r K (some d) (.c (.lit (.bool false))) true ⟨fr,bx,nb⟩=eJ P G tr ops r ((⟨up fr d (.c (.lit (.bool false))),bx,nb⟩:S).put o.dst .sk) K:=by
 simp[vgd]
theorem Zh {ops:Array Oper} {o:Oper} {r:List Oper} {d:Tmp} {w:Bool}:vgd P G tr ops o r K (some d) .sk w ⟨fr,bx,nb⟩=eJ P G tr ops r ((⟨fr,bx,nb⟩:S).put o.dst .sk) K:=rfl
theorem jc {ops:Array Oper} {o:Oper} {r:List Oper} {d:Tmp} {w p:Bool} {s:S} (h1:p=w→VStep P G tr o { s with fr:=up s.fr d (.c (.lit (.bool w))) } (PX P G tr ops r K))
 (h2:p=(!w)→eJ P G tr ops r (({ s with fr:=up s.fr d (.c (.lit (.bool (!w)))) }:S).put o.dst .sk) K):vgd P G tr ops o r K (some d) (.c (.lit (.bool p))) w s:=⟨h1,h2⟩
theorem Gc {d:Tmp}:PY ⟨fr,bx,nb⟩ (some d)=fr d:=rfl
theorem Ve {ops:Array Oper} {r:List Oper}:PX P G tr ops r K ⟨fr,bx,nb⟩=eJ P G tr ops r ⟨fr,bx,nb⟩ K:=rfl
theorem P3 {d:Nat} {v:V}:(⟨fr,bx,nb⟩:S).put (some d) v=⟨up fr d v,bx,nb⟩:=rfl
theorem P4 {v:V}:(⟨fr,bx,nb⟩:S).put none v=⟨fr,bx,nb⟩:=rfl
section
variable {d:Nat} {dO:Option Tmp} {t:Tmp} {ty T:TypeId} {pos:String} {af:Array Edge} {g:Option (Nat×Bool)}
theorem Vf:VStep P G tr ⟨some d,.move (.tmp t),ty,pos,af,g⟩ ⟨fr,bx,nb⟩ K=if tr.contains d then K (((⟨fr,bx,nb⟩:S).use (some t)).put (some d) (fr t)) else K ⟨up fr d (fr t).fz,bx,nb⟩:=by
 simp only[VStep,VYK,Pj,ev]
 split
 ·rename_i h;simp only[S.after,bR,Pj,h,cJ]
 ·rename_i h;simp only[S.after,bR,Pj,h];rfl
theorem Bb {v:Value}:VStep P G tr ⟨some d,.move (.const v),ty,pos,af,g⟩ ⟨fr,bx,nb⟩ K=if tr.contains d then K ⟨up fr d (mg v),bx,nb⟩ else K ⟨up fr d (mg v).fz,bx,nb⟩:=rfl
theorem M3:VStep P G tr ⟨some d,.assign (.tmp t),ty,pos,af,g⟩ ⟨fr,bx,nb⟩ K=K (((⟨fr,bx,nb⟩:S).use (some t)).put (some d) (fr t)):=rfl
theorem yz {v:Value}:VStep P G tr ⟨some d,.assign (.const v),ty,pos,af,g⟩ ⟨fr,bx,nb⟩ K=K ⟨up fr d (mg v),bx,nb⟩:=rfl
def P5 (c a b:V) (K:V→Prop):Prop:=match c with
 | .c (.lit (.bool p))=>K (if p then a.fz else b.fz)
 |_=>False
def mI (dO:Option Tmp) (s:S) (K:S→Prop) (v:V):Prop:=K (s.put dO v)
theorem Vg {v:V}:mI (some d) ⟨fr,bx,nb⟩ K v=K ⟨up fr d v,bx,nb⟩:=rfl
theorem P6 {c a b:Operand}:VStep P G tr ⟨dO,.pick c a b,ty,pos,af,g⟩ ⟨fr,bx,nb⟩ K=P5 (ev G ⟨fr,bx,nb⟩ c) (ev G ⟨fr,bx,nb⟩ a) (ev G ⟨fr,bx,nb⟩ b) (mI dO ⟨fr,bx,nb⟩ K):=rfl
theorem IT {a b:V}:P5 (.c (.lit (.bool true))) a b KV=KV a.fz:=rfl
theorem Gd {a b:V}:P5 (.c (.lit (.bool false))) a b KV=KV b.fz:=rfl
theorem Zi {op:BinOp} {x:Operand} {t:Tmp} {yT:TypeId}:VStep P G tr ⟨dO,.binOp op T x (.tmp t) yT,ty,pos,af,g⟩ ⟨fr,bx,nb⟩ K=mQ P op T (ev G ⟨fr,bx,nb⟩ x) (fr t) (mI dO ⟨fr,bx,nb⟩ K):=rfl
theorem P7 {op:BinOp} {x:Operand} {k:IntKind} {m:Int} {yT:TypeId}:VStep P G tr ⟨dO,.binOp op T x (.const (.int k m)) yT,ty,pos,af,g⟩ ⟨fr,bx,nb⟩ K=mQ P op T (ev G ⟨fr,bx,nb⟩ x) (.c (.lit (.int k m))) (mI dO ⟨fr,bx,nb⟩ K):=rfl
theorem P8 {op:BinOp} {x:Operand} {b:Bool} {yT:TypeId}:VStep P G tr ⟨dO,.binOp op T x (.const (.bool b)) yT,ty,pos,af,g⟩ ⟨fr,bx,nb⟩ K=mQ P op T (ev G ⟨fr,bx,nb⟩ x) (.c (.lit (.bool b))) (mI dO ⟨fr,bx,nb⟩ K):=rfl
theorem P9 {op:BinOp} {x:Operand} {b:ByteArray} {yT:TypeId}:VStep P G tr ⟨dO,.binOp op T x (.const (.string b)) yT,ty,pos,af,g⟩ ⟨fr,bx,nb⟩ K=mQ P op T (ev G ⟨fr,bx,nb⟩ x) (.c (.lit (.string b))) (mI dO ⟨fr,bx,nb⟩ K):=rfl
theorem IU {op:BinOp} {x:Operand} {yT:TypeId}:VStep P G tr ⟨dO,.binOp op T x (.const (.slice none 0 0)) yT,ty,pos,af,g⟩ ⟨fr,bx,nb⟩ K=UM P op T (ev G ⟨fr,bx,nb⟩ x) (mI dO ⟨fr,bx,nb⟩ K):=rfl
theorem acR {op:UnOp} {x:Operand}:VStep P G tr ⟨dO,.unOp op T x,ty,pos,af,g⟩ ⟨fr,bx,nb⟩ K=vun op (ev G ⟨fr,bx,nb⟩ x) (mI dO ⟨fr,bx,nb⟩ K):=rfl
def zK (dO:Option Tmp) (s:S) (K:S→Prop) (v:V):Prop:=K (s.put dO v)
theorem Qa:isZ tr (some d)=tr.contains (2500000+d):=rfl
theorem Vh {x:Operand}:VStep P G tr ⟨dO,.load T x,ty,pos,af,g⟩ ⟨fr,bx,nb⟩ K=
 if isZ tr dO then CV P T ⟨fr,bx,nb⟩ (ev G ⟨fr,bx,nb⟩ x) (zK dO ⟨fr,bx,nb⟩ K) else pH tr dO (ev G ⟨fr,bx,nb⟩ x)=true∧dy P T ⟨fr,bx,nb⟩ (ev G ⟨fr,bx,nb⟩ x) (mI dO ⟨fr,bx,nb⟩ K):=rfl
theorem Qb {t b k:Nat}:pH tr (some t) (.bp b k)=(!tr.contains (200000+t)||(decide (b<100)&&tr.contains (300000+t*100+b))):=rfl
theorem Vi {t:Nat} {cs:List C} {k:Nat}:pH tr (some t) (.c (.rp cs k))=true:=rfl
theorem Qc {t:Nat} {v:Value}:pH tr (some t) (.c (.ex v))=!tr.contains (200000+t):=rfl
theorem Zj {t:Tmp}:Iq (.tmp t)=some t:=rfl
theorem DG {x:Operand} {f:Nat}:VStep P G tr ⟨dO,.fieldAddr T x f,ty,pos,af,g⟩ ⟨fr,bx,nb⟩ K=bj P T (ev G ⟨fr,bx,nb⟩ x) f (mI dO ⟨fr,bx,nb⟩ K):=rfl
theorem Qd {x:Operand} {f:Nat}:VStep P G tr ⟨dO,.field T x f,ty,pos,af,g⟩ ⟨fr,bx,nb⟩ K=qH P T (ev G ⟨fr,bx,nb⟩ x) f (mI dO ⟨fr,bx,nb⟩ K):=rfl
theorem DI {x i:Operand}:VStep P G tr ⟨dO,.indexAddr T x i,ty,pos,af,g⟩ ⟨fr,bx,nb⟩ K=cC P T (ev G ⟨fr,bx,nb⟩ x).fz (ev G ⟨fr,bx,nb⟩ i) (mI dO ⟨fr,bx,nb⟩ K):=rfl
theorem Qe {x i:Operand}:VStep P G tr ⟨dO,.index T x i,ty,pos,af,g⟩ ⟨fr,bx,nb⟩ K=mR P T (ev G ⟨fr,bx,nb⟩ x) (ev G ⟨fr,bx,nb⟩ i) (mI dO ⟨fr,bx,nb⟩ K):=rfl
theorem Qf {x:Operand} {lo hi mx:Option Operand}:VStep P G tr ⟨dO,.slice T x lo hi mx,ty,pos,af,g⟩ ⟨fr,bx,nb⟩ K=
 gG P T (ev G ⟨fr,bx,nb⟩ x).fz (lo.map (ev G ⟨fr,bx,nb⟩)) (hi.map (ev G ⟨fr,bx,nb⟩)) (mx.map (ev G ⟨fr,bx,nb⟩)) (mI dO ⟨fr,bx,nb⟩ K):=rfl
theorem IV {x:Operand} {U:TypeId}:VStep P G tr ⟨dO,.convert T U x,ty,pos,af,g⟩ ⟨fr,bx,nb⟩ K=
 if nh tr dO then CS P ⟨fr,bx,nb⟩ dO T U K (ev G ⟨fr,bx,nb⟩ x) else nU P T U (vw ⟨fr,bx,nb⟩ (ev G ⟨fr,bx,nb⟩ x)).fz (mI dO ⟨fr,bx,nb⟩ K):=rfl
def KL (x:V) (K:V→Prop):Prop:=match x with
 | .bp i o=>K (.bp i o)
 | .c (.rp cs k)=>K (.c (.rp cs k))
 |_=>False
theorem Ge {x:Operand}:VStep P G tr ⟨dO,.nilCheck x,ty,pos,af,g⟩ ⟨fr,bx,nb⟩ K=KL (ev G ⟨fr,bx,nb⟩ x) (mI dO ⟨fr,bx,nb⟩ K):=rfl
theorem M4 {i o:Nat}:KL (.bp i o) KV=KV (.bp i o):=rfl
theorem Qg {parts:Array (Nat×Operand)}:VStep P G tr ⟨dO,.build T parts,ty,pos,af,g⟩ ⟨fr,bx,nb⟩ K=
 if isZ tr dO then yM P T (parts.toList.map fun p=>(p.1,ev G ⟨fr,bx,nb⟩ p.2)) (zK dO ⟨fr,bx,nb⟩ K) else gI P T (parts.toList.map fun p=>(p.1,ev G ⟨fr,bx,nb⟩ p.2)) (mI dO ⟨fr,bx,nb⟩ K):=rfl
theorem Bc {len:Nat} {parts:Array (Nat×Operand)}:VStep P G tr ⟨dO,.buildSlice T len parts,ty,pos,af,g⟩ ⟨fr,bx,nb⟩ K=
 if nh tr dO then cy P T len (parts.toList.map fun p=>(p.1,ev G ⟨fr,bx,nb⟩ p.2)) (Pk ⟨fr,bx,nb⟩ dO len len K)
 else if Pn tr dO then(CU P T len (parts.toList.map fun p=>(p.1,ev G ⟨fr,bx,nb⟩ p.2)) ⟨fr,bx,nb⟩ dO K∨cy P T len (parts.toList.map fun p=>(p.1,ev G ⟨fr,bx,nb⟩ p.2)) (exK (mI dO ⟨fr,bx,nb⟩ K)))
 else cy P T len (parts.toList.map fun p=>(p.1,ev G ⟨fr,bx,nb⟩ p.2)) (mI dO ⟨fr,bx,nb⟩ K):=rfl
theorem Vj {e:TypeId} {sz n m:Nat} {es:List (List C)}:Pk ⟨fr,bx,nb⟩ dO n m K (.ow (some (e,sz)) es)=K ((⟨fr,up bx nb (es.flatten.map .c),nb+1⟩:S).put dO (.ms nb 0 n m sz)):=rfl
theorem M5:nh [] dO=false:=by cases dO<;>rfl
theorem M6:u6 [] dO=false:=rfl
theorem Qh:Mp [] dO=false:=rfl
theorem M7:Pn tr (some d)=tr.contains (1400000+d):=rfl
theorem M8:Im tr (some d)=tr.contains (1100000+d):=rfl
theorem acS {s:S} {t:Tmp}:evX G s (.tmp t)=s.fr t:=rfl
theorem Vk {s:S}:evX G s (.const (.slice none 0 0))=.c (.ex (.slice none 0 0)):=rfl
theorem M9:Pi tr (some d)=tr.contains (1500000+d):=rfl
theorem IW:nh tr (some d)=tr.contains (2000000+d):=rfl
theorem IX:nh tr none=false:=rfl
theorem IY:u6 tr (some d)=tr.contains (1000000+d):=rfl
theorem IZ:u6 tr none=tr.contains 999999:=rfl
theorem Na {d:Tmp}:Mp tr (some d)=tr.contains (1900000+d):=rfl
theorem Nb:Mp tr none=tr.contains 1999999:=rfl
theorem Nc:AX tr (some d)=tr.contains (400000+d):=rfl
theorem Nf:AX tr none=tr.contains 399999:=rfl
theorem Zk {s:S} {v:V}:lcK tr dO s K ⟨fr,bx,nb⟩ v=(Za tr dO s ⟨fr,bx,nb⟩∧K ((⟨fr,bx,nb⟩:S).put dO v)):=rfl
def mkK (dO:Option Tmp) (s:S) (K:S→Prop) (n m sz:Nat) (z:List C):Prop:=K ({ s with bx:=up s.bx s.nb ((List.replicate m z).flatten.map .c),nb:=s.nb+1 }.put dO (.ms s.nb 0 n m sz))
theorem DJ {l c:Operand}:VStep P G tr ⟨dO,.makeSlice T l c,ty,pos,af,g⟩ ⟨fr,bx,nb⟩ K=qi P T (ev G ⟨fr,bx,nb⟩ l) (ev G ⟨fr,bx,nb⟩ c) (mkK dO ⟨fr,bx,nb⟩ K):=rfl
theorem Zl {n m sz:Nat} {z:List C}:mkK dO ⟨fr,bx,nb⟩ K n m sz z=K ((⟨fr,up bx nb ((List.replicate m z).flatten.map .c),nb+1⟩:S).put dO (.ms nb 0 n m sz)):=rfl
def Vm (x:V) (i:Nat) (K:V→Prop):Prop:=match x with
 | .tup ds=>match ds[i]? with
  |some d=>K d
  |none=>False
 |_=>False
theorem I4 {x:Operand} {i:Nat}:VStep P G tr ⟨dO,.extract x i,ty,pos,af,g⟩ ⟨fr,bx,nb⟩ K=Vm (ev G ⟨fr,bx,nb⟩ x) i (mI dO ⟨fr,bx,nb⟩ K):=rfl
theorem Ng {v:V} {ds:List V}:Vm (.tup (v::ds)) 0 KV=KV v:=rfl
theorem Qi {v u:V} {ds:List V}:Vm (.tup (v::u::ds)) 1 KV=KV u:=rfl
theorem Qj {v u x:V} {ds:List V}:Vm (.tup (v::u::x::ds)) 2 KV=KV x:=rfl
theorem Gf {f:Fn} {a b:Array Operand}:VStep P G tr ⟨dO,.makeFunc f a b,ty,pos,af,g⟩ ⟨fr,bx,nb⟩ K=
 ((((a.toList.map (ev G ⟨fr,bx,nb⟩)).all V.isPR=true∧(b.toList.map (ev G ⟨fr,bx,nb⟩)).all V.isPR=true))∧mI dO ⟨fr,bx,nb⟩ K (.clo f (a.toList.map (ev G ⟨fr,bx,nb⟩)) (b.toList.map (ev G ⟨fr,bx,nb⟩)))):=rfl
theorem Vn {v:V}:Fb dO K ⟨fr,bx,nb⟩ v=K ((⟨fr,bx,nb⟩:S).put dO v):=rfl
theorem Vo {f:Operand} {args:Array Operand} {ts:Array TypeId}:VStep P G tr ⟨dO,.call ⟨.value f,args,ts⟩,ty,pos,af,g⟩ ⟨fr,bx,nb⟩ K=
 if Im tr dO then wI P G ⟨fr,bx,nb⟩ (ev G ⟨fr,bx,nb⟩ f) (args.toList.map (ev G ⟨fr,bx,nb⟩)) (Fb dO K) else
 if Pi tr dO then nJ P G ⟨fr,bx,nb⟩ (ev G ⟨fr,bx,nb⟩ f) (args.toList.map (evX G ⟨fr,bx,nb⟩)) (Fb dO K) else
 if u6 tr dO then vcallB P G ⟨fr,bx,nb⟩ (ev G ⟨fr,bx,nb⟩ f) (args.toList.map (ev G ⟨fr,bx,nb⟩)) (if AX tr dO then lcK tr dO ⟨fr,bx,nb⟩ K else Fb dO K)
 else if Mp tr dO then lK P G ⟨fr,bx,nb⟩ (ev G ⟨fr,bx,nb⟩ f) (args.toList.map (ev G ⟨fr,bx,nb⟩)) (mI dO ⟨fr,bx,nb⟩ K)
 else qh P G ⟨fr,bx,nb⟩ (ev G ⟨fr,bx,nb⟩ f) (args.toList.map (ev G ⟨fr,bx,nb⟩)) (mI dO ⟨fr,bx,nb⟩ K):=rfl
theorem Zm {args:Array Operand} {ts:Array TypeId}:VStep P G tr ⟨dO,.call ⟨.builtin .len,args,ts⟩,ty,pos,af,g⟩ ⟨fr,bx,nb⟩ K=
 if Po tr dO then E9 P ⟨fr,bx,nb⟩ (mI dO ⟨fr,bx,nb⟩ K) ts.toList (args.toList.map (ev G ⟨fr,bx,nb⟩)) else eE P .len ts.toList (args.toList.map (ev G ⟨fr,bx,nb⟩)) (mI dO ⟨fr,bx,nb⟩ K):=rfl
theorem Nh:Po tr (some d)=tr.contains (1600000+d):=rfl
def Vp (t:Option Tmp) (dO:Option Tmp) (s:S) (K:S→Prop) (v:V):Prop:=K ((s.use t).put dO v)
def Ni:List Operand→Option Tmp
 | .tmp t::_=>some t
 |_=>none
theorem Nj {args:Array Operand} {T U:TypeId}:VStep P G tr ⟨dO,.call ⟨.builtin .append,args,#[T,U]⟩,ty,pos,af,g⟩ ⟨fr,bx,nb⟩ K=
 if nh tr dO then u7 P ⟨fr,bx,nb⟩ dO K [T,U] (args.toList.map fun x=>vw ⟨fr,bx,nb⟩ (ev G ⟨fr,bx,nb⟩ x))
 else if y6 tr dO then eI P ⟨fr,bx,nb⟩ (Fb dO K) [T,U] (args.toList.map (ev G ⟨fr,bx,nb⟩))
 else if y4 tr dO then(if wJ tr dO then u5 P G ⟨fr,bx,nb⟩ dO [T,U] args.toList (Vp (Ni args.toList) dO ⟨fr,bx,nb⟩ K) else jC P G ⟨fr,bx,nb⟩ dO [T,U] args.toList (Vp (Ni args.toList) dO ⟨fr,bx,nb⟩ K))
 else eE P .append [T,U] (args.toList.map fun x=>vw ⟨fr,bx,nb⟩ (ev G ⟨fr,bx,nb⟩ x)) (Vp (Ni args.toList) dO ⟨fr,bx,nb⟩ K):=rfl
theorem wY:y4 tr (some d)=tr.contains (2400000+d):=rfl
theorem Nk:wJ tr (some d)=tr.contains (2450000+d):=rfl
theorem Gg:y6 tr (some d)=tr.contains (2700000+d):=rfl
theorem Qk {args:Array Operand} {T:TypeId}:VStep P G tr ⟨dO,.call ⟨.builtin .clear,args,#[T]⟩,ty,pos,af,g⟩ ⟨fr,bx,nb⟩ K=iy P ⟨fr,bx,nb⟩ (fun s'=>K (s'.put dO .un)) [T] (args.toList.map (ev G ⟨fr,bx,nb⟩)):=rfl
theorem I5 {T:TypeId} {es:List (List C)} {y:V}:u7 P ⟨fr,bx,nb⟩ dO K [T,T] [.ow none es,y]=dX P T (.ow none es) y.fz (UL ⟨fr,bx,nb⟩ dO K):=by simp[u7]
theorem Vq {e:TypeId} {sz:Nat} {es:List (List C)}:UL ⟨fr,bx,nb⟩ dO K (.ow (some (e,sz)) es)=K ((⟨fr,up bx nb (es.flatten.map .c),nb+1⟩:S).put dO (.ms nb 0 es.length es.length sz)):=rfl
theorem Ql {v:V}:Vp (some t) (some d) ⟨fr,bx,nb⟩ K v=K (((⟨fr,bx,nb⟩:S).use (some t)).put (some d) v):=rfl
theorem Qm:VStep P G tr ⟨some d,.alloc T,ty,pos,af,g⟩ ⟨fr,bx,nb⟩ K=match ti P T with
 |some { zero:=some z,.. }=>K ⟨up fr d (.bp nb 0),up bx nb (z.map ng),nb+1⟩
 |_=>False:=rfl
def boxK (t:Option Tmp) (d:Nat) (v:V) (s:S) (K:S→Prop):Prop:=match v.bcells with
 |some cs=>K ((let s':=s.use t;{ s' with bx:=up s'.bx s'.nb cs,nb:=s'.nb+1 }:S).put (some d) (.bp s.nb 0))
 |none=>False
theorem Zn:VStep P G tr ⟨some d,.box T (.tmp t),ty,pos,af,g⟩ ⟨fr,bx,nb⟩ K=boxK (some t) d (fr t) ⟨fr,bx,nb⟩ K:=rfl
def og (i:Option TI) (t:Option Tmp) (dO:Option Tmp) (p v:V) (s:S) (K:S→Prop):Prop:=match i,p,v.bcells with
 |some i,.bp b k,some cs=>(b<s.nb∧cs.length=i.size∧k+i.size≤(s.bx b).length∧cX (s.bx b)=false)∧
   K ((let s':=s.use t;{ s' with bx:=up s'.bx b (eU (s'.bx b) k cs) }:S).put dO .sk)
 |some i,.c (.ex (.pointer (some ⟨blk,j,none⟩))),_=>(∃ (b k len cap:Nat) (E:Option (TypeId×Nat)) (es:List (List C)) (r:Nat) (e:List C) (c:C),(i.size=1∧b<s.nb∧cX (s.bx b)=false∧(s.bx b)[k]?=some (V.hh (some (.slice (some ⟨blk,0,none⟩) len cap)) E (es++[e]))∧
   (es.flatten.length+r=j∧r<e.length)∧v.asC=some c)∧
   K ((let s':=s.use t;{ s' with bx:=up s'.bx b ((s'.bx b).set k (.hh (some (.slice (some ⟨blk,0,none⟩) len cap)) E (es++[e.set r c]))) }:S).put dO .sk))∨
   Zb s.bx s.nb i blk j v (fun bx=>K ((let s':=s.use t;{ s' with bx:=bx }:S).put dO .sk))
 |_,_,_=>False
theorem Qn {p:Operand}:VStep P G tr ⟨dO,.store T p (.tmp t),ty,pos,af,g⟩ ⟨fr,bx,nb⟩ K=(pH tr (Iq p) (ev G ⟨fr,bx,nb⟩ p)=true∧og (ti P T) (some t) dO (ev G ⟨fr,bx,nb⟩ p) (fr t) ⟨fr,bx,nb⟩ K):=rfl
theorem zI {p:Operand} {v:Value}:VStep P G tr ⟨dO,.store T p (.const v),ty,pos,af,g⟩ ⟨fr,bx,nb⟩ K=(pH tr (Iq p) (ev G ⟨fr,bx,nb⟩ p)=true∧og (ti P T) none dO (ev G ⟨fr,bx,nb⟩ p) (mg v) ⟨fr,bx,nb⟩ K):=rfl
theorem mn:(⟨fr,bx,nb⟩:S).use (some t)=if(fr t).isOw=true then⟨up fr t .un,bx,nb⟩ else⟨fr,bx,nb⟩:=rfl
theorem Gh:(⟨fr,bx,nb⟩:S).use none=⟨fr,bx,nb⟩:=rfl
theorem Zo:ev G ⟨fr,bx,nb⟩ (.tmp t)=fr t:=rfl
theorem Qo {v:Value}:ev G ⟨fr,bx,nb⟩ (.const v)=mg v:=rfl
theorem Vr {f:FuncId}:ev G ⟨fr,bx,nb⟩ (.func f)=.c (.fn (.func f) [] []):=rfl
theorem I6 {k:IntKind} {n:Int}:mg (.int k n)=.c (.lit (.int k n)):=rfl
theorem Gi {b:Bool}:mg (.bool b)=.c (.lit (.bool b)):=rfl
theorem Bd {b:ByteArray}:mg (.string b)=.c (.lit (.string b)):=rfl
theorem I7 {l:List Value}:mg (.agg l.toArray)=if l.all sV then .agg (l.map constC) else .un:=rfl
theorem Gj {k:IntKind} {n:Int}:sV (.int k n)=true:=rfl
theorem Gk:sV (.slice none 0 0)=true:=rfl
theorem I8 {k:IntKind} {n:Int}:constC (.int k n)=.lit (.int k n):=rfl
theorem I9:constC (.slice none 0 0)=.sl []:=rfl
theorem Ja:mg (.slice none 0 0)=.ow none []:=rfl
theorem afF {s:S} {x:C}:vw s (.c x)=.c x:=rfl
theorem Zp {s:S} {E:Option (TypeId×Nat)} {es:List (List C)}:vw s (.ow E es)=.ow E es:=rfl
section
variable {k:IntKind} {a b:Int} {op:BinOp} {T:TypeId} {t:Tmp}
theorem Qp:mQ P op T (.c (.lit (.int k a))) (.c (.lit (.int k b))) KV=qG op k a b KV:=by
 simp only[mQ]
 split<;>rfl
theorem Qq {a b:ByteArray}:mQ P op T (.c (.lit (.string a))) (.c (.lit (.string b))) KV=y2 op a b KV:=rfl
def Zq (i:Option TI) (op:BinOp) (a b:Bool) (K:V→Prop):Prop:=match i with
 |some { kd:=.bool,.. }=>match op with
  | .eql=>K (.c (.lit (.bool (a==b))))
  | .neq=>K (.c (.lit (.bool (!(a==b)))))
  |_=>False
 |_=>False
theorem Nl {a b:Bool}:mQ P op T (.c (.lit (.bool a))) (.c (.lit (.bool b))) KV=Zq (ti P T) op a b KV:=rfl
def Gm (i:Option TI) (op:BinOp) (xs ys:List C) (K:V→Prop):Prop:=match i with
 |some { eqs:=some ks,agg:=true,.. }=>match jA ks xs ys with
  |some r=>(xs.length=ks.length∧ys.length=ks.length)∧match op with
   | .eql=>K (.c (.lit (.bool r)))
   | .neq=>K (.c (.lit (.bool (!r))))
   |_=>False
  |none=>False
 |_=>False
theorem Gn {xs ys:List C}:mQ P op T (.agg xs) (.agg ys) KV=Gm (ti P T) op xs ys KV:=rfl
theorem Qr:qG .add k a b KV=KV (.c (.lit (.int k (k.wrap (a+b))))):=rfl
theorem Qs:qG .sub k a b KV=KV (.c (.lit (.int k (k.wrap (a - b))))):=rfl
theorem Qt:qG .eql k a b KV=KV (.c (.lit (.bool (decide (a=b))))):=rfl
theorem Qv:qG .neq k a b KV=KV (.c (.lit (.bool (!decide (a=b))))):=rfl
theorem Qw:qG .lss k a b KV=KV (.c (.lit (.bool (decide (a<b))))):=rfl
theorem Qx:qG .leq k a b KV=KV (.c (.lit (.bool (decide (a≤b))))):=rfl
theorem Qy:qG .gtr k a b KV=KV (.c (.lit (.bool (decide (b<a))))):=rfl
theorem Qz:qG .geq k a b KV=KV (.c (.lit (.bool (decide (b≤a))))):=rfl
theorem acT {x:C}:(V.c x).ldv=.c x:=rfl
theorem Vs {cs:List C}:(V.agg cs).ldv=.agg cs:=rfl
theorem QA {es:List (List C)}:(V.ow none es).ldv=.ow none es:=rfl
theorem QB {E:TypeId×Nat} {es:List (List C)}:(V.ow (some E) es).ldv=.c (.sl es):=rfl
theorem Zr {i o:Nat}:(V.bp i o).ldv=.bp i o:=rfl
theorem Vt {f:Fn} {x y:List V}:(V.clo f x y).ldv=.clo f x y:=rfl
theorem Zs {i o l c z:Nat}:(V.ms i o l c z).ldv=.ms i o l c z:=rfl
theorem Zt {i:Nat}:(V.mr i).ldv=.mr i:=rfl
theorem afG {x:C}:(V.c x).fz=.c x:=rfl
theorem acU {E:Option (TypeId×Nat)} {es:List (List C)}:(V.ow E es).fz=.c (.sl es):=rfl
theorem acV {i o:Nat}:(V.bp i o).fz=.bp i o:=rfl
theorem Zu {f:Fn} {x y:List V}:(V.clo f x y).fz=.clo f x y:=rfl
theorem acW {i o l c z:Nat}:(V.ms i o l c z).fz=.ms i o l c z:=rfl
theorem Vu {i o l c z:Nat}:(V.ms i o l c z).isOw=false:=rfl
theorem Zv {x:List V}:(V.tup x).fz=.tup x:=rfl
theorem Zw {x:C}:(V.c x).isOw=false:=rfl
theorem QC {cs:List C}:(V.agg cs).isOw=false:=rfl
theorem Vv {E:Option (TypeId×Nat)} {es:List (List C)}:(V.ow E es).isOw=true:=rfl
theorem Vw {i o:Nat}:(V.bp i o).isOw=false:=rfl
theorem QD {f:Fn} {x y:List V}:(V.clo f x y).isOw=false:=rfl
def frm:Nat→List V→Nat→V
 |_,[]=>fun _=>.un
 |i,v::r=>up (frm (i+1) r) i v
theorem Vx {i:Nat}:frm i []=fun _=>.un:=rfl
theorem QE {i:Nat} {v:V} {r:List V}:frm i (v::r)=up (frm (i+1) r) i v:=rfl
theorem KN:∀ (l:List V) (i j:Nat),frm i l j=if i≤j then l.getD (j - i) .un else .un
 |[],i,j=>by simp[frm]
 |v::r,i,j=>by
  simp only[frm,ar,KN r (i+1) j]
  by_cases h:j=i
  ·subst h;simp
  ·rw[if_neg h]
   by_cases h1:i≤j
   ·rw[if_pos h1,if_pos (by omega)]
    have:j - i=(j - (i+1))+1:=by omega
    rw[this];rfl
   ·rw[if_neg h1,if_neg (by omega)]
theorem Gp (args:List V):xT args=⟨frm 0 args,fun _=>[],0⟩:=by
 unfold xT
 congr 1
 funext j
 rw[KN]
 simp
def QF (P:Program) (z:Bool) (r:V) (rs:List ResultVar) (e:VE) (s:S):Prop:=(match e with | .exit _=>False | _=>True)∧pX P z s r rs
theorem QG {z:Bool} {r:V} {rs:List ResultVar} {s:S}:QF P z r rs .ret s=pX P z s r rs:=by simp[QF]
theorem Gq {z:Bool} {r:V} {rs:List ResultVar} {s:S}:QF P z r rs .normal s=pX P z s r rs:=by simp[QF]
theorem fW {r:V} {t:Tmp}:pX P false ⟨fr,bx,nb⟩ r [.tmp t]=(fr t=r):=rfl
theorem KO {r:V} {t:Tmp}:pX P true ⟨fr,bx,nb⟩ r [.tmp t]=(imm ⟨fr,bx,nb⟩ (fr t)=some r):=by simp[pX,IM]
theorem eV {r:V} {t:Tmp} {T:TypeId}:pX P false ⟨fr,bx,nb⟩ r [.cell t T]=dy P T ⟨fr,bx,nb⟩ (fr t) (fun u=>u=r):=rfl
theorem sd {d e:V} {t u:Tmp} (h1:(fr t).fz=d) (h2:(fr u).fz=e):pX P false ⟨fr,bx,nb⟩ (.tup [d,e]) [.tmp t,.tmp u]:=by
 refine⟨_,rfl,rfl,fun i R x hR hx=>?_⟩
 match i with
 |0=>simp only[bG,am] at hR hx;subst hR;subst hx;exact h1
 |1=>simp only[cH,bG,am] at hR hx;subst hR;subst hx;exact h2
 |n+2=>simp at hR
theorem bP {f:FuncId} {fn:Func} {c:Code} {args:List V} {r:V} (z:Bool) (tr:List Nat) (hm:P.follows .mixedOrders=true) (hf:P.funcs[f]?=some fn) (hb:fn.body=some c) (gx:(fn.name== "runtime.NumGoroutine")=false)
 {rs:List ResultVar} (wG:fn.results.toList=rs) {n:Nat} (hn:fn.ntmps=n) (pt:cok n tr c=true) (ce:args.length≤n)
 (hr:r.out=true) (iH:r.compT=true)
 (h:gy P G tr (nL tr) c (QF P z r rs) ⟨frm 0 args,fun _=>[],0⟩):FnOK P G f args r:=by
 subst hn
 subst wG
 refine U1 z tr hm hf hb gx ce pt hr iH ?_
 rw[Gp];exact h
end
end
end
section
variable {P:Program} {G:Gl} {tr:List Nat} {fr:Nat→V} {bx:Nat→List V} {nb k0:Nat} {K:S→Prop} {KV:V→Prop} {Q:VE→S→Prop}
def frs:List (Nat×V)→Nat→V
 |[]=>fun _=>.un
 |(i,v)::r=>up (frs r) i v
theorem Vy:frs []=fun _=>.un:=rfl
theorem QH {i:Nat} {v:V} {r:List (Nat×V)}:frs ((i,v)::r)=up (frs r) i v:=rfl
def FL:List (Nat×V)→(Nat→V)→Prop
 |[],_=>True
 |(i,v)::r,f=>f i=v∧FL r f
theorem FL.le:∀ {l:List (Nat×V)} {f:Nat→V},FL l f→acL (frs l) f
 |[],_,_=>fun _=>.inl rfl
 |(i,v)::r,f,h=>fun t=>by
  by_cases ht:t=i
  ·subst ht;right;simp only[frs,cn];exact h.1.symm
  ·simp only[frs,cZ _ _ ht];exact h.2.le t
def bxs (bl:List (List V)):Nat→List V:=fun i=>bl.getD i []
def BL:Nat→List (List V)→(Nat→List V)→Prop
 |_,[],_=>True
 |i,b::r,f=>f i=b∧BL (i+1) r f
theorem BL.get:∀ {bl:List (List V)} {k:Nat} {f:Nat→List V},BL k bl f→∀ i,i<bl.length→bl.getD i []=f (k+i)
 |[],_,_,_,i,hi=>by simp at hi
 |b::r,k,f,h,i,hi=>by
  cases i with
  |zero=>simp[h.1]
  |succ i=>
   have:=h.2.get i (by simpa using hi)
   simpa[db,lc,Nat.add_left_comm] using this
def V.ltPB (m:Nat):V→Bool
 | .bp i _=>decide (i<m)
 | .bm _ i _=>decide (i<m)
 | .ms i _ _ _ _=>decide (i<m)
 | .mr i=>decide (i<m)
 | .yl i=>decide (i<m)
 |_=>true
theorem V.ltPB_ok {m:Nat} {v:V} (h:v.ltPB m=true):v.ltP m:=by
 cases v<;>simp only[V.ltP]<;>simpa[V.ltPB] using h
def V.ltB (m:Nat):V→Bool
 | .bp i _=>decide (i<m)
 | .bm _ i _=>decide (i<m)
 | .ms i _ _ _ _=>decide (i<m)
 | .clo _ fs cs=>fs.all (V.ltPB m)&&cs.all (V.ltPB m)
 | .mag vs=>vs.all (V.ltPB m)
 | .mr i=>decide (i<m)
 | .it i _ _ _=>decide (i<m)
 | .yl i=>decide (i<m)
 | .lp _ fl=>fl.all fun p=>p.2.ltPB m
 |_=>true
theorem V.ltB_ok {m:Nat} {v:V} (h:v.ltB m=true):v.lt m:=by
 cases v<;>simp only[V.lt]<;>simp only[V.ltB] at h
 ·simpa using h
 ·simp only[aG,aW] at h
  exact⟨fun x hx=>V.ltPB_ok (h.1 x hx),fun x hx=>V.ltPB_ok (h.2 x hx)⟩
 ·simpa using h
 ·simp only[aW] at h
  exact fun x hx=>V.ltPB_ok (h x hx)
 ·simpa using h
 ·simpa using h
 ·simpa using h
 ·simp only[aW] at h
  exact fun p hp=>V.ltPB_ok (h p hp)
 ·simpa using h
def eW (l:List (Nat×V)) (bl:List (List V)):Bool:=l.all (fun p=>p.2.ltB bl.length)&&bl.all fun b=>b.all fun x=>x.ltB bl.length
theorem DK {m:Nat}:∀ {l:List (Nat×V)},(∀ p∈l,p.2.lt m)→∀ t,(frs l t).lt m
 |[],_,_=>trivial
 |(i,v)::r,h,t=>by
  by_cases ht:t=i
  ·subst ht;simp only[frs,cn];exact h _ (aT ..)
  ·simp only[frs,cZ _ _ ht];exact DK (fun p hp=>h p (aM _ hp)) t
def hdS (l:List (Nat×V)) (bl:List (List V)):S:=⟨frs l,bxs bl,bl.length⟩
theorem cj {l:List (Nat×V)} {bl:List (List V)} {k:Nat} (dI:eW l bl=true) (hk:k≤bl.length) (hn:bl.length≤nb) (h1:FL l fr) (h2:BL 0 bl bx):S.Le k (hdS l bl) ⟨fr,bx,nb⟩:=by
 simp only[eW,aG,aW] at dI
 refine⟨hk,h1.le,hn,fun i hi=>?_,fun t=>DK (fun p hp=>V.ltB_ok (dI.1 p hp)) t,fun i hi x hx=>?_⟩
 ·have:=h2.get i hi;simpa[hdS,bxs] using this
 ·simp only[hdS] at hi hx
  have:bxs bl i∈bl:=by
   simp only[bxs,List.getD,aj hi,bQ];exact aF hi
  exact V.ltB_ok (dI.2 _ this x hx)
def FZL (s:S) (m:Nat):List (Nat×V)→(Nat→V)→Prop
 |[],_=>True
 |(i,v)::r,f=>(f i=v∨FzV s m v (f i))∧FZL s m r f
def LZ (s:S) (m:Nat):List V→List V→Prop
 |[],[]=>True
 |x::xs,y::ys=>(x=y∨FzV s m x y)∧LZ s m xs ys
 |_,_=>False
def BZL (s:S) (m:Nat):Nat→List (List V)→(Nat→List V)→Prop
 |_,[],_=>True
 |i,b::r,f=>LZ s m b (f i)∧BZL s m (i+1) r f
theorem LZ.ok {s:S} {m:Nat}:∀ {xs ys:List V},LZ s m xs ys→xs.length=ys.length∧∀ j,xs.getD j .un=ys.getD j .un∨FzV s m (xs.getD j .un) (ys.getD j .un)
 |[],[],_=>⟨rfl,fun _=>.inl rfl⟩
 |x::xs,y::ys,h=>by
  obtain⟨h1,h2⟩:=LZ.ok h.2
  refine⟨by simp[h1],fun j=>?_⟩
  cases j with
  |zero=>simpa using h.1
  |succ j=>simpa using h2 j
 |[],_::_,h=>h.elim
 |_::_,[],h=>h.elim
theorem BZL.get {s:S} {m:Nat}:∀ {bl:List (List V)} {k:Nat} {f:Nat→List V},BZL s m k bl f→∀ i,i<bl.length→LZ s m (bl.getD i []) (f (k+i))
 |[],_,_,_,i,hi=>by simp at hi
 |b::r,k,f,h,i,hi=>by
  cases i with
  |zero=>simpa using h.1
  |succ i=>
   have:=h.2.get i (by simpa using hi)
   simpa[db,lc,Nat.add_left_comm] using this
theorem FZL.ok {s:S} {m:Nat}:∀ {l:List (Nat×V)} {f:Nat→V},FZL s m l f→∀ t,frs l t=.un∨frs l t=f t∨FzV s m (frs l t) (f t)
 |[],_,_,_=>.inl rfl
 |(i,v)::r,f,h,t=>by
  by_cases ht:t=i
  ·subst ht
   simp only[frs,cn]
   rcases h.1 with e | e
   ·exact .inr (.inl e.symm)
   ·exact .inr (.inr e)
  ·simp only[frs,cZ _ _ ht];exact h.2.ok t
theorem X7 {i:Nat} {ops:Array Oper} {l:List (Nat×V)} {bl:List (List V)} (dI:eW l bl=true) (hk:k0≤bl.length) (hn:bl.length≤nb) (h1:FZL ⟨fr,bx,nb⟩ bl.length l fr) (h2:BZL ⟨fr,bx,nb⟩ bl.length 0 bl bx)
 (h:eJ P G tr ops ops.toList (hdS l bl) (Q .normal)) (hw:Mq tr i=false:=by rfl):fzK P G tr k0 i ops Q ⟨fr,bx,nb⟩:=by
 simp only[eW,aG,aW] at dI
 refine⟨hdS l bl,⟨hk,h1.ok,hn,fun i hi=>?_,fun i hi=>?_,fun t=>DK (fun p hp=>V.ltB_ok (dI.1 p hp)) t,fun i hi x hx=>?_⟩,by unfold vtw;rw[if_neg (by rw[hw];decide)];exact h⟩
 ·have:=(h2.get i hi).ok.1;simpa[hdS,bxs] using this
 ·have:=(h2.get i hi).ok.2;simpa[hdS,bxs] using this
 ·simp only[hdS] at hi hx
  have:bxs bl i∈bl:=by
   simp only[bxs,List.getD,aj hi,bQ];exact aF hi
  exact V.ltB_ok (dI.2 _ this x hx)
theorem zJ {k:Nat} {α:Type} {hd:α→S} {m:α→Nat} {Inv:α→Prop} {body:(VE→S→Prop)→S→Prop}
 (hb:∀ x,Inv x→∀ R:VE→S→Prop,(∀ y s',Inv y→m y<m x→S.Le k (hd y) s'→R .normal s')→(∀ i s',Q (.exit i) s'→R (.exit i) s')→(∀ s',Q .ret s'→R .ret s')→body R (hd x)) :
 ∀ n x s,Inv x→m x<n→S.Le k (hd x) s→sW k body Q n s
 |0,_,_,_,h,_=>absurd h (Nat.not_lt_zero _)
 |n+1,x,s,hx,hm,fx=>⟨hd x,.inr fx,hb x hx _ (fun y s' hy bF ahg=>zJ hb n y s' hy (by omega) ahg) (fun _ _ h=>h) (fun _ h=>h)⟩
theorem cF {α:Type} (hd:α→S) (m:α→Nat) (Inv:α→Prop) {body:Code} (x:α) (hx:Inv x) (fx:S.Le (k0) (hd x) ⟨fr,bx,nb⟩)
 (hb:∀ x,Inv x→∀ R:VE→S→Prop,(∀ y s',Inv y→m y<m x→S.Le (k0) (hd y) s'→R .normal s')→(∀ i s',Q (.exit i) s'→R (.exit i) s')→(∀ s',Q .ret s'→R .ret s')→gy P G tr k0 body R (hd x)) :
 gy P G tr k0 (.loop body) Q ⟨fr,bx,nb⟩:=
 ⟨m x+1,zJ hb _ x _ hx (bq _) fx⟩
theorem Vz {b:Bool}:vun .not (.c (.lit (.bool b))) KV=KV (.c (.lit (.bool (!b)))):=rfl
theorem m8 {T e:TypeId} {i:TI} {es:List (List C)} (hT:ti P T=some i) (hk:i.kd=.slice e):lC P T (.c (.sl es)) KV=KV (.c (.lit (.int .i64 es.length))):=by
 obtain⟨kd,a,b,c,d,f,g⟩:=i;subst hk;simp only[lC,hT]
theorem KQ {T e:TypeId} {i:TI} {b o l c z:Nat} (hT:ti P T=some i) (hk:i.kd=.slice e):lC P T (.ms b o l c z) KV=KV (.c (.lit (.int .i64 l))):=by
 obtain⟨kd,a,b,c,d,f,g⟩:=i;subst hk;simp only[lC,hT]
theorem QI {T:TypeId} {i:TI} {b:ByteArray} (hT:ti P T=some i) (hk:i.kd=.str):lC P T (.c (.lit (.string b))) KV=KV (.c (.lit (.int .i64 b.size))):=by
 obtain⟨kd,a,b,c,d,f,g⟩:=i;subst hk;simp only[lC,hT]
theorem DL {t:TypeId} {x:V}:eE P .len [t] [x] KV=lC P t x KV:=rfl
theorem DN {t u:TypeId} {x y:V}:eE P .append [t,u] [x,y] KV=if t=u then dX P t x y.fz KV else pG P t u x y.fz KV:=rfl
theorem QJ {T e:TypeId} {i j:TI} {b off len cap sz:Nat} {z:List C} {K2:S→Prop} (hT:ti P T=some i) (hk:i.kd=.slice e) (hE:ti P e=some j) (hs:j.size=sz) (hz:j.zero=some z) (hp:0<sz) (hl:z.length=sz) (hb:b<nb) (hm:cX (bx b)=false)
 (hf:off+len*sz≤(bx b).length) (hK:K2 ⟨fr,up bx b (eU (bx b) off ((List.replicate len z).flatten.map .c)),nb⟩):iy P ⟨fr,bx,nb⟩ K2 [T] [.ms b off len cap sz]:=by
 obtain⟨kd,a,b',c,d,f,g⟩:=i;simp only at hk;subst hk
 obtain⟨kd',a',b'',c',d',f',g'⟩:=j;simp only at hs hz;subst hs;subst hz
 simp only[iy,hT,hE]
 exact⟨⟨trivial,hp,hl,hb,hm,hf⟩,hK⟩
theorem dz {T e:TypeId} {i j:TI} {k:IntKind} {n:Int} {c:List C} {es:List (List C)} (hT:ti P T=some i) (hk:i.kd=.slice e) (hj:ti P e=some j) (hs:j.size≠0) (hn:0≤n)
 (he:es[n.toNat]?=some c) (hc:c.length=j.size) (hK:KV (.c (.rp c 0))):cC P T (.c (.sl es)) (.c (.lit (.int k n))) KV:=by
 obtain⟨kd,a,b,x,d,f,g⟩:=i
 simp only at hk;subst hk
 simp only[cC,hT,hj,he]
 exact⟨⟨hn,hs⟩,hc,hK⟩
theorem X8 {T e:TypeId} {i j:TI} {k:IntKind} {n:Int} {b o l c z:Nat} (hT:ti P T=some i) (hk:i.kd=.slice e) (hj:ti P e=some j) (hs:j.size=z) (hz:z≠0) (hn:0≤n) (hl:n<l)
 (hK:KV (.bp b (o+n.toNat*z))):cC P T (.ms b o l c z) (.c (.lit (.int k n))) KV:=by
 obtain⟨kd,a,b,x,d,f,g⟩:=i
 simp only at hk;subst hk
 simp only[cC,hT,hj]
 exact⟨⟨hn,hl,hs,hz⟩,hK⟩
theorem ll {T e:TypeId} {i j:TI} {k:IntKind} {n:Int} {m o q:Nat} (hT:ti P T=some i) (hk:i.kd=.arr m e) (hj:ti P e=some j) (hn:0≤n) (hm:n<m)
 (hK:KV (.bp q (o+n.toNat*j.size))):cC P T (.bp q o) (.c (.lit (.int k n))) KV:=by
 obtain⟨kd,a,b,x,d,f,g⟩:=i
 simp only at hk;subst hk
 simp only[cC,hT,hj]
 exact⟨⟨hn,hm⟩,hK⟩
theorem Nm {ag:Bool} {sz:Nat} {cs:List C} (ha:ag=true) (h:cs.length=sz):eB ag sz 0 cs KV=KV (.agg cs):=by
 subst ha;subst h;simp[eB]
theorem sf {T:TypeId} {i:TI} {s:S} {cs:List C} (hT:ti P T=some i) (ha:i.agg=true) (h:cs.length=i.size):dy P T s (.c (.rp cs 0)) KV=KV (.agg cs):=by
 simp only[dy,hT];exact Nm ha h
theorem sg {T:TypeId} {i:TI} {f k off sz:Nat} {ag:Bool} {cs:List C} (hT:ti P T=some i) (hf:i.flds[f]?=some (off,sz,ag)) (hs:sz≠0):bj P T (.c (.rp cs k)) f KV=KV (.c (.rp cs (k+off))):=by
 simp only[bj,hT,hf];simp[hs]
theorem fw {T:TypeId} {i:TI} {f k off sz b:Nat} {ag:Bool} (hT:ti P T=some i) (hf:i.flds[f]?=some (off,sz,ag)) (hs:sz≠0):bj P T (.bp b k) f KV=KV (.bp b (k+off)):=by
 simp only[bj,hT,hf];simp[hs]
theorem yP {T:TypeId} {i:TI} {s:S} {cs:List C} {o:Nat} (hT:ti P T=some i) (ha:i.agg=false) (hs:i.size=1):dy P T s (.c (.rp cs o)) KV=eB false 1 o cs KV:=by
 simp only[dy,hT,ha,hs]
theorem VA {sz:Nat} {c:C} {cs:List C}:eB false sz 0 (c::cs) KV=KV (.c c):=rfl
def ldA (nb b:Nat) (l:List V) (o n:Nat) (K:V→Prop):Prop:=b<nb∧((((l.drop o).take n).length=n∧((l.drop o).take n).all V.isPO=true)∧K (CP (((l.drop o).take n).map V.fz)))
def X9 (a:C):V→V
 | .agg cs=>.agg (a::cs)
 | .mag vs=>.mag (.c a::vs)
 |x=>x
theorem Zx {a:C} {r:List V}:CP (.c a::r)=X9 a (CP r):=by
 unfold CP
 simp only[fm]
 cases h:r.mapM V.asC<;>simp[V.asC,X9]
theorem VB {i o:Nat}:(V.bp i o).isPR=true:=rfl
def ldB (nb b:Nat) (l:List V) (o:Nat) (K:V→Prop):Prop:=b<nb∧match l[o]? with
 |some v=>K v.ldv
 |none=>False
theorem oV {T:TypeId} {i:TI} {b o n:Nat} (hT:ti P T=some i) (ha:i.agg=true) (hs:i.size=n):dy P T ⟨fr,bx,nb⟩ (.bp b o) KV=(cX (bx b)=false∧ldA nb b (bx b) o n KV):=by
 subst hs;simp only[dy,hT,ha,cJ,ldA];exact propext ⟨fun⟨⟨a,b⟩,c⟩=>⟨b,a,c⟩,fun⟨b,a,c⟩=>⟨⟨a,b⟩,c⟩⟩
theorem gb {T:TypeId} {i:TI} {b o:Nat} (hT:ti P T=some i) (ha:i.agg=false):dy P T ⟨fr,bx,nb⟩ (.bp b o) KV=(cX (bx b)=false∧ldB nb b (bx b) o KV):=by
 simp only[dy,hT,ha,ldB];exact propext ⟨fun⟨⟨a,b⟩,c⟩=>⟨b,a,c⟩,fun⟨b,a,c⟩=>⟨⟨a,b⟩,c⟩⟩
theorem acX {b:Nat} {v:V} {l:List V}:ldB nb b (v::l) 0 KV=(b<nb∧KV v.ldv):=rfl
theorem acY {b o:Nat} {v:V} {l:List V}:ldB nb b (v::l) (o+1) KV=ldB nb b l o KV:=by simp[ldB]
theorem VC {b o:Nat} {cs:List C}:ldB nb b (cs.map V.c) o KV=(b<nb∧eB false 1 o cs KV):=by
 simp only[ldB,eB,ba,aS,dm]
 cases cs[o]?<;>rfl
theorem Nn {i:TI} {ks:List EK} {xs ys:List C} {r:Bool} (he:i.eqs=some ks) (ha:i.agg=true) (h:jA ks xs ys=some r) (h1:xs.length=ks.length) (h2:ys.length=ks.length):Gm (some i) .eql xs ys KV=KV (.c (.lit (.bool r))):=by
 obtain⟨kd,a,b,c,d,f,g⟩:=i
 simp only at he ha;subst he;subst ha
 simp[Gm,h,h1,h2]
theorem No {i:TI} {ks:List EK} {xs ys:List C} {r:Bool} (he:i.eqs=some ks) (ha:i.agg=true) (h:jA ks xs ys=some r) (h1:xs.length=ks.length) (h2:ys.length=ks.length):Gm (some i) .neq xs ys KV=KV (.c (.lit (.bool (!r)))):=by
 obtain⟨kd,a,b,c,d,f,g⟩:=i
 simp only at he ha;subst he;subst ha
 simp[Gm,h,h1,h2]
theorem Gr {T:TypeId} {i:TI} {ks:List EK} {xs ys:List C} {r:Bool} (hT:ti P T=some i) (he:i.eqs=some ks) (ha:i.agg=true) (h:jA ks xs ys=some r) (h1:xs.length=ks.length) (h2:ys.length=ks.length) :
 mQ P .eql T (.agg xs) (.agg ys) KV=KV (.c (.lit (.bool r))):=by rw[Gn,hT];exact Nn he ha h h1 h2
theorem QK {T:TypeId} {i:TI} {ks:List EK} {xs ys:List C} {r:Bool} (hT:ti P T=some i) (he:i.eqs=some ks) (ha:i.agg=true) (h:jA ks xs ys=some r) (h1:xs.length=ks.length) (h2:ys.length=ks.length) :
 mQ P .neq T (.agg xs) (.agg ys) KV=KV (.c (.lit (.bool (!r)))):=by rw[Gn,hT];exact No he ha h h1 h2
theorem Np {T:TypeId} {i:TI} {a b:Bool} (hT:ti P T=some i) (hk:i.kd=.bool):mQ P .neq T (.c (.lit (.bool a))) (.c (.lit (.bool b))) KV=KV (.c (.lit (.bool (!(a==b))))):=by
 obtain⟨kd,a,b,c,d,f,g⟩:=i
 simp only at hk;subst hk
 rw[Nl,hT];rfl
theorem QL {a b:ByteArray}:y2 .eql a b KV=KV (.c (.lit (.bool (decide (a=b))))):=rfl
theorem Jb {T:TypeId} {i:TI} {k:IntKind} {n:Int} {st:ByteArray} {b:UInt8} (hT:ti P T=some i) (hk:i.kd=.str) (hn:0≤n) (hb:st.data[n.toNat]?=some b) :
 mR P T (.c (.lit (.string st))) (.c (.lit (.int k n))) KV=KV (.c (.lit (.int .u8 b.toNat))):=by
 obtain⟨kd,a,b,c,d,f,g⟩:=i
 simp only at hk;subst hk
 simp only[mR,hT,hn,hb,fZ]
theorem zL:∀ cs:List C,CP (cs.map V.c)=.agg cs
 |[]=>rfl
 |c::cs=>by rw[aL,Zx,zL cs];rfl
theorem VD {b n:Nat} {cs:List C} (h:cs.length=n):ldA nb b (cs.map V.c) 0 n KV=(b<nb∧KV (.agg cs)):=by
 have h1:(cs.map V.c).take n=cs.map V.c:=dM (by simp[h])
 have h2:(cs.map V.c).map V.fz=cs.map V.c:=by simp[gA,Function.comp_def,V.fz]
 have h3:(cs.map V.c).all V.isPO=true:=by simp[List.all_map,Function.comp_def,V.isPO]
 simp only[ldA,eM,h1,h2,h3,zL,ap,h,fZ]
theorem Zy {t:Option Tmp} {d:Nat} {x:C} (h:∀ u,t=some u→(fr u).isOw=false):boxK t d (.c x) ⟨fr,bx,nb⟩ K=K ⟨up fr d (.bp nb 0),up bx nb [.c x],nb+1⟩:=by
 cases t with
 |none=>rfl
 |some u=>simp[boxK,V.bcells,mn,h u rfl,S.put]
theorem acZ {t:Tmp} {d:Nat} {x:C} (h:fr t=.c x):boxK (some t) d (.c x) ⟨fr,bx,nb⟩ K=K ⟨up fr d (.bp nb 0),up bx nb [.c x],nb+1⟩:=Zy (fun u hu=>by cases hu;rw[h];rfl)
theorem VF {t:Tmp} {d:Nat} {cs:List C} (h:fr t=.agg cs):boxK (some t) d (.agg cs) ⟨fr,bx,nb⟩ K=K ⟨up fr d (.bp nb 0),up bx nb (cs.map .c),nb+1⟩:=by
 simp[boxK,V.bcells,mn,h,S.put,V.isOw]
def stS (n:Nat) (t:Option Tmp) (dO:Option Tmp) (b o:Nat) (v:V) (s:S) (K:S→Prop):Prop:=match v.bcells with
 |some cs=>(b<s.nb∧cs.length=n∧o+n≤(s.bx b).length)∧K ((let s':=s.use t;{ s' with bx:=up s'.bx b (eU (s'.bx b) o cs) }:S).put dO .sk)
 |none=>False
theorem ku {i:TI} {n:Nat} {t dO:Option Tmp} {b o:Nat} {v:V} {s:S} (h:i.size=n):og (some i) t dO (.bp b o) v s K=(cX (s.bx b)=false∧stS n t dO b o v s K):=by
 subst h;cases hv:v.bcells<;>simp only[og,stS,hv]
 ·simp
 ·exact propext ⟨fun⟨⟨a,b,c,d⟩,e⟩=>⟨d,⟨a,b,c⟩,e⟩,fun⟨d,⟨a,b,c⟩,e⟩=>⟨⟨a,b,c,d⟩,e⟩⟩
theorem Nq {v:V} {l:List V}:cX (v::l)=v.isMk:=rfl
theorem Gs:∀ {l:List C},cX (l.map V.c)=false
 |[]=>rfl
 |_::_=>rfl
theorem Zz {x:C}:(V.c x).isMk=false:=rfl
theorem VG {E:Option (TypeId×Nat)} {es:List (List C)}:(V.ow E es).isMk=false:=rfl
theorem VH {i o l c z:Nat}:(V.ms i o l c z).isMk=false:=rfl
theorem VI {i:Nat}:(V.mr i).isMk=false:=rfl
theorem QM {dO:Option Tmp} {b o:Nat} {x:C}:stS 1 none dO b o (.c x) ⟨fr,bx,nb⟩ K=((b<nb∧o+1≤(bx b).length)∧K ((⟨fr,up bx b (eU (bx b) o [.c x]),nb⟩:S).put dO .sk)):=by
 simp[stS,V.bcells,Gh]
theorem ac0 {t:Tmp} {dO:Option Tmp} {b o:Nat} {x:C} (h:fr t=.c x):stS 1 (some t) dO b o (.c x) ⟨fr,bx,nb⟩ K=((b<nb∧o+1≤(bx b).length)∧K ((⟨fr,up bx b (eU (bx b) o [.c x]),nb⟩:S).put dO .sk)):=by
 simp[stS,V.bcells,mn,h,V.isOw]
theorem ZA {t:Tmp} {dO:Option Tmp} {b o:Nat} {E:Option (TypeId×Nat)} {es:List (List C)} (h:fr t=.ow E es):stS 1 (some t) dO b o (.ow E es) ⟨fr,bx,nb⟩ K=
 ((b<nb∧o+1≤(bx b).length)∧K ((⟨up fr t .un,up bx b (eU (bx b) o [.ow E es]),nb⟩:S).put dO .sk)):=by
 simp[stS,V.bcells,mn,h,V.isOw]
theorem VJ {n:Nat} {t:Tmp} {dO:Option Tmp} {b o:Nat} {cs:List C} (h:fr t=.agg cs):stS n (some t) dO b o (.agg cs) ⟨fr,bx,nb⟩ K=
 ((b<nb∧cs.length=n∧o+n≤(bx b).length)∧K ((⟨fr,up bx b (eU (bx b) o (cs.map .c)),nb⟩:S).put dO .sk)):=by
 simp[stS,V.bcells,mn,h,V.isOw]
theorem VK {n:Nat} {t:Tmp} {dO:Option Tmp} {b o:Nat} {vs:List V} (h:fr t=.mag vs):stS n (some t) dO b o (.mag vs) ⟨fr,bx,nb⟩ K=
 ((b<nb∧vs.length=n∧o+n≤(bx b).length)∧K ((⟨fr,up bx b (eU (bx b) o vs),nb⟩:S).put dO .sk)):=by
 simp[stS,V.bcells,mn,h,V.isOw]
theorem ZB {v x:V} {r:List V}:eU (v::r) 0 [x]=x::r:=by simp[eU]
def mo {α:Type} (p:α→Bool) (l:List α):Int:=match l.findIdx? p with
 |some i=>i
 |none=>-1
theorem nv {α:Type} {p:α→Bool} {l:List α} {i:Nat} (hi:i<l.length) (hy:p l[i]=true) (fU:∀ j (h:j<l.length),j<i→p l[j]=false):mo p l=i:=by
 have:l.findIdx? p=some i:=by
  rw[bS]
  exact⟨hi,hy,fun j hj=>by simp[fU j (by omega) hj]⟩
 simp[mo,this]
theorem kH {α:Type} {p:α→Bool} {l:List α} (fU:∀ j (h:j<l.length),j<l.length→p l[j]=false):mo p l=-1:=by
 have:l.findIdx? p=none:=by
  rw[dH]
  intro x hx
  obtain⟨j,hj,rfl⟩:=gZ.1 hx
  exact fU j hj hj
 simp[mo,this]
theorem ka {α:Type} {p:α→Bool} {l:List α}:decide (0≤mo p l)=l.any p:=by
 unfold mo
 cases h:l.findIdx? p with
 |some i=>
  obtain⟨hi,hy,_⟩:=bS.1 h
  have:l.any p=true:=dp.2 ⟨_,aF hi,hy⟩
  simp[this]
 |none=>
  have h2:=dH.1 h
  have:l.any p=false:=List.any_eq_false.2 fun x hx=>by simp[h2 x hx]
  simp[this]
theorem wrap_i64 (n:Int) (h:-9223372036854775808≤n∧n≤9223372036854775807):IntKind.i64.wrap n=n:=by rw[IntKind.wrap_i64];omega
theorem aD {s:S} {g:FuncId} {fs cs:List C} {args as:List V} {r:V} (hm:args.mapM (imm s)=some as) (h:FnOK P G g (fs.map .c++as++cs.map .c) r) (hb:args.any V.boxy=true→r.isFlat=true) (hK:KV r) :
 qh P G s (.c (.fn (.func g) fs cs)) args KV:=by
 simp only[qh,hm]
 exact⟨r,h,hb,hK⟩
end
section
variable {P:Program} {G:Gl} {tr:List Nat} {n:Nat} {I0:Ft} {M:Mx} {w0:World} {I:Ft} {β:Nat→Option Nat} {ob:Loc→Option Nat} {s:S} {a:Act} {w:World}
def obB (ob:Nat→Nat→Option Nat):Loc→Option Nat
 | .t _=>none
 | .b i j=>ob i j
theorem St.initB {ob:Nat→Nat→Option Nat} {vs:Array Value} {args:List V} {b0:List (List V)} {m:Nat} (hI:∀ b o,I b o→b<w.heap.size) (hg:GOK G I w) (hB:BxR (Wr M w) I w β ob b0) (dR:vs.size=args.length)
 (ha:∀ j x,args[j]?=some x→LR (Wr M w) I β w none (vs.getD j undef) x) (hm:m=(vs++Array.replicate (n - vs.size) undef).size) :
 St G m I ⟨M.m,β,[]⟩ w I β (obB ob) ⟨fun j=>args.getD j .un,bxs b0,b0.length⟩ { tmps:=vs++Array.replicate (n - vs.size) undef,defers:=[] } w where
 size:=hm.symm
 defers:=rfl
 below:=BelowM.refl _ _
 kept:=fun _ _ _=>rfl
 ilow:=fun _ _ h=>h
 ihigh:=fun _ _ h=>.inl h
 ibnd:=hI
 fr:=fun t=>by
  simp only[obB]
  by_cases ht:t<args.length
  ·have e1:args.getD t .un=args[t]:=by simp[List.getD,ht]
   have e2:(vs++Array.replicate (n - vs.size) undef).getD t undef=vs.getD t undef:=by
    rw[ao,dx (by omega),← ao]
   rw[e1,e2]
   exact ha t _ (aj ht)
  ·have e1:args.getD t .un=.un:=by simp[List.getD,b8 (dP ht)]
   rw[e1];simp only[LR];exact .un _
 bx:=fun i hi=>by
  simp only at hi
  obtain⟨blk,cur,e1,e2,e3,e4,e5,e7⟩:=hB.bx i _ (aj hi)
  have e:bxs b0 i=b0[i]:=by simp[bxs,List.getD,hi]
  refine⟨blk,cur,e1,e2,by simp only[e];exact e3,by simp only[e];exact e4,fun j=>?_,e7⟩
  simp only[e];exact e5 j
 bnone:=fun i hi=>hB.bnone i hi
 ext:=fun _ _ h=>h
 bnew:=fun _ _ h=>.inl h
 binj:=hB.binj
 oinj:=fun L L' b h h'=>by
  cases L<;>simp only[obB] at h<;>try cases h
  cases L'<;>simp only[obB] at h'<;>try cases h'
  obtain⟨e1,e2⟩:=hB.oinj _ _ _ _ b h h'
  rw[e1,e2]
 obx:=fun L b i h=>by
  cases L<;>simp only[obB] at h<;>try cases h
  exact hB.obx _ _ b i h
 obnd:=fun L b h=>by
  cases L<;>simp only[obB] at h<;>try cases h
  exact hB.obnd _ _ b h
 glob:=hg
def uA (P:Program) (k:Nat) (r:V) (b1:List (List V)) (rs:List ResultVar) (e:VE) (s:S):Prop:=
 (match e with | .exit _=>False | _=>True)∧∃ l,S.Le k (hdS l b1) s∧pX P false (hdS l b1) r rs
theorem KT {f:FuncId} {fn:Func} {c:Code} {args:List V} {b0 b1:List (List V)} {r:V} (tr:List Nat) (hm:P.follows .mixedOrders=true) (hf:P.funcs[f]?=some fn) (hb:fn.body=some c)
 (gx:(fn.name== "runtime.NumGoroutine")=false) (hn:args.length≤fn.ntmps) (pt:cok fn.ntmps tr c=true) (iH:r.compT=true)
 (Uu:(∀ x∈args,x.lt b0.length)∧(∀ b∈b0,∀ x∈b,x.lt b0.length)∧b0.length≤b1.length)
 (h:gy P G tr b0.length c (uA P b0.length r b1 fn.results.toList) ⟨fun j=>args.getD j .un,bxs b0,b0.length⟩):FnB P G f args b0 r b1:=by
 refine⟨⟨fn,hf,gx,c,hb⟩,Uu,fun I M w vs β ob hI hg hB dR ha=>?_⟩
 have gw:fn.ntmps=(vs++Array.replicate (fn.ntmps - vs.size) undef).size:=by simp;omega
 have hst:=St.initB (n:=fn.ntmps) hI hg hB dR ha gw
 have px:∀ i b,β i=some b→i<b0.length:=fun i b hi=>by
  by_cases h:i<b0.length
  ·exact h
  ·rw[hB.bnone i (by omega)] at hi;cases hi
 refine oM.1 (callsIn_of_wp_marks (F:=FW none) (n:=0) hf hb trivial (kZ (l:=none) hm (fun i b hi=>px i b hi) (.inl rfl) c pt _ _ (fun e s a w' hq cw=>?_) _ _ _ h (.of ⟨_,_,_,hst⟩)))
 obtain⟨O5,l,fx,dn⟩:=hq
 have cw:SX G fn.ntmps tr I ⟨M.m,β,[]⟩ w (hdS l b1) a w':=by
  obtain⟨I1,M1,w1,rs,rN,kR,cw⟩:=cw
  exact⟨I1,M1,w1,rs,rN,kR,cw.weaken (by rw[rN.e];exact fun i b hi=>px i b hi) fx⟩
 have main:LeavesInM (FW none) 0 P fn a.tmps (fun e w'=>∃ v' I' β' ob' o',e=.returned v'∧BelowM (GT G) M w w'∧(∀ b o,I b o→I' b o)∧(∀ b o,I' b o→I b o∨(Wr M w b∧b<w'.heap.size))∧
  (∀ b o,I b o→w'.cell? ⟨b,o,none⟩=w.cell? ⟨b,o,none⟩)∧(∀ i,i<b0.length→β' i=β i)∧(∀ i b,b0.length≤i→β' i=some b→Wr M w b)∧BxR (Wr M w) I' w' β' ob' b1∧
  LR (Wr M w) I' β' w' o' v' r∧(∀ b,o'=some b→(b<w'.heap.size∧Wr M w b)∧(∀ i j,ob' i j≠some b)∧∀ i,β' i≠some b)) a.defers .returning w':=by
  refine cw.leaves rfl fun w' I' β' ob' bH=>?_
  obtain⟨v,o',h1,h2,h3⟩:=oU (P:=P) (fn:=fn) bH iH (Ic:=I') (fun _=>rfl) (fun _ _ h=>h) (fun hz=>by cases hz) dn
  have qf:∀ i,i<b0.length→β' i=β i:=fun i hi=>by
   obtain⟨blk,_,e1,_⟩:=hB.bx i _ (aj hi)
   rw[e1];exact bH.ext i blk e1
  refine⟨v,h1,v,I',β',fun i j=>if i<b1.length then ob' (.b i j) else none,o',rfl,⟨bH.below.os,bH.below.tape,bH.below.output,bH.below.size,bH.below.block,bH.below.drawn⟩,bH.ilow,fun b o wC=>?_,bH.kept,qf,fun i b hi hb=>?_,?_,h2,fun b hb=>?_⟩
  ·rcases bH.ihigh b o wC with h4 | h4
   ·exact .inl h4
   ·exact .inr ⟨h4,bH.ibnd b o wC⟩
  ·rcases bH.bnew i b hb with h4 | h4
   ·have:=px i b h4;omega
   ·exact h4
  ·exact {
    bx:=fun i cs iE=>by
     have hi:i<b1.length:=(ak.1 iE).1
     obtain⟨blk,cur,e1,e2,e3,e4,e5,e7⟩:=bH.bx i hi
     have e:bxs b1 i=cs:=by simp[bxs,List.getD,iE]
     refine⟨blk,cur,e1,e2,by simp only[hdS,e] at e3;exact e3,by simp only[hdS,e] at e4;exact e4,fun j=>?_,e7⟩
     have:=e5 j
     simp only[hdS,e] at this
     rw[if_pos hi];exact this
    bnone:=fun i hi=>bH.bnone i hi
    binj:=bH.binj
    oinj:=fun i j i' j' b h h'=>by
     split at h<;>try cases h
     split at h'<;>try cases h'
     have:=bH.oinj _ _ b h h'
     simp only[Loc.b.injEq] at this;exact this
    obx:=fun i j b k h=>by
     split at h<;>try cases h
     exact bH.obx _ b k h
    obnd:=fun i j b h=>by
     split at h<;>try cases h
     exact bH.obnd _ b h
    olen:=fun i j hi=>by rw[if_neg (by omega)] }
  ·obtain⟨t,ht⟩:=h3 b hb
   refine⟨bH.obnd _ b ht,fun i j h=>?_,fun i=>bH.obx _ b i ht⟩
   simp only at h
   split at h<;>try cases h
   have:=bH.oinj _ _ b ht h
   cases this
 cases e with
 |normal=>exact main
 |exit i=>exact O5.elim
 |ret=>exact main
theorem VL {f:FuncId} {fn:Func} {c:Code} {args:List V} {b0:List (List V)} {R:V→List (List V)→Prop} (tr:List Nat) (hm:P.follows .mixedOrders=true) (hf:P.funcs[f]?=some fn) (hb:fn.body=some c)
 (gx:(fn.name== "runtime.NumGoroutine")=false) (hn:args.length≤fn.ntmps) (pt:cok fn.ntmps tr c=true) (iH:∀ r b1,R r b1→r.compT=true)
 (Uu:(∀ x∈args,x.lt b0.length)∧(∀ b∈b0,∀ x∈b,x.lt b0.length)∧∀ r b1,R r b1→b0.length≤b1.length)
 (h:gy P G tr b0.length c (fun e s=>∃ r b1,R r b1∧uA P b0.length r b1 fn.results.toList e s) ⟨fun j=>args.getD j .un,bxs b0,b0.length⟩):FnE P G f args b0 R:=by
 refine⟨⟨fn,hf,gx,c,hb⟩,Uu,fun I M w vs β ob hI hg hB dR ha=>?_⟩
 have gw:fn.ntmps=(vs++Array.replicate (fn.ntmps - vs.size) undef).size:=by simp;omega
 have hst:=St.initB (n:=fn.ntmps) hI hg hB dR ha gw
 have px:∀ i b,β i=some b→i<b0.length:=fun i b hi=>by
  by_cases h:i<b0.length
  ·exact h
  ·rw[hB.bnone i (by omega)] at hi;cases hi
 refine oM.1 (callsIn_of_wp_marks (F:=FW none) (n:=0) hf hb trivial (kZ (l:=none) hm (fun i b hi=>px i b hi) (.inl rfl) c pt _ _ (fun e s a w' hq cw=>?_) _ _ _ h (.of ⟨_,_,_,hst⟩)))
 obtain⟨r,b1,hR,O5,l,fx,dn⟩:=hq
 have cw:SX G fn.ntmps tr I ⟨M.m,β,[]⟩ w (hdS l b1) a w':=by
  obtain⟨I1,M1,w1,rs,rN,kR,cw⟩:=cw
  exact⟨I1,M1,w1,rs,rN,kR,cw.weaken (by rw[rN.e];exact fun i b hi=>px i b hi) fx⟩
 have main:LeavesInM (FW none) 0 P fn a.tmps (fun e w'=>∃ r b1,R r b1∧∃ v' I' β' ob' o',e=.returned v'∧BelowM (GT G) M w w'∧(∀ b o,I b o→I' b o)∧(∀ b o,I' b o→I b o∨(Wr M w b∧b<w'.heap.size))∧
  (∀ b o,I b o→w'.cell? ⟨b,o,none⟩=w.cell? ⟨b,o,none⟩)∧(∀ i,i<b0.length→β' i=β i)∧(∀ i b,b0.length≤i→β' i=some b→Wr M w b)∧BxR (Wr M w) I' w' β' ob' b1∧
  LR (Wr M w) I' β' w' o' v' r∧(∀ b,o'=some b→(b<w'.heap.size∧Wr M w b)∧(∀ i j,ob' i j≠some b)∧∀ i,β' i≠some b)) a.defers .returning w':=by
  refine cw.leaves rfl fun w' I' β' ob' bH=>?_
  obtain⟨v,o',h1,h2,h3⟩:=oU (P:=P) (fn:=fn) bH (iH r b1 hR) (Ic:=I') (fun _=>rfl) (fun _ _ h=>h) (fun hz=>by cases hz) dn
  have qf:∀ i,i<b0.length→β' i=β i:=fun i hi=>by
   obtain⟨blk,_,e1,_⟩:=hB.bx i _ (aj hi)
   rw[e1];exact bH.ext i blk e1
  refine⟨v,h1,r,b1,hR,v,I',β',fun i j=>if i<b1.length then ob' (.b i j) else none,o',rfl,⟨bH.below.os,bH.below.tape,bH.below.output,bH.below.size,bH.below.block,bH.below.drawn⟩,bH.ilow,fun b o wC=>?_,bH.kept,qf,fun i b hi hb=>?_,?_,h2,fun b hb=>?_⟩
  ·rcases bH.ihigh b o wC with h4 | h4
   ·exact .inl h4
   ·exact .inr ⟨h4,bH.ibnd b o wC⟩
  ·rcases bH.bnew i b hb with h4 | h4
   ·have:=px i b h4;omega
   ·exact h4
  ·exact {
    bx:=fun i cs iE=>by
     have hi:i<b1.length:=(ak.1 iE).1
     obtain⟨blk,cur,e1,e2,e3,e4,e5,e7⟩:=bH.bx i hi
     have e:bxs b1 i=cs:=by simp[bxs,List.getD,iE]
     refine⟨blk,cur,e1,e2,by simp only[hdS,e] at e3;exact e3,by simp only[hdS,e] at e4;exact e4,fun j=>?_,e7⟩
     have:=e5 j
     simp only[hdS,e] at this
     rw[if_pos hi];exact this
    bnone:=fun i hi=>bH.bnone i hi
    binj:=bH.binj
    oinj:=fun i j i' j' b h h'=>by
     split at h<;>try cases h
     split at h'<;>try cases h'
     have:=bH.oinj _ _ b h h'
     simp only[Loc.b.injEq] at this;exact this
    obx:=fun i j b k h=>by
     split at h<;>try cases h
     exact bH.obx _ b k h
    obnd:=fun i j b h=>by
     split at h<;>try cases h
     exact bH.obnd _ b h
    olen:=fun i j hi=>by rw[if_neg (by omega)] }
  ·obtain⟨t,ht⟩:=h3 b hb
   refine⟨bH.obnd _ b ht,fun i j h=>?_,fun i=>bH.obx _ b i ht⟩
   simp only at h
   split at h<;>try cases h
   have:=bH.oinj _ _ b ht h
   cases this
 cases e with
 |normal=>exact main
 |exit i=>exact O5.elim
 |ret=>exact main
end
theorem DO:∀ (bl:List (List V)) (k:Nat) (f:Nat→List V),(∀ i b,bl[i]?=some b→f (k+i)=b)→BL k bl f
 |[],_,_,_=>trivial
 |b::r,k,f,h=>⟨by simpa using h 0 b rfl,DO r (k+1) f fun i c hc=>by have:=h (i+1) c (by simpa using hc);rw[db,lc 1 i];exact this⟩
theorem yQ (x:V):x.renP (fun i=>i)=x:=by cases x<;>rfl
theorem DT (x:V):x.ren (fun i=>i)=x:=by
 cases x<;>simp only[V.ren]
 ·rw[ct (g:=id) (fun x _=>yQ x),ct (g:=id) (fun x _=>yQ x)];simp
 ·rw[ct (g:=id) (fun x _=>yQ x)];simp
 ·rw[ct (g:=id) (fun p _=>by rw[yQ];rfl)];simp
theorem oW (l:List V):l.map (V.ren fun i=>i)=l:=by
 rw[ct (g:=id) (fun x _=>DT x)];simp
theorem iG {α:Type} {f:α→α}:∀ {l:List α},(∀ x∈l,f x=x)→l.map f=l
 |[],_=>rfl
 |x::l,h=>by rw[aL,h x (aT ..),iG fun y hy=>h y (aM _ hy)]
theorem vD {ρ:Nat→Nat} {x:V} (h:x.ltP 0):x.renP ρ=x:=by cases x<;>simp_all[V.renP,V.ltP]
theorem VM {ρ:Nat→Nat} {x:V} (h:x.lt 0):x.ren ρ=x:=by
 cases x<;>simp only[V.ren]<;>simp only[V.lt] at h<;>try omega
 ·rw[iG fun x hx=>vD (h.1 x hx),iG fun x hx=>vD (h.2 x hx)]
 ·rw[iG fun x hx=>vD (h x hx)]
 ·rw[iG fun p hp=>by rw[vD (h p hp)]]
theorem wZ (nb:Nat):rho (List.range nb) nb=fun i=>i:=by
 funext i
 unfold rho
 rw[jx]
 split
 ·rename_i h;simp[List.getD,h]
 ·omega
theorem VN (nb:Nat):rho [] nb=fun i=>nb+i:=by
 funext i;simp[rho]
theorem qn:∀ (b1:List (List V)) (k:Nat) (f:Nat→List V),ff (fun i=>i) k b1 f=fun i=>if k≤i∧i<k+b1.length then b1.getD (i - k) [] else f i
 |[],k,f=>by funext i;simp only[ff,aK];rw[if_neg (by omega)]
 |b::r,k,f=>by
  funext i
  simp only[ff,qn r,oW,aB,up]
  by_cases h1:k+1≤i∧i<k+1+r.length
  ·rw[if_pos h1,if_pos (by omega)]
   have:i - k=(i - (k+1))+1:=by omega
   rw[this];rfl
  ·rw[if_neg h1]
   by_cases h2:i=k
   ·subst h2;rw[if_pos rfl,if_pos (by omega)];simp
   ·rw[if_neg h2,if_neg (by omega)]
theorem tf:∀ (b0:List (List V)) (k nb:Nat) (f:Nat→List V),(∀ i b,b0[i]?=some b→k+i<nb∧f (k+i)=b)→pB f nb (fun i=>i) k b0
 |[],_,_,_,_=>trivial
 |b::r,k,nb,f,h=>by
  refine⟨?_,tf r (k+1) nb f fun i c hc=>?_⟩
  ·have:=h 0 b rfl
   rw[oW];exact this
  ·have:=h (i+1) c (by simpa using hc)
   rw[db,lc 1 i];exact this
def BP:VE→Bool
 | .exit _=>false
 |_=>true
theorem Gt:∀ e:VE,BP e=true→(match e with | .exit _=>False | _=>True)
 | .exit _,h=>by cases h
 | .normal,_=>trivial
 | .ret,_=>trivial
def eC (args:List V) (b0:List (List V)):Bool:=args.all (fun v=>v.ltB b0.length)&&b0.all fun b=>b.all fun v=>v.ltB b0.length
section
variable {P:Program} {G:Gl} {tr:List Nat} {fr:Nat→V} {bx:Nat→List V} {nb:Nat} {K:S→Prop} {KV:V→Prop} {dO:Option Tmp} {T ty:TypeId} {pos:String} {af:Array Edge} {g:Option (Nat×Bool)}
def ZC (dO:Option Tmp) (K:S→Prop) (s:S):Prop:=K (s.put dO .sk)
theorem VO:ZC dO K ⟨fr,bx,nb⟩=K ((⟨fr,bx,nb⟩:S).put dO .sk):=rfl
def QN (t:Tmp) (dO:Option Tmp) (s:S) (K:S→Prop) (it:Option V) (v:V):Prop:=K ((match it with | some x=>{ s with fr:=up s.fr t x } | none=>s:S).put dO v)
theorem Jc {t:Tmp} {x v:V}:QN t dO ⟨fr,bx,nb⟩ K (some x) v=K ((⟨up fr t x,bx,nb⟩:S).put dO v):=rfl
theorem Jd {t:Tmp} {v:V}:QN t dO ⟨fr,bx,nb⟩ K none v=K ((⟨fr,bx,nb⟩:S).put dO v):=rfl
theorem zM {i:TI} {kt et:TypeId} (hT:ti P T=some i) (hk:i.kd=.map kt et):VStep P G tr ⟨dO,.makeMap T none,ty,pos,af,g⟩ ⟨fr,bx,nb⟩ K=K ((⟨fr,up bx nb [.mk [] 0],nb+1⟩:S).put dO (.mr nb)):=by
 obtain⟨kd,a,b,c,d,f,e⟩:=i
 simp only at hk;subst hk
 simp only[VStep,hT]
theorem DU {m k x:Operand}:VStep P G tr ⟨dO,.mapUpdate T m k x,ty,pos,af,g⟩ ⟨fr,bx,nb⟩ K=ib P T ⟨fr,bx,nb⟩ (ev G ⟨fr,bx,nb⟩ m) (ev G ⟨fr,bx,nb⟩ k) (ev G ⟨fr,bx,nb⟩ x) (ZC dO K):=rfl
theorem Nr {m k x:Operand}:VStep P G tr ⟨dO,.insert T m k x,ty,pos,af,g⟩ ⟨fr,bx,nb⟩ K=ib P T ⟨fr,bx,nb⟩ (ev G ⟨fr,bx,nb⟩ m) (ev G ⟨fr,bx,nb⟩ k) (ev G ⟨fr,bx,nb⟩ x) (ZC dO K):=rfl
theorem VP {t:Tmp}:VStep P G tr ⟨dO,.next (.tmp t) false,ty,pos,af,g⟩ ⟨fr,bx,nb⟩ K=y3 ⟨fr,bx,nb⟩ (fr t) (QN t dO ⟨fr,bx,nb⟩ K):=rfl
theorem Ns {m k:Operand} {ok:Bool}:VStep P G tr ⟨dO,.lookup T m k ok,ty,pos,af,g⟩ ⟨fr,bx,nb⟩ K=ft P T ⟨fr,bx,nb⟩ (ev G ⟨fr,bx,nb⟩ m) (ev G ⟨fr,bx,nb⟩ k) ok (mI dO ⟨fr,bx,nb⟩ K):=rfl
theorem QO {x:Operand}:VStep P G tr ⟨dO,.range T x,ty,pos,af,g⟩ ⟨fr,bx,nb⟩ K=nK P T ⟨fr,bx,nb⟩ (ev G ⟨fr,bx,nb⟩ x) (mI dO ⟨fr,bx,nb⟩ K):=rfl
theorem QP {x:Operand}:VStep P G tr ⟨dO,.entry x,ty,pos,af,g⟩ ⟨fr,bx,nb⟩ K=mT ⟨fr,bx,nb⟩ (ev G ⟨fr,bx,nb⟩ x) (mI dO ⟨fr,bx,nb⟩ K):=rfl
theorem ac1 {i:Nat}:(V.mr i).fz=.mr i:=rfl
theorem ac2 {i:Nat}:(V.yl i).fz=.yl i:=rfl
theorem VQ {i:Nat}:(V.mr i).isOw=false:=rfl
def pY {α β:Type} (f:α→V) (h:β→V):List (α×β)→List V
 |[]=>[]
 |(a,b)::l=>f a::h b::pY f h l
theorem xW {α β:Type} {f:α→V} {h:β→V}:∀ l m:List (α×β),pY f h (l++m)=pY f h l++pY f h m
 |[],_=>rfl
 |(a,b)::l,m=>by simp[pY,xW l m]
theorem xX {α β:Type} {ag:Bool} {f:α→V} {h:β→V} {c:α→List C} (hf:∀ a,(f a).kcs ag=some (c a)):∀ l:List (α×β),jB ag (pY f h l)=some (l.map fun p=>c p.1)
 |[]=>rfl
 |(a,b)::l=>by simp[pY,jB,hf,xX hf l]
theorem sh {α β:Type} {f:α→V} {h:β→V}:∀ (l:List (α×β)) (j:Nat) (p:α×β),l[j]?=some p→(pY f h l).getD (2*j+1) .un=h p.2∧(pY f h l).getD (2*j) .un=f p.1
 |[],j,p,hp=>by simp at hp
 |(a,b)::l,0,p,hp=>by simp at hp;subst hp;exact⟨rfl,rfl⟩
 |(a,b)::l,j+1,p,hp=>by
  have:=sh (f:=f) (h:=h) l j p (by simpa using hp)
  rw[show 2*(j+1)=2*j+1+1 by omega]
  simpa only[pY,dK] using this
theorem Gu {α β:Type} {f:α→V} {h:β→V}:∀ (l:List (α×β)) (j:Nat) (a:α) (b b':β),l[j]?=some (a,b)→(pY f h l).set (2*j+1) (h b')=pY f h (l.set j (a,b'))
 |[],j,a,b,b',hp=>by simp at hp
 |(a,b)::l,0,a',b0,b',hp=>by simp at hp;simp[pY,hp.1]
 |(a,b)::l,j+1,a',b0,b',hp=>by
  have:=Gu (f:=f) (h:=h) l j a' b0 b' (by simpa using hp)
  rw[show 2*(j+1)+1=2*j+1+1+1 by omega]
  simp only[pY,List.set_cons_succ,this]
theorem BQ {α:Type} {ks:List EK} {c:α→List C} [DecidableEq α] (hl:∀ a,(c a).length=ks.length) (he:∀ a b,jA ks (c a) (c b)=some (decide (a=b))) (a:α):∀ (l:List α) (i:Nat),
 mM ks (c a) (l.map c) i=some ((l.findIdx? (fun b=>decide (a=b))).map (i+·))
 |[],i=>rfl
 |b::l,i=>by
  simp only[aL,mM,hl,cJ,he,List.findIdx?_cons]
  by_cases h:a=b
  ·simp[h]
  ·simp only[h,cd,aS,dm]
   rw[BQ hl he a l (i+1)]
   cases l.findIdx? (fun b=>decide (a=b))<;>simp;omega
end
section
variable {P:Program} {G:Gl} {tr:List Nat} {fr:Nat→V} {bx:Nat→List V} {nb:Nat} {K:S→Prop} {KV:V→Prop} {Q:VE→S→Prop}
theorem w9 (args:List V):frm 0 args=fun j=>args.getD j .un:=by
 have:=Gp args
 simp only[xT,S.mk.injEq] at this
 exact this.1.symm
theorem QQ {b:List V} {r:List (List V)}:bxs (b::r) 0=b:=rfl
theorem QR {b:List V} {r:List (List V)} {n:Nat}:bxs (b::r) (n+1)=bxs r n:=rfl
theorem mY {f:FuncId} {fn:Func} {c:Code} {args:List V} {b0 b1:List (List V)} {r:V} (tr:List Nat) (hm:P.follows .mixedOrders=true) (hf:P.funcs[f]?=some fn) (hb:fn.body=some c) (gx:(fn.name== "runtime.NumGoroutine")=false)
 {rs:List ResultVar} (wG:fn.results.toList=rs) {n:Nat} (hn:fn.ntmps=n) (pt:cok n tr c=true) (ce:args.length≤n) (iH:r.compT=true) {k:Nat} (hk:nL tr=k) (sS:b0.length=k)
 (cv:eC args b0=true) (fx:b0.length≤b1.length)
 (h:gy P G tr k c (uA P k r b1 rs) ⟨frm 0 args,bxs b0,k⟩):FnB P G f args b0 r b1:=by
 subst hn
 subst wG
 subst sS
 simp only[eC,aG,aW] at cv
 refine KT tr hm hf hb gx ce pt iH ⟨fun x hx=>V.ltB_ok (cv.1 x hx),fun b hb x hx=>V.ltB_ok (cv.2 b hb x hx),fx⟩ ?_
 rw[w9] at h;exact h
theorem dJ {k:Nat} {r:V} {b1:List (List V)} {rs:List ResultVar} {e:VE} (l:List (Nat×V)) (he:BP e=true) (dI:eW l b1=true) (hk:k≤b1.length) (hn:b1.length≤nb) (h1:FL l fr) (h2:BL 0 b1 bx) (hr:pX P false (hdS l b1) r rs) :
 uA P k r b1 rs e ⟨fr,bx,nb⟩:=⟨Gt _ he,l,cj dI hk hn h1 h2,hr⟩
theorem dl {fr:Nat→V} {bx:Nat→List V} {nb:Nat}:pX P false ⟨fr,bx,nb⟩ (.tup []) []:=⟨[],rfl,rfl,fun _ _ _ h=>by simp at h⟩
theorem gd (m:Nat) (cs:List C):(cs.map V.c).all (fun x=>x.ltB m)=true:=by
 rw[List.all_map,aW];intro x _;rfl
theorem xb {s:S} {f:V} {args all cargs:List V} {g:FuncId} {K:S→V→Prop} {r:V} {b1:List (List V)} (hc:ew f args=some (g,all)) (hf:FnB P G g cargs [] r b1) (dh:all.map V.fz=cargs)
 (hK:K { s with bx:=ff (fun i=>s.nb+i) 0 b1 s.bx,nb:=s.nb+b1.length } (r.ren fun i=>s.nb+i)):vcallB P G s f args K:=by
 unfold vcallB jR
 simp only[hc]
 refine⟨[],cargs,[],r,b1,hf,?_,⟨rfl,g8⟩,trivial,?_⟩
 ·rw[dh,iG fun x hx=>VM (hf.2.1.1 x hx)]
 ·rw[VN]
  simpa using hK
theorem Nt {s:S} {f:V} {args all cargs:List V} {g:FuncId} {K:S→V→Prop} {r:V} {b0 b1:List (List V)} (hc:ew f args=some (g,all)) (hf:FnB P G g cargs b0 r b1) (dh:all.map V.fz=cargs)
 (hn:b0.length=s.nb) (hb:BL 0 b0 s.bx) (hK:K { s with bx:=fun i=>if i<b1.length then b1.getD i [] else s.bx i,nb:=b1.length } r):vcallB P G s f args K:=by
 unfold vcallB jR
 simp only[hc]
 refine⟨List.range s.nb,cargs,b0,r,b1,hf,?_,⟨by simp[hn],j0⟩,?_,?_⟩
 ·rw[wZ,dh,oW]
 ·rw[wZ]
  refine tf _ _ _ _ fun i b AS=>?_
  have hi:=(ak.1 AS).1
  have:=hb.get i hi
  rw[ah] at this ⊢
  refine⟨by omega,?_⟩
  rw[← this]
  simp[AS]
 ·rw[wZ,qn,DT]
  have fx:=hf.2.1.2.2
  have e1:s.nb+(b1.length - b0.length)=b1.length:=by omega
  rw[e1]
  have e2:(fun i=>if 0≤i∧i<0+b1.length then b1.getD (i - 0) [] else s.bx i)=fun i=>if i<b1.length then b1.getD i [] else s.bx i:=by
   funext i;simp
  rw[e2];exact hK
end
section
variable {P:Program} {G:Gl} {tr:List Nat} {fr:Nat→V} {bx:Nat→List V} {nb:Nat} {K:S→Prop} {KV:V→Prop} {Q:VE→S→Prop}
def VR {α:Type} (o:Option α) (K:α→Prop):Prop:=match o with
 |some a=>K a
 |none=>False
def zN (f:Option (Nat×Nat×Bool)) (ds:List C) (flds:List (Nat×Nat×Bool)) (r:List (Nat×V)) (cs:List C):Option (List C):=match f with
 |some (off,sz,_)=>if ds.length=sz∧off+sz≤cs.length then jp flds r (nT cs off ds) else none
 |none=>none
def yA (e sz:Nat) (z:List C) (len:Nat) (parts:List (Nat×V)) (K:V→Prop):Prop:=match qg sz parts (List.replicate len z) with
 |some es=>K (.ow (if len=0 then none else some (e,sz)) es)
 |none=>False
theorem qT {T e:TypeId} {i j:TI} {z:List C} {sz len:Nat} {parts:List (Nat×V)} (hT:ti P T=some i) (hk:i.kd=.slice e) (hE:ti P e=some j) (hz:j.zero=some z) (hs:j.size=sz) (hp:0<sz) (hl:z.length=sz) (hn:len*sz≤16777216) :
 cy P T len parts KV=yA e sz z len parts KV:=by
 obtain⟨kd,a,b,c,d,f,g⟩:=i;subst hk
 obtain⟨kd',a',b',c',d',f',g'⟩:=j;simp only at hz hs;subst hz;subst hs
 simp only[cy,hT,hE,hp,hl,hn,fZ];rfl
theorem Nu {sz:Nat} {es:List (List C)}:qg sz [] es=some es:=rfl
theorem Nv {sz i:Nat} {ds:List C} {r:List (Nat×V)} {es:List (List C)}:qg sz ((i,.agg ds)::r) es=if ds.length=sz∧i<es.length then qg sz r (es.set i ds) else none:=rfl
theorem VS {sz i:Nat} {x:C} {r:List (Nat×V)} {es:List (List C)}:qg sz ((i,.c x)::r) es=if[x].length=sz∧i<es.length then qg sz r (es.set i [x]) else none:=rfl
theorem VT {e sz len:Nat} {z:List C} {parts:List (Nat×V)}:yA e sz z len parts KV=VR (qg sz parts (List.replicate len z)) (fun es=>KV (.ow (if len=0 then none else some (e,sz)) es)):=by
 unfold yA VR;cases qg sz parts (List.replicate len z)<;>rfl
def uB (flds:List (Nat×Nat×Bool)) (z:List C) (parts:List (Nat×V)) (K:V→Prop):Option (List C)→Prop
 |some cs=>K (.agg cs)
 |none=>VR (tZ flds parts (z.map .c)) fun vs=>K (.mag vs)
theorem mZ {T:TypeId} {i:TI} {z:List C} {flds:List (Nat×Nat×Bool)} {parts:List (Nat×V)} (hT:ti P T=some i) (hk:i.kd=.struct) (hz:i.zero=some z) (hf:i.flds=flds) :
 gI P T parts KV=uB flds z parts KV (jp flds parts z):=by
 obtain⟨kd,a,b,c,d,f,g⟩:=i;simp only at hk hz hf;subst hk;subst hz;subst hf
 simp only[gI,hT];unfold uB
 cases jp f parts z with
 |some cs=>rfl
 |none=>cases tZ f parts (z.map .c)<;>rfl
theorem Nw {z cs:List C} {flds:List (Nat×Nat×Bool)} {parts:List (Nat×V)}:uB flds z parts KV (some cs)=KV (.agg cs):=rfl
theorem Nx {α:Type} {a:α} {K:α→Prop}:VR (some a) K=K a:=rfl
theorem Ny {flds:List (Nat×Nat×Bool)} {cs:List C}:jp flds [] cs=some cs:=rfl
theorem VU {flds:List (Nat×Nat×Bool)} {i:Nat} {x:C} {r:List (Nat×V)} {cs:List C}:jp flds ((i,.c x)::r) cs=zN flds[i]? [x] flds r cs:=by
 unfold jp zN;cases flds[i]?<;>rfl
theorem QS {flds:List (Nat×Nat×Bool)} {i:Nat} {E:Option (TypeId×Nat)} {x:List (List C)} {r:List (Nat×V)} {cs:List C}:jp flds ((i,.ow E x)::r) cs=zN flds[i]? [.sl x] flds r cs:=by
 unfold jp zN;cases flds[i]?<;>rfl
theorem Nz {flds:List (Nat×Nat×Bool)} {i:Nat} {ds:List C} {r:List (Nat×V)} {cs:List C}:jp flds ((i,.agg ds)::r) cs=zN flds[i]? ds flds r cs:=by
 unfold jp zN;cases flds[i]?<;>rfl
theorem Je {off sz:Nat} {ag:Bool} {ds:List C} {flds:List (Nat×Nat×Bool)} {r:List (Nat×V)} {cs:List C}:zN (some (off,sz,ag)) ds flds r cs=if ds.length=sz∧off+sz≤cs.length then jp flds r (nT cs off ds) else none:=rfl
theorem Jf {cs ds:List C}:nT cs 0 ds=ds++cs.drop ds.length:=by simp[nT]
theorem Jg {c:C} {cs ds:List C} {n:Nat}:nT (c::cs) (n+1) ds=c::nT cs n ds:=by simp[nT,Nat.succ_add]
theorem QT {T e:TypeId} {i j:TI} {z:List C} {sz by_:Nat} {E:Option (TypeId×Nat)} {es ys:List (List C)} (hT:ti P T=some i) (hk:i.kd=.slice e) (hE:ti P e=some j) (hz:j.zero=some z) (hs:j.size=sz) (hb:j.bytes=by_) (hp:0<sz) (hl:z.length=sz) :
 dX P T (.ow E es) (.c (.sl ys)) KV=(((E=none∨E=some (e,sz))∧∀ x∈es,x.length=sz)∧((es.length+ys.length)*by_≤140737488355328∧es.length+ys.length≤9223372036854775807∧∀ x∈ys,x.length=sz)∧KV (.ow (if ys.isEmpty then E else some (e,sz)) (es++ys))):=by
 obtain⟨kd,a,b,c,d,f,g⟩:=i;subst hk
 obtain⟨kd',a',b',c',d',f',g'⟩:=j;simp only at hz hs hb;subst hz;subst hs;subst hb
 simp only[dX,hT,hE,hp,hl,fZ]
end
theorem fa {n:Int} {k:Nat} (h:n=(k:Nat)) (hk:k≤9223372036854775807):IntKind.i64.wrap n=(k:Nat):=by
 subst h;exact wrap_i64 _ (by omega)
section
variable {P:Program} {T e:TypeId} {i j:TI} {K:V→Prop} {blk off len cap k n' sz:Nat} {E:Option (TypeId×Nat)} {es:List (List C)} {s:S}
theorem m9 {a:Option Addr} (hT:ti P T=some i) (hk:i.kd=.slice e) (hK:K (.c (.lit (.int .i64 len)))):lC P T (.c (.ex (.slice a len cap))) K:=by
 obtain⟨kd,a1,a2,a3,a4,a5,a6⟩:=i;simp only at hk;subst hk
 simp only[lC,hT];exact hK
theorem zO {kd:IntKind} {n:Int} (hT:ti P T=some i) (hk:i.kd=.slice e) (hE:ti P e=some j) (hs:j.size=sz) (hz:sz≠0) (hn:n=(k:Nat)) (hl:k<len) (hK:K (.c (.ex (.pointer (some ⟨blk,off+k*sz,none⟩))))) :
 cC P T (.c (.ex (.slice (some ⟨blk,off,none⟩) len cap))) (.c (.lit (.int kd n))) K:=by
 obtain⟨kd',a1,a2,a3,a4,a5,a6⟩:=i;simp only at hk;subst hk
 subst hn;subst hs
 simp only[cC,hT,hE,iw]
 exact⟨⟨aI k,by omega,hz⟩,hK⟩
theorem ZD {f:Nat} {ag:Bool} (hT:ti P T=some i) (hf:i.flds[f]?=some (off,sz,ag)) (hz:sz≠0) (hK:K (.c (.ex (.pointer (some ⟨blk,k+off,none⟩))))):bj P T (.c (.ex (.pointer (some ⟨blk,k,none⟩)))) f K:=by
 simp only[bj,hT,hf]
 exact⟨hz,hK⟩
