/- Values without memory: how the conditions are computed: each law fires at a state that is written out, so that what follows stays as it is until its turn comes. -/
import Derived.Test.YtloppcgcepgbnaaGreatDoorVlFn
set_option linter.all false
namespace Go.Vl
open Go Go.RowKit
section
variable {P:Program} {G:Gl} {tr:List Nat} {fr:Nat→V} {bx:Nat→List V} {nb k0:Nat} {K:S→Prop} {KV:V→Prop} {Q:VE→S→Prop}
def Vg (P:Program) (G:Gl) (tr:List Nat) (ops:Array Oper) (r:List Oper) (K:S→Prop) (s:S):Prop:=gY P G tr ops r s K
def QU (P:Program) (G:Gl) (tr:List Nat) (k0:Nat) (b:Code) (Q:VE→S→Prop) (e:VE) (s:S):Prop:=match e with | .normal=>gZ P G tr k0 b Q s | e=>Q e s
def QV (id:Nat) (Q:VE→S→Prop) (e:VE) (s:S):Prop:=match e with | .exit i=>if i=id then Q .normal s else Q (.exit i) s | e=>Q e s
def zR (P:Program) (G:Gl) (tr:List Nat) (k0:Nat) (v:V) (c:Operand) (x y:Code) (Q:VE→S→Prop) (s:S):Prop:=match v with
 | .c (.lit (.bool p))=>(p=true→gZ P G tr k0 x Q (refine s c true))∧(p=false→gZ P G tr k0 y Q (refine s c false))
 |_=>False
def vgd (P:Program) (G:Gl) (tr:List Nat) (ops:Array Oper) (o:Oper) (r:List Oper) (K:S→Prop) (d:Option Tmp) (v:V) (want:Bool) (s:S):Prop:=match d with
 |some d=>match v with
  | .c (.lit (.bool p))=>(p=want→VStep P G tr o { s with fr:=up s.fr d (.c (.lit (.bool want))) } (Vg P G tr ops r K))∧
   (p=(!want)→gY P G tr ops r (({ s with fr:=up s.fr d (.c (.lit (.bool (!want)))) }:S).put o.dst .sk) K)
  | .sk=>gY P G tr ops r (s.put o.dst .sk) K
  |_=>False
 |none=>False
def Vh (s:S):Option Tmp→V
 |some d=>s.fr d
 |none=>.un
def fzK (P:Program) (G:Gl) (tr:List Nat) (k0:Nat) (id:Nat) (ops:Array Oper) (Q:VE→S→Prop) (s:S):Prop:=∃ s',S.Fz (k0) s' s∧vtw P G tr id ops s' (Q .normal)
def ak7 (P:Program) (G:Gl) (tr:List Nat) (ops:Array Oper) (K:S→Prop) (s:S):Prop:=gY P G tr ops ops.toList s K
theorem aa0 {ops:Array Oper}:ak7 P G tr ops K ⟨fr,bx,nb⟩=gY P G tr ops ops.toList ⟨fr,bx,nb⟩ K:=rfl
theorem aa1 {i:Nat}:UM tr i=tr.contains (2300000+i):=rfl
theorem Vi {i:Nat}:UM [] i=false:=rfl
theorem qM {i:Nat} {ops:Array Oper} {s:S} (hi:UM tr i=true) (h:GsK ops K s):spl tr i ops s K:=by
 unfold spl
 rw[if_pos hi]
 exact .inr (.inr (.inr h))
theorem MW {i:Nat} {ops:Array Oper} {d:Bool}:gZ P G tr k0 (.region i ops d) Q ⟨fr,bx,nb⟩=if L2 tr i then vpa P G tr i ops (Q .normal) ⟨fr,bx,nb⟩ else if UK tr i then fzK P G tr k0 i ops Q ⟨fr,bx,nb⟩ else if UM tr i then spl tr i ops ⟨fr,bx,nb⟩ (ak7 P G tr ops (Q .normal)) else gY P G tr ops ops.toList ⟨fr,bx,nb⟩ (Q .normal):=by
 show(if L2 tr i then _ else if UK tr i then _ else spl tr i ops ⟨fr,bx,nb⟩ _)=_
 congr 1
 congr 1
 unfold spl
 split<;>rfl
theorem Vj {i:Nat}:L2 [] i=false:=rfl
theorem aa2 {i:Nat}:L2 tr i=tr.contains (2850000+i):=rfl
theorem aa3 {i:Nat}:UK tr i=tr.contains (2600000+i):=rfl
theorem aa4 {a b:Code}:gZ P G tr k0 (.seq a b) Q ⟨fr,bx,nb⟩=gZ P G tr k0 a (QU P G tr k0 b Q) ⟨fr,bx,nb⟩:=rfl
theorem QW:gZ P G tr k0 .skip Q ⟨fr,bx,nb⟩=Q .normal ⟨fr,bx,nb⟩:=rfl
theorem aa5:gZ P G tr k0 .ret Q ⟨fr,bx,nb⟩=Q .ret ⟨fr,bx,nb⟩:=rfl
theorem Vk {i:Nat}:gZ P G tr k0 (.exit i) Q ⟨fr,bx,nb⟩=Q (.exit i) ⟨fr,bx,nb⟩:=rfl
theorem QX {a:Code}:gZ P G tr k0 (.scope a) Q ⟨fr,bx,nb⟩=gZ P G tr k0 a Q ⟨fr,bx,nb⟩:=rfl
theorem QY {i:Nat}:gZ P G tr k0 (.label i) Q ⟨fr,bx,nb⟩=Q .normal ⟨fr,bx,nb⟩:=rfl
theorem QZ {i:Nat} {a:Code}:gZ P G tr k0 (.block i a) Q ⟨fr,bx,nb⟩=gZ P G tr k0 a (QV i Q) ⟨fr,bx,nb⟩:=rfl
theorem Vm {c:Operand} {x y:Code}:gZ P G tr k0 (.cond c x y) Q ⟨fr,bx,nb⟩=zR P G tr k0 (ev G ⟨fr,bx,nb⟩ c) c x y Q ⟨fr,bx,nb⟩:=rfl
theorem DO {c:Operand} {x y:Code}:zR P G tr k0 (.c (.lit (.bool true))) c x y Q ⟨fr,bx,nb⟩=gZ P G tr k0 x Q (refine ⟨fr,bx,nb⟩ c true):=by simp[zR]
theorem BN {c:Operand} {x y:Code}:zR P G tr k0 (.c (.lit (.bool false))) c x y Q ⟨fr,bx,nb⟩=gZ P G tr k0 y Q (refine ⟨fr,bx,nb⟩ c false):=by simp[zR]
theorem aS {c:Operand} {x y:Code} {p:Bool} {s:S} (h1:p=true→gZ P G tr k0 x Q (refine s c true)) (h2:p=false→gZ P G tr k0 y Q (refine s c false)) :
 zR P G tr k0 (.c (.lit (.bool p))) c x y Q s:=⟨h1,h2⟩
theorem I9 {b:Code} {s:S}:QU P G tr k0 b Q .normal s=gZ P G tr k0 b Q s:=rfl
theorem Vn {b:Code} {s:S}:QU P G tr k0 b Q .ret s=Q .ret s:=rfl
theorem Q0 {b:Code} {s:S} {i:Nat}:QU P G tr k0 b Q (.exit i) s=Q (.exit i) s:=rfl
theorem Ja {id:Nat} {s:S}:QV id Q .normal s=Q .normal s:=rfl
theorem Vo {id:Nat} {s:S}:QV id Q .ret s=Q .ret s:=rfl
theorem Q1 {id i:Nat} {s:S}:QV id Q (.exit i) s=if i=id then Q .normal s else Q (.exit i) s:=rfl
theorem MX {t:Tmp} {p:Bool}:refine ⟨fr,bx,nb⟩ (.tmp t) p=⟨up fr t (.c (.lit (.bool p))),bx,nb⟩:=rfl
theorem aa6 {ops:Array Oper}:gY P G tr ops [] ⟨fr,bx,nb⟩ K=K ⟨fr,bx,nb⟩:=rfl
theorem agr {ops:Array Oper} {d:Option Tmp} {op:Op} {ty:TypeId} {pos:String} {af:Array Edge} {r:List Oper} :
 gY P G tr ops (⟨d,op,ty,pos,af,none⟩::r) ⟨fr,bx,nb⟩ K=VStep P G tr ⟨d,op,ty,pos,af,none⟩ ⟨fr,bx,nb⟩ (Vg P G tr ops r K):=rfl
theorem aa7 {ops:Array Oper} {d:Option Tmp} {op:Op} {ty:TypeId} {pos:String} {af:Array Edge} {j:Nat} {w:Bool} {r:List Oper} :
 gY P G tr ops (⟨d,op,ty,pos,af,some (j,w)⟩::r) ⟨fr,bx,nb⟩ K=
  vgd P G tr ops ⟨d,op,ty,pos,af,some (j,w)⟩ r K ((ops[j]?).bind (·.dst)) (Vh ⟨fr,bx,nb⟩ ((ops[j]?).bind (·.dst))) w ⟨fr,bx,nb⟩:=by
 simp only[gY,nC,vgd]
 cases hd:(ops[j]?).bind (·.dst) with
 |none=>rfl
 |some d=>rfl
theorem aa8 {ops:Array Oper} {o:Oper} {r:List Oper} {d:Tmp} {w:Bool}:vgd P G tr ops o r K (some d) (.c (.lit (.bool w))) w ⟨fr,bx,nb⟩=VStep P G tr o ⟨up fr d (.c (.lit (.bool w))),bx,nb⟩ (Vg P G tr ops r K):=by
 simp[vgd]
theorem ags {ops:Array Oper} {o:Oper} {r:List Oper} {d:Tmp}:vgd P G tr ops o r K (some d) (.c (.lit (.bool true))) false ⟨fr,bx,nb⟩=gY P G tr ops r ((⟨up fr d (.c (.lit (.bool true))),bx,nb⟩:S).put o.dst .sk) K:=by
 simp[vgd]
theorem agt {ops:Array Oper} {o:Oper} {r:List Oper} {d:Tmp}:vgd P G tr ops o r K (some d) (.c (.lit (.bool false))) true ⟨fr,bx,nb⟩=gY P G tr ops r ((⟨up fr d (.c (.lit (.bool false))),bx,nb⟩:S).put o.dst .sk) K:=by
 simp[vgd]
theorem agu {ops:Array Oper} {o:Oper} {r:List Oper} {d:Tmp} {w:Bool}:vgd P G tr ops o r K (some d) .sk w ⟨fr,bx,nb⟩=gY P G tr ops r ((⟨fr,bx,nb⟩:S).put o.dst .sk) K:=rfl
theorem fA {ops:Array Oper} {o:Oper} {r:List Oper} {d:Tmp} {w p:Bool} {s:S} (h1:p=w→VStep P G tr o { s with fr:=up s.fr d (.c (.lit (.bool w))) } (Vg P G tr ops r K))
 (h2:p=(!w)→gY P G tr ops r (({ s with fr:=up s.fr d (.c (.lit (.bool (!w)))) }:S).put o.dst .sk) K):vgd P G tr ops o r K (some d) (.c (.lit (.bool p))) w s:=⟨h1,h2⟩
theorem Jb {d:Tmp}:Vh ⟨fr,bx,nb⟩ (some d)=fr d:=rfl
theorem aa9 {ops:Array Oper} {r:List Oper}:Vg P G tr ops r K ⟨fr,bx,nb⟩=gY P G tr ops r ⟨fr,bx,nb⟩ K:=rfl
theorem Vp {d:Nat} {v:V}:(⟨fr,bx,nb⟩:S).put (some d) v=⟨up fr d v,bx,nb⟩:=rfl
theorem Vq {v:V}:(⟨fr,bx,nb⟩:S).put none v=⟨fr,bx,nb⟩:=rfl
section
variable {d:Nat} {dO:Option Tmp} {t:Tmp} {ty T:TypeId} {pos:String} {af:Array Edge} {g:Option (Nat×Bool)}
theorem aba:VStep P G tr ⟨some d,.move (.tmp t),ty,pos,af,g⟩ ⟨fr,bx,nb⟩ K=if tr.contains d then K (((⟨fr,bx,nb⟩:S).use (some t)).put (some d) (fr t)) else K ⟨up fr d (fr t).fz,bx,nb⟩:=by
 simp only[VStep,VYK,UF,ev]
 split
 ·rename_i h;simp only[S.after,bU,UF,h,dn]
 ·rename_i h;simp only[S.after,bU,UF,h];rfl
theorem DT {v:Value}:VStep P G tr ⟨some d,.move (.const v),ty,pos,af,g⟩ ⟨fr,bx,nb⟩ K=if tr.contains d then K ⟨up fr d (mN v),bx,nb⟩ else K ⟨up fr d (mN v).fz,bx,nb⟩:=rfl
theorem Q2:VStep P G tr ⟨some d,.assign (.tmp t),ty,pos,af,g⟩ ⟨fr,bx,nb⟩ K=K (((⟨fr,bx,nb⟩:S).use (some t)).put (some d) (fr t)):=rfl
theorem Aq {v:Value}:VStep P G tr ⟨some d,.assign (.const v),ty,pos,af,g⟩ ⟨fr,bx,nb⟩ K=K ⟨up fr d (mN v),bx,nb⟩:=rfl
def Vr (c a b:V) (K:V→Prop):Prop:=match c with
 | .c (.lit (.bool p))=>K (if p then a.fz else b.fz)
 |_=>False
def lM (dO:Option Tmp) (s:S) (K:S→Prop) (v:V):Prop:=K (s.put dO v)
theorem abb {v:V}:lM (some d) ⟨fr,bx,nb⟩ K v=K ⟨up fr d v,bx,nb⟩:=rfl
theorem Q7 {v:V}:lM none ⟨fr,bx,nb⟩ K v=K ⟨fr,bx,nb⟩:=rfl
theorem Vs {c a b:Operand}:VStep P G tr ⟨dO,.pick c a b,ty,pos,af,g⟩ ⟨fr,bx,nb⟩ K=Vr (ev G ⟨fr,bx,nb⟩ c) (ev G ⟨fr,bx,nb⟩ a) (ev G ⟨fr,bx,nb⟩ b) (lM dO ⟨fr,bx,nb⟩ K):=rfl
theorem MY {a b:V}:Vr (.c (.lit (.bool true))) a b KV=KV a.fz:=rfl
theorem Jc {a b:V}:Vr (.c (.lit (.bool false))) a b KV=KV b.fz:=rfl
theorem agv {op:BinOp} {x:Operand} {t:Tmp} {yT:TypeId}:VStep P G tr ⟨dO,.binOp op T x (.tmp t) yT,ty,pos,af,g⟩ ⟨fr,bx,nb⟩ K=jX P op T (ev G ⟨fr,bx,nb⟩ x) (fr t) (lM dO ⟨fr,bx,nb⟩ K):=rfl
theorem Vt {op:BinOp} {x:Operand} {k:IntKind} {m:Int} {yT:TypeId}:VStep P G tr ⟨dO,.binOp op T x (.const (.int k m)) yT,ty,pos,af,g⟩ ⟨fr,bx,nb⟩ K=jX P op T (ev G ⟨fr,bx,nb⟩ x) (.c (.lit (.int k m))) (lM dO ⟨fr,bx,nb⟩ K):=rfl
theorem Vu {op:BinOp} {x:Operand} {b:Bool} {yT:TypeId}:VStep P G tr ⟨dO,.binOp op T x (.const (.bool b)) yT,ty,pos,af,g⟩ ⟨fr,bx,nb⟩ K=jX P op T (ev G ⟨fr,bx,nb⟩ x) (.c (.lit (.bool b))) (lM dO ⟨fr,bx,nb⟩ K):=rfl
theorem Vv {op:BinOp} {x:Operand} {b:ByteArray} {yT:TypeId}:VStep P G tr ⟨dO,.binOp op T x (.const (.string b)) yT,ty,pos,af,g⟩ ⟨fr,bx,nb⟩ K=jX P op T (ev G ⟨fr,bx,nb⟩ x) (.c (.lit (.string b))) (lM dO ⟨fr,bx,nb⟩ K):=rfl
theorem MZ {op:BinOp} {x:Operand} {yT:TypeId}:VStep P G tr ⟨dO,.binOp op T x (.const (.slice none 0 0)) yT,ty,pos,af,g⟩ ⟨fr,bx,nb⟩ K=H8 P op T (ev G ⟨fr,bx,nb⟩ x) (lM dO ⟨fr,bx,nb⟩ K):=rfl
theorem Q8 {op:BinOp} {x:Operand} {yT:TypeId}:VStep P G tr ⟨dO,.binOp op T x (.const (.pointer none)) yT,ty,pos,af,g⟩ ⟨fr,bx,nb⟩ K=rf P op T false (ev G ⟨fr,bx,nb⟩ x) (lM dO ⟨fr,bx,nb⟩ K):=rfl
theorem Q9 {op:BinOp} {x:Operand} {yT:TypeId}:VStep P G tr ⟨dO,.binOp op T x (.const .nilFunc) yT,ty,pos,af,g⟩ ⟨fr,bx,nb⟩ K=rf P op T true (ev G ⟨fr,bx,nb⟩ x) (lM dO ⟨fr,bx,nb⟩ K):=rfl
theorem Jd {fn b:Bool} {x:V} (h:OQ fn x=some b) (hT:aaB P T fn=true):rf P .eql T fn x KV=KV (.c (.lit (.bool b))):=by simp only[rf,h,hT,ia]
theorem Je {fn b:Bool} {x:V} (h:OQ fn x=some b) (hT:aaB P T fn=true):rf P .neq T fn x KV=KV (.c (.lit (.bool (!b)))):=by simp only[rf,h,hT,ia]
theorem ak8 {op:UnOp} {x:Operand}:VStep P G tr ⟨dO,.unOp op T x,ty,pos,af,g⟩ ⟨fr,bx,nb⟩ K=vun op (ev G ⟨fr,bx,nb⟩ x) (lM dO ⟨fr,bx,nb⟩ K):=rfl
def zK (dO:Option Tmp) (s:S) (K:S→Prop) (v:V):Prop:=K (s.put dO v)
theorem ak9 {v:V}:zK dO ⟨fr,bx,nb⟩ K v=K ((⟨fr,bx,nb⟩:S).put dO v):=rfl
theorem abc:isZ [] dO=false:=by cases dO<;>rfl
theorem Vw:isZ tr (some d)=tr.contains (2500000+d):=rfl
theorem Vx:isZ tr none=false:=rfl
theorem abd {x:Operand}:VStep P G tr ⟨dO,.load T x,ty,pos,af,g⟩ ⟨fr,bx,nb⟩ K=
 if isZ tr dO then nB P T ⟨fr,bx,nb⟩ (ev G ⟨fr,bx,nb⟩ x) (zK dO ⟨fr,bx,nb⟩ K) else oN tr dO (ev G ⟨fr,bx,nb⟩ x)=true∧cK P T ⟨fr,bx,nb⟩ (ev G ⟨fr,bx,nb⟩ x) (lM dO ⟨fr,bx,nb⟩ K):=rfl
theorem Rb {t:Option Tmp} {v:V}:oN [] t v=true:=by
 cases t with
 |none=>cases v<;>rfl
 |some t=>
  cases v with
  |c x=>cases x<;>rfl
  |_=>rfl
theorem M3 {v:V}:oN tr none v=true:=by cases v<;>rfl
theorem Vy {t b k:Nat}:oN tr (some t) (.bp b k)=(!tr.contains (200000+t)||(decide (b<100)&&tr.contains (300000+t*100+b))):=rfl
theorem abe {t:Nat} {cs:List C} {k:Nat}:oN tr (some t) (.c (.rp cs k))=true:=rfl
theorem Vz {t:Nat} {v:Value}:oN tr (some t) (.c (.ex v))=!tr.contains (200000+t):=rfl
theorem agw {t:Tmp}:LY (.tmp t)=some t:=rfl
theorem GP {x:Operand} {f:Nat}:VStep P G tr ⟨dO,.fieldAddr T x f,ty,pos,af,g⟩ ⟨fr,bx,nb⟩ K=aM P T (ev G ⟨fr,bx,nb⟩ x) f (lM dO ⟨fr,bx,nb⟩ K):=rfl
theorem VA {x:Operand} {f:Nat}:VStep P G tr ⟨dO,.field T x f,ty,pos,af,g⟩ ⟨fr,bx,nb⟩ K=rT P T (ev G ⟨fr,bx,nb⟩ x) f (lM dO ⟨fr,bx,nb⟩ K):=rfl
theorem GQ {x i:Operand}:VStep P G tr ⟨dO,.indexAddr T x i,ty,pos,af,g⟩ ⟨fr,bx,nb⟩ K=dS P T (ev G ⟨fr,bx,nb⟩ x).fz (ev G ⟨fr,bx,nb⟩ i) (lM dO ⟨fr,bx,nb⟩ K):=rfl
theorem VB {x i:Operand}:VStep P G tr ⟨dO,.index T x i,ty,pos,af,g⟩ ⟨fr,bx,nb⟩ K=mb P T (ev G ⟨fr,bx,nb⟩ x) (ev G ⟨fr,bx,nb⟩ i) (lM dO ⟨fr,bx,nb⟩ K):=rfl
theorem VC {x:Operand} {lo hi mx:Option Operand}:VStep P G tr ⟨dO,.slice T x lo hi mx,ty,pos,af,g⟩ ⟨fr,bx,nb⟩ K=
 jl P T (ev G ⟨fr,bx,nb⟩ x).fz (lo.map (ev G ⟨fr,bx,nb⟩)) (hi.map (ev G ⟨fr,bx,nb⟩)) (mx.map (ev G ⟨fr,bx,nb⟩)) (lM dO ⟨fr,bx,nb⟩ K):=rfl
theorem M4 {x:Operand} {U:TypeId}:VStep P G tr ⟨dO,.convert T U x,ty,pos,af,g⟩ ⟨fr,bx,nb⟩ K=
 if nT tr dO then FO P ⟨fr,bx,nb⟩ dO T U K (ev G ⟨fr,bx,nb⟩ x) else iW P T U (vw ⟨fr,bx,nb⟩ (ev G ⟨fr,bx,nb⟩ x)).fz (lM dO ⟨fr,bx,nb⟩ K):=rfl
theorem agx {x:Operand}:VStep P G tr ⟨dO,.sliceToArrayPointer T x,ty,pos,af,g⟩ ⟨fr,bx,nb⟩ K=H6 P T (ev G ⟨fr,bx,nb⟩ x) (lM dO ⟨fr,bx,nb⟩ K):=rfl
def AQ (x:V) (K:V→Prop):Prop:=match x with
 | .bp i o=>K (.bp i o)
 | .c (.rp cs k)=>K (.c (.rp cs k))
 | .c (.ex (.pointer (some ad)))=>K (.c (.ex (.pointer (some ad))))
 |_=>False
theorem Jf {x:Operand}:VStep P G tr ⟨dO,.nilCheck x,ty,pos,af,g⟩ ⟨fr,bx,nb⟩ K=AQ (ev G ⟨fr,bx,nb⟩ x) (lM dO ⟨fr,bx,nb⟩ K):=rfl
theorem Re {i o:Nat}:AQ (.bp i o) KV=KV (.bp i o):=rfl
theorem Rf {cs:List C} {k:Nat}:AQ (.c (.rp cs k)) KV=KV (.c (.rp cs k)):=rfl
theorem VD {parts:Array (Nat×Operand)}:VStep P G tr ⟨dO,.build T parts,ty,pos,af,g⟩ ⟨fr,bx,nb⟩ K=
 if isZ tr dO then jN P T (parts.toList.map fun p=>(p.1,ev G ⟨fr,bx,nb⟩ p.2)) (zK dO ⟨fr,bx,nb⟩ K) else iD P T (parts.toList.map fun p=>(p.1,ev G ⟨fr,bx,nb⟩ p.2)) (lM dO ⟨fr,bx,nb⟩ K):=rfl
theorem DU {len:Nat} {parts:Array (Nat×Operand)}:VStep P G tr ⟨dO,.buildSlice T len parts,ty,pos,af,g⟩ ⟨fr,bx,nb⟩ K=
 if nT tr dO then cw P T len (parts.toList.map fun p=>(p.1,ev G ⟨fr,bx,nb⟩ p.2)) (UG ⟨fr,bx,nb⟩ dO len len K)
 else if LW tr dO then(xm P T len (parts.toList.map fun p=>(p.1,ev G ⟨fr,bx,nb⟩ p.2)) ⟨fr,bx,nb⟩ dO K∨cw P T len (parts.toList.map fun p=>(p.1,ev G ⟨fr,bx,nb⟩ p.2)) (exK (lM dO ⟨fr,bx,nb⟩ K)))
 else cw P T len (parts.toList.map fun p=>(p.1,ev G ⟨fr,bx,nb⟩ p.2)) (lM dO ⟨fr,bx,nb⟩ K):=rfl
theorem abf {e:TypeId} {sz n m:Nat} {es:List (List C)}:UG ⟨fr,bx,nb⟩ dO n m K (.ow (some (e,sz)) es)=K ((⟨fr,up bx nb (es.flatten.map .c),nb+1⟩:S).put dO (.ms nb 0 n m sz)):=rfl
theorem Rh:nT [] dO=false:=by cases dO<;>rfl
theorem Ri:xj [] dO=false:=rfl
theorem VF:Qq [] dO=false:=rfl
theorem VG:LW [] dO=false:=by cases dO<;>rfl
theorem Rk:LW tr (some d)=tr.contains (1400000+d):=rfl
theorem Rl:LW tr none=false:=rfl
theorem VH:FM [] dO=false:=rfl
theorem Rm:FM tr (some d)=tr.contains (1100000+d):=rfl
theorem Rn:FM tr none=tr.contains 1199999:=rfl
theorem ala {s:S} {t:Tmp}:evX G s (.tmp t)=s.fr t:=rfl
theorem alb {s:S} {f:FuncId}:evX G s (.func f)=.c (.fn (.func f) [] []):=rfl
theorem abg {s:S}:evX G s (.const (.slice none 0 0))=.c (.ex (.slice none 0 0)):=rfl
theorem VI:H7 [] dO=false:=rfl
theorem Ro:H7 tr (some d)=tr.contains (1500000+d):=rfl
theorem Rq:H7 tr none=tr.contains 1599999:=rfl
theorem M5:nT tr (some d)=tr.contains (2000000+d):=rfl
theorem M6:nT tr none=false:=rfl
theorem M7:xj tr (some d)=tr.contains (1000000+d):=rfl
theorem M8:xj tr none=tr.contains 999999:=rfl
theorem Rr {d:Tmp}:Qq tr (some d)=tr.contains (1900000+d):=rfl
theorem Rt:Qq tr none=tr.contains 1999999:=rfl
theorem Rw:Ds tr (some d)=tr.contains (400000+d):=rfl
theorem Rx:Ds tr none=tr.contains 399999:=rfl
theorem agy {s:S} {v:V}:lcK tr dO s K ⟨fr,bx,nb⟩ v=(agn tr dO s ⟨fr,bx,nb⟩∧K ((⟨fr,bx,nb⟩:S).put dO v)):=rfl
def mkK (dO:Option Tmp) (s:S) (K:S→Prop) (n m sz:Nat) (z:List C):Prop:=K ({ s with bx:=up s.bx s.nb ((List.replicate m z).flatten.map .c),nb:=s.nb+1 }.put dO (.ms s.nb 0 n m sz))
theorem GR {l c:Operand}:VStep P G tr ⟨dO,.makeSlice T l c,ty,pos,af,g⟩ ⟨fr,bx,nb⟩ K=re P T (ev G ⟨fr,bx,nb⟩ l) (ev G ⟨fr,bx,nb⟩ c) (mkK dO ⟨fr,bx,nb⟩ K):=rfl
theorem agz {n m sz:Nat} {z:List C}:mkK dO ⟨fr,bx,nb⟩ K n m sz z=K ((⟨fr,up bx nb ((List.replicate m z).flatten.map .c),nb+1⟩:S).put dO (.ms nb 0 n m sz)):=rfl
def abh (x:V) (i:Nat) (K:V→Prop):Prop:=match x with
 | .tup ds=>match ds[i]? with
  |some d=>K d
  |none=>False
 |_=>False
theorem M9 {x:Operand} {i:Nat}:VStep P G tr ⟨dO,.extract x i,ty,pos,af,g⟩ ⟨fr,bx,nb⟩ K=abh (ev G ⟨fr,bx,nb⟩ x) i (lM dO ⟨fr,bx,nb⟩ K):=rfl
theorem Ry {v:V} {ds:List V}:abh (.tup (v::ds)) 0 KV=KV v:=rfl
theorem VJ {v u:V} {ds:List V}:abh (.tup (v::u::ds)) 1 KV=KV u:=rfl
theorem VK {v u x:V} {ds:List V}:abh (.tup (v::u::x::ds)) 2 KV=KV x:=rfl
theorem Jg {f:Fn} {a b:Array Operand}:VStep P G tr ⟨dO,.makeFunc f a b,ty,pos,af,g⟩ ⟨fr,bx,nb⟩ K=
 ((((a.toList.map (ev G ⟨fr,bx,nb⟩)).all V.isPR=true∧(b.toList.map (ev G ⟨fr,bx,nb⟩)).all V.isPR=true))∧lM dO ⟨fr,bx,nb⟩ K (.clo f (a.toList.map (ev G ⟨fr,bx,nb⟩)) (b.toList.map (ev G ⟨fr,bx,nb⟩)))):=rfl
theorem abi {v:V}:Dt dO K ⟨fr,bx,nb⟩ v=K ((⟨fr,bx,nb⟩:S).put dO v):=rfl
theorem abj {f:Operand} {args:Array Operand} {ts:Array TypeId}:VStep P G tr ⟨dO,.call ⟨.value f,args,ts⟩,ty,pos,af,g⟩ ⟨fr,bx,nb⟩ K=
 if FM tr dO then vZ P G ⟨fr,bx,nb⟩ (ev G ⟨fr,bx,nb⟩ f) (args.toList.map (ev G ⟨fr,bx,nb⟩)) (Dt dO K) else
 if H7 tr dO then kZ P G ⟨fr,bx,nb⟩ (ev G ⟨fr,bx,nb⟩ f) (args.toList.map (evX G ⟨fr,bx,nb⟩)) (Dt dO K) else
 if xj tr dO then vcallB P G ⟨fr,bx,nb⟩ (ev G ⟨fr,bx,nb⟩ f) (args.toList.map (ev G ⟨fr,bx,nb⟩)) (if Ds tr dO then lcK tr dO ⟨fr,bx,nb⟩ K else Dt dO K)
 else if Qq tr dO then pz P G ⟨fr,bx,nb⟩ (ev G ⟨fr,bx,nb⟩ f) (args.toList.map (ev G ⟨fr,bx,nb⟩)) (lM dO ⟨fr,bx,nb⟩ K)
 else rb P G ⟨fr,bx,nb⟩ (ev G ⟨fr,bx,nb⟩ f) (args.toList.map (ev G ⟨fr,bx,nb⟩)) (lM dO ⟨fr,bx,nb⟩ K):=rfl
theorem agA {args:Array Operand} {ts:Array TypeId}:VStep P G tr ⟨dO,.call ⟨.builtin .len,args,ts⟩,ty,pos,af,g⟩ ⟨fr,bx,nb⟩ K=
 if LX tr dO then H9 P ⟨fr,bx,nb⟩ (lM dO ⟨fr,bx,nb⟩ K) ts.toList (args.toList.map (ev G ⟨fr,bx,nb⟩)) else eX P .len ts.toList (args.toList.map (ev G ⟨fr,bx,nb⟩)) (lM dO ⟨fr,bx,nb⟩ K):=rfl
theorem VL:LX [] dO=false:=by cases dO<;>rfl
theorem Rz:LX tr (some d)=tr.contains (1600000+d):=rfl
theorem RA:LX tr none=false:=rfl
theorem agB {args:Array Operand} {ts:Array TypeId}:VStep P G tr ⟨dO,.call ⟨.builtin .min,args,ts⟩,ty,pos,af,g⟩ ⟨fr,bx,nb⟩ K=
 A6 false (args.toList.map (ev G ⟨fr,bx,nb⟩)) (lM dO ⟨fr,bx,nb⟩ K):=rfl
theorem agC {args:Array Operand} {ts:Array TypeId}:VStep P G tr ⟨dO,.call ⟨.builtin .max,args,ts⟩,ty,pos,af,g⟩ ⟨fr,bx,nb⟩ K=
 A6 true (args.toList.map (ev G ⟨fr,bx,nb⟩)) (lM dO ⟨fr,bx,nb⟩ K):=rfl
def VM (t:Option Tmp) (dO:Option Tmp) (s:S) (K:S→Prop) (v:V):Prop:=K ((s.use t).put dO v)
def VN:List Operand→Option Tmp
 | .tmp t::_=>some t
 |_=>none
theorem RB {args:Array Operand} {T U:TypeId}:VStep P G tr ⟨dO,.call ⟨.builtin .append,args,#[T,U]⟩,ty,pos,af,g⟩ ⟨fr,bx,nb⟩ K=
 if nT tr dO then xl P ⟨fr,bx,nb⟩ dO K [T,U] (args.toList.map fun x=>vw ⟨fr,bx,nb⟩ (ev G ⟨fr,bx,nb⟩ x))
 else if v8 tr dO then fy P ⟨fr,bx,nb⟩ (Dt dO K) [T,U] (args.toList.map (ev G ⟨fr,bx,nb⟩))
 else if A7 tr dO then(if v7 tr dO then xi P G ⟨fr,bx,nb⟩ dO [T,U] args.toList (VM (VN args.toList) dO ⟨fr,bx,nb⟩ K) else jZ P G ⟨fr,bx,nb⟩ dO [T,U] args.toList (VM (VN args.toList) dO ⟨fr,bx,nb⟩ K))
 else eX P .append [T,U] (args.toList.map fun x=>vw ⟨fr,bx,nb⟩ (ev G ⟨fr,bx,nb⟩ x)) (VM (VN args.toList) dO ⟨fr,bx,nb⟩ K):=rfl
theorem fh:A7 tr (some d)=tr.contains (2400000+d):=rfl
theorem RE:v7 tr (some d)=tr.contains (2450000+d):=rfl
theorem VO:v7 [] dO=false:=by cases dO<;>rfl
theorem Na:v8 [] dO=false:=by cases dO<;>rfl
theorem Jh:v8 tr (some d)=tr.contains (2700000+d):=rfl
theorem Ji:v8 tr none=false:=rfl
theorem VP {args:Array Operand} {T:TypeId}:VStep P G tr ⟨dO,.call ⟨.builtin .clear,args,#[T]⟩,ty,pos,af,g⟩ ⟨fr,bx,nb⟩ K=ju P ⟨fr,bx,nb⟩ (fun s'=>K (s'.put dO .un)) [T] (args.toList.map (ev G ⟨fr,bx,nb⟩)):=rfl
theorem abk {args:Array Operand} {T U:TypeId}:VStep P G tr ⟨dO,.call ⟨.builtin .copy,args,#[T,U]⟩,ty,pos,af,g⟩ ⟨fr,bx,nb⟩ K=nz P ⟨fr,bx,nb⟩ (Dt dO K) [T,U] (args.toList.map (ev G ⟨fr,bx,nb⟩)):=rfl
theorem Nb {T:TypeId} {es:List (List C)} {y:V}:xl P ⟨fr,bx,nb⟩ dO K [T,T] [.ow none es,y]=eR P T (.ow none es) y.fz (aaA ⟨fr,bx,nb⟩ dO K):=by simp[xl]
theorem abl {e:TypeId} {sz:Nat} {es:List (List C)}:aaA ⟨fr,bx,nb⟩ dO K (.ow (some (e,sz)) es)=K ((⟨fr,up bx nb (es.flatten.map .c),nb+1⟩:S).put dO (.ms nb 0 es.length es.length sz)):=rfl
theorem VQ {v:V}:VM (some t) (some d) ⟨fr,bx,nb⟩ K v=K (((⟨fr,bx,nb⟩:S).use (some t)).put (some d) v):=rfl
theorem RF {v:V}:VM none (some d) ⟨fr,bx,nb⟩ K v=K ⟨up fr d v,bx,nb⟩:=rfl
theorem VR:VStep P G tr ⟨some d,.alloc T,ty,pos,af,g⟩ ⟨fr,bx,nb⟩ K=match ti P T with
 |some { zero:=some z,.. }=>K ⟨up fr d (.bp nb 0),up bx nb (z.map ny),nb+1⟩
 |_=>False:=rfl
def sd (t:Option Tmp) (d:Nat) (v:V) (s:S) (K:S→Prop):Prop:=match v.bcells with
 |some cs=>K ((let s':=s.use t;{ s' with bx:=up s'.bx s'.nb cs,nb:=s'.nb+1 }:S).put (some d) (.bp s.nb 0))
 |none=>False
theorem agD:VStep P G tr ⟨some d,.box T (.tmp t),ty,pos,af,g⟩ ⟨fr,bx,nb⟩ K=sd (some t) d (fr t) ⟨fr,bx,nb⟩ K:=rfl
theorem GU {v:Value}:VStep P G tr ⟨some d,.box T (.const v),ty,pos,af,g⟩ ⟨fr,bx,nb⟩ K=sd none d (mN v) ⟨fr,bx,nb⟩ K:=rfl
def oe (i:Option TI) (t:Option Tmp) (dO:Option Tmp) (p v:V) (s:S) (K:S→Prop):Prop:=match i,p,v.bcells with
 |some i,.bp b k,some cs=>(b<s.nb∧cs.length=i.size∧k+i.size≤(s.bx b).length∧bY (s.bx b)=false)∧
   K ((let s':=s.use t;{ s' with bx:=up s'.bx b (eS (s'.bx b) k cs) }:S).put dO .sk)
 |some i,.c (.ex (.pointer (some ⟨blk,j,none⟩))),_=>(∃ (b k len cap:Nat) (E:Option (TypeId×Nat)) (es:List (List C)) (r:Nat) (e:List C) (c:C),(i.size=1∧b<s.nb∧bY (s.bx b)=false∧(s.bx b)[k]?=some (V.hh (some (.slice (some ⟨blk,0,none⟩) len cap)) E (es++[e]))∧
   (es.flatten.length+r=j∧r<e.length)∧v.asC=some c)∧
   K ((let s':=s.use t;{ s' with bx:=up s'.bx b ((s'.bx b).set k (.hh (some (.slice (some ⟨blk,0,none⟩) len cap)) E (es++[e.set r c]))) }:S).put dO .sk))∨
   ago s.bx s.nb i blk j v (fun bx=>K ((let s':=s.use t;{ s' with bx:=bx }:S).put dO .sk))
 |_,_,_=>False
theorem VS {p:Operand}:VStep P G tr ⟨dO,.store T p (.tmp t),ty,pos,af,g⟩ ⟨fr,bx,nb⟩ K=(oN tr (LY p) (ev G ⟨fr,bx,nb⟩ p)=true∧oe (ti P T) (some t) dO (ev G ⟨fr,bx,nb⟩ p) (fr t) ⟨fr,bx,nb⟩ K):=rfl
theorem BO {p:Operand} {v:Value}:VStep P G tr ⟨dO,.store T p (.const v),ty,pos,af,g⟩ ⟨fr,bx,nb⟩ K=(oN tr (LY p) (ev G ⟨fr,bx,nb⟩ p)=true∧oe (ti P T) none dO (ev G ⟨fr,bx,nb⟩ p) (mN v) ⟨fr,bx,nb⟩ K):=rfl
theorem iE:(⟨fr,bx,nb⟩:S).use (some t)=if(fr t).isOw=true then⟨up fr t .un,bx,nb⟩ else⟨fr,bx,nb⟩:=rfl
theorem Jj:(⟨fr,bx,nb⟩:S).use none=⟨fr,bx,nb⟩:=rfl
theorem agE:ev G ⟨fr,bx,nb⟩ (.tmp t)=fr t:=rfl
theorem VT {v:Value}:ev G ⟨fr,bx,nb⟩ (.const v)=mN v:=rfl
theorem abm {f:FuncId}:ev G ⟨fr,bx,nb⟩ (.func f)=.c (.fn (.func f) [] []):=rfl
theorem Nc {k:IntKind} {n:Int}:mN (.int k n)=.c (.lit (.int k n)):=rfl
theorem Jk {b:Bool}:mN (.bool b)=.c (.lit (.bool b)):=rfl
theorem DV {b:ByteArray}:mN (.string b)=.c (.lit (.string b)):=rfl
theorem Nh {l:List Value}:mN (.agg l.toArray)=if l.all qh then .agg (l.map constC) else .un:=rfl
theorem Jl {k:IntKind} {n:Int}:qh (.int k n)=true:=rfl
theorem GW {b:Bool}:qh (.bool b)=true:=rfl
theorem Jm {b:ByteArray}:qh (.string b)=true:=rfl
theorem Jn:qh (.slice none 0 0)=true:=rfl
theorem Ni {k:IntKind} {n:Int}:constC (.int k n)=.lit (.int k n):=rfl
theorem Jo {b:Bool}:constC (.bool b)=.lit (.bool b):=rfl
theorem Nj {b:ByteArray}:constC (.string b)=.lit (.string b):=rfl
theorem Nk:constC (.slice none 0 0)=.sl []:=rfl
theorem Nl:mN (.slice none 0 0)=.ow none []:=rfl
theorem aor {s:S} {x:C}:vw s (.c x)=.c x:=rfl
theorem agF {s:S} {E:Option (TypeId×Nat)} {es:List (List C)}:vw s (.ow E es)=.ow E es:=rfl
section
variable {k:IntKind} {a b:Int} {op:BinOp} {T:TypeId} {t:Tmp}
theorem VU:jX P op T (.c (.lit (.int k a))) (.c (.lit (.int k b))) KV=mO op k a b KV:=by
 simp only[jX]
 split<;>rfl
theorem Jp {k':IntKind}:jX P .shr T (.c (.lit (.int k a))) (.c (.lit (.int k' b))) KV=mO .shr k a b KV:=rfl
theorem VV {a b:ByteArray}:jX P op T (.c (.lit (.string a))) (.c (.lit (.string b))) KV=FK op a b KV:=rfl
def agG (i:Option TI) (op:BinOp) (a b:Bool) (K:V→Prop):Prop:=match i with
 |some { kd:=.bool,.. }=>match op with
  | .eql=>K (.c (.lit (.bool (a==b))))
  | .neq=>K (.c (.lit (.bool (!(a==b)))))
  |_=>False
 |_=>False
theorem EC {a b:Bool}:jX P op T (.c (.lit (.bool a))) (.c (.lit (.bool b))) KV=agG (ti P T) op a b KV:=rfl
def Jq (i:Option TI) (op:BinOp) (xs ys:List C) (K:V→Prop):Prop:=match i with
 |some { eqs:=some ks,agg:=true,.. }=>match iC ks xs ys with
  |some r=>(xs.length=ks.length∧ys.length=ks.length)∧match op with
   | .eql=>K (.c (.lit (.bool r)))
   | .neq=>K (.c (.lit (.bool (!r))))
   |_=>False
  |none=>False
 |_=>False
theorem Jr {xs ys:List C}:jX P op T (.agg xs) (.agg ys) KV=Jq (ti P T) op xs ys KV:=rfl
theorem VW:mO .add k a b KV=KV (.c (.lit (.int k (k.wrap (a+b))))):=rfl
theorem VX:mO .sub k a b KV=KV (.c (.lit (.int k (k.wrap (a - b))))):=rfl
theorem VY:mO .mul k a b KV=KV (.c (.lit (.int k (k.wrap (a*b))))):=rfl
theorem VZ:mO .eql k a b KV=KV (.c (.lit (.bool (decide (a=b))))):=rfl
theorem V0:mO .neq k a b KV=KV (.c (.lit (.bool (!decide (a=b))))):=rfl
theorem V1:mO .lss k a b KV=KV (.c (.lit (.bool (decide (a<b))))):=rfl
theorem V2:mO .leq k a b KV=KV (.c (.lit (.bool (decide (a≤b))))):=rfl
theorem V3:mO .gtr k a b KV=KV (.c (.lit (.bool (decide (b<a))))):=rfl
theorem V4:mO .geq k a b KV=KV (.c (.lit (.bool (decide (b≤a))))):=rfl
theorem alc {x:C}:(V.c x).ldv=.c x:=rfl
theorem abn {cs:List C}:(V.agg cs).ldv=.agg cs:=rfl
theorem V5 {es:List (List C)}:(V.ow none es).ldv=.ow none es:=rfl
theorem V6 {E:TypeId×Nat} {es:List (List C)}:(V.ow (some E) es).ldv=.c (.sl es):=rfl
theorem agH {i o:Nat}:(V.bp i o).ldv=.bp i o:=rfl
theorem O2 {f:Fn} {x y:List V}:(V.clo f x y).ldv=.clo f x y:=rfl
theorem agI {i o l c z:Nat}:(V.ms i o l c z).ldv=.ms i o l c z:=rfl
theorem agJ {i:Nat}:(V.mr i).ldv=.mr i:=rfl
theorem agK {i:Nat}:(V.yl i).ldv=.yl i:=rfl
theorem aos {x:C}:(V.c x).fz=.c x:=rfl
theorem agL {cs:List C}:(V.agg cs).fz=.agg cs:=rfl
theorem ald {E:Option (TypeId×Nat)} {es:List (List C)}:(V.ow E es).fz=.c (.sl es):=rfl
theorem ale {i o:Nat}:(V.bp i o).fz=.bp i o:=rfl
theorem agM {f:Fn} {x y:List V}:(V.clo f x y).fz=.clo f x y:=rfl
theorem alf {i o l c z:Nat}:(V.ms i o l c z).fz=.ms i o l c z:=rfl
theorem agN {x:List V}:(V.mag x).fz=.mag x:=rfl
theorem abo {i o l c z:Nat}:(V.ms i o l c z).isOw=false:=rfl
theorem V7 {x:List V}:(V.mag x).isOw=false:=rfl
theorem agO {x:List V}:(V.tup x).fz=.tup x:=rfl
theorem agP {x:C}:(V.c x).isOw=false:=rfl
theorem V8 {cs:List C}:(V.agg cs).isOw=false:=rfl
theorem abp {E:Option (TypeId×Nat)} {es:List (List C)}:(V.ow E es).isOw=true:=rfl
theorem abq {i o:Nat}:(V.bp i o).isOw=false:=rfl
theorem V9 {f:Fn} {x y:List V}:(V.clo f x y).isOw=false:=rfl
theorem Wa {x:List V}:(V.tup x).isOw=false:=rfl
theorem abr:V.sk.isOw=false:=rfl
def frm:Nat→List V→Nat→V
 |_,[]=>fun _=>.un
 |i,v::r=>up (frm (i+1) r) i v
theorem fO {i:Nat}:frm i []=fun _=>.un:=rfl
theorem eY {i:Nat} {v:V} {r:List V}:frm i (v::r)=up (frm (i+1) r) i v:=rfl
theorem O3:∀ (l:List V) (i j:Nat),frm i l j=if i≤j then l.getD (j - i) .un else .un
 |[],i,j=>by simp[frm]
 |v::r,i,j=>by
  simp only[frm,ao,O3 r (i+1) j]
  by_cases h:j=i
  ·subst h;simp
  ·rw[if_neg h]
   by_cases h1:i≤j
   ·rw[if_pos h1,if_pos (by omega)]
    have:j - i=(j - (i+1))+1:=by omega
    rw[this];rfl
   ·rw[if_neg h1,if_neg (by omega)]
theorem Js (args:List V):zP args=⟨frm 0 args,fun _=>[],0⟩:=by
 unfold zP
 congr 1
 funext j
 rw[O3]
 simp
def Wb (P:Program) (z:Bool) (r:V) (rs:List ResultVar) (e:VE) (s:S):Prop:=(match e with | .exit _=>False | _=>True)∧rl P z s r rs
theorem Wc {z:Bool} {r:V} {rs:List ResultVar} {s:S}:Wb P z r rs .ret s=rl P z s r rs:=by simp[Wb]
theorem Jt {z:Bool} {r:V} {rs:List ResultVar} {s:S}:Wb P z r rs .normal s=rl P z s r rs:=by simp[Wb]
theorem rm {r:V} {t:Tmp}:rl P false ⟨fr,bx,nb⟩ r [.tmp t]=(fr t=r):=rfl
theorem AS {r:V} {t:Tmp}:rl P true ⟨fr,bx,nb⟩ r [.tmp t]=(imm ⟨fr,bx,nb⟩ (fr t)=some r):=by simp[rl,MU]
theorem RG {r:V} {t:Tmp} {T:TypeId}:rl P false ⟨fr,bx,nb⟩ r [.cell t T]=cK P T ⟨fr,bx,nb⟩ (fr t) (fun u=>u=r):=rfl
theorem iZ {d e:V} {t u:Tmp} (h1:(fr t).fz=d) (h2:(fr u).fz=e):rl P false ⟨fr,bx,nb⟩ (.tup [d,e]) [.tmp t,.tmp u]:=by
 refine⟨_,rfl,rfl,fun i R x hR hx=>?_⟩
 match i with
 |0=>simp only[bJ,ai] at hR hx;subst hR;subst hx;exact h1
 |1=>simp only[ct,bJ,ai] at hR hx;subst hR;subst hx;exact h2
 |n+2=>simp at hR
theorem bR {f:FuncId} {fn:Func} {c:Code} {args:List V} {r:V} (z:Bool) (tr:List Nat) (hm:P.follows .mixedOrders=true) (hf:P.funcs[f]?=some fn) (hb:fn.body=some c) (np:(fn.name== "runtime.NumGoroutine")=false)
 {rs:List ResultVar} (OL:fn.results.toList=rs) {n:Nat} (hn:fn.ntmps=n) (vG:cok n tr c=true) (cn:args.length≤n)
 (hr:r.out=true) (ov:r.compT=true)
 (h:gZ P G tr (UJ tr) c (Wb P z r rs) ⟨frm 0 args,fun _=>[],0⟩):FnOK P G f args r:=by
 subst hn
 subst OL
 refine aaZ z tr hm hf hb np cn vG hr ov ?_
 rw[Js];exact h
end
end
end
section
variable {P:Program} {G:Gl} {tr:List Nat} {fr:Nat→V} {bx:Nat→List V} {nb k0:Nat} {K:S→Prop} {KV:V→Prop} {Q:VE→S→Prop}
def frs:List (Nat×V)→Nat→V
 |[]=>fun _=>.un
 |(i,v)::r=>up (frs r) i v
theorem abt:frs []=fun _=>.un:=rfl
theorem We {i:Nat} {v:V} {r:List (Nat×V)}:frs ((i,v)::r)=up (frs r) i v:=rfl
def FL:List (Nat×V)→(Nat→V)→Prop
 |[],_=>True
 |(i,v)::r,f=>f i=v∧FL r f
theorem FL.le:∀ {l:List (Nat×V)} {f:Nat→V},FL l f→ak3 (frs l) f
 |[],_,_=>fun _=>.inl rfl
 |(i,v)::r,f,h=>fun t=>by
  by_cases ht:t=i
  ·subst ht;right;simp only[frs,bT];exact h.1.symm
  ·simp only[frs,cF _ _ ht];exact h.2.le t
def bxs (bl:List (List V)):Nat→List V:=fun i=>bl.getD i []
def BL:Nat→List (List V)→(Nat→List V)→Prop
 |_,[],_=>True
 |i,b::r,f=>f i=b∧BL (i+1) r f
theorem BL.get:∀ {bl:List (List V)} {k:Nat} {f:Nat→List V},BL k bl f→∀ i,i<bl.length→bl.getD i []=f (k+i)
 |[],_,_,_,i,hi=>by simp at hi
 |b::r,k,f,h,i,hi=>by
  cases i with
  |zero=>simp[h.1]
  |succ i=>
   have:=h.2.get i (by simpa using hi)
   simpa[dI,Nat.add_comm,Nat.add_left_comm] using this
def V.ltPB (m:Nat):V→Bool
 | .bp i _=>decide (i<m)
 | .bm _ i _=>decide (i<m)
 | .ms i _ _ _ _=>decide (i<m)
 | .mr i=>decide (i<m)
 | .yl i=>decide (i<m)
 |_=>true
theorem V.ltPB_ok {m:Nat} {v:V} (h:v.ltPB m=true):v.ltP m:=by
 cases v<;>simp only[V.ltP]<;>simpa[V.ltPB] using h
def V.ltB (m:Nat):V→Bool
 | .bp i _=>decide (i<m)
 | .bm _ i _=>decide (i<m)
 | .ms i _ _ _ _=>decide (i<m)
 | .clo _ fs cs=>fs.all (V.ltPB m)&&cs.all (V.ltPB m)
 | .mag vs=>vs.all (V.ltPB m)
 | .mr i=>decide (i<m)
 | .it i _ _ _=>decide (i<m)
 | .yl i=>decide (i<m)
 | .lp _ fl=>fl.all fun p=>p.2.ltPB m
 |_=>true
theorem V.ltB_ok {m:Nat} {v:V} (h:v.ltB m=true):v.lt m:=by
 cases v<;>simp only[V.lt]<;>simp only[V.ltB] at h
 ·simpa using h
 ·simp only[aX,aV] at h
  exact⟨fun x hx=>V.ltPB_ok (h.1 x hx),fun x hx=>V.ltPB_ok (h.2 x hx)⟩
 ·simpa using h
 ·simp only[aV] at h
  exact fun x hx=>V.ltPB_ok (h x hx)
 ·simpa using h
 ·simpa using h
 ·simpa using h
 ·simp only[aV] at h
  exact fun p hp=>V.ltPB_ok (h p hp)
 ·simpa using h
def jq (l:List (Nat×V)) (bl:List (List V)):Bool:=l.all (fun p=>p.2.ltB bl.length)&&bl.all fun b=>b.all fun x=>x.ltB bl.length
theorem GX {m:Nat}:∀ {l:List (Nat×V)},(∀ p∈l,p.2.lt m)→∀ t,(frs l t).lt m
 |[],_,_=>trivial
 |(i,v)::r,h,t=>by
  by_cases ht:t=i
  ·subst ht;simp only[frs,bT];exact h _ (bB ..)
  ·simp only[frs,cF _ _ ht];exact GX (fun p hp=>h p (aR _ hp)) t
def hdS (l:List (Nat×V)) (bl:List (List V)):S:=⟨frs l,bxs bl,bl.length⟩
theorem cL {l:List (Nat×V)} {bl:List (List V)} {k:Nat} (eK:jq l bl=true) (hk:k≤bl.length) (hn:bl.length≤nb) (h1:FL l fr) (h2:BL 0 bl bx):S.Le k (hdS l bl) ⟨fr,bx,nb⟩:=by
 simp only[jq,aX,aV] at eK
 refine⟨hk,h1.le,hn,fun i hi=>?_,fun t=>GX (fun p hp=>V.ltB_ok (eK.1 p hp)) t,fun i hi x hx=>?_⟩
 ·have:=h2.get i hi;simpa[hdS,bxs] using this
 ·simp only[hdS] at hi hx
  have:bxs bl i∈bl:=by
   simp only[bxs,List.getD,ab hi,cG];exact bM hi
  exact V.ltB_ok (eK.2 _ this x hx)
def FZL (s:S) (m:Nat):List (Nat×V)→(Nat→V)→Prop
 |[],_=>True
 |(i,v)::r,f=>(f i=v∨FzV s m v (f i))∧FZL s m r f
def LZ (s:S) (m:Nat):List V→List V→Prop
 |[],[]=>True
 |x::xs,y::ys=>(x=y∨FzV s m x y)∧LZ s m xs ys
 |_,_=>False
def BZL (s:S) (m:Nat):Nat→List (List V)→(Nat→List V)→Prop
 |_,[],_=>True
 |i,b::r,f=>LZ s m b (f i)∧BZL s m (i+1) r f
theorem LZ.ok {s:S} {m:Nat}:∀ {xs ys:List V},LZ s m xs ys→xs.length=ys.length∧∀ j,xs.getD j .un=ys.getD j .un∨FzV s m (xs.getD j .un) (ys.getD j .un)
 |[],[],_=>⟨rfl,fun _=>.inl rfl⟩
 |x::xs,y::ys,h=>by
  obtain⟨h1,h2⟩:=LZ.ok h.2
  refine⟨by simp[h1],fun j=>?_⟩
  cases j with
  |zero=>simpa using h.1
  |succ j=>simpa using h2 j
 |[],_::_,h=>h.elim
 |_::_,[],h=>h.elim
theorem BZL.get {s:S} {m:Nat}:∀ {bl:List (List V)} {k:Nat} {f:Nat→List V},BZL s m k bl f→∀ i,i<bl.length→LZ s m (bl.getD i []) (f (k+i))
 |[],_,_,_,i,hi=>by simp at hi
 |b::r,k,f,h,i,hi=>by
  cases i with
  |zero=>simpa using h.1
  |succ i=>
   have:=h.2.get i (by simpa using hi)
   simpa[dI,Nat.add_comm,Nat.add_left_comm] using this
theorem FZL.ok {s:S} {m:Nat}:∀ {l:List (Nat×V)} {f:Nat→V},FZL s m l f→∀ t,frs l t=.un∨frs l t=f t∨FzV s m (frs l t) (f t)
 |[],_,_,_=>.inl rfl
 |(i,v)::r,f,h,t=>by
  by_cases ht:t=i
  ·subst ht
   simp only[frs,bT]
   rcases h.1 with e | e
   ·exact .inr (.inl e.symm)
   ·exact .inr (.inr e)
  ·simp only[frs,cF _ _ ht];exact h.2.ok t
theorem afH {i:Nat} {ops:Array Oper} {l:List (Nat×V)} {bl:List (List V)} (eK:jq l bl=true) (hk:k0≤bl.length) (hn:bl.length≤nb) (h1:FZL ⟨fr,bx,nb⟩ bl.length l fr) (h2:BZL ⟨fr,bx,nb⟩ bl.length 0 bl bx)
 (h:gY P G tr ops ops.toList (hdS l bl) (Q .normal)) (hw:aaC tr i=false:=by rfl):fzK P G tr k0 i ops Q ⟨fr,bx,nb⟩:=by
 simp only[jq,aX,aV] at eK
 refine⟨hdS l bl,⟨hk,h1.ok,hn,fun i hi=>?_,fun i hi=>?_,fun t=>GX (fun p hp=>V.ltB_ok (eK.1 p hp)) t,fun i hi x hx=>?_⟩,by unfold vtw;rw[if_neg (by rw[hw];decide)];exact h⟩
 ·have:=(h2.get i hi).ok.1;simpa[hdS,bxs] using this
 ·have:=(h2.get i hi).ok.2;simpa[hdS,bxs] using this
 ·simp only[hdS] at hi hx
  have:bxs bl i∈bl:=by
   simp only[bxs,List.getD,ab hi,cG];exact bM hi
  exact V.ltB_ok (eK.2 _ this x hx)
theorem BP {k:Nat} {α:Type} {hd:α→S} {m:α→Nat} {Inv:α→Prop} {body:(VE→S→Prop)→S→Prop}
 (hb:∀ x,Inv x→∀ R:VE→S→Prop,(∀ y s',Inv y→m y<m x→S.Le k (hd y) s'→R .normal s')→(∀ i s',Q (.exit i) s'→R (.exit i) s')→(∀ s',Q .ret s'→R .ret s')→body R (hd x)) :
 ∀ n x s,Inv x→m x<n→S.Le k (hd x) s→AM k body Q n s
 |0,_,_,_,h,_=>absurd h (gQ _)
 |n+1,x,s,hx,hm,ke=>⟨hd x,.inr ke,hb x hx _ (fun y s' hy bV apH=>BP hb n y s' hy (by omega) apH) (fun _ _ h=>h) (fun _ h=>h)⟩
theorem cx {α:Type} (hd:α→S) (m:α→Nat) (Inv:α→Prop) {body:Code} (x:α) (hx:Inv x) (ke:S.Le (k0) (hd x) ⟨fr,bx,nb⟩)
 (hb:∀ x,Inv x→∀ R:VE→S→Prop,(∀ y s',Inv y→m y<m x→S.Le (k0) (hd y) s'→R .normal s')→(∀ i s',Q (.exit i) s'→R (.exit i) s')→(∀ s',Q .ret s'→R .ret s')→gZ P G tr k0 body R (hd x)) :
 gZ P G tr k0 (.loop body) Q ⟨fr,bx,nb⟩:=
 ⟨m x+1,BP hb _ x _ hx (dN _) ke⟩
theorem abu {b:Bool}:vun .not (.c (.lit (.bool b))) KV=KV (.c (.lit (.bool (!b)))):=rfl
theorem ff {T e:TypeId} {i:TI} {es:List (List C)} (hT:ti P T=some i) (hk:i.kd=.slice e):fw P T (.c (.sl es)) KV=KV (.c (.lit (.int .i64 es.length))):=by
 obtain⟨kd,a,b,c,d,f,g⟩:=i;subst hk;simp only[fw,hT]
theorem mU {T e:TypeId} {i:TI} {E:Option (TypeId×Nat)} {es:List (List C)} (hT:ti P T=some i) (hk:i.kd=.slice e):fw P T (.ow E es) KV=KV (.c (.lit (.int .i64 es.length))):=by
 obtain⟨kd,a,b,c,d,f,g⟩:=i;subst hk;simp only[fw,hT]
theorem mV {T e:TypeId} {i:TI} {b o l c z:Nat} (hT:ti P T=some i) (hk:i.kd=.slice e):fw P T (.ms b o l c z) KV=KV (.c (.lit (.int .i64 l))):=by
 obtain⟨kd,a,b,c,d,f,g⟩:=i;subst hk;simp only[fw,hT]
theorem Wg {T:TypeId} {i:TI} {b:ByteArray} (hT:ti P T=some i) (hk:i.kd=.str):fw P T (.c (.lit (.string b))) KV=KV (.c (.lit (.int .i64 b.size))):=by
 obtain⟨kd,a,b,c,d,f,g⟩:=i;subst hk;simp only[fw,hT]
theorem GY {t:TypeId} {x:V}:eX P .len [t] [x] KV=fw P t x KV:=rfl
theorem GZ {t u:TypeId} {x y:V}:eX P .append [t,u] [x,y] KV=if t=u then eR P t x y.fz KV else qj P t u x y.fz KV:=rfl
theorem Wh {T e:TypeId} {i j:TI} {b off len cap sz:Nat} {z:List C} {K2:S→Prop} (hT:ti P T=some i) (hk:i.kd=.slice e) (hE:ti P e=some j) (hs:j.size=sz) (hz:j.zero=some z) (hp:0<sz) (hl:z.length=sz) (hb:b<nb) (hm:bY (bx b)=false)
 (hf:off+len*sz≤(bx b).length) (hK:K2 ⟨fr,up bx b (eS (bx b) off ((List.replicate len z).flatten.map .c)),nb⟩):ju P ⟨fr,bx,nb⟩ K2 [T] [.ms b off len cap sz]:=by
 obtain⟨kd,a,b',c,d,f,g⟩:=i;simp only at hk;subst hk
 obtain⟨kd',a',b'',c',d',f',g'⟩:=j;simp only at hs hz;subst hs;subst hz
 simp only[ju,hT,hE]
 exact⟨⟨trivial,hp,hl,hb,hm,hf⟩,hK⟩
theorem fE {T e:TypeId} {i j:TI} {k:IntKind} {n:Int} {c:List C} {es:List (List C)} (hT:ti P T=some i) (hk:i.kd=.slice e) (hj:ti P e=some j) (hs:j.size≠0) (hn:0≤n)
 (he:es[n.toNat]?=some c) (hc:c.length=j.size) (hK:KV (.c (.rp c 0))):dS P T (.c (.sl es)) (.c (.lit (.int k n))) KV:=by
 obtain⟨kd,a,b,x,d,f,g⟩:=i
 simp only at hk;subst hk
 simp only[dS,hT,hj,he]
 exact⟨⟨hn,hs⟩,hc,hK⟩
theorem Wj {T e:TypeId} {i j:TI} {k:IntKind} {n:Int} {b o l c z:Nat} (hT:ti P T=some i) (hk:i.kd=.slice e) (hj:ti P e=some j) (hs:j.size=z) (hz:z≠0) (hn:0≤n) (hl:n<l)
 (hK:KV (.bp b (o+n.toNat*z))):dS P T (.ms b o l c z) (.c (.lit (.int k n))) KV:=by
 obtain⟨kd,a,b,x,d,f,g⟩:=i
 simp only at hk;subst hk
 simp only[dS,hT,hj]
 exact⟨⟨hn,hl,hs,hz⟩,hK⟩
theorem RH {ag:Bool} {sz:Nat} {cs:List C} (ha:ag=true) (h:cs.length=sz):cJ ag sz 0 cs KV=KV (.agg cs):=by
 subst ha;subst h;simp[cJ]
theorem sf {T:TypeId} {i:TI} {s:S} {cs:List C} (hT:ti P T=some i) (ha:i.agg=true) (h:cs.length=i.size):cK P T s (.c (.rp cs 0)) KV=KV (.agg cs):=by
 simp only[cK,hT];exact RH ha h
theorem fU {T:TypeId} {i:TI} {f k off sz:Nat} {ag:Bool} {cs:List C} (hT:ti P T=some i) (hf:i.flds[f]?=some (off,sz,ag)) (hs:sz≠0):aM P T (.c (.rp cs k)) f KV=KV (.c (.rp cs (k+off))):=by
 simp only[aM,hT,hf];simp[hs]
theorem fV {T:TypeId} {i:TI} {f k off sz b:Nat} {ag:Bool} (hT:ti P T=some i) (hf:i.flds[f]?=some (off,sz,ag)) (hs:sz≠0):aM P T (.bp b k) f KV=KV (.bp b (k+off)):=by
 simp only[aM,hT,hf];simp[hs]
theorem iy {T:TypeId} {i:TI} {s:S} {cs:List C} {o:Nat} (hT:ti P T=some i) (ha:i.agg=false) (hs:i.size=1):cK P T s (.c (.rp cs o)) KV=cJ false 1 o cs KV:=by
 simp only[cK,hT,ha,hs]
theorem abv {sz:Nat} {c:C} {cs:List C}:cJ false sz 0 (c::cs) KV=KV (.c c):=rfl
theorem abw {sz n:Nat} {c:C} {cs:List C}:cJ false sz (n+1) (c::cs) KV=cJ false sz n cs KV:=by simp[cJ]
def ldA (nb b:Nat) (l:List V) (o n:Nat) (K:V→Prop):Prop:=b<nb∧((((l.drop o).take n).length=n∧((l.drop o).take n).all V.isPO=true)∧K (vY (((l.drop o).take n).map V.fz)))
def O4 (a:C):V→V
 | .agg cs=>.agg (a::cs)
 | .mag vs=>.mag (.c a::vs)
 |x=>x
theorem Wl:vY []=.agg []:=rfl
theorem Wm {a:C} {r:List V}:vY (.c a::r)=O4 a (vY r):=by
 unfold vY
 simp only[fe]
 cases h:r.mapM V.asC<;>simp[V.asC,O4]
theorem abx {i o l c z:Nat} {r:List V}:vY (.ms i o l c z::r)=.mag (.ms i o l c z::r):=by
 unfold vY;simp[fe,V.asC]
theorem aby {i o:Nat} {r:List V}:vY (.bp i o::r)=.mag (.bp i o::r):=by
 unfold vY;simp[fe,V.asC]
theorem RI {a:C} {cs:List C}:O4 a (.agg cs)=.agg (a::cs):=rfl
theorem RJ {a:C} {vs:List V}:O4 a (.mag vs)=.mag (.c a::vs):=rfl
theorem Wn {b o n:Nat} {v:V} {l:List V}:ldA nb b (v::l) o n KV=(b<nb∧(((((v::l).drop o).take n).length=n∧(((v::l).drop o).take n).all V.isPO=true)∧KV (vY ((((v::l).drop o).take n).map V.fz)))):=rfl
theorem abz {i o:Nat}:(V.bp i o).isPR=true:=rfl
theorem agQ {x:C}:(V.c x).isPR=true:=rfl
theorem abA {i o l c z:Nat}:(V.ms i o l c z).isPR=true:=rfl
theorem agR {x:C}:(V.c x).isPO=true:=rfl
theorem abB {E:Option (TypeId×Nat)} {es:List (List C)}:(V.ow E es).isPO=true:=rfl
theorem abC {i o:Nat}:(V.bp i o).isPO=true:=rfl
theorem abD {i o l c z:Nat}:(V.ms i o l c z).isPO=true:=rfl
def ldB (nb b:Nat) (l:List V) (o:Nat) (K:V→Prop):Prop:=b<nb∧match l[o]? with
 |some v=>K v.ldv
 |none=>False
theorem qN {T:TypeId} {i:TI} {b o n:Nat} (hT:ti P T=some i) (ha:i.agg=true) (hs:i.size=n):cK P T ⟨fr,bx,nb⟩ (.bp b o) KV=(bY (bx b)=false∧ldA nb b (bx b) o n KV):=by
 subst hs;simp only[cK,hT,ha,dn,ldA];exact propext ⟨fun⟨⟨a,b⟩,c⟩=>⟨b,a,c⟩,fun⟨b,a,c⟩=>⟨⟨a,b⟩,c⟩⟩
theorem jw {T:TypeId} {i:TI} {b o:Nat} (hT:ti P T=some i) (ha:i.agg=false):cK P T ⟨fr,bx,nb⟩ (.bp b o) KV=(bY (bx b)=false∧ldB nb b (bx b) o KV):=by
 simp only[cK,hT,ha,ldB];exact propext ⟨fun⟨⟨a,b⟩,c⟩=>⟨b,a,c⟩,fun⟨b,a,c⟩=>⟨⟨a,b⟩,c⟩⟩
theorem alg {b:Nat} {v:V} {l:List V}:ldB nb b (v::l) 0 KV=(b<nb∧KV v.ldv):=rfl
theorem alh {b o:Nat} {v:V} {l:List V}:ldB nb b (v::l) (o+1) KV=ldB nb b l o KV:=by simp[ldB]
theorem abE {b o:Nat} {cs:List C}:ldB nb b (cs.map V.c) o KV=(b<nb∧cJ false 1 o cs KV):=by
 simp only[ldB,cJ,ba,aI,dj]
 cases cs[o]?<;>rfl
theorem RL {i:TI} {ks:List EK} {xs ys:List C} {r:Bool} (he:i.eqs=some ks) (ha:i.agg=true) (h:iC ks xs ys=some r) (h1:xs.length=ks.length) (h2:ys.length=ks.length):Jq (some i) .eql xs ys KV=KV (.c (.lit (.bool r))):=by
 obtain⟨kd,a,b,c,d,f,g⟩:=i
 simp only at he ha;subst he;subst ha
 simp[Jq,h,h1,h2]
theorem RN {i:TI} {ks:List EK} {xs ys:List C} {r:Bool} (he:i.eqs=some ks) (ha:i.agg=true) (h:iC ks xs ys=some r) (h1:xs.length=ks.length) (h2:ys.length=ks.length):Jq (some i) .neq xs ys KV=KV (.c (.lit (.bool (!r)))):=by
 obtain⟨kd,a,b,c,d,f,g⟩:=i
 simp only at he ha;subst he;subst ha
 simp[Jq,h,h1,h2]
theorem pI {T:TypeId} {i:TI} {ks:List EK} {xs ys:List C} {r:Bool} (hT:ti P T=some i) (he:i.eqs=some ks) (ha:i.agg=true) (h:iC ks xs ys=some r) (h1:xs.length=ks.length) (h2:ys.length=ks.length) :
 jX P .eql T (.agg xs) (.agg ys) KV=KV (.c (.lit (.bool r))):=by rw[Jr,hT];exact RL he ha h h1 h2
theorem pJ {T:TypeId} {i:TI} {ks:List EK} {xs ys:List C} {r:Bool} (hT:ti P T=some i) (he:i.eqs=some ks) (ha:i.agg=true) (h:iC ks xs ys=some r) (h1:xs.length=ks.length) (h2:ys.length=ks.length) :
 jX P .neq T (.agg xs) (.agg ys) KV=KV (.c (.lit (.bool (!r)))):=by rw[Jr,hT];exact RN he ha h h1 h2
theorem ED {T:TypeId} {i:TI} {a b:Bool} (hT:ti P T=some i) (hk:i.kd=.bool):jX P .eql T (.c (.lit (.bool a))) (.c (.lit (.bool b))) KV=KV (.c (.lit (.bool (a==b)))):=by
 obtain⟨kd,a,b,c,d,f,g⟩:=i
 simp only at hk;subst hk
 rw[EC,hT];rfl
theorem EE {T:TypeId} {i:TI} {a b:Bool} (hT:ti P T=some i) (hk:i.kd=.bool):jX P .neq T (.c (.lit (.bool a))) (.c (.lit (.bool b))) KV=KV (.c (.lit (.bool (!(a==b))))):=by
 obtain⟨kd,a,b,c,d,f,g⟩:=i
 simp only at hk;subst hk
 rw[EC,hT];rfl
theorem Wp {a b:ByteArray}:FK .eql a b KV=KV (.c (.lit (.bool (decide (a=b))))):=rfl
theorem Wq {a b:ByteArray}:FK .neq a b KV=KV (.c (.lit (.bool (!decide (a=b))))):=rfl
theorem Nn {T:TypeId} {i:TI} {k:IntKind} {n:Int} {st:ByteArray} {b:UInt8} (hT:ti P T=some i) (hk:i.kd=.str) (hn:0≤n) (hb:st.data[n.toNat]?=some b) :
 mb P T (.c (.lit (.string st))) (.c (.lit (.int k n))) KV=KV (.c (.lit (.int .u8 b.toNat))):=by
 obtain⟨kd,a,b,c,d,f,g⟩:=i
 simp only at hk;subst hk
 simp only[mb,hT,hn,hb,ia]
theorem xK:∀ cs:List C,vY (cs.map V.c)=.agg cs
 |[]=>rfl
 |c::cs=>by rw[br,Wm,xK cs];rfl
theorem abG {b n:Nat} {cs:List C} (h:cs.length=n):ldA nb b (cs.map V.c) 0 n KV=(b<nb∧KV (.agg cs)):=by
 have h1:(cs.map V.c).take n=cs.map V.c:=dW (by simp[h])
 have h2:(cs.map V.c).map V.fz=cs.map V.c:=by simp[fu,jW,V.fz]
 have h3:(cs.map V.c).all V.isPO=true:=by simp[List.all_map,jW,V.isPO]
 simp only[ldA,dE,h1,h2,h3,xK,ak,h,ia]
theorem agS {t:Option Tmp} {d:Nat} {x:C} (h:∀ u,t=some u→(fr u).isOw=false):sd t d (.c x) ⟨fr,bx,nb⟩ K=K ⟨up fr d (.bp nb 0),up bx nb [.c x],nb+1⟩:=by
 cases t with
 |none=>rfl
 |some u=>simp[sd,V.bcells,iE,h u rfl,S.put]
theorem ali {t:Tmp} {d:Nat} {x:C} (h:fr t=.c x):sd (some t) d (.c x) ⟨fr,bx,nb⟩ K=K ⟨up fr d (.bp nb 0),up bx nb [.c x],nb+1⟩:=agS (fun u hu=>by cases hu;rw[h];rfl)
theorem Ws {d:Nat} {x:C}:sd none d (.c x) ⟨fr,bx,nb⟩ K=K ⟨up fr d (.bp nb 0),up bx nb [.c x],nb+1⟩:=rfl
theorem RO {d:Nat} {E:Option (TypeId×Nat)} {es:List (List C)}:sd none d (.ow E es) ⟨fr,bx,nb⟩ K=K ⟨up fr d (.bp nb 0),up bx nb [.ow E es],nb+1⟩:=rfl
theorem abH {t:Tmp} {d:Nat} {cs:List C} (h:fr t=.agg cs):sd (some t) d (.agg cs) ⟨fr,bx,nb⟩ K=K ⟨up fr d (.bp nb 0),up bx nb (cs.map .c),nb+1⟩:=by
 simp[sd,V.bcells,iE,h,S.put,V.isOw]
theorem agT {t:Tmp} {d:Nat} {E:Option (TypeId×Nat)} {es:List (List C)} (h:fr t=.ow E es):sd (some t) d (.ow E es) ⟨fr,bx,nb⟩ K=K ⟨up (up fr t .un) d (.bp nb 0),up bx nb [.ow E es],nb+1⟩:=by
 simp[sd,V.bcells,iE,h,S.put,V.isOw]
theorem agU {t:Tmp} {d:Nat} {i o:Nat} (h:fr t=.bp i o):sd (some t) d (.bp i o) ⟨fr,bx,nb⟩ K=K ⟨up fr d (.bp nb 0),up bx nb [.bp i o],nb+1⟩:=by
 simp[sd,V.bcells,iE,h,S.put,V.isOw]
theorem agV {t:Tmp} {d:Nat} {i o l c z:Nat} (h:fr t=.ms i o l c z):sd (some t) d (.ms i o l c z) ⟨fr,bx,nb⟩ K=K ⟨up fr d (.bp nb 0),up bx nb [.ms i o l c z],nb+1⟩:=by
 simp[sd,V.bcells,iE,h,S.put,V.isOw]
theorem abI {t:Tmp} {d:Nat} {vs:List V} (h:fr t=.mag vs):sd (some t) d (.mag vs) ⟨fr,bx,nb⟩ K=K ⟨up fr d (.bp nb 0),up bx nb vs,nb+1⟩:=by
 simp[sd,V.bcells,iE,h,S.put,V.isOw]
theorem abJ {t:Tmp} {d:Nat} {f:Fn} {x y:List V} (h:fr t=.clo f x y):sd (some t) d (.clo f x y) ⟨fr,bx,nb⟩ K=K ⟨up fr d (.bp nb 0),up bx nb [.clo f x y],nb+1⟩:=by
 simp[sd,V.bcells,iE,h,S.put,V.isOw]
def stS (n:Nat) (t:Option Tmp) (dO:Option Tmp) (b o:Nat) (v:V) (s:S) (K:S→Prop):Prop:=match v.bcells with
 |some cs=>(b<s.nb∧cs.length=n∧o+n≤(s.bx b).length)∧K ((let s':=s.use t;{ s' with bx:=up s'.bx b (eS (s'.bx b) o cs) }:S).put dO .sk)
 |none=>False
theorem jI {i:TI} {n:Nat} {t dO:Option Tmp} {b o:Nat} {v:V} {s:S} (h:i.size=n):oe (some i) t dO (.bp b o) v s K=(bY (s.bx b)=false∧stS n t dO b o v s K):=by
 subst h;cases hv:v.bcells<;>simp only[oe,stS,hv]
 ·simp
 ·exact propext ⟨fun⟨⟨a,b,c,d⟩,e⟩=>⟨d,⟨a,b,c⟩,e⟩,fun⟨d,⟨a,b,c⟩,e⟩=>⟨⟨a,b,c,d⟩,e⟩⟩
theorem RP {v:V} {l:List V}:bY (v::l)=v.isMk:=rfl
theorem Wu:bY []=false:=rfl
theorem Ju:∀ {l:List C},bY (l.map V.c)=false
 |[]=>rfl
 |_::_=>rfl
theorem agW {x:C}:(V.c x).isMk=false:=rfl
theorem abK {E:Option (TypeId×Nat)} {es:List (List C)}:(V.ow E es).isMk=false:=rfl
theorem abL {i o:Nat}:(V.bp i o).isMk=false:=rfl
theorem abM {i o l c z:Nat}:(V.ms i o l c z).isMk=false:=rfl
theorem Wv {f:Fn} {x y:List V}:(V.clo f x y).isMk=false:=rfl
theorem abN {i:Nat}:(V.mr i).isMk=false:=rfl
theorem abO {i:Nat}:(V.yl i).isMk=false:=rfl
theorem abP {bs:List Nat} {cl:Nat}:(V.mk bs cl).isMk=true:=rfl
theorem Ww {dO:Option Tmp} {b o:Nat} {x:C}:stS 1 none dO b o (.c x) ⟨fr,bx,nb⟩ K=((b<nb∧o+1≤(bx b).length)∧K ((⟨fr,up bx b (eS (bx b) o [.c x]),nb⟩:S).put dO .sk)):=by
 simp[stS,V.bcells,Jj]
theorem alj {t:Tmp} {dO:Option Tmp} {b o:Nat} {x:C} (h:fr t=.c x):stS 1 (some t) dO b o (.c x) ⟨fr,bx,nb⟩ K=((b<nb∧o+1≤(bx b).length)∧K ((⟨fr,up bx b (eS (bx b) o [.c x]),nb⟩:S).put dO .sk)):=by
 simp[stS,V.bcells,iE,h,V.isOw]
theorem Wx {t:Tmp} {dO:Option Tmp} {b o:Nat} {E:Option (TypeId×Nat)} {es:List (List C)} (h:fr t=.ow E es):stS 1 (some t) dO b o (.ow E es) ⟨fr,bx,nb⟩ K=
 ((b<nb∧o+1≤(bx b).length)∧K ((⟨up fr t .un,up bx b (eS (bx b) o [.ow E es]),nb⟩:S).put dO .sk)):=by
 simp[stS,V.bcells,iE,h,V.isOw]
theorem abQ {n:Nat} {t:Tmp} {dO:Option Tmp} {b o:Nat} {cs:List C} (h:fr t=.agg cs):stS n (some t) dO b o (.agg cs) ⟨fr,bx,nb⟩ K=
 ((b<nb∧cs.length=n∧o+n≤(bx b).length)∧K ((⟨fr,up bx b (eS (bx b) o (cs.map .c)),nb⟩:S).put dO .sk)):=by
 simp[stS,V.bcells,iE,h,V.isOw]
theorem agX {t:Tmp} {dO:Option Tmp} {b o i k:Nat} (h:fr t=.bp i k):stS 1 (some t) dO b o (.bp i k) ⟨fr,bx,nb⟩ K=((b<nb∧o+1≤(bx b).length)∧K ((⟨fr,up bx b (eS (bx b) o [.bp i k]),nb⟩:S).put dO .sk)):=by
 simp[stS,V.bcells,iE,h,V.isOw]
theorem abR {t:Tmp} {dO:Option Tmp} {b o:Nat} {f:Fn} {x y:List V} (h:fr t=.clo f x y):stS 1 (some t) dO b o (.clo f x y) ⟨fr,bx,nb⟩ K=((b<nb∧o+1≤(bx b).length)∧K ((⟨fr,up bx b (eS (bx b) o [.clo f x y]),nb⟩:S).put dO .sk)):=by
 simp[stS,V.bcells,iE,h,V.isOw]
theorem agY {t:Tmp} {dO:Option Tmp} {b o i k l c z:Nat} (h:fr t=.ms i k l c z):stS 1 (some t) dO b o (.ms i k l c z) ⟨fr,bx,nb⟩ K=((b<nb∧o+1≤(bx b).length)∧K ((⟨fr,up bx b (eS (bx b) o [.ms i k l c z]),nb⟩:S).put dO .sk)):=by
 simp[stS,V.bcells,iE,h,V.isOw]
theorem abS {n:Nat} {t:Tmp} {dO:Option Tmp} {b o:Nat} {vs:List V} (h:fr t=.mag vs):stS n (some t) dO b o (.mag vs) ⟨fr,bx,nb⟩ K=
 ((b<nb∧vs.length=n∧o+n≤(bx b).length)∧K ((⟨fr,up bx b (eS (bx b) o vs),nb⟩:S).put dO .sk)):=by
 simp[stS,V.bcells,iE,h,V.isOw]
theorem agZ {v x:V} {r:List V}:eS (v::r) 0 [x]=x::r:=by simp[eS]
theorem ag0 {v x:V} {r:List V} {k:Nat}:eS (v::r) (k+1) [x]=v::eS r k [x]:=by simp[eS,Nat.add_right_comm]
def qn {α:Type} (p:α→Bool) (l:List α):Int:=match l.findIdx? p with
 |some i=>i
 |none=>-1
theorem og {α:Type} {p:α→Bool} {l:List α} {i:Nat} (hi:i<l.length) (hy:p l[i]=true) (fS:∀ j (h:j<l.length),j<i→p l[j]=false):qn p l=i:=by
 have:l.findIdx? p=some i:=by
  rw[eG]
  exact⟨hi,hy,fun j hj=>by simp[fS j (by omega) hj]⟩
 simp[qn,this]
theorem lz {α:Type} {p:α→Bool} {l:List α} (fS:∀ j (h:j<l.length),j<l.length→p l[j]=false):qn p l=-1:=by
 have:l.findIdx? p=none:=by
  rw[List.findIdx?_eq_none_iff]
  intro x hx
  obtain⟨j,hj,rfl⟩:=fa.1 hx
  exact fS j hj hj
 simp[qn,this]
theorem jP {α:Type} {p:α→Bool} {l:List α}:decide (0≤qn p l)=l.any p:=by
 unfold qn
 cases h:l.findIdx? p with
 |some i=>
  obtain⟨hi,hy,_⟩:=eG.1 h
  have:l.any p=true:=dL.2 ⟨_,bM hi,hy⟩
  simp[this]
 |none=>
  have h2:=List.findIdx?_eq_none_iff.1 h
  have:l.any p=false:=List.any_eq_false.2 fun x hx=>by simp[h2 x hx]
  simp[this]
theorem wrap_i64 (n:Int) (h:-9223372036854775808≤n∧n≤9223372036854775807):IntKind.i64.wrap n=n:=by rw[IntKind.wrap_i64];omega
theorem aN {s:S} {g:FuncId} {fs cs:List C} {args as:List V} {r:V} (hm:args.mapM (imm s)=some as) (h:FnOK P G g (fs.map .c++as++cs.map .c) r) (hb:args.any V.boxy=true→r.isFlat=true) (hK:KV r) :
 rb P G s (.c (.fn (.func g) fs cs)) args KV:=by
 simp only[rb,hm]
 exact⟨r,h,hb,hK⟩
end
section
variable {P:Program} {G:Gl} {tr:List Nat} {n:Nat} {I0:Ft} {M:Mx} {w0:World} {I:Ft} {β:Nat→Option Nat} {ob:Loc→Option Nat} {s:S} {a:Act} {w:World}
def obB (ob:Nat→Nat→Option Nat):Loc→Option Nat
 | .t _=>none
 | .b i j=>ob i j
theorem St.initB {ob:Nat→Nat→Option Nat} {vs:Array Value} {args:List V} {b0:List (List V)} {m:Nat} (hI:∀ b o,I b o→b<w.heap.size) (hg:GOK G I w) (hB:BxR (Wr M w) I w β ob b0) (fC:vs.size=args.length)
 (ha:∀ j x,args[j]?=some x→LR (Wr M w) I β w none (vs.getD j undef) x) (hm:m=(vs++Array.replicate (n - vs.size) undef).size) :
 St G m I ⟨M.m,β,[]⟩ w I β (obB ob) ⟨fun j=>args.getD j .un,bxs b0,b0.length⟩ { tmps:=vs++Array.replicate (n - vs.size) undef,defers:=[] } w where
 size:=hm.symm
 defers:=rfl
 below:=BelowM.refl _ _
 kept:=fun _ _ _=>rfl
 ilow:=fun _ _ h=>h
 ihigh:=fun _ _ h=>.inl h
 ibnd:=hI
 fr:=fun t=>by
  simp only[obB]
  by_cases ht:t<args.length
  ·have e1:args.getD t .un=args[t]:=by simp[List.getD,ht]
   have e2:(vs++Array.replicate (n - vs.size) undef).getD t undef=vs.getD t undef:=by
    rw[ah,ew (by omega),← ah]
   rw[e1,e2]
   exact ha t _ (ab ht)
  ·have e1:args.getD t .un=.un:=by simp[List.getD,bq (ec ht)]
   rw[e1];simp only[LR];exact .un _
 bx:=fun i hi=>by
  simp only at hi
  obtain⟨blk,cur,e1,e2,e3,e4,e5,e7⟩:=hB.bx i _ (ab hi)
  have e:bxs b0 i=b0[i]:=by simp[bxs,List.getD,hi]
  refine⟨blk,cur,e1,e2,by simp only[e];exact e3,by simp only[e];exact e4,fun j=>?_,e7⟩
  simp only[e];exact e5 j
 bnone:=fun i hi=>hB.bnone i hi
 ext:=fun _ _ h=>h
 bnew:=fun _ _ h=>.inl h
 binj:=hB.binj
 oinj:=fun L L' b h h'=>by
  cases L<;>simp only[obB] at h<;>try cases h
  cases L'<;>simp only[obB] at h'<;>try cases h'
  obtain⟨e1,e2⟩:=hB.oinj _ _ _ _ b h h'
  rw[e1,e2]
 obx:=fun L b i h=>by
  cases L<;>simp only[obB] at h<;>try cases h
  exact hB.obx _ _ b i h
 obnd:=fun L b h=>by
  cases L<;>simp only[obB] at h<;>try cases h
  exact hB.obnd _ _ b h
 glob:=hg
def Ar (P:Program) (k:Nat) (r:V) (b1:List (List V)) (rs:List ResultVar) (e:VE) (s:S):Prop:=
 (match e with | .exit _=>False | _=>True)∧∃ l,S.Le k (hdS l b1) s∧rl P false (hdS l b1) r rs
theorem O5 {f:FuncId} {fn:Func} {c:Code} {args:List V} {b0 b1:List (List V)} {r:V} (tr:List Nat) (hm:P.follows .mixedOrders=true) (hf:P.funcs[f]?=some fn) (hb:fn.body=some c)
 (np:(fn.name== "runtime.NumGoroutine")=false) (hn:args.length≤fn.ntmps) (vG:cok fn.ntmps tr c=true) (ov:r.compT=true)
 (UD:(∀ x∈args,x.lt b0.length)∧(∀ b∈b0,∀ x∈b,x.lt b0.length)∧b0.length≤b1.length)
 (h:gZ P G tr b0.length c (Ar P b0.length r b1 fn.results.toList) ⟨fun j=>args.getD j .un,bxs b0,b0.length⟩):FnB P G f args b0 r b1:=by
 refine⟨⟨fn,hf,np,c,hb⟩,UD,fun I M w vs β ob hI hg hB fC ha=>?_⟩
 have jG:fn.ntmps=(vs++Array.replicate (fn.ntmps - vs.size) undef).size:=by simp;omega
 have hst:=St.initB (n:=fn.ntmps) hI hg hB fC ha jG
 have AH:∀ i b,β i=some b→i<b0.length:=fun i b hi=>by
  by_cases h:i<b0.length
  ·exact h
  ·rw[hB.bnone i (by omega)] at hi;cases hi
 refine pE.1 (callsIn_of_wp_marks (F:=FW none) (n:=0) hf hb trivial (mT (l:=none) hm (fun i b hi=>AH i b hi) (.inl rfl) c vG _ _ (fun e s a w' hq dB=>?_) _ _ _ h (.of ⟨_,_,_,hst⟩)))
 obtain⟨hex,l,ke,dV⟩:=hq
 have dB:SX G fn.ntmps tr I ⟨M.m,β,[]⟩ w (hdS l b1) a w':=by
  obtain⟨I1,M1,w1,rs,tB,lG,dB⟩:=dB
  exact⟨I1,M1,w1,rs,tB,lG,dB.weaken (by rw[tB.e];exact fun i b hi=>AH i b hi) ke⟩
 have main:LeavesInM (FW none) 0 P fn a.tmps (fun e w'=>∃ v' I' β' ob' o',e=.returned v'∧BelowM (GT G) M w w'∧(∀ b o,I b o→I' b o)∧(∀ b o,I' b o→I b o∨(Wr M w b∧b<w'.heap.size))∧
  (∀ b o,I b o→w'.cell? ⟨b,o,none⟩=w.cell? ⟨b,o,none⟩)∧(∀ i,i<b0.length→β' i=β i)∧(∀ i b,b0.length≤i→β' i=some b→Wr M w b)∧BxR (Wr M w) I' w' β' ob' b1∧
  LR (Wr M w) I' β' w' o' v' r∧(∀ b,o'=some b→(b<w'.heap.size∧Wr M w b)∧(∀ i j,ob' i j≠some b)∧∀ i,β' i≠some b)) a.defers .returning w':=by
  refine dB.leaves rfl fun w' I' β' ob' cy=>?_
  obtain⟨v,o',h1,h2,h3⟩:=wA (P:=P) (fn:=fn) cy ov (Ic:=I') (fun _=>rfl) (fun _ _ h=>h) (fun hz=>by cases hz) dV
  have xd:∀ i,i<b0.length→β' i=β i:=fun i hi=>by
   obtain⟨blk,_,e1,_⟩:=hB.bx i _ (ab hi)
   rw[e1];exact cy.ext i blk e1
  refine⟨v,h1,v,I',β',fun i j=>if i<b1.length then ob' (.b i j) else none,o',rfl,⟨cy.below.os,cy.below.tape,cy.below.output,cy.below.size,cy.below.block,cy.below.drawn⟩,cy.ilow,fun b o FH=>?_,cy.kept,xd,fun i b hi hb=>?_,?_,h2,fun b hb=>?_⟩
  ·rcases cy.ihigh b o FH with h4 | h4
   ·exact .inl h4
   ·exact .inr ⟨h4,cy.ibnd b o FH⟩
  ·rcases cy.bnew i b hb with h4 | h4
   ·have:=AH i b h4;omega
   ·exact h4
  ·exact {
    bx:=fun i cs jo=>by
     have hi:i<b1.length:=(ae.1 jo).1
     obtain⟨blk,cur,e1,e2,e3,e4,e5,e7⟩:=cy.bx i hi
     have e:bxs b1 i=cs:=by simp[bxs,List.getD,jo]
     refine⟨blk,cur,e1,e2,by simp only[hdS,e] at e3;exact e3,by simp only[hdS,e] at e4;exact e4,fun j=>?_,e7⟩
     have:=e5 j
     simp only[hdS,e] at this
     rw[if_pos hi];exact this
    bnone:=fun i hi=>cy.bnone i hi
    binj:=cy.binj
    oinj:=fun i j i' j' b h h'=>by
     split at h<;>try cases h
     split at h'<;>try cases h'
     have:=cy.oinj _ _ b h h'
     simp only[Loc.b.injEq] at this;exact this
    obx:=fun i j b k h=>by
     split at h<;>try cases h
     exact cy.obx _ b k h
    obnd:=fun i j b h=>by
     split at h<;>try cases h
     exact cy.obnd _ b h
    olen:=fun i j hi=>by rw[if_neg (by omega)] }
  ·obtain⟨t,ht⟩:=h3 b hb
   refine⟨cy.obnd _ b ht,fun i j h=>?_,fun i=>cy.obx _ b i ht⟩
   simp only at h
   split at h<;>try cases h
   have:=cy.oinj _ _ b ht h
   cases this
 cases e with
 |normal=>exact main
 |exit i=>exact hex.elim
 |ret=>exact main
theorem abT {f:FuncId} {fn:Func} {c:Code} {args:List V} {b0:List (List V)} {R:V→List (List V)→Prop} (tr:List Nat) (hm:P.follows .mixedOrders=true) (hf:P.funcs[f]?=some fn) (hb:fn.body=some c)
 (np:(fn.name== "runtime.NumGoroutine")=false) (hn:args.length≤fn.ntmps) (vG:cok fn.ntmps tr c=true) (ov:∀ r b1,R r b1→r.compT=true)
 (UD:(∀ x∈args,x.lt b0.length)∧(∀ b∈b0,∀ x∈b,x.lt b0.length)∧∀ r b1,R r b1→b0.length≤b1.length)
 (h:gZ P G tr b0.length c (fun e s=>∃ r b1,R r b1∧Ar P b0.length r b1 fn.results.toList e s) ⟨fun j=>args.getD j .un,bxs b0,b0.length⟩):FnE P G f args b0 R:=by
 refine⟨⟨fn,hf,np,c,hb⟩,UD,fun I M w vs β ob hI hg hB fC ha=>?_⟩
 have jG:fn.ntmps=(vs++Array.replicate (fn.ntmps - vs.size) undef).size:=by simp;omega
 have hst:=St.initB (n:=fn.ntmps) hI hg hB fC ha jG
 have AH:∀ i b,β i=some b→i<b0.length:=fun i b hi=>by
  by_cases h:i<b0.length
  ·exact h
  ·rw[hB.bnone i (by omega)] at hi;cases hi
 refine pE.1 (callsIn_of_wp_marks (F:=FW none) (n:=0) hf hb trivial (mT (l:=none) hm (fun i b hi=>AH i b hi) (.inl rfl) c vG _ _ (fun e s a w' hq dB=>?_) _ _ _ h (.of ⟨_,_,_,hst⟩)))
 obtain⟨r,b1,hR,hex,l,ke,dV⟩:=hq
 have dB:SX G fn.ntmps tr I ⟨M.m,β,[]⟩ w (hdS l b1) a w':=by
  obtain⟨I1,M1,w1,rs,tB,lG,dB⟩:=dB
  exact⟨I1,M1,w1,rs,tB,lG,dB.weaken (by rw[tB.e];exact fun i b hi=>AH i b hi) ke⟩
 have main:LeavesInM (FW none) 0 P fn a.tmps (fun e w'=>∃ r b1,R r b1∧∃ v' I' β' ob' o',e=.returned v'∧BelowM (GT G) M w w'∧(∀ b o,I b o→I' b o)∧(∀ b o,I' b o→I b o∨(Wr M w b∧b<w'.heap.size))∧
  (∀ b o,I b o→w'.cell? ⟨b,o,none⟩=w.cell? ⟨b,o,none⟩)∧(∀ i,i<b0.length→β' i=β i)∧(∀ i b,b0.length≤i→β' i=some b→Wr M w b)∧BxR (Wr M w) I' w' β' ob' b1∧
  LR (Wr M w) I' β' w' o' v' r∧(∀ b,o'=some b→(b<w'.heap.size∧Wr M w b)∧(∀ i j,ob' i j≠some b)∧∀ i,β' i≠some b)) a.defers .returning w':=by
  refine dB.leaves rfl fun w' I' β' ob' cy=>?_
  obtain⟨v,o',h1,h2,h3⟩:=wA (P:=P) (fn:=fn) cy (ov r b1 hR) (Ic:=I') (fun _=>rfl) (fun _ _ h=>h) (fun hz=>by cases hz) dV
  have xd:∀ i,i<b0.length→β' i=β i:=fun i hi=>by
   obtain⟨blk,_,e1,_⟩:=hB.bx i _ (ab hi)
   rw[e1];exact cy.ext i blk e1
  refine⟨v,h1,r,b1,hR,v,I',β',fun i j=>if i<b1.length then ob' (.b i j) else none,o',rfl,⟨cy.below.os,cy.below.tape,cy.below.output,cy.below.size,cy.below.block,cy.below.drawn⟩,cy.ilow,fun b o FH=>?_,cy.kept,xd,fun i b hi hb=>?_,?_,h2,fun b hb=>?_⟩
  ·rcases cy.ihigh b o FH with h4 | h4
   ·exact .inl h4
   ·exact .inr ⟨h4,cy.ibnd b o FH⟩
  ·rcases cy.bnew i b hb with h4 | h4
   ·have:=AH i b h4;omega
   ·exact h4
  ·exact {
    bx:=fun i cs jo=>by
     have hi:i<b1.length:=(ae.1 jo).1
     obtain⟨blk,cur,e1,e2,e3,e4,e5,e7⟩:=cy.bx i hi
     have e:bxs b1 i=cs:=by simp[bxs,List.getD,jo]
     refine⟨blk,cur,e1,e2,by simp only[hdS,e] at e3;exact e3,by simp only[hdS,e] at e4;exact e4,fun j=>?_,e7⟩
     have:=e5 j
     simp only[hdS,e] at this
     rw[if_pos hi];exact this
    bnone:=fun i hi=>cy.bnone i hi
    binj:=cy.binj
    oinj:=fun i j i' j' b h h'=>by
     split at h<;>try cases h
     split at h'<;>try cases h'
     have:=cy.oinj _ _ b h h'
     simp only[Loc.b.injEq] at this;exact this
    obx:=fun i j b k h=>by
     split at h<;>try cases h
     exact cy.obx _ b k h
    obnd:=fun i j b h=>by
     split at h<;>try cases h
     exact cy.obnd _ b h
    olen:=fun i j hi=>by rw[if_neg (by omega)] }
  ·obtain⟨t,ht⟩:=h3 b hb
   refine⟨cy.obnd _ b ht,fun i j h=>?_,fun i=>cy.obx _ b i ht⟩
   simp only at h
   split at h<;>try cases h
   have:=cy.oinj _ _ b ht h
   cases this
 cases e with
 |normal=>exact main
 |exit i=>exact hex.elim
 |ret=>exact main
end
theorem AU (x:V):x.renP (fun i=>i)=x:=by cases x<;>rfl
theorem Wz (x:V):x.ren (fun i=>i)=x:=by
 cases x<;>simp only[V.ren]
 ·rw[bL (g:=id) (fun x _=>AU x),bL (g:=id) (fun x _=>AU x)];simp
 ·rw[bL (g:=id) (fun x _=>AU x)];simp
 ·rw[bL (g:=id) (fun p _=>by rw[AU];rfl)];simp
theorem pK (l:List V):l.map (V.ren fun i=>i)=l:=by
 rw[bL (g:=id) (fun x _=>Wz x)];simp
theorem jx {α:Type} {f:α→α}:∀ {l:List α},(∀ x∈l,f x=x)→l.map f=l
 |[],_=>rfl
 |x::l,h=>by rw[br,h x (bB ..),jx fun y hy=>h y (aR _ hy)]
theorem xM {ρ:Nat→Nat} {x:V} (h:x.ltP 0):x.renP ρ=x:=by cases x<;>simp_all[V.renP,V.ltP]
theorem abU {ρ:Nat→Nat} {x:V} (h:x.lt 0):x.ren ρ=x:=by
 cases x<;>simp only[V.ren]<;>simp only[V.lt] at h<;>try omega
 ·rw[jx fun x hx=>xM (h.1 x hx),jx fun x hx=>xM (h.2 x hx)]
 ·rw[jx fun x hx=>xM (h x hx)]
 ·rw[jx fun p hp=>by rw[xM (h p hp)]]
theorem yS (nb:Nat):rho (List.range nb) nb=fun i=>i:=by
 funext i
 unfold rho
 rw[List.length_range]
 split
 ·rename_i h;simp[List.getD,h]
 ·omega
theorem abV (nb:Nat):rho [] nb=fun i=>nb+i:=by
 funext i;simp[rho]
theorem tQ:∀ (b1:List (List V)) (k:Nat) (f:Nat→List V),fM (fun i=>i) k b1 f=fun i=>if k≤i∧i<k+b1.length then b1.getD (i - k) [] else f i
 |[],k,f=>by funext i;simp only[fM,aB];rw[if_neg (by omega)]
 |b::r,k,f=>by
  funext i
  simp only[fM,tQ r,pK,aA,up]
  by_cases h1:k+1≤i∧i<k+1+r.length
  ·rw[if_pos h1,if_pos (by omega)]
   have:i - k=(i - (k+1))+1:=by omega
   rw[this];rfl
  ·rw[if_neg h1]
   by_cases h2:i=k
   ·subst h2;rw[if_pos rfl,if_pos (by omega)];simp
   ·rw[if_neg h2,if_neg (by omega)]
theorem xN:∀ (b0:List (List V)) (k nb:Nat) (f:Nat→List V),(∀ i b,b0[i]?=some b→k+i<nb∧f (k+i)=b)→qH f nb (fun i=>i) k b0
 |[],_,_,_,_=>trivial
 |b::r,k,nb,f,h=>by
  refine⟨?_,xN r (k+1) nb f fun i c hc=>?_⟩
  ·have:=h 0 b rfl
   rw[pK];exact this
  ·have:=h (i+1) c (by simpa using hc)
   rw[dI,Nat.add_comm 1 i];exact this
def tR:VE→Bool
 | .exit _=>false
 |_=>true
theorem Jv:∀ e:VE,tR e=true→(match e with | .exit _=>False | _=>True)
 | .exit _,h=>by cases h
 | .normal,_=>trivial
 | .ret,_=>trivial
def l0 (args:List V) (b0:List (List V)):Bool:=args.all (fun v=>v.ltB b0.length)&&b0.all fun b=>b.all fun v=>v.ltB b0.length
section
variable {P:Program} {G:Gl} {tr:List Nat} {fr:Nat→V} {bx:Nat→List V} {nb:Nat} {K:S→Prop} {KV:V→Prop} {dO:Option Tmp} {T ty:TypeId} {pos:String} {af:Array Edge} {g:Option (Nat×Bool)}
def abW (dO:Option Tmp) (K:S→Prop) (s:S):Prop:=K (s.put dO .sk)
theorem abX:abW dO K ⟨fr,bx,nb⟩=K ((⟨fr,bx,nb⟩:S).put dO .sk):=rfl
def WA (t:Tmp) (dO:Option Tmp) (s:S) (K:S→Prop) (it:Option V) (v:V):Prop:=K ((match it with | some x=>{ s with fr:=up s.fr t x } | none=>s:S).put dO v)
theorem Np {t:Tmp} {x v:V}:WA t dO ⟨fr,bx,nb⟩ K (some x) v=K ((⟨up fr t x,bx,nb⟩:S).put dO v):=rfl
theorem Nq {t:Tmp} {v:V}:WA t dO ⟨fr,bx,nb⟩ K none v=K ((⟨fr,bx,nb⟩:S).put dO v):=rfl
theorem wB {i:TI} {kt et:TypeId} (hT:ti P T=some i) (hk:i.kd=.map kt et):VStep P G tr ⟨dO,.makeMap T none,ty,pos,af,g⟩ ⟨fr,bx,nb⟩ K=K ((⟨fr,up bx nb [.mk [] 0],nb+1⟩:S).put dO (.mr nb)):=by
 obtain⟨kd,a,b,c,d,f,e⟩:=i
 simp only at hk;subst hk
 simp only[VStep,hT]
theorem G0 {m k x:Operand}:VStep P G tr ⟨dO,.mapUpdate T m k x,ty,pos,af,g⟩ ⟨fr,bx,nb⟩ K=gV P T ⟨fr,bx,nb⟩ (ev G ⟨fr,bx,nb⟩ m) (ev G ⟨fr,bx,nb⟩ k) (ev G ⟨fr,bx,nb⟩ x) (abW dO K):=rfl
theorem RQ {m k x:Operand}:VStep P G tr ⟨dO,.insert T m k x,ty,pos,af,g⟩ ⟨fr,bx,nb⟩ K=gV P T ⟨fr,bx,nb⟩ (ev G ⟨fr,bx,nb⟩ m) (ev G ⟨fr,bx,nb⟩ k) (ev G ⟨fr,bx,nb⟩ x) (abW dO K):=rfl
theorem Jw {m k:Operand}:VStep P G tr ⟨dO,.mapEntry T m k,ty,pos,af,g⟩ ⟨fr,bx,nb⟩ K=fQ P T ⟨fr,bx,nb⟩ (ev G ⟨fr,bx,nb⟩ m) (ev G ⟨fr,bx,nb⟩ k) (Dt dO K):=rfl
theorem DW {m k x:Operand}:VStep P G tr ⟨dO,.entryStore T m k x,ty,pos,af,g⟩ ⟨fr,bx,nb⟩ K=fG ⟨fr,bx,nb⟩ (ev G ⟨fr,bx,nb⟩ m) (ev G ⟨fr,bx,nb⟩ k) (ev G ⟨fr,bx,nb⟩ x) (abW dO K):=rfl
theorem abY {t:Tmp}:VStep P G tr ⟨dO,.next (.tmp t) false,ty,pos,af,g⟩ ⟨fr,bx,nb⟩ K=Eb ⟨fr,bx,nb⟩ (fr t) (WA t dO ⟨fr,bx,nb⟩ K):=rfl
theorem RR {m k:Operand} {ok:Bool}:VStep P G tr ⟨dO,.lookup T m k ok,ty,pos,af,g⟩ ⟨fr,bx,nb⟩ K=fF P T ⟨fr,bx,nb⟩ (ev G ⟨fr,bx,nb⟩ m) (ev G ⟨fr,bx,nb⟩ k) ok (lM dO ⟨fr,bx,nb⟩ K):=rfl
theorem WB {x:Operand}:VStep P G tr ⟨dO,.range T x,ty,pos,af,g⟩ ⟨fr,bx,nb⟩ K=oD P T ⟨fr,bx,nb⟩ (ev G ⟨fr,bx,nb⟩ x) (lM dO ⟨fr,bx,nb⟩ K):=rfl
theorem WC {x:Operand}:VStep P G tr ⟨dO,.entry x,ty,pos,af,g⟩ ⟨fr,bx,nb⟩ K=oG ⟨fr,bx,nb⟩ (ev G ⟨fr,bx,nb⟩ x) (lM dO ⟨fr,bx,nb⟩ K):=rfl
theorem alk {i:Nat}:(V.mr i).fz=.mr i:=rfl
theorem alm {i:Nat}:(V.yl i).fz=.yl i:=rfl
theorem abZ {i:Nat}:(V.mr i).isOw=false:=rfl
theorem ab0 {i:Nat}:(V.yl i).isOw=false:=rfl
theorem ab1 {i a b:Nat} {l:List Nat}:(V.it i a b l).isOw=true:=rfl
theorem ab2 {i:Nat}:(V.mr i).isPO=true:=rfl
theorem ab3 {i:Nat}:(V.yl i).isPO=true:=rfl
theorem ab4 {i:Nat}:(V.mr i).isPR=true:=rfl
theorem ab5 {i:Nat}:(V.yl i).isPR=true:=rfl
theorem aot {x:C}:(V.c x).dr=.c x:=rfl
theorem ag1 {x:List C}:(V.agg x).dr=.agg x:=rfl
def mM {α β:Type} (f:α→V) (h:β→V):List (α×β)→List V
 |[]=>[]
 |(a,b)::l=>f a::h b::mM f h l
theorem qo {α β:Type} {f:α→V} {h:β→V}:∀ l m:List (α×β),mM f h (l++m)=mM f h l++mM f h m
 |[],_=>rfl
 |(a,b)::l,m=>by simp[mM,qo l m]
theorem tU {α β:Type} {ag:Bool} {f:α→V} {h:β→V} {c:α→List C} (hf:∀ a,(f a).kcs ag=some (c a)):∀ l:List (α×β),jY ag (mM f h l)=some (l.map fun p=>c p.1)
 |[]=>rfl
 |(a,b)::l=>by simp[mM,jY,hf,tU hf l]
theorem rn {α β:Type} {f:α→V} {h:β→V}:∀ (l:List (α×β)) (j:Nat) (p:α×β),l[j]?=some p→(mM f h l).getD (2*j+1) .un=h p.2∧(mM f h l).getD (2*j) .un=f p.1
 |[],j,p,hp=>by simp at hp
 |(a,b)::l,0,p,hp=>by simp at hp;subst hp;exact⟨rfl,rfl⟩
 |(a,b)::l,j+1,p,hp=>by
  have:=rn (f:=f) (h:=h) l j p (by simpa using hp)
  rw[show 2*(j+1)=2*j+1+1 by omega]
  simpa only[mM,fk] using this
theorem xO {α β:Type} {f:α→V} {h:β→V}:∀ (l:List (α×β)) (j:Nat) (a:α) (b b':β),l[j]?=some (a,b)→(mM f h l).set (2*j+1) (h b')=mM f h (l.set j (a,b'))
 |[],j,a,b,b',hp=>by simp at hp
 |(a,b)::l,0,a',b0,b',hp=>by simp at hp;simp[mM,hp.1]
 |(a,b)::l,j+1,a',b0,b',hp=>by
  have:=xO (f:=f) (h:=h) l j a' b0 b' (by simpa using hp)
  rw[show 2*(j+1)+1=2*j+1+1+1 by omega]
  simp only[mM,List.set_cons_succ,this]
theorem yU {α:Type} {ks:List EK} {c:α→List C} [DecidableEq α] (hl:∀ a,(c a).length=ks.length) (he:∀ a b,iC ks (c a) (c b)=some (decide (a=b))) (a:α):∀ (l:List α) (i:Nat),
 nv ks (c a) (l.map c) i=some ((l.findIdx? (fun b=>decide (a=b))).map (i+·))
 |[],i=>rfl
 |b::l,i=>by
  simp only[br,nv,hl,dn,he,List.findIdx?_cons]
  by_cases h:a=b
  ·simp[h]
  ·simp only[h,decide_false,aI,dj]
   rw[yU hl he a l (i+1)]
   cases l.findIdx? (fun b=>decide (a=b))<;>simp;omega
end
section
variable {P:Program} {G:Gl} {tr:List Nat} {fr:Nat→V} {bx:Nat→List V} {nb:Nat} {K:S→Prop} {KV:V→Prop} {Q:VE→S→Prop}
theorem Nr (args:List V):frm 0 args=fun j=>args.getD j .un:=by
 have:=Js args
 simp only[zP,S.mk.injEq] at this
 exact this.1.symm
theorem WE {b:List V} {r:List (List V)}:bxs (b::r) 0=b:=rfl
theorem WG {b:List V} {r:List (List V)} {n:Nat}:bxs (b::r) (n+1)=bxs r n:=rfl
theorem ab6 {n:Nat}:bxs [] n=[]:=by simp[bxs]
theorem mc {f:FuncId} {fn:Func} {c:Code} {args:List V} {b0 b1:List (List V)} {r:V} (tr:List Nat) (hm:P.follows .mixedOrders=true) (hf:P.funcs[f]?=some fn) (hb:fn.body=some c) (np:(fn.name== "runtime.NumGoroutine")=false)
 {rs:List ResultVar} (OL:fn.results.toList=rs) {n:Nat} (hn:fn.ntmps=n) (vG:cok n tr c=true) (cn:args.length≤n) (ov:r.compT=true) {k:Nat} (hk:UJ tr=k) (xg:b0.length=k)
 (dy:l0 args b0=true) (ke:b0.length≤b1.length)
 (h:gZ P G tr k c (Ar P k r b1 rs) ⟨frm 0 args,bxs b0,k⟩):FnB P G f args b0 r b1:=by
 subst hn
 subst OL
 subst xg
 simp only[l0,aX,aV] at dy
 refine O5 tr hm hf hb np cn vG ov ⟨fun x hx=>V.ltB_ok (dy.1 x hx),fun b hb x hx=>V.ltB_ok (dy.2 b hb x hx),ke⟩ ?_
 rw[Nr] at h;exact h
theorem pL {k:Nat} {r:V} {b1:List (List V)} {rs:List ResultVar} {e:VE} (l:List (Nat×V)) (he:tR e=true) (eK:jq l b1=true) (hk:k≤b1.length) (hn:b1.length≤nb) (h1:FL l fr) (h2:BL 0 b1 bx) (hr:rl P false (hdS l b1) r rs) :
 Ar P k r b1 rs e ⟨fr,bx,nb⟩:=⟨Jv _ he,l,cL eK hk hn h1 h2,hr⟩
theorem rq {fr:Nat→V} {bx:Nat→List V} {nb:Nat}:rl P false ⟨fr,bx,nb⟩ (.tup []) []:=⟨[],rfl,rfl,fun _ _ _ h=>by simp at h⟩
theorem fR (m:Nat) (cs:List C):(cs.map V.c).all (fun x=>x.ltB m)=true:=by
 rw[List.all_map,aV];intro x _;rfl
theorem O6 {T:TypeId} {i:TI} {e:TypeId} {es:List (List C)} (hT:ti P T=some i) (hk:i.kd=.slice e) (gK:es≠[]):H8 P .eql T (.c (.sl es)) KV=KV (.c (.lit (.bool false))):=by
 obtain⟨kd,a,b,c,d,f,g⟩:=i;subst hk
 cases es with
 |nil=>exact absurd rfl gK
 |cons e es=>simp only[H8,hT,Ec]
theorem WH {T:TypeId} {i:TI} {e:TypeId} (hT:ti P T=some i) (hk:i.kd=.slice e):H8 P .eql T (.c (.sl [])) KV=(KV (.c (.lit (.bool true)))∧KV (.c (.lit (.bool false)))):=by
 obtain⟨kd,a,b,c,d,f,g⟩:=i;subst hk
 simp only[H8,hT,Ec]
theorem uU {s:S} {f:V} {args all cargs:List V} {g:FuncId} {K:S→V→Prop} {r:V} {b1:List (List V)} (hc:gu f args=some (g,all)) (hf:FnB P G g cargs [] r b1) (en:all.map V.fz=cargs)
 (hK:K { s with bx:=fM (fun i=>s.nb+i) 0 b1 s.bx,nb:=s.nb+b1.length } (r.ren fun i=>s.nb+i)):vcallB P G s f args K:=by
 unfold vcallB kD
 simp only[hc]
 refine⟨[],cargs,[],r,b1,hf,?_,⟨rfl,gy⟩,trivial,?_⟩
 ·rw[en,jx fun x hx=>abU (hf.2.1.1 x hx)]
 ·rw[abV]
  simpa using hK
theorem uV {s:S} {f:V} {args all cargs:List V} {g:FuncId} {K:S→V→Prop} {r:V} {b0 b1:List (List V)} (hc:gu f args=some (g,all)) (hf:FnB P G g cargs b0 r b1) (en:all.map V.fz=cargs)
 (hn:b0.length=s.nb) (hb:BL 0 b0 s.bx) (hK:K { s with bx:=fun i=>if i<b1.length then b1.getD i [] else s.bx i,nb:=b1.length } r):vcallB P G s f args K:=by
 unfold vcallB kD
 simp only[hc]
 refine⟨List.range s.nb,cargs,b0,r,b1,hf,?_,⟨by simp[hn],kr⟩,?_,?_⟩
 ·rw[yS,en,pK]
 ·rw[yS]
  refine xN _ _ _ _ fun i b yB=>?_
  have hi:=(ae.1 yB).1
  have:=hb.get i hi
  rw[aK] at this ⊢
  refine⟨by omega,?_⟩
  rw[← this]
  simp[yB]
 ·rw[yS,tQ,Wz]
  have ke:=hf.2.1.2.2
  have e1:s.nb+(b1.length - b0.length)=b1.length:=by omega
  rw[e1]
  have e2:(fun i=>if 0≤i∧i<0+b1.length then b1.getD (i - 0) [] else s.bx i)=fun i=>if i<b1.length then b1.getD i [] else s.bx i:=by
   funext i;simp
  rw[e2];exact hK
end
section
variable {P:Program} {G:Gl} {tr:List Nat} {fr:Nat→V} {bx:Nat→List V} {nb:Nat} {K:S→Prop} {KV:V→Prop} {Q:VE→S→Prop}
def ab7 {α:Type} (o:Option α) (K:α→Prop):Prop:=match o with
 |some a=>K a
 |none=>False
def BQ (f:Option (Nat×Nat×Bool)) (ds:List C) (flds:List (Nat×Nat×Bool)) (r:List (Nat×V)) (cs:List C):Option (List C):=match f with
 |some (off,sz,_)=>if ds.length=sz∧off+sz≤cs.length then j8 flds r (oM cs off ds) else none
 |none=>none
def As (e sz:Nat) (z:List C) (len:Nat) (parts:List (Nat×V)) (K:V→Prop):Prop:=match lW sz parts (List.replicate len z) with
 |some es=>K (.ow (if len=0 then none else some (e,sz)) es)
 |none=>False
theorem sg {T e:TypeId} {i j:TI} {z:List C} {sz len:Nat} {parts:List (Nat×V)} (hT:ti P T=some i) (hk:i.kd=.slice e) (hE:ti P e=some j) (hz:j.zero=some z) (hs:j.size=sz) (hp:0<sz) (hl:z.length=sz) (hn:len*sz≤16777216) :
 cw P T len parts KV=As e sz z len parts KV:=by
 obtain⟨kd,a,b,c,d,f,g⟩:=i;subst hk
 obtain⟨kd',a',b',c',d',f',g'⟩:=j;simp only at hz hs;subst hz;subst hs
 simp only[cw,hT,hE,hp,hl,hn,ia];rfl
theorem RS {sz:Nat} {es:List (List C)}:lW sz [] es=some es:=rfl
theorem RU {sz i:Nat} {ds:List C} {r:List (Nat×V)} {es:List (List C)}:lW sz ((i,.agg ds)::r) es=if ds.length=sz∧i<es.length then lW sz r (es.set i ds) else none:=rfl
theorem ab8 {sz i:Nat} {x:C} {r:List (Nat×V)} {es:List (List C)}:lW sz ((i,.c x)::r) es=if[x].length=sz∧i<es.length then lW sz r (es.set i [x]) else none:=rfl
theorem WI {sz i:Nat} {E:Option (TypeId×Nat)} {x:List (List C)} {r:List (Nat×V)} {es:List (List C)}:lW sz ((i,.ow E x)::r) es=if[C.sl x].length=sz∧i<es.length then lW sz r (es.set i [.sl x]) else none:=rfl
theorem ab9 {e sz len:Nat} {z:List C} {parts:List (Nat×V)}:As e sz z len parts KV=ab7 (lW sz parts (List.replicate len z)) (fun es=>KV (.ow (if len=0 then none else some (e,sz)) es)):=by
 unfold As ab7;cases lW sz parts (List.replicate len z)<;>rfl
def sh (flds:List (Nat×Nat×Bool)) (z:List C) (parts:List (Nat×V)) (K:V→Prop):Option (List C)→Prop
 |some cs=>K (.agg cs)
 |none=>ab7 (iI flds parts (z.map .c)) fun vs=>K (.mag vs)
theorem me {T:TypeId} {i:TI} {z:List C} {flds:List (Nat×Nat×Bool)} {parts:List (Nat×V)} (hT:ti P T=some i) (hk:i.kd=.struct) (hz:i.zero=some z) (hf:i.flds=flds) :
 iD P T parts KV=sh flds z parts KV (j8 flds parts z):=by
 obtain⟨kd,a,b,c,d,f,g⟩:=i;simp only at hk hz hf;subst hk;subst hz;subst hf
 simp only[iD,hT];unfold sh
 cases j8 f parts z with
 |some cs=>rfl
 |none=>cases iI f parts (z.map .c)<;>rfl
theorem RV {z cs:List C} {flds:List (Nat×Nat×Bool)} {parts:List (Nat×V)}:sh flds z parts KV (some cs)=KV (.agg cs):=rfl
theorem RX {α:Type} {a:α} {K:α→Prop}:ab7 (some a) K=K a:=rfl
theorem RY {flds:List (Nat×Nat×Bool)} {cs:List C}:j8 flds [] cs=some cs:=rfl
theorem aca {flds:List (Nat×Nat×Bool)} {i:Nat} {x:C} {r:List (Nat×V)} {cs:List C}:j8 flds ((i,.c x)::r) cs=BQ flds[i]? [x] flds r cs:=by
 unfold j8 BQ;cases flds[i]?<;>rfl
theorem WJ {flds:List (Nat×Nat×Bool)} {i:Nat} {E:Option (TypeId×Nat)} {x:List (List C)} {r:List (Nat×V)} {cs:List C}:j8 flds ((i,.ow E x)::r) cs=BQ flds[i]? [.sl x] flds r cs:=by
 unfold j8 BQ;cases flds[i]?<;>rfl
theorem RZ {flds:List (Nat×Nat×Bool)} {i:Nat} {ds:List C} {r:List (Nat×V)} {cs:List C}:j8 flds ((i,.agg ds)::r) cs=BQ flds[i]? ds flds r cs:=by
 unfold j8 BQ;cases flds[i]?<;>rfl
theorem Ns {off sz:Nat} {ag:Bool} {ds:List C} {flds:List (Nat×Nat×Bool)} {r:List (Nat×V)} {cs:List C}:BQ (some (off,sz,ag)) ds flds r cs=if ds.length=sz∧off+sz≤cs.length then j8 flds r (oM cs off ds) else none:=rfl
theorem Nu {cs ds:List C}:oM cs 0 ds=ds++cs.drop ds.length:=by simp[oM]
theorem Nv {c:C} {cs ds:List C} {n:Nat}:oM (c::cs) (n+1) ds=c::oM cs n ds:=by simp[oM,Nat.succ_add]
def ldZ (nb b:Nat) (l:List V) (o:Nat) (K:V→Prop):Prop:=b<nb∧match l[o]? with
 |some (.ow none es)=>K (.ow none es)
 |_=>False
theorem wC {T:TypeId} {i:TI} {b o:Nat} (hT:ti P T=some i) (ha:i.agg=false):nB P T ⟨fr,bx,nb⟩ (.bp b o) KV=(bY (bx b)=false∧ldZ nb b (bx b) o KV):=by
 simp only[nB,hT,ha,ldZ];exact propext ⟨fun⟨⟨a,_,b⟩,c⟩=>⟨b,a,c⟩,fun⟨b,a,c⟩=>⟨⟨a,trivial,b⟩,c⟩⟩
theorem aln {b:Nat} {es:List (List C)} {l:List V}:ldZ nb b (.ow none es::l) 0 KV=(b<nb∧KV (.ow none es)):=rfl
theorem alo {b o:Nat} {v:V} {l:List V}:ldZ nb b (v::l) (o+1) KV=ldZ nb b l o KV:=by simp[ldZ]
def si (f:Option (Nat×Nat×Bool)) (ds:List V) (flds:List (Nat×Nat×Bool)) (r:List (Nat×V)) (cs:List V):Option (List V):=match f with
 |some (off,sz,_)=>if ds.length=sz∧off+sz≤cs.length then iI flds r (Ai cs off ds) else none
 |none=>none
def qp (K:V→Prop):Option (List V)→Prop
 |some vs=>K (.mag vs)
 |none=>False
theorem mW {T:TypeId} {i:TI} {z:List C} {flds:List (Nat×Nat×Bool)} {parts:List (Nat×V)} (hT:ti P T=some i) (hk:i.kd=.struct) (hz:i.zero=some z) (hf:i.flds=flds) :
 jN P T parts KV=qp KV (iI flds parts (z.map ny)):=by
 obtain⟨kd,a,b,c,d,f,g⟩:=i;simp only at hk hz hf;subst hk;subst hz;subst hf
 simp only[jN,hT]
 cases iI f parts (z.map ny)<;>rfl
theorem Nw {vs:List V}:qp KV (some vs)=KV (.mag vs):=rfl
theorem R1 {flds:List (Nat×Nat×Bool)} {cs:List V}:iI flds [] cs=some cs:=rfl
theorem acb {flds:List (Nat×Nat×Bool)} {i:Nat} {x:C} {r:List (Nat×V)} {cs:List V}:iI flds ((i,.c x)::r) cs=si flds[i]? [.c x] flds r cs:=by
 unfold si;simp only[iI,V.ps];cases flds[i]?<;>rfl
theorem WL {flds:List (Nat×Nat×Bool)} {i:Nat} {E:Option (TypeId×Nat)} {x:List (List C)} {r:List (Nat×V)} {cs:List V}:iI flds ((i,.ow E x)::r) cs=si flds[i]? [.c (.sl x)] flds r cs:=by
 unfold si;simp only[iI,V.ps];cases flds[i]?<;>rfl
theorem R7 {flds:List (Nat×Nat×Bool)} {i:Nat} {ds:List C} {r:List (Nat×V)} {cs:List V}:iI flds ((i,.agg ds)::r) cs=si flds[i]? (ds.map .c) flds r cs:=by
 unfold si;simp only[iI,V.ps];cases flds[i]?<;>rfl
theorem WM {flds:List (Nat×Nat×Bool)} {i b o l c z:Nat} {r:List (Nat×V)} {cs:List V}:iI flds ((i,.ms b o l c z)::r) cs=si flds[i]? [.ms b o l c z] flds r cs:=by
 unfold si;simp only[iI,V.ps];cases flds[i]?<;>rfl
theorem Jx {off sz:Nat} {ag:Bool} {ds:List V} {flds:List (Nat×Nat×Bool)} {r:List (Nat×V)} {cs:List V}:si (some (off,sz,ag)) ds flds r cs=if ds.length=sz∧off+sz≤cs.length then iI flds r (Ai cs off ds) else none:=rfl
theorem R9 {cs ds:List V}:Ai cs 0 ds=ds++cs.drop ds.length:=by simp[Ai]
theorem Si {c:V} {cs ds:List V} {n:Nat}:Ai (c::cs) (n+1) ds=c::Ai cs n ds:=by simp[Ai,Nat.succ_add]
theorem Nx {T e:TypeId} {i j:TI} {z:List C} {sz by_:Nat} {E:Option (TypeId×Nat)} {es ys:List (List C)} (hT:ti P T=some i) (hk:i.kd=.slice e) (hE:ti P e=some j) (hz:j.zero=some z) (hs:j.size=sz) (hb:j.bytes=by_) (hp:0<sz) (hl:z.length=sz) :
 eR P T (.ow E es) (.c (.sl ys)) KV=(((E=none∨E=some (e,sz))∧∀ x∈es,x.length=sz)∧((es.length+ys.length)*by_≤140737488355328∧es.length+ys.length≤9223372036854775807∧∀ x∈ys,x.length=sz)∧KV (.ow (if ys.isEmpty then E else some (e,sz)) (es++ys))):=by
 obtain⟨kd,a,b,c,d,f,g⟩:=i;subst hk
 obtain⟨kd',a',b',c',d',f',g'⟩:=j;simp only at hz hs hb;subst hz;subst hs;subst hb
 simp only[eR,hT,hE,hp,hl,ia]
end
theorem cd {n:Int} {k:Nat} (h:n=(k:Nat)) (hk:k≤9223372036854775807):IntKind.i64.wrap n=(k:Nat):=by
 subst h;exact wrap_i64 _ (by omega)
section
variable {P:Program} {T e:TypeId} {i j:TI} {K:V→Prop} {blk off len cap k n' sz:Nat} {E:Option (TypeId×Nat)} {es:List (List C)} {s:S}
theorem G1 {a:Option Addr} (hT:ti P T=some i) (hk:i.kd=.slice e) (hK:K (.c (.lit (.int .i64 len)))):fw P T (.c (.ex (.slice a len cap))) K:=by
 obtain⟨kd,a1,a2,a3,a4,a5,a6⟩:=i;simp only at hk;subst hk
 simp only[fw,hT];exact hK
theorem ag2 {kd:IntKind} {n:Int} (hT:ti P T=some i) (hk:i.kd=.slice e) (hE:ti P e=some j) (hs:j.size=sz) (hz:sz≠0) (hn:n=(k:Nat)) (hl:k<len) (hK:K (.c (.ex (.pointer (some ⟨blk,off+k*sz,none⟩))))) :
 dS P T (.c (.ex (.slice (some ⟨blk,off,none⟩) len cap))) (.c (.lit (.int kd n))) K:=by
 obtain⟨kd',a1,a2,a3,a4,a5,a6⟩:=i;simp only at hk;subst hk
 subst hn;subst hs
 simp only[dS,hT,hE,gB]
 exact⟨⟨aJ k,by omega,hz⟩,hK⟩
theorem ag3 {f:Nat} {ag:Bool} (hT:ti P T=some i) (hf:i.flds[f]?=some (off,sz,ag)) (hz:sz≠0) (hK:K (.c (.ex (.pointer (some ⟨blk,k+off,none⟩))))):aM P T (.c (.ex (.pointer (some ⟨blk,k,none⟩)))) f K:=by
 simp only[aM,hT,hf]
 exact⟨hz,hK⟩
