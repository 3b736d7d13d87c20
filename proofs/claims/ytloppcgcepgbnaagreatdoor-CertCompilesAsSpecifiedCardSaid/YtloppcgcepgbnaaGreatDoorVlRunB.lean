/- Values without memory: how the conditions are computed: each law fires at a state that is written out, so that what follows stays as it is until its turn comes. -/
import Derived.Test.YtloppcgcepgbnaaGreatDoorVlFn
set_option linter.all false
namespace Go.Vl
open Go Go.RowKit
section
variable {P:Program} {G:Gl} {tr:List Nat} {fr:Nat->V} {bx:Nat->List V} {nb k0:Nat} {K:S->Prop} {KV:V->Prop} {Q:VE->S->Prop}
def V0 (P:Program) (G:Gl) (tr:List Nat) (ops:Array Oper) (r:List Oper) (K:S->Prop) (s:S):Prop:=ig P G tr ops r s K
def RP (P:Program) (G:Gl) (tr:List Nat) (k0:Nat) (b:Code) (Q:VE->S->Prop) (e:VE) (s:S):Prop:=match e with | .normal=>ia P G tr k0 b Q s | e=>Q e s
def RQ (id:Nat) (Q:VE->S->Prop) (e:VE) (s:S):Prop:=match e with | .exit i=>if i=id then Q .normal s else Q (.exit i) s | e=>Q e s
def Ak (P:Program) (G:Gl) (tr:List Nat) (k0:Nat) (v:V) (c:Operand) (x y:Code) (Q:VE->S->Prop) (s:S):Prop:=match v with
 | .c (.lit (.bool p))=>(p=true->ia P G tr k0 x Q (refine s c true))/\(p=false->ia P G tr k0 y Q (refine s c false))
 |_=>False
def vgd (P:Program) (G:Gl) (tr:List Nat) (ops:Array Oper) (o:Oper) (r:List Oper) (K:S->Prop) (d:Option Tmp) (v:V) (want:Bool) (s:S):Prop:=match d with
 |some d=>match v with
  | .c (.lit (.bool p))=>(p=want->VStep P G tr o { s with fr:=up s.fr d (.c (.lit (.bool want))) } (V0 P G tr ops r K))/\
   (p=(!want)->ig P G tr ops r (({ s with fr:=up s.fr d (.c (.lit (.bool (!want)))) }:S).put o.dst .sk) K)
  | .sk=>ig P G tr ops r (s.put o.dst .sk) K
  |_=>False
 |none=>False
def V1 (s:S):Option Tmp->V
 |some d=>s.fr d
 |none=>.un
def fzK (P:Program) (G:Gl) (tr:List Nat) (k0:Nat) (id:Nat) (ops:Array Oper) (Q:VE->S->Prop) (s:S):Prop:=∃ s',S.Fz (k0) s' s/\vtw P G tr id ops s' (Q .normal)
def al2 (P:Program) (G:Gl) (tr:List Nat) (ops:Array Oper) (K:S->Prop) (s:S):Prop:=ig P G tr ops ops.toList s K
theorem abM {ops:Array Oper}:al2 P G tr ops K ⟨fr,bx,nb⟩=ig P G tr ops ops.toList ⟨fr,bx,nb⟩ K:=rfl
theorem abN {i:Nat}:IS tr i=tr.contains (2300000+i):=rfl
theorem V2 {i:Nat}:IS [] i=false:=rfl
theorem rl {i:Nat} {ops:Array Oper} {s:S} (b k q:Nat) {E:Option (TypeId×Nat)} {es:List (List C)} (hi:IS tr i=true) (hb:b<s.nb) (hk:(s.bx b)[k]?=some (.ow E es)) (hq:(ops.toList.any λo=>o.dst==some q)=true) (h:∀ v,K (s.split b k q v E es)):spl tr i ops s K:=by unfold spl;rw[if_pos hi];exact .inl ⟨b,k,q,E,es,⟨hb,hk,hq⟩,h⟩
theorem Cd {i:Nat} {ops:Array Oper} {s:S} (b k:Nat) {g:Option Value} {E:Option (TypeId×Nat)} {es:List (List C)} (hi:IS tr i=true) (hb:b<s.nb) (hk:(s.bx b)[k]?=some (.hh g E es)) (h:K (s.cool b k E es)):spl tr i ops s K:=by unfold spl;rw[if_pos hi];exact .inr (.inl ⟨b,k,g,E,es,⟨hb,hk⟩,h⟩)
theorem V3 {i:Nat} {ops:Array Oper} {s:S} (b k:Nat) {g:Option Value} {E:Option (TypeId×Nat)} {es:List (List C)} (hi:IS tr i=true) (hb:b<s.nb) (hk:(s.bx b)[k]?=some (.hh g E es)) (hm:ck (s.bx b)=false)
 (h:∀ blk cap,K (s.name b k (.slice (some ⟨blk,0,none⟩) es.length cap) E es)):spl tr i ops s K:=by
 unfold spl;rw[if_pos hi];exact .inr (.inr (.inl ⟨b,k,g,E,es,⟨hb,hk,hm⟩,h⟩))
theorem rm {i:Nat} {ops:Array Oper} {s:S} (hi:IS tr i=true) (h:GsK ops K s):spl tr i ops s K:=by unfold spl;rw[if_pos hi];exact .inr (.inr (.inr h))
theorem Nv {i:Nat} {ops:Array Oper} {d:Bool}:ia P G tr k0 (.region i ops d) Q ⟨fr,bx,nb⟩=if MW tr i then vpa P G tr i ops (Q .normal) ⟨fr,bx,nb⟩ else if Vw tr i then fzK P G tr k0 i ops Q ⟨fr,bx,nb⟩ else if IS tr i then spl tr i ops ⟨fr,bx,nb⟩ (al2 P G tr ops (Q .normal)) else ig P G tr ops ops.toList ⟨fr,bx,nb⟩ (Q .normal):=by
 show(if MW tr i then _ else if Vw tr i then _ else spl tr i ops ⟨fr,bx,nb⟩ _)=_
 congr 1;congr 1;unfold spl;split<;>rfl
theorem V4 {i:Nat}:MW [] i=false:=rfl
theorem abO {i:Nat}:MW tr i=tr.contains (2850000+i):=rfl
theorem abP {i:Nat}:Vw tr i=tr.contains (2600000+i):=rfl
theorem abQ {a b:Code}:ia P G tr k0 (.seq a b) Q ⟨fr,bx,nb⟩=ia P G tr k0 a (RP P G tr k0 b Q) ⟨fr,bx,nb⟩:=rfl
theorem RR:ia P G tr k0 .skip Q ⟨fr,bx,nb⟩=Q .normal ⟨fr,bx,nb⟩:=rfl
theorem abR:ia P G tr k0 .ret Q ⟨fr,bx,nb⟩=Q .ret ⟨fr,bx,nb⟩:=rfl
theorem V5 {i:Nat}:ia P G tr k0 (.exit i) Q ⟨fr,bx,nb⟩=Q (.exit i) ⟨fr,bx,nb⟩:=rfl
theorem RS {a:Code}:ia P G tr k0 (.scope a) Q ⟨fr,bx,nb⟩=ia P G tr k0 a Q ⟨fr,bx,nb⟩:=rfl
theorem RU {i:Nat}:ia P G tr k0 (.label i) Q ⟨fr,bx,nb⟩=Q .normal ⟨fr,bx,nb⟩:=rfl
theorem RV {i:Nat} {a:Code}:ia P G tr k0 (.block i a) Q ⟨fr,bx,nb⟩=ia P G tr k0 a (RQ i Q) ⟨fr,bx,nb⟩:=rfl
theorem V6 {c:Operand} {x y:Code}:ia P G tr k0 (.cond c x y) Q ⟨fr,bx,nb⟩=Ak P G tr k0 (ev G ⟨fr,bx,nb⟩ c) c x y Q ⟨fr,bx,nb⟩:=rfl
theorem Et {c:Operand} {x y:Code}:Ak P G tr k0 (.c (.lit (.bool true))) c x y Q ⟨fr,bx,nb⟩=ia P G tr k0 x Q (refine ⟨fr,bx,nb⟩ c true):=by simp[Ak]
theorem Ce {c:Operand} {x y:Code}:Ak P G tr k0 (.c (.lit (.bool false))) c x y Q ⟨fr,bx,nb⟩=ia P G tr k0 y Q (refine ⟨fr,bx,nb⟩ c false):=by simp[Ak]
theorem aD {c:Operand} {x y:Code} {p:Bool} {s:S} (h1:p=true->ia P G tr k0 x Q (refine s c true)) (h2:p=false->ia P G tr k0 y Q (refine s c false)) :
 Ak P G tr k0 (.c (.lit (.bool p))) c x y Q s:=⟨h1,h2⟩
theorem JG {b:Code} {s:S}:RP P G tr k0 b Q .normal s=ia P G tr k0 b Q s:=rfl
theorem V7 {b:Code} {s:S}:RP P G tr k0 b Q .ret s=Q .ret s:=rfl
theorem RX {b:Code} {s:S} {i:Nat}:RP P G tr k0 b Q (.exit i) s=Q (.exit i) s:=rfl
theorem JH {id:Nat} {s:S}:RQ id Q .normal s=Q .normal s:=rfl
theorem V8 {id:Nat} {s:S}:RQ id Q .ret s=Q .ret s:=rfl
theorem RY {id i:Nat} {s:S}:RQ id Q (.exit i) s=if i=id then Q .normal s else Q (.exit i) s:=rfl
theorem Nw {t:Tmp} {p:Bool}:refine ⟨fr,bx,nb⟩ (.tmp t) p=⟨up fr t (.c (.lit (.bool p))),bx,nb⟩:=rfl
theorem abS {ops:Array Oper}:ig P G tr ops [] ⟨fr,bx,nb⟩ K=K ⟨fr,bx,nb⟩:=rfl
theorem ag9 {ops:Array Oper} {d:Option Tmp} {op:Op} {ty:TypeId} {pos:String} {af:Array Edge} {r:List Oper} :
 ig P G tr ops (⟨d,op,ty,pos,af,none⟩::r) ⟨fr,bx,nb⟩ K=VStep P G tr ⟨d,op,ty,pos,af,none⟩ ⟨fr,bx,nb⟩ (V0 P G tr ops r K):=rfl
theorem abT {ops:Array Oper} {d:Option Tmp} {op:Op} {ty:TypeId} {pos:String} {af:Array Edge} {j:Nat} {w:Bool} {r:List Oper} :
 ig P G tr ops (⟨d,op,ty,pos,af,some (j,w)⟩::r) ⟨fr,bx,nb⟩ K=
  vgd P G tr ops ⟨d,op,ty,pos,af,some (j,w)⟩ r K ((ops[j]?).bind (·.dst)) (V1 ⟨fr,bx,nb⟩ ((ops[j]?).bind (·.dst))) w ⟨fr,bx,nb⟩:=by
 simp only[ig,nR,vgd];cases hd:(ops[j]?).bind (·.dst) with
 |none=>rfl
 |some d=>rfl
theorem abU {ops:Array Oper} {o:Oper} {r:List Oper} {d:Tmp} {w:Bool}:vgd P G tr ops o r K (some d) (.c (.lit (.bool w))) w ⟨fr,bx,nb⟩=VStep P G tr o ⟨up fr d (.c (.lit (.bool w))),bx,nb⟩ (V0 P G tr ops r K):=by simp[vgd]
theorem aha {ops:Array Oper} {o:Oper} {r:List Oper} {d:Tmp}:vgd P G tr ops o r K (some d) (.c (.lit (.bool true))) false ⟨fr,bx,nb⟩=ig P G tr ops r ((⟨up fr d (.c (.lit (.bool true))),bx,nb⟩:S).put o.dst .sk) K:=by simp[vgd]
theorem ahb {ops:Array Oper} {o:Oper} {r:List Oper} {d:Tmp}:vgd P G tr ops o r K (some d) (.c (.lit (.bool false))) true ⟨fr,bx,nb⟩=ig P G tr ops r ((⟨up fr d (.c (.lit (.bool false))),bx,nb⟩:S).put o.dst .sk) K:=by simp[vgd]
theorem ahc {ops:Array Oper} {o:Oper} {r:List Oper} {d:Tmp} {w:Bool}:vgd P G tr ops o r K (some d) .sk w ⟨fr,bx,nb⟩=ig P G tr ops r ((⟨fr,bx,nb⟩:S).put o.dst .sk) K:=rfl
theorem fy {ops:Array Oper} {o:Oper} {r:List Oper} {d:Tmp} {w p:Bool} {s:S} (h1:p=w->VStep P G tr o { s with fr:=up s.fr d (.c (.lit (.bool w))) } (V0 P G tr ops r K))
 (h2:p=(!w)->ig P G tr ops r (({ s with fr:=up s.fr d (.c (.lit (.bool (!w)))) }:S).put o.dst .sk) K):vgd P G tr ops o r K (some d) (.c (.lit (.bool p))) w s:=⟨h1,h2⟩
theorem JI {d:Tmp}:V1 ⟨fr,bx,nb⟩ (some d)=fr d:=rfl
theorem abV {ops:Array Oper} {r:List Oper}:V0 P G tr ops r K ⟨fr,bx,nb⟩=ig P G tr ops r ⟨fr,bx,nb⟩ K:=rfl
theorem V9 {d:Nat} {v:V}:(⟨fr,bx,nb⟩:S).put (some d) v=⟨up fr d v,bx,nb⟩:=rfl
theorem Wa {v:V}:(⟨fr,bx,nb⟩:S).put none v=⟨fr,bx,nb⟩:=rfl
section
variable {d:Nat} {dO:Option Tmp} {t:Tmp} {ty T:TypeId} {pos:String} {af:Array Edge} {g:Option (Nat×Bool)}
theorem abW:VStep P G tr ⟨some d,.move (.tmp t),ty,pos,af,g⟩ ⟨fr,bx,nb⟩ K=if tr.contains d then K (((⟨fr,bx,nb⟩:S).use (some t)).put (some d) (fr t)) else K ⟨up fr d (fr t).fz,bx,nb⟩:=by
 simp only[VStep,VYK,Vr,ev];split
 .rename_i h;simp only[S.after,cj,Vr,h,cZ]
 .rename_i h;simp only[S.after,cj,Vr,h];rfl
theorem Eu {v:Value}:VStep P G tr ⟨some d,.move (.const v),ty,pos,af,g⟩ ⟨fr,bx,nb⟩ K=if tr.contains d then K ⟨up fr d (ng v),bx,nb⟩ else K ⟨up fr d (ng v).fz,bx,nb⟩:=rfl
theorem RZ:VStep P G tr ⟨some d,.assign (.tmp t),ty,pos,af,g⟩ ⟨fr,bx,nb⟩ K=K (((⟨fr,bx,nb⟩:S).use (some t)).put (some d) (fr t)):=rfl
theorem AN {v:Value}:VStep P G tr ⟨some d,.assign (.const v),ty,pos,af,g⟩ ⟨fr,bx,nb⟩ K=K ⟨up fr d (ng v),bx,nb⟩:=rfl
def Wb (c a b:V) (K:V->Prop):Prop:=match c with
 | .c (.lit (.bool p))=>K (if p then a.fz else b.fz)
 |_=>False
def lW (dO:Option Tmp) (s:S) (K:S->Prop) (v:V):Prop:=K (s.put dO v)
theorem abX {v:V}:lW (some d) ⟨fr,bx,nb⟩ K v=K ⟨up fr d v,bx,nb⟩:=rfl
theorem R7 {v:V}:lW none ⟨fr,bx,nb⟩ K v=K ⟨fr,bx,nb⟩:=rfl
theorem Wc {c a b:Operand}:VStep P G tr ⟨dO,.pick c a b,ty,pos,af,g⟩ ⟨fr,bx,nb⟩ K=Wb (ev G ⟨fr,bx,nb⟩ c) (ev G ⟨fr,bx,nb⟩ a) (ev G ⟨fr,bx,nb⟩ b) (lW dO ⟨fr,bx,nb⟩ K):=rfl
theorem Nx {a b:V}:Wb (.c (.lit (.bool true))) a b KV=KV a.fz:=rfl
theorem JJ {a b:V}:Wb (.c (.lit (.bool false))) a b KV=KV b.fz:=rfl
theorem ahd {op:BinOp} {x:Operand} {t:Tmp} {yT:TypeId}:VStep P G tr ⟨dO,.binOp op T x (.tmp t) yT,ty,pos,af,g⟩ ⟨fr,bx,nb⟩ K=j3 P op T (ev G ⟨fr,bx,nb⟩ x) (fr t) (lW dO ⟨fr,bx,nb⟩ K):=rfl
theorem We {op:BinOp} {x:Operand} {k:IntKind} {m:Int} {yT:TypeId}:VStep P G tr ⟨dO,.binOp op T x (.const (.int k m)) yT,ty,pos,af,g⟩ ⟨fr,bx,nb⟩ K=j3 P op T (ev G ⟨fr,bx,nb⟩ x) (.c (.lit (.int k m))) (lW dO ⟨fr,bx,nb⟩ K):=rfl
theorem Wg {op:BinOp} {x:Operand} {b:Bool} {yT:TypeId}:VStep P G tr ⟨dO,.binOp op T x (.const (.bool b)) yT,ty,pos,af,g⟩ ⟨fr,bx,nb⟩ K=j3 P op T (ev G ⟨fr,bx,nb⟩ x) (.c (.lit (.bool b))) (lW dO ⟨fr,bx,nb⟩ K):=rfl
theorem Wh {op:BinOp} {x:Operand} {b:ByteArray} {yT:TypeId}:VStep P G tr ⟨dO,.binOp op T x (.const (.string b)) yT,ty,pos,af,g⟩ ⟨fr,bx,nb⟩ K=j3 P op T (ev G ⟨fr,bx,nb⟩ x) (.c (.lit (.string b))) (lW dO ⟨fr,bx,nb⟩ K):=rfl
theorem Ny {op:BinOp} {x:Operand} {yT:TypeId}:VStep P G tr ⟨dO,.binOp op T x (.const (.slice none 0 0)) yT,ty,pos,af,g⟩ ⟨fr,bx,nb⟩ K=IM P op T (ev G ⟨fr,bx,nb⟩ x) (lW dO ⟨fr,bx,nb⟩ K):=rfl
theorem R9 {op:BinOp} {x:Operand} {yT:TypeId}:VStep P G tr ⟨dO,.binOp op T x (.const (.pointer none)) yT,ty,pos,af,g⟩ ⟨fr,bx,nb⟩ K=rO P op T false (ev G ⟨fr,bx,nb⟩ x) (lW dO ⟨fr,bx,nb⟩ K):=rfl
theorem Si {op:BinOp} {x:Operand} {yT:TypeId}:VStep P G tr ⟨dO,.binOp op T x (.const .nilFunc) yT,ty,pos,af,g⟩ ⟨fr,bx,nb⟩ K=rO P op T true (ev G ⟨fr,bx,nb⟩ x) (lW dO ⟨fr,bx,nb⟩ K):=rfl
theorem JK {fn b:Bool} {x:V} (h:PL fn x=some b) (hT:abm P T fn=true):rO P .eql T fn x KV=KV (.c (.lit (.bool b))):=by simp only[rO,h,hT,iM]
theorem JL {fn b:Bool} {x:V} (h:PL fn x=some b) (hT:abm P T fn=true):rO P .neq T fn x KV=KV (.c (.lit (.bool (!b)))):=by simp only[rO,h,hT,iM]
theorem al3 {op:UnOp} {x:Operand}:VStep P G tr ⟨dO,.unOp op T x,ty,pos,af,g⟩ ⟨fr,bx,nb⟩ K=vun op (ev G ⟨fr,bx,nb⟩ x) (lW dO ⟨fr,bx,nb⟩ K):=rfl
def zK (dO:Option Tmp) (s:S) (K:S->Prop) (v:V):Prop:=K (s.put dO v)
theorem al4 {v:V}:zK dO ⟨fr,bx,nb⟩ K v=K ((⟨fr,bx,nb⟩:S).put dO v):=rfl
theorem abY:isZ [] dO=false:=by cases dO<;>rfl
theorem Wj:isZ tr (some d)=tr.contains (2500000+d):=rfl
theorem Wl:isZ tr none=false:=rfl
theorem abZ {x:Operand}:VStep P G tr ⟨dO,.load T x,ty,pos,af,g⟩ ⟨fr,bx,nb⟩ K=
 if isZ tr dO then nQ P T ⟨fr,bx,nb⟩ (ev G ⟨fr,bx,nb⟩ x) (zK dO ⟨fr,bx,nb⟩ K) else pe tr dO (ev G ⟨fr,bx,nb⟩ x)=true/\cO P T ⟨fr,bx,nb⟩ (ev G ⟨fr,bx,nb⟩ x) (lW dO ⟨fr,bx,nb⟩ K):=rfl
theorem Sj {t:Option Tmp} {v:V}:pe [] t v=true:=by
 cases t with
 |none=>cases v<;>rfl
 |some t=>
  cases v with
  |c x=>cases x<;>rfl
  |_=>rfl
theorem Nz {v:V}:pe tr none v=true:=by cases v<;>rfl
theorem Wm {t b k:Nat}:pe tr (some t) (.bp b k)=(!tr.contains (200000+t)||(decide (b<100)&&tr.contains (300000+t*100+b))):=rfl
theorem ab0 {t:Nat} {cs:List C} {k:Nat}:pe tr (some t) (.c (.rp cs k))=true:=rfl
theorem Wn {t:Nat} {v:Value}:pe tr (some t) (.c (.ex v))=!tr.contains (200000+t):=rfl
theorem ahe {t:Tmp}:MV (.tmp t)=some t:=rfl
theorem Hv {x:Operand} {f:Nat}:VStep P G tr ⟨dO,.fieldAddr T x f,ty,pos,af,g⟩ ⟨fr,bx,nb⟩ K=aR P T (ev G ⟨fr,bx,nb⟩ x) f (lW dO ⟨fr,bx,nb⟩ K):=rfl
theorem Wp {x:Operand} {f:Nat}:VStep P G tr ⟨dO,.field T x f,ty,pos,af,g⟩ ⟨fr,bx,nb⟩ K=sA P T (ev G ⟨fr,bx,nb⟩ x) f (lW dO ⟨fr,bx,nb⟩ K):=rfl
theorem Hw {x i:Operand}:VStep P G tr ⟨dO,.indexAddr T x i,ty,pos,af,g⟩ ⟨fr,bx,nb⟩ K=dW P T (ev G ⟨fr,bx,nb⟩ x).fz (ev G ⟨fr,bx,nb⟩ i) (lW dO ⟨fr,bx,nb⟩ K):=rfl
theorem Wq {x i:Operand}:VStep P G tr ⟨dO,.index T x i,ty,pos,af,g⟩ ⟨fr,bx,nb⟩ K=mI P T (ev G ⟨fr,bx,nb⟩ x) (ev G ⟨fr,bx,nb⟩ i) (lW dO ⟨fr,bx,nb⟩ K):=rfl
theorem Ws {x:Operand} {lo hi mx:Option Operand}:VStep P G tr ⟨dO,.slice T x lo hi mx,ty,pos,af,g⟩ ⟨fr,bx,nb⟩ K=
 jl P T (ev G ⟨fr,bx,nb⟩ x).fz (lo.map (ev G ⟨fr,bx,nb⟩)) (hi.map (ev G ⟨fr,bx,nb⟩)) (mx.map (ev G ⟨fr,bx,nb⟩)) (lW dO ⟨fr,bx,nb⟩ K):=rfl
theorem NA {x:Operand} {U:TypeId}:VStep P G tr ⟨dO,.convert T U x,ty,pos,af,g⟩ ⟨fr,bx,nb⟩ K=
 if oq tr dO then MR P ⟨fr,bx,nb⟩ dO T U K (ev G ⟨fr,bx,nb⟩ x) else jQ P T U (vw ⟨fr,bx,nb⟩ (ev G ⟨fr,bx,nb⟩ x)).fz (lW dO ⟨fr,bx,nb⟩ K):=rfl
theorem ahf {x:Operand}:VStep P G tr ⟨dO,.sliceToArrayPointer T x,ty,pos,af,g⟩ ⟨fr,bx,nb⟩ K=alW P T (ev G ⟨fr,bx,nb⟩ x) (lW dO ⟨fr,bx,nb⟩ K):=rfl
def A9 (x:V) (K:V->Prop):Prop:=match x with
 | .bp i o=>K (.bp i o)
 | .c (.rp cs k)=>K (.c (.rp cs k))
 | .c (.ex (.pointer (some ad)))=>K (.c (.ex (.pointer (some ad))))
 |_=>False
theorem JM {x:Operand}:VStep P G tr ⟨dO,.nilCheck x,ty,pos,af,g⟩ ⟨fr,bx,nb⟩ K=A9 (ev G ⟨fr,bx,nb⟩ x) (lW dO ⟨fr,bx,nb⟩ K):=rfl
theorem Sl {i o:Nat}:A9 (.bp i o) KV=KV (.bp i o):=rfl
theorem Sm {cs:List C} {k:Nat}:A9 (.c (.rp cs k)) KV=KV (.c (.rp cs k)):=rfl
theorem Wu {parts:Array (Nat×Operand)}:VStep P G tr ⟨dO,.build T parts,ty,pos,af,g⟩ ⟨fr,bx,nb⟩ K=
 if isZ tr dO then jR P T (parts.toList.map λp=>(p.1,ev G ⟨fr,bx,nb⟩ p.2)) (zK dO ⟨fr,bx,nb⟩ K) else iH P T (parts.toList.map λp=>(p.1,ev G ⟨fr,bx,nb⟩ p.2)) (lW dO ⟨fr,bx,nb⟩ K):=rfl
theorem Ew {len:Nat} {parts:Array (Nat×Operand)}:VStep P G tr ⟨dO,.buildSlice T len parts,ty,pos,af,g⟩ ⟨fr,bx,nb⟩ K=
 if oq tr dO then cH P T len (parts.toList.map λp=>(p.1,ev G ⟨fr,bx,nb⟩ p.2)) (Vs ⟨fr,bx,nb⟩ dO len len K)
 else if MS tr dO then(xC P T len (parts.toList.map λp=>(p.1,ev G ⟨fr,bx,nb⟩ p.2)) ⟨fr,bx,nb⟩ dO K∨cH P T len (parts.toList.map λp=>(p.1,ev G ⟨fr,bx,nb⟩ p.2)) (exK (lW dO ⟨fr,bx,nb⟩ K)))
 else cH P T len (parts.toList.map λp=>(p.1,ev G ⟨fr,bx,nb⟩ p.2)) (lW dO ⟨fr,bx,nb⟩ K):=rfl
theorem ab1 {e:TypeId} {sz n m:Nat} {es:List (List C)}:Vs ⟨fr,bx,nb⟩ dO n m K (.ow (some (e,sz)) es)=K ((⟨fr,up bx nb (es.flatten.map .c),nb+1⟩:S).put dO (.ms nb 0 n m sz)):=rfl
theorem Sr:oq [] dO=false:=by cases dO<;>rfl
theorem Ss:xz [] dO=false:=rfl
theorem Wv:Rf [] dO=false:=rfl
theorem Ww:MS [] dO=false:=by cases dO<;>rfl
theorem Su:MS tr (some d)=tr.contains (1400000+d):=rfl
theorem Sv:MS tr none=false:=rfl
theorem Wx:Gw [] dO=false:=rfl
theorem Sz:Gw tr (some d)=tr.contains (1100000+d):=rfl
theorem SA:Gw tr none=tr.contains 1199999:=rfl
theorem al5 {s:S} {t:Tmp}:evX G s (.tmp t)=s.fr t:=rfl
theorem al6 {s:S} {f:FuncId}:evX G s (.func f)=.c (.fn (.func f) [] []):=rfl
theorem ab2 {s:S}:evX G s (.const (.slice none 0 0))=.c (.ex (.slice none 0 0)):=rfl
theorem Wz:IL [] dO=false:=rfl
theorem SB:IL tr (some d)=tr.contains (1500000+d):=rfl
theorem SC:IL tr none=tr.contains 1599999:=rfl
theorem NB:oq tr (some d)=tr.contains (2000000+d):=rfl
theorem NC:oq tr none=false:=rfl
theorem ND:xz tr (some d)=tr.contains (1000000+d):=rfl
theorem NF:xz tr none=tr.contains 999999:=rfl
theorem SD {d:Tmp}:Rf tr (some d)=tr.contains (1900000+d):=rfl
theorem SG:Rf tr none=tr.contains 1999999:=rfl
theorem SH:Ea tr (some d)=tr.contains (400000+d):=rfl
theorem SI:Ea tr none=tr.contains 399999:=rfl
theorem ahg {s:S} {v:V}:lcK tr dO s K ⟨fr,bx,nb⟩ v=(ag4 tr dO s ⟨fr,bx,nb⟩/\K ((⟨fr,bx,nb⟩:S).put dO v)):=rfl
def mkK (dO:Option Tmp) (s:S) (K:S->Prop) (n m sz:Nat) (z:List C):Prop:=K ({ s with bx:=up s.bx s.nb ((List.replicate m z).flatten.map .c),nb:=s.nb+1 }.put dO (.ms s.nb 0 n m sz))
theorem Hy {l c:Operand}:VStep P G tr ⟨dO,.makeSlice T l c,ty,pos,af,g⟩ ⟨fr,bx,nb⟩ K=rN P T (ev G ⟨fr,bx,nb⟩ l) (ev G ⟨fr,bx,nb⟩ c) (mkK dO ⟨fr,bx,nb⟩ K):=rfl
theorem ahh {n m sz:Nat} {z:List C}:mkK dO ⟨fr,bx,nb⟩ K n m sz z=K ((⟨fr,up bx nb ((List.replicate m z).flatten.map .c),nb+1⟩:S).put dO (.ms nb 0 n m sz)):=rfl
def ab3 (x:V) (i:Nat) (K:V->Prop):Prop:=match x with
 | .tup ds=>match ds[i]? with
  |some d=>K d
  |none=>False
 |_=>False
theorem NG {x:Operand} {i:Nat}:VStep P G tr ⟨dO,.extract x i,ty,pos,af,g⟩ ⟨fr,bx,nb⟩ K=ab3 (ev G ⟨fr,bx,nb⟩ x) i (lW dO ⟨fr,bx,nb⟩ K):=rfl
theorem SJ {v:V} {ds:List V}:ab3 (.tup (v::ds)) 0 KV=KV v:=rfl
theorem WA {v u:V} {ds:List V}:ab3 (.tup (v::u::ds)) 1 KV=KV u:=rfl
theorem WB {v u x:V} {ds:List V}:ab3 (.tup (v::u::x::ds)) 2 KV=KV x:=rfl
theorem JO {f:Fn} {a b:Array Operand}:VStep P G tr ⟨dO,.makeFunc f a b,ty,pos,af,g⟩ ⟨fr,bx,nb⟩ K=
 ((((a.toList.map (ev G ⟨fr,bx,nb⟩)).all V.isPR=true/\(b.toList.map (ev G ⟨fr,bx,nb⟩)).all V.isPR=true))/\lW dO ⟨fr,bx,nb⟩ K (.clo f (a.toList.map (ev G ⟨fr,bx,nb⟩)) (b.toList.map (ev G ⟨fr,bx,nb⟩)))):=rfl
theorem ab4 {v:V}:Eb dO K ⟨fr,bx,nb⟩ v=K ((⟨fr,bx,nb⟩:S).put dO v):=rfl
theorem ab5 {f:Operand} {args:Array Operand} {ts:Array TypeId}:VStep P G tr ⟨dO,.call ⟨.value f,args,ts⟩,ty,pos,af,g⟩ ⟨fr,bx,nb⟩ K=
 if Gw tr dO then wx P G ⟨fr,bx,nb⟩ (ev G ⟨fr,bx,nb⟩ f) (args.toList.map (ev G ⟨fr,bx,nb⟩)) (Eb dO K) else
 if IL tr dO then ll P G ⟨fr,bx,nb⟩ (ev G ⟨fr,bx,nb⟩ f) (args.toList.map (evX G ⟨fr,bx,nb⟩)) (Eb dO K) else
 if xz tr dO then vcallB P G ⟨fr,bx,nb⟩ (ev G ⟨fr,bx,nb⟩ f) (args.toList.map (ev G ⟨fr,bx,nb⟩)) (if Ea tr dO then lcK tr dO ⟨fr,bx,nb⟩ K else Eb dO K)
 else if Rf tr dO then pO P G ⟨fr,bx,nb⟩ (ev G ⟨fr,bx,nb⟩ f) (args.toList.map (ev G ⟨fr,bx,nb⟩)) (lW dO ⟨fr,bx,nb⟩ K)
 else rM P G ⟨fr,bx,nb⟩ (ev G ⟨fr,bx,nb⟩ f) (args.toList.map (ev G ⟨fr,bx,nb⟩)) (lW dO ⟨fr,bx,nb⟩ K):=rfl
theorem ahi {args:Array Operand} {ts:Array TypeId}:VStep P G tr ⟨dO,.call ⟨.builtin .len,args,ts⟩,ty,pos,af,g⟩ ⟨fr,bx,nb⟩ K=
 if MU tr dO then IP P ⟨fr,bx,nb⟩ (lW dO ⟨fr,bx,nb⟩ K) ts.toList (args.toList.map (ev G ⟨fr,bx,nb⟩)) else eX P .len ts.toList (args.toList.map (ev G ⟨fr,bx,nb⟩)) (lW dO ⟨fr,bx,nb⟩ K):=rfl
theorem WC:MU [] dO=false:=by cases dO<;>rfl
theorem SK:MU tr (some d)=tr.contains (1600000+d):=rfl
theorem SL:MU tr none=false:=rfl
theorem ahj {args:Array Operand} {ts:Array TypeId}:VStep P G tr ⟨dO,.call ⟨.builtin .min,args,ts⟩,ty,pos,af,g⟩ ⟨fr,bx,nb⟩ K=
 Bv false (args.toList.map (ev G ⟨fr,bx,nb⟩)) (lW dO ⟨fr,bx,nb⟩ K):=rfl
theorem ahk {args:Array Operand} {ts:Array TypeId}:VStep P G tr ⟨dO,.call ⟨.builtin .max,args,ts⟩,ty,pos,af,g⟩ ⟨fr,bx,nb⟩ K=
 Bv true (args.toList.map (ev G ⟨fr,bx,nb⟩)) (lW dO ⟨fr,bx,nb⟩ K):=rfl
def WE (t:Option Tmp) (dO:Option Tmp) (s:S) (K:S->Prop) (v:V):Prop:=K ((s.use t).put dO v)
def WG:List Operand->Option Tmp
 | .tmp t::_=>some t
 |_=>none
theorem SN {args:Array Operand} {T U:TypeId}:VStep P G tr ⟨dO,.call ⟨.builtin .append,args,#[T,U]⟩,ty,pos,af,g⟩ ⟨fr,bx,nb⟩ K=
 if oq tr dO then xA P ⟨fr,bx,nb⟩ dO K [T,U] (args.toList.map λx=>vw ⟨fr,bx,nb⟩ (ev G ⟨fr,bx,nb⟩ x))
 else if wz tr dO then fE P ⟨fr,bx,nb⟩ (Eb dO K) [T,U] (args.toList.map (ev G ⟨fr,bx,nb⟩))
 else if Bw tr dO then(if wy tr dO then vG P G ⟨fr,bx,nb⟩ dO [T,U] args.toList (WE (WG args.toList) dO ⟨fr,bx,nb⟩ K) else jv P G ⟨fr,bx,nb⟩ dO [T,U] args.toList (WE (WG args.toList) dO ⟨fr,bx,nb⟩ K))
 else eX P .append [T,U] (args.toList.map λx=>vw ⟨fr,bx,nb⟩ (ev G ⟨fr,bx,nb⟩ x)) (WE (WG args.toList) dO ⟨fr,bx,nb⟩ K):=rfl
theorem dx:Bw tr (some d)=tr.contains (2400000+d):=rfl
theorem SO:wy tr (some d)=tr.contains (2450000+d):=rfl
theorem WH:wy [] dO=false:=by cases dO<;>rfl
theorem NH:wz [] dO=false:=by cases dO<;>rfl
theorem JP:wz tr (some d)=tr.contains (2700000+d):=rfl
theorem JQ:wz tr none=false:=rfl
theorem WI {args:Array Operand} {T:TypeId}:VStep P G tr ⟨dO,.call ⟨.builtin .clear,args,#[T]⟩,ty,pos,af,g⟩ ⟨fr,bx,nb⟩ K=jw P ⟨fr,bx,nb⟩ (λs'=>K (s'.put dO .un)) [T] (args.toList.map (ev G ⟨fr,bx,nb⟩)):=rfl
theorem ab6 {args:Array Operand} {T U:TypeId}:VStep P G tr ⟨dO,.call ⟨.builtin .copy,args,#[T,U]⟩,ty,pos,af,g⟩ ⟨fr,bx,nb⟩ K=xB P ⟨fr,bx,nb⟩ (Eb dO K) [T,U] (args.toList.map (ev G ⟨fr,bx,nb⟩)):=rfl
theorem NI {T:TypeId} {es:List (List C)} {y:V}:xA P ⟨fr,bx,nb⟩ dO K [T,T] [.ow none es,y]=dS P T (.ow none es) y.fz (abl ⟨fr,bx,nb⟩ dO K):=by simp[xA]
theorem ab7 {e:TypeId} {sz:Nat} {es:List (List C)}:abl ⟨fr,bx,nb⟩ dO K (.ow (some (e,sz)) es)=K ((⟨fr,up bx nb (es.flatten.map .c),nb+1⟩:S).put dO (.ms nb 0 es.length es.length sz)):=rfl
theorem WJ {v:V}:WE (some t) (some d) ⟨fr,bx,nb⟩ K v=K (((⟨fr,bx,nb⟩:S).use (some t)).put (some d) v):=rfl
theorem SQ {v:V}:WE none (some d) ⟨fr,bx,nb⟩ K v=K ⟨up fr d v,bx,nb⟩:=rfl
theorem WL:VStep P G tr ⟨some d,.alloc T,ty,pos,af,g⟩ ⟨fr,bx,nb⟩ K=match ti P T with
 |some { zero:=some z,.. }=>K ⟨up fr d (.bp nb 0),up bx nb (z.map nM),nb+1⟩
 |_=>False:=rfl
def rU (t:Option Tmp) (d:Nat) (v:V) (s:S) (K:S->Prop):Prop:=match v.bcells with
 |some cs=>K ((let s':=s.use t;{ s' with bx:=up s'.bx s'.nb cs,nb:=s'.nb+1 }:S).put (some d) (.bp s.nb 0))
 |none=>False
theorem ahl:VStep P G tr ⟨some d,.box T (.tmp t),ty,pos,af,g⟩ ⟨fr,bx,nb⟩ K=rU (some t) d (fr t) ⟨fr,bx,nb⟩ K:=rfl
theorem Hz {v:Value}:VStep P G tr ⟨some d,.box T (.const v),ty,pos,af,g⟩ ⟨fr,bx,nb⟩ K=rU none d (ng v) ⟨fr,bx,nb⟩ K:=rfl
def oH (i:Option TI) (t:Option Tmp) (dO:Option Tmp) (p v:V) (s:S) (K:S->Prop):Prop:=match i,p,v.bcells with
 |some i,.bp b k,some cs=>(b<s.nb/\cs.length=i.size/\k+i.size<=(s.bx b).length/\ck (s.bx b)=false)/\
   K ((let s':=s.use t;{ s' with bx:=up s'.bx b (eQ (s'.bx b) k cs) }:S).put dO .sk)
 |some i,.c (.ex (.pointer (some ⟨blk,j,none⟩))),_=>(∃ (b k len cap:Nat) (E:Option (TypeId×Nat)) (es:List (List C)) (r:Nat) (e:List C) (c:C),(i.size=1/\b<s.nb/\ck (s.bx b)=false/\(s.bx b)[k]?=some (V.hh (some (.slice (some ⟨blk,0,none⟩) len cap)) E (es++[e]))/\
   (es.flatten.length+r=j/\r<e.length)/\v.asC=some c)/\
   K ((let s':=s.use t;{ s' with bx:=up s'.bx b ((s'.bx b).set k (.hh (some (.slice (some ⟨blk,0,none⟩) len cap)) E (es++[e.set r c]))) }:S).put dO .sk))∨
   ag5 s.bx s.nb i blk j v (λbx=>K ((let s':=s.use t;{ s' with bx:=bx }:S).put dO .sk))
 |_,_,_=>False
theorem WM {p:Operand}:VStep P G tr ⟨dO,.store T p (.tmp t),ty,pos,af,g⟩ ⟨fr,bx,nb⟩ K=(pe tr (MV p) (ev G ⟨fr,bx,nb⟩ p)=true/\oH (ti P T) (some t) dO (ev G ⟨fr,bx,nb⟩ p) (fr t) ⟨fr,bx,nb⟩ K):=rfl
theorem Cf {p:Operand} {v:Value}:VStep P G tr ⟨dO,.store T p (.const v),ty,pos,af,g⟩ ⟨fr,bx,nb⟩ K=(pe tr (MV p) (ev G ⟨fr,bx,nb⟩ p)=true/\oH (ti P T) none dO (ev G ⟨fr,bx,nb⟩ p) (ng v) ⟨fr,bx,nb⟩ K):=rfl
theorem ib:(⟨fr,bx,nb⟩:S).use (some t)=if(fr t).isOw=true then⟨up fr t .un,bx,nb⟩ else⟨fr,bx,nb⟩:=rfl
theorem JR:(⟨fr,bx,nb⟩:S).use none=⟨fr,bx,nb⟩:=rfl
theorem ahm:ev G ⟨fr,bx,nb⟩ (.tmp t)=fr t:=rfl
theorem WN {v:Value}:ev G ⟨fr,bx,nb⟩ (.const v)=ng v:=rfl
theorem ab8 {f:FuncId}:ev G ⟨fr,bx,nb⟩ (.func f)=.c (.fn (.func f) [] []):=rfl
theorem NJ {k:IntKind} {n:Int}:ng (.int k n)=.c (.lit (.int k n)):=rfl
theorem JS {b:Bool}:ng (.bool b)=.c (.lit (.bool b)):=rfl
theorem Ey {b:ByteArray}:ng (.string b)=.c (.lit (.string b)):=rfl
theorem NK {l:List Value}:ng (.agg l.toArray)=if l.all qJ then .agg (l.map constC) else .un:=rfl
theorem JU {k:IntKind} {n:Int}:qJ (.int k n)=true:=rfl
theorem HA {b:Bool}:qJ (.bool b)=true:=rfl
theorem JV {b:ByteArray}:qJ (.string b)=true:=rfl
theorem JW:qJ (.slice none 0 0)=true:=rfl
theorem NL {k:IntKind} {n:Int}:constC (.int k n)=.lit (.int k n):=rfl
theorem JX {b:Bool}:constC (.bool b)=.lit (.bool b):=rfl
theorem NM {b:ByteArray}:constC (.string b)=.lit (.string b):=rfl
theorem NN:constC (.slice none 0 0)=.sl []:=rfl
theorem NP:ng (.slice none 0 0)=.ow none []:=rfl
theorem apf {s:S} {x:C}:vw s (.c x)=.c x:=rfl
theorem ahn {s:S} {E:Option (TypeId×Nat)} {es:List (List C)}:vw s (.ow E es)=.ow E es:=rfl
section
variable {k:IntKind} {a b:Int} {op:BinOp} {T:TypeId} {t:Tmp}
theorem WO:j3 P op T (.c (.lit (.int k a))) (.c (.lit (.int k b))) KV=nF op k a b KV:=by simp only[j3];split<;>rfl
theorem JY {k':IntKind}:j3 P .shr T (.c (.lit (.int k a))) (.c (.lit (.int k' b))) KV=nF .shr k a b KV:=rfl
theorem WQ {a b:ByteArray}:j3 P op T (.c (.lit (.string a))) (.c (.lit (.string b))) KV=Gv op a b KV:=rfl
def aho (i:Option TI) (op:BinOp) (a b:Bool) (K:V->Prop):Prop:=match i with
 |some { kd:=.bool,.. }=>match op with
  | .eql=>K (.c (.lit (.bool (a==b))))
  | .neq=>K (.c (.lit (.bool (!(a==b)))))
  |_=>False
 |_=>False
theorem E6 {a b:Bool}:j3 P op T (.c (.lit (.bool a))) (.c (.lit (.bool b))) KV=aho (ti P T) op a b KV:=rfl
def JZ (i:Option TI) (op:BinOp) (xs ys:List C) (K:V->Prop):Prop:=match i with
 |some { eqs:=some ks,agg:=true,.. }=>match iG ks xs ys with
  |some r=>(xs.length=ks.length/\ys.length=ks.length)/\match op with
   | .eql=>K (.c (.lit (.bool r)))
   | .neq=>K (.c (.lit (.bool (!r))))
   |_=>False
  |none=>False
 |_=>False
theorem J0 {xs ys:List C}:j3 P op T (.agg xs) (.agg ys) KV=JZ (ti P T) op xs ys KV:=rfl
theorem WR:nF .add k a b KV=KV (.c (.lit (.int k (k.wrap (a+b))))):=rfl
theorem WS:nF .sub k a b KV=KV (.c (.lit (.int k (k.wrap (a - b))))):=rfl
theorem WT:nF .mul k a b KV=KV (.c (.lit (.int k (k.wrap (a*b))))):=rfl
theorem WU:nF .eql k a b KV=KV (.c (.lit (.bool (decide (a=b))))):=rfl
theorem WV:nF .neq k a b KV=KV (.c (.lit (.bool (!decide (a=b))))):=rfl
theorem WW:nF .lss k a b KV=KV (.c (.lit (.bool (decide (a<b))))):=rfl
theorem WX:nF .leq k a b KV=KV (.c (.lit (.bool (decide (a<=b))))):=rfl
theorem WY:nF .gtr k a b KV=KV (.c (.lit (.bool (decide (b<a))))):=rfl
theorem WZ:nF .geq k a b KV=KV (.c (.lit (.bool (decide (b<=a))))):=rfl
theorem al7 {x:C}:(V.c x).ldv=.c x:=rfl
theorem ab9 {cs:List C}:(V.agg cs).ldv=.agg cs:=rfl
theorem W1 {es:List (List C)}:(V.ow none es).ldv=.ow none es:=rfl
theorem W2 {E:TypeId×Nat} {es:List (List C)}:(V.ow (some E) es).ldv=.c (.sl es):=rfl
theorem ahp {i o:Nat}:(V.bp i o).ldv=.bp i o:=rfl
theorem PZ {f:Fn} {x y:List V}:(V.clo f x y).ldv=.clo f x y:=rfl
theorem ahq {i o l c z:Nat}:(V.ms i o l c z).ldv=.ms i o l c z:=rfl
theorem ahr {i:Nat}:(V.mr i).ldv=.mr i:=rfl
theorem ahs {i:Nat}:(V.yl i).ldv=.yl i:=rfl
theorem apg {x:C}:(V.c x).fz=.c x:=rfl
theorem aht {cs:List C}:(V.agg cs).fz=.agg cs:=rfl
theorem al8 {E:Option (TypeId×Nat)} {es:List (List C)}:(V.ow E es).fz=.c (.sl es):=rfl
theorem al9 {i o:Nat}:(V.bp i o).fz=.bp i o:=rfl
theorem ahu {f:Fn} {x y:List V}:(V.clo f x y).fz=.clo f x y:=rfl
theorem ama {i o l c z:Nat}:(V.ms i o l c z).fz=.ms i o l c z:=rfl
theorem ahv {x:List V}:(V.mag x).fz=.mag x:=rfl
theorem aca {i o l c z:Nat}:(V.ms i o l c z).isOw=false:=rfl
theorem W3 {x:List V}:(V.mag x).isOw=false:=rfl
theorem ahw {x:List V}:(V.tup x).fz=.tup x:=rfl
theorem ahx {x:C}:(V.c x).isOw=false:=rfl
theorem W5 {cs:List C}:(V.agg cs).isOw=false:=rfl
theorem acb {E:Option (TypeId×Nat)} {es:List (List C)}:(V.ow E es).isOw=true:=rfl
theorem acd {i o:Nat}:(V.bp i o).isOw=false:=rfl
theorem W6 {f:Fn} {x y:List V}:(V.clo f x y).isOw=false:=rfl
theorem W7 {x:List V}:(V.tup x).isOw=false:=rfl
theorem ace:V.sk.isOw=false:=rfl
def frm:Nat->List V->Nat->V
 |_,[]=>λ_=>.un
 |i,v::r=>up (frm (i+1) r) i v
theorem fU {i:Nat}:frm i []=λ_=>.un:=rfl
theorem fe {i:Nat} {v:V} {r:List V}:frm i (v::r)=up (frm (i+1) r) i v:=rfl
theorem P0:∀ (l:List V) (i j:Nat),frm i l j=if i<=j then l.getD (j - i) .un else .un
 |[],i,j=>by simp[frm]
 |v::r,i,j=>by
  simp only[frm,aj,P0 r (i+1) j];by_cases h:j=i
  .subst h;simp
  .rw[if_neg h]
   by_cases h1:i<=j
   .rw[if_pos h1,if_pos (by omega)]
    have:j - i=(j - (i+1))+1:=(by omega);rw[this];rfl
   .rw[if_neg h1,if_neg (by omega)]
theorem J1 (args:List V):Ai args=⟨frm 0 args,λ_=>[],0⟩:=by unfold Ai;congr 1;funext j;rw[P0];simp
def W8 (P:Program) (z:Bool) (r:V) (rs:List ResultVar) (e:VE) (s:S):Prop:=(match e with | .exit _=>False | _=>True)/\rT P z s r rs
theorem W9 {z:Bool} {r:V} {rs:List ResultVar} {s:S}:W8 P z r rs .ret s=rT P z s r rs:=by simp[W8]
theorem J2 {z:Bool} {r:V} {rs:List ResultVar} {s:S}:W8 P z r rs .normal s=rT P z s r rs:=by simp[W8]
theorem pZ {r:V} {t:Tmp}:rT P false ⟨fr,bx,nb⟩ r [.tmp t]=(fr t=r):=rfl
theorem Ba {r:V} {t:Tmp}:rT P true ⟨fr,bx,nb⟩ r [.tmp t]=(imm ⟨fr,bx,nb⟩ (fr t)=some r):=by simp[rT,Ns]
theorem SR {r:V} {t:Tmp} {T:TypeId}:rT P false ⟨fr,bx,nb⟩ r [.cell t T]=cO P T ⟨fr,bx,nb⟩ (fr t) (λu=>u=r):=rfl
theorem jb {d e:V} {t u:Tmp} (h1:(fr t).fz=d) (h2:(fr u).fz=e):rT P false ⟨fr,bx,nb⟩ (.tup [d,e]) [.tmp t,.tmp u]:=by
 refine⟨_,rfl,rfl,λi R x hR hx=>?_⟩
 match i with
 |0=>simp only[bP,ao] at hR hx;subst hR;subst hx;exact h1
 |1=>simp only[cF,bP,ao] at hR hx;subst hR;subst hx;exact h2
 |n+2=>simp at hR
theorem bJ {f:FuncId} {fn:Func} {c:Code} {args:List V} {r:V} (z:Bool) (tr:List Nat) (hm:P.follows .mixedOrders=true) (hf:P.funcs[f]?=some fn) (hb:fn.body=some c) (nC:(fn.name== "runtime.NumGoroutine")=false)
 {rs:List ResultVar} (PE:fn.results.toList=rs) {n:Nat} (hn:fn.ntmps=n) (vQ:cok n tr c=true) (cm:args.length<=n)
 (hr:r.out=true) (oV:r.compT=true)
 (h:ia P G tr (Vv tr) c (W8 P z r rs) ⟨frm 0 args,λ_=>[],0⟩):FnOK P G f args r:=by
 subst hn;subst PE;refine abL z tr hm hf hb nC cm vQ hr oV ?_;rw[J1];exact h
end
end
end
section
variable {P:Program} {G:Gl} {tr:List Nat} {fr:Nat->V} {bx:Nat->List V} {nb k0:Nat} {K:S->Prop} {KV:V->Prop} {Q:VE->S->Prop}
def frs:List (Nat×V)->Nat->V
 |[]=>λ_=>.un
 |(i,v)::r=>up (frs r) i v
theorem acf:frs []=λ_=>.un:=rfl
theorem Xa {i:Nat} {v:V} {r:List (Nat×V)}:frs ((i,v)::r)=up (frs r) i v:=rfl
def FL:List (Nat×V)->(Nat->V)->Prop
 |[],_=>True
 |(i,v)::r,f=>f i=v/\FL r f
theorem FL.le:∀ {l:List (Nat×V)} {f:Nat->V},FL l f->alY (frs l) f
 |[],_,_=>λ_=>.inl rfl
 |(i,v)::r,f,h=>λt=>by
  by_cases ht:t=i
  .subst ht;right;simp only[frs,b9];exact h.1.symm
  .simp only[frs,cP _ _ ht];exact h.2.le t
def bxs (bl:List (List V)):Nat->List V:=λi=>bl.getD i []
def BL:Nat->List (List V)->(Nat->List V)->Prop
 |_,[],_=>True
 |i,b::r,f=>f i=b/\BL (i+1) r f
theorem BL.get:∀ {bl:List (List V)} {k:Nat} {f:Nat->List V},BL k bl f->∀ i,i<bl.length->bl.getD i []=f (k+i)
 |[],_,_,_,i,hi=>by simp at hi
 |b::r,k,f,h,i,hi=>by
  cases i with
  |zero=>simp[h.1]
  |succ i=>have:=h.2.get i (by simpa using hi);simpa[dN,Nat.add_comm,Nat.add_left_comm] using this
def V.ltPB (m:Nat):V->Bool
 | .bp i _=>decide (i<m)
 | .bm _ i _=>decide (i<m)
 | .ms i _ _ _ _=>decide (i<m)
 | .mr i=>decide (i<m)
 | .yl i=>decide (i<m)
 |_=>true
theorem V.ltPB_ok {m:Nat} {v:V} (h:v.ltPB m=true):v.ltP m:=by cases v<;>simp only[V.ltP]<;>simpa[V.ltPB] using h
def V.ltB (m:Nat):V->Bool
 | .bp i _=>decide (i<m)
 | .bm _ i _=>decide (i<m)
 | .ms i _ _ _ _=>decide (i<m)
 | .clo _ fs cs=>fs.all (V.ltPB m)&&cs.all (V.ltPB m)
 | .mag vs=>vs.all (V.ltPB m)
 | .mr i=>decide (i<m)
 | .it i _ _ _=>decide (i<m)
 | .yl i=>decide (i<m)
 | .lp _ fl=>fl.all λp=>p.2.ltPB m
 |_=>true
theorem V.ltB_ok {m:Nat} {v:V} (h:v.ltB m=true):v.lt m:=by
 cases v<;>simp only[V.lt]<;>simp only[V.ltB] at h
 .simpa using h
 .simp only[aZ,a8] at h
  exact⟨λx hx=>V.ltPB_ok (h.1 x hx),λx hx=>V.ltPB_ok (h.2 x hx)⟩
 .simpa using h
 .simp only[a8] at h
  exact λx hx=>V.ltPB_ok (h x hx)
 .simpa using h
 .simpa using h
 .simpa using h
 .simp only[a8] at h
  exact λp hp=>V.ltPB_ok (h p hp)
 .simpa using h
def gz (l:List (Nat×V)) (bl:List (List V)):Bool:=l.all (λp=>p.2.ltB bl.length)&&bl.all λb=>b.all λx=>x.ltB bl.length
theorem NQ {m:Nat}:∀ {l:List (Nat×V)},(∀ p∈l,p.2.lt m)->∀ t,(frs l t).lt m
 |[],_,_=>trivial
 |(i,v)::r,h,t=>by
  by_cases ht:t=i
  .subst ht;simp only[frs,b9];exact h _ (bD ..)
  .simp only[frs,cP _ _ ht];exact NQ (λp hp=>h p (aP _ hp)) t
def hdS (l:List (Nat×V)) (bl:List (List V)):S:=⟨frs l,bxs bl,bl.length⟩
theorem cg {l:List (Nat×V)} {bl:List (List V)} {k:Nat} (eG:gz l bl=true) (hk:k<=bl.length) (hn:bl.length<=nb) (h1:FL l fr) (h2:BL 0 bl bx):S.Le k (hdS l bl) ⟨fr,bx,nb⟩:=by
 simp only[gz,aZ,a8] at eG;refine⟨hk,h1.le,hn,λi hi=>?_,λt=>NQ (λp hp=>V.ltB_ok (eG.1 p hp)) t,λi hi x hx=>?_⟩
 .have:=h2.get i hi;simpa[hdS,bxs] using this
 .simp only[hdS] at hi hx
  have:bxs bl i∈bl:=by simp only[bxs,List.getD,ah hi,cX];exact bT hi
  exact V.ltB_ok (eG.2 _ this x hx)
def FZL (s:S) (m:Nat):List (Nat×V)->(Nat->V)->Prop
 |[],_=>True
 |(i,v)::r,f=>(f i=v∨FzV s m v (f i))/\FZL s m r f
def LZ (s:S) (m:Nat):List V->List V->Prop
 |[],[]=>True
 |x::xs,y::ys=>(x=y∨FzV s m x y)/\LZ s m xs ys
 |_,_=>False
def BZL (s:S) (m:Nat):Nat->List (List V)->(Nat->List V)->Prop
 |_,[],_=>True
 |i,b::r,f=>LZ s m b (f i)/\BZL s m (i+1) r f
theorem LZ.ok {s:S} {m:Nat}:∀ {xs ys:List V},LZ s m xs ys->xs.length=ys.length/\∀ j,xs.getD j .un=ys.getD j .un∨FzV s m (xs.getD j .un) (ys.getD j .un)
 |[],[],_=>⟨rfl,λ_=>.inl rfl⟩
 |x::xs,y::ys,h=>by
  obtain⟨h1,h2⟩:=LZ.ok h.2;refine⟨by simp[h1],λj=>?_⟩;cases j with
  |zero=>simpa using h.1
  |succ j=>simpa using h2 j
 |[],_::_,h=>h.elim
 |_::_,[],h=>h.elim
theorem BZL.get {s:S} {m:Nat}:∀ {bl:List (List V)} {k:Nat} {f:Nat->List V},BZL s m k bl f->∀ i,i<bl.length->LZ s m (bl.getD i []) (f (k+i))
 |[],_,_,_,i,hi=>by simp at hi
 |b::r,k,f,h,i,hi=>by
  cases i with
  |zero=>simpa using h.1
  |succ i=>have:=h.2.get i (by simpa using hi);simpa[dN,Nat.add_comm,Nat.add_left_comm] using this
theorem FZL.ok {s:S} {m:Nat}:∀ {l:List (Nat×V)} {f:Nat->V},FZL s m l f->∀ t,frs l t=.un∨frs l t=f t∨FzV s m (frs l t) (f t)
 |[],_,_,_=>.inl rfl
 |(i,v)::r,f,h,t=>by
  by_cases ht:t=i
  .subst ht
   simp only[frs,b9];rcases h.1 with e | e
   .exact .inr (.inl e.symm)
   .exact .inr (.inr e)
  .simp only[frs,cP _ _ ht];exact h.2.ok t
theorem Ci {k:Nat} {α:Type} {hd:α->S} {m:α->Nat} {Inv:α->Prop} {body:(VE->S->Prop)->S->Prop}
 (hb:∀ x,Inv x->∀ R:VE->S->Prop,(∀ y s',Inv y->m y<m x->S.Le k (hd y) s'->R .normal s')->(∀ i s',Q (.exit i) s'->R (.exit i) s')->(∀ s',Q .ret s'->R .ret s')->body R (hd x)) :
 ∀ n x s,Inv x->m x<n->S.Le k (hd x) s->A6 k body Q n s
 |0,_,_,_,h,_=>absurd h (gW _)
 |n+1,x,s,hx,hm,kg=>⟨hd x,.inr kg,hb x hx _ (λy s' hy bF aqG=>Ci hb n y s' hy (by omega) aqG) (λ_ _ h=>h) (λ_ h=>h)⟩
theorem bz {α:Type} (hd:α->S) (m:α->Nat) (Inv:α->Prop) {body:Code} (x:α) (hx:Inv x) (kg:S.Le (k0) (hd x) ⟨fr,bx,nb⟩)
 (hb:∀ x,Inv x->∀ R:VE->S->Prop,(∀ y s',Inv y->m y<m x->S.Le (k0) (hd y) s'->R .normal s')->(∀ i s',Q (.exit i) s'->R (.exit i) s')->(∀ s',Q .ret s'->R .ret s')->ia P G tr k0 body R (hd x)) :
 ia P G tr k0 (.loop body) Q ⟨fr,bx,nb⟩:=
 ⟨m x+1,Ci hb _ x _ hx (cd _) kg⟩
theorem acg {b:Bool}:vun .not (.c (.lit (.bool b))) KV=KV (.c (.lit (.bool (!b)))):=rfl
theorem fD {T e:TypeId} {i:TI} {es:List (List C)} (hT:ti P T=some i) (hk:i.kd=.slice e):fq P T (.c (.sl es)) KV=KV (.c (.lit (.int .i64 es.length))):=by obtain⟨kd,a,b,c,d,f,g⟩:=i;subst hk;simp only[fq,hT]
theorem nq {T e:TypeId} {i:TI} {E:Option (TypeId×Nat)} {es:List (List C)} (hT:ti P T=some i) (hk:i.kd=.slice e):fq P T (.ow E es) KV=KV (.c (.lit (.int .i64 es.length))):=by obtain⟨kd,a,b,c,d,f,g⟩:=i;subst hk;simp only[fq,hT]
theorem nr {T e:TypeId} {i:TI} {b o l c z:Nat} (hT:ti P T=some i) (hk:i.kd=.slice e):fq P T (.ms b o l c z) KV=KV (.c (.lit (.int .i64 l))):=by obtain⟨kd,a,b,c,d,f,g⟩:=i;subst hk;simp only[fq,hT]
theorem Xb {T:TypeId} {i:TI} {b:ByteArray} (hT:ti P T=some i) (hk:i.kd=.str):fq P T (.c (.lit (.string b))) KV=KV (.c (.lit (.int .i64 b.size))):=by obtain⟨kd,a,b,c,d,f,g⟩:=i;subst hk;simp only[fq,hT]
theorem HC {t:TypeId} {x:V}:eX P .len [t] [x] KV=fq P t x KV:=rfl
theorem HD {t u:TypeId} {x y:V}:eX P .append [t,u] [x,y] KV=if t=u then dS P t x y.fz KV else qK P t u x y.fz KV:=rfl
theorem Xc {T e:TypeId} {i j:TI} {b off len cap sz:Nat} {z:List C} {K2:S->Prop} (hT:ti P T=some i) (hk:i.kd=.slice e) (hE:ti P e=some j) (hs:j.size=sz) (hz:j.zero=some z) (hp:0<sz) (hl:z.length=sz) (hb:b<nb) (hm:ck (bx b)=false)
 (hf:off+len*sz<=(bx b).length) (hK:K2 ⟨fr,up bx b (eQ (bx b) off ((List.replicate len z).flatten.map .c)),nb⟩):jw P ⟨fr,bx,nb⟩ K2 [T] [.ms b off len cap sz]:=by
 obtain⟨kd,a,b',c,d,f,g⟩:=i;simp only at hk;subst hk;obtain⟨kd',a',b'',c',d',f',g'⟩:=j;simp only at hs hz;subst hs;subst hz;simp only[jw,hT,hE];exact⟨⟨trivial,hp,hl,hb,hm,hf⟩,hK⟩
theorem dP {T e:TypeId} {i j:TI} {k:IntKind} {n:Int} {c:List C} {es:List (List C)} (hT:ti P T=some i) (hk:i.kd=.slice e) (hj:ti P e=some j) (hs:j.size≠0) (hn:0<=n)
 (he:es[n.toNat]?=some c) (hc:c.length=j.size) (hK:KV (.c (.rp c 0))):dW P T (.c (.sl es)) (.c (.lit (.int k n))) KV:=by
 obtain⟨kd,a,b,x,d,f,g⟩:=i;simp only at hk;subst hk;simp only[dW,hT,hj,he];exact⟨⟨hn,hs⟩,hc,hK⟩
theorem Xd {T e:TypeId} {i j:TI} {k:IntKind} {n:Int} {b o l c z:Nat} (hT:ti P T=some i) (hk:i.kd=.slice e) (hj:ti P e=some j) (hs:j.size=z) (hz:z≠0) (hn:0<=n) (hl:n<l)
 (hK:KV (.bp b (o+n.toNat*z))):dW P T (.ms b o l c z) (.c (.lit (.int k n))) KV:=by
 obtain⟨kd,a,b,x,d,f,g⟩:=i;simp only at hk;subst hk;simp only[dW,hT,hj];exact⟨⟨hn,hl,hs,hz⟩,hK⟩
theorem SS {ag:Bool} {sz:Nat} {cs:List C} (ha:ag=true) (h:cs.length=sz):cQ ag sz 0 cs KV=KV (.agg cs):=by subst ha;subst h;simp[cQ]
theorem sL {T:TypeId} {i:TI} {s:S} {cs:List C} (hT:ti P T=some i) (ha:i.agg=true) (h:cs.length=i.size):cO P T s (.c (.rp cs 0)) KV=KV (.agg cs):=by simp only[cO,hT];exact SS ha h
theorem fZ {T:TypeId} {i:TI} {f k off sz:Nat} {ag:Bool} {cs:List C} (hT:ti P T=some i) (hf:i.flds[f]?=some (off,sz,ag)) (hs:sz≠0):aR P T (.c (.rp cs k)) f KV=KV (.c (.rp cs (k+off))):=by simp only[aR,hT,hf];simp[hs]
theorem ga {T:TypeId} {i:TI} {f k off sz b:Nat} {ag:Bool} (hT:ti P T=some i) (hf:i.flds[f]?=some (off,sz,ag)) (hs:sz≠0):aR P T (.bp b k) f KV=KV (.bp b (k+off)):=by simp only[aR,hT,hf];simp[hs]
theorem iC {T:TypeId} {i:TI} {s:S} {cs:List C} {o:Nat} (hT:ti P T=some i) (ha:i.agg=false) (hs:i.size=1):cO P T s (.c (.rp cs o)) KV=cQ false 1 o cs KV:=by simp only[cO,hT,ha,hs]
theorem ach {sz:Nat} {c:C} {cs:List C}:cQ false sz 0 (c::cs) KV=KV (.c c):=rfl
theorem aci {sz n:Nat} {c:C} {cs:List C}:cQ false sz (n+1) (c::cs) KV=cQ false sz n cs KV:=by simp[cQ]
def ldA (nb b:Nat) (l:List V) (o n:Nat) (K:V->Prop):Prop:=b<nb/\((((l.drop o).take n).length=n/\((l.drop o).take n).all V.isPO=true)/\K (wu (((l.drop o).take n).map V.fz)))
def P1 (a:C):V->V
 | .agg cs=>.agg (a::cs)
 | .mag vs=>.mag (.c a::vs)
 |x=>x
theorem Xe:wu []=.agg []:=rfl
theorem Xf {a:C} {r:List V}:wu (.c a::r)=P1 a (wu r):=by unfold wu;simp only[fk];cases h:r.mapM V.asC<;>simp[V.asC,P1]
theorem acj {i o l c z:Nat} {r:List V}:wu (.ms i o l c z::r)=.mag (.ms i o l c z::r):=by unfold wu;simp[fk,V.asC]
theorem ack {i o:Nat} {r:List V}:wu (.bp i o::r)=.mag (.bp i o::r):=by unfold wu;simp[fk,V.asC]
theorem SU {a:C} {cs:List C}:P1 a (.agg cs)=.agg (a::cs):=rfl
theorem SV {a:C} {vs:List V}:P1 a (.mag vs)=.mag (.c a::vs):=rfl
theorem Xg {b o n:Nat} {v:V} {l:List V}:ldA nb b (v::l) o n KV=(b<nb/\(((((v::l).drop o).take n).length=n/\(((v::l).drop o).take n).all V.isPO=true)/\KV (wu ((((v::l).drop o).take n).map V.fz)))):=rfl
theorem acm {i o:Nat}:(V.bp i o).isPR=true:=rfl
theorem ahy {x:C}:(V.c x).isPR=true:=rfl
theorem acn {i o l c z:Nat}:(V.ms i o l c z).isPR=true:=rfl
theorem ahz {x:C}:(V.c x).isPO=true:=rfl
theorem aco {E:Option (TypeId×Nat)} {es:List (List C)}:(V.ow E es).isPO=true:=rfl
theorem acp {i o:Nat}:(V.bp i o).isPO=true:=rfl
theorem acq {i o l c z:Nat}:(V.ms i o l c z).isPO=true:=rfl
def ldB (nb b:Nat) (l:List V) (o:Nat) (K:V->Prop):Prop:=b<nb/\match l[o]? with
 |some v=>K v.ldv
 |none=>False
theorem rn {T:TypeId} {i:TI} {b o n:Nat} (hT:ti P T=some i) (ha:i.agg=true) (hs:i.size=n):cO P T ⟨fr,bx,nb⟩ (.bp b o) KV=(ck (bx b)=false/\ldA nb b (bx b) o n KV):=by subst hs;simp only[cO,hT,ha,cZ,ldA];exact propext ⟨λ⟨⟨a,b⟩,c⟩=>⟨b,a,c⟩,λ⟨b,a,c⟩=>⟨⟨a,b⟩,c⟩⟩
theorem jy {T:TypeId} {i:TI} {b o:Nat} (hT:ti P T=some i) (ha:i.agg=false):cO P T ⟨fr,bx,nb⟩ (.bp b o) KV=(ck (bx b)=false/\ldB nb b (bx b) o KV):=by simp only[cO,hT,ha,ldB];exact propext ⟨λ⟨⟨a,b⟩,c⟩=>⟨b,a,c⟩,λ⟨b,a,c⟩=>⟨⟨a,b⟩,c⟩⟩
theorem amb {b:Nat} {v:V} {l:List V}:ldB nb b (v::l) 0 KV=(b<nb/\KV v.ldv):=rfl
theorem amc {b o:Nat} {v:V} {l:List V}:ldB nb b (v::l) (o+1) KV=ldB nb b l o KV:=by simp[ldB]
theorem acr {b o:Nat} {cs:List C}:ldB nb b (cs.map V.c) o KV=(b<nb/\cQ false 1 o cs KV):=by simp only[ldB,cQ,bj,aM,dp];cases cs[o]?<;>rfl
theorem SY {i:TI} {ks:List EK} {xs ys:List C} {r:Bool} (he:i.eqs=some ks) (ha:i.agg=true) (h:iG ks xs ys=some r) (h1:xs.length=ks.length) (h2:ys.length=ks.length):JZ (some i) .eql xs ys KV=KV (.c (.lit (.bool r))):=by obtain⟨kd,a,b,c,d,f,g⟩:=i;simp only at he ha;subst he;subst ha;simp[JZ,h,h1,h2]
theorem SZ {i:TI} {ks:List EK} {xs ys:List C} {r:Bool} (he:i.eqs=some ks) (ha:i.agg=true) (h:iG ks xs ys=some r) (h1:xs.length=ks.length) (h2:ys.length=ks.length):JZ (some i) .neq xs ys KV=KV (.c (.lit (.bool (!r)))):=by obtain⟨kd,a,b,c,d,f,g⟩:=i;simp only at he ha;subst he;subst ha;simp[JZ,h,h1,h2]
theorem qa {T:TypeId} {i:TI} {ks:List EK} {xs ys:List C} {r:Bool} (hT:ti P T=some i) (he:i.eqs=some ks) (ha:i.agg=true) (h:iG ks xs ys=some r) (h1:xs.length=ks.length) (h2:ys.length=ks.length) :
 j3 P .eql T (.agg xs) (.agg ys) KV=KV (.c (.lit (.bool r))):=by rw[J0,hT];exact SY he ha h h1 h2
theorem qb {T:TypeId} {i:TI} {ks:List EK} {xs ys:List C} {r:Bool} (hT:ti P T=some i) (he:i.eqs=some ks) (ha:i.agg=true) (h:iG ks xs ys=some r) (h1:xs.length=ks.length) (h2:ys.length=ks.length) :
 j3 P .neq T (.agg xs) (.agg ys) KV=KV (.c (.lit (.bool (!r)))):=by rw[J0,hT];exact SZ he ha h h1 h2
theorem E7 {T:TypeId} {i:TI} {a b:Bool} (hT:ti P T=some i) (hk:i.kd=.bool):j3 P .eql T (.c (.lit (.bool a))) (.c (.lit (.bool b))) KV=KV (.c (.lit (.bool (a==b)))):=by obtain⟨kd,a,b,c,d,f,g⟩:=i;simp only at hk;subst hk;rw[E6,hT];rfl
theorem E8 {T:TypeId} {i:TI} {a b:Bool} (hT:ti P T=some i) (hk:i.kd=.bool):j3 P .neq T (.c (.lit (.bool a))) (.c (.lit (.bool b))) KV=KV (.c (.lit (.bool (!(a==b))))):=by obtain⟨kd,a,b,c,d,f,g⟩:=i;simp only at hk;subst hk;rw[E6,hT];rfl
theorem Xh {a b:ByteArray}:Gv .eql a b KV=KV (.c (.lit (.bool (decide (a=b))))):=rfl
theorem Xi {a b:ByteArray}:Gv .neq a b KV=KV (.c (.lit (.bool (!decide (a=b))))):=rfl
theorem NR {T:TypeId} {i:TI} {k:IntKind} {n:Int} {st:ByteArray} {b:UInt8} (hT:ti P T=some i) (hk:i.kd=.str) (hn:0<=n) (hb:st.data[n.toNat]?=some b) :
 mI P T (.c (.lit (.string st))) (.c (.lit (.int k n))) KV=KV (.c (.lit (.int .u8 b.toNat))):=by
 obtain⟨kd,a,b,c,d,f,g⟩:=i;simp only at hk;subst hk;simp only[mI,hT,hn,hb,iM]
theorem xZ:∀ cs:List C,wu (cs.map V.c)=.agg cs
 |[]=>rfl
 |c::cs=>by rw[bB,Xf,xZ cs];rfl
theorem acs {b n:Nat} {cs:List C} (h:cs.length=n):ldA nb b (cs.map V.c) 0 n KV=(b<nb/\KV (.agg cs)):=by
 have h1:(cs.map V.c).take n=cs.map V.c:=fh (by simp[h]);have h2:(cs.map V.c).map V.fz=cs.map V.c:=by simp[eU,j0,V.fz]
 have h3:(cs.map V.c).all V.isPO=true:=by simp[List.all_map,j0,V.isPO]
 simp only[ldA,cx,h1,h2,h3,xZ,au,h,iM]
theorem ahA {t:Option Tmp} {d:Nat} {x:C} (h:∀ u,t=some u->(fr u).isOw=false):rU t d (.c x) ⟨fr,bx,nb⟩ K=K ⟨up fr d (.bp nb 0),up bx nb [.c x],nb+1⟩:=by
 cases t with
 |none=>rfl
 |some u=>simp[rU,V.bcells,ib,h u rfl,S.put]
theorem amd {t:Tmp} {d:Nat} {x:C} (h:fr t=.c x):rU (some t) d (.c x) ⟨fr,bx,nb⟩ K=K ⟨up fr d (.bp nb 0),up bx nb [.c x],nb+1⟩:=ahA (λu hu=>by cases hu;rw[h];rfl)
theorem Xj {d:Nat} {x:C}:rU none d (.c x) ⟨fr,bx,nb⟩ K=K ⟨up fr d (.bp nb 0),up bx nb [.c x],nb+1⟩:=rfl
theorem S0 {d:Nat} {E:Option (TypeId×Nat)} {es:List (List C)}:rU none d (.ow E es) ⟨fr,bx,nb⟩ K=K ⟨up fr d (.bp nb 0),up bx nb [.ow E es],nb+1⟩:=rfl
theorem acu {t:Tmp} {d:Nat} {cs:List C} (h:fr t=.agg cs):rU (some t) d (.agg cs) ⟨fr,bx,nb⟩ K=K ⟨up fr d (.bp nb 0),up bx nb (cs.map .c),nb+1⟩:=by simp[rU,V.bcells,ib,h,S.put,V.isOw]
theorem ahB {t:Tmp} {d:Nat} {E:Option (TypeId×Nat)} {es:List (List C)} (h:fr t=.ow E es):rU (some t) d (.ow E es) ⟨fr,bx,nb⟩ K=K ⟨up (up fr t .un) d (.bp nb 0),up bx nb [.ow E es],nb+1⟩:=by simp[rU,V.bcells,ib,h,S.put,V.isOw]
theorem ahC {t:Tmp} {d:Nat} {i o:Nat} (h:fr t=.bp i o):rU (some t) d (.bp i o) ⟨fr,bx,nb⟩ K=K ⟨up fr d (.bp nb 0),up bx nb [.bp i o],nb+1⟩:=by simp[rU,V.bcells,ib,h,S.put,V.isOw]
theorem ahD {t:Tmp} {d:Nat} {i o l c z:Nat} (h:fr t=.ms i o l c z):rU (some t) d (.ms i o l c z) ⟨fr,bx,nb⟩ K=K ⟨up fr d (.bp nb 0),up bx nb [.ms i o l c z],nb+1⟩:=by simp[rU,V.bcells,ib,h,S.put,V.isOw]
theorem P2 {t:Tmp} {d:Nat} {vs:List V} (h:fr t=.mag vs):rU (some t) d (.mag vs) ⟨fr,bx,nb⟩ K=K ⟨up fr d (.bp nb 0),up bx nb vs,nb+1⟩:=by simp[rU,V.bcells,ib,h,S.put,V.isOw]
theorem acv {t:Tmp} {d:Nat} {f:Fn} {x y:List V} (h:fr t=.clo f x y):rU (some t) d (.clo f x y) ⟨fr,bx,nb⟩ K=K ⟨up fr d (.bp nb 0),up bx nb [.clo f x y],nb+1⟩:=by simp[rU,V.bcells,ib,h,S.put,V.isOw]
def stS (n:Nat) (t:Option Tmp) (dO:Option Tmp) (b o:Nat) (v:V) (s:S) (K:S->Prop):Prop:=match v.bcells with
 |some cs=>(b<s.nb/\cs.length=n/\o+n<=(s.bx b).length)/\K ((let s':=s.use t;{ s' with bx:=up s'.bx b (eQ (s'.bx b) o cs) }:S).put dO .sk)
 |none=>False
theorem kj {i:TI} {n:Nat} {t dO:Option Tmp} {b o:Nat} {v:V} {s:S} (h:i.size=n):oH (some i) t dO (.bp b o) v s K=(ck (s.bx b)=false/\stS n t dO b o v s K):=by
 subst h;cases hv:v.bcells<;>simp only[oH,stS,hv]
 .simp
 .exact propext ⟨λ⟨⟨a,b,c,d⟩,e⟩=>⟨d,⟨a,b,c⟩,e⟩,λ⟨d,⟨a,b,c⟩,e⟩=>⟨⟨a,b,c,d⟩,e⟩⟩
theorem S1 {v:V} {l:List V}:ck (v::l)=v.isMk:=rfl
theorem Xk:ck []=false:=rfl
theorem J3:∀ {l:List C},ck (l.map V.c)=false
 |[]=>rfl
 |_::_=>rfl
theorem ahE {x:C}:(V.c x).isMk=false:=rfl
theorem acw {E:Option (TypeId×Nat)} {es:List (List C)}:(V.ow E es).isMk=false:=rfl
theorem acx {i o:Nat}:(V.bp i o).isMk=false:=rfl
theorem acy {i o l c z:Nat}:(V.ms i o l c z).isMk=false:=rfl
theorem Xl {f:Fn} {x y:List V}:(V.clo f x y).isMk=false:=rfl
theorem acz {i:Nat}:(V.mr i).isMk=false:=rfl
theorem acA {i:Nat}:(V.yl i).isMk=false:=rfl
theorem acB {bs:List Nat} {cl:Nat}:(V.mk bs cl).isMk=true:=rfl
theorem Xm {dO:Option Tmp} {b o:Nat} {x:C}:stS 1 none dO b o (.c x) ⟨fr,bx,nb⟩ K=((b<nb/\o+1<=(bx b).length)/\K ((⟨fr,up bx b (eQ (bx b) o [.c x]),nb⟩:S).put dO .sk)):=by simp[stS,V.bcells,JR]
theorem ame {t:Tmp} {dO:Option Tmp} {b o:Nat} {x:C} (h:fr t=.c x):stS 1 (some t) dO b o (.c x) ⟨fr,bx,nb⟩ K=((b<nb/\o+1<=(bx b).length)/\K ((⟨fr,up bx b (eQ (bx b) o [.c x]),nb⟩:S).put dO .sk)):=by simp[stS,V.bcells,ib,h,V.isOw]
theorem ahF {t:Tmp} {dO:Option Tmp} {b o:Nat} {E:Option (TypeId×Nat)} {es:List (List C)} (h:fr t=.ow E es):stS 1 (some t) dO b o (.ow E es) ⟨fr,bx,nb⟩ K=
 ((b<nb/\o+1<=(bx b).length)/\K ((⟨up fr t .un,up bx b (eQ (bx b) o [.ow E es]),nb⟩:S).put dO .sk)):=by
 simp[stS,V.bcells,ib,h,V.isOw]
theorem acC {n:Nat} {t:Tmp} {dO:Option Tmp} {b o:Nat} {cs:List C} (h:fr t=.agg cs):stS n (some t) dO b o (.agg cs) ⟨fr,bx,nb⟩ K=
 ((b<nb/\cs.length=n/\o+n<=(bx b).length)/\K ((⟨fr,up bx b (eQ (bx b) o (cs.map .c)),nb⟩:S).put dO .sk)):=by
 simp[stS,V.bcells,ib,h,V.isOw]
theorem ahG {t:Tmp} {dO:Option Tmp} {b o i k:Nat} (h:fr t=.bp i k):stS 1 (some t) dO b o (.bp i k) ⟨fr,bx,nb⟩ K=((b<nb/\o+1<=(bx b).length)/\K ((⟨fr,up bx b (eQ (bx b) o [.bp i k]),nb⟩:S).put dO .sk)):=by simp[stS,V.bcells,ib,h,V.isOw]
theorem acD {t:Tmp} {dO:Option Tmp} {b o:Nat} {f:Fn} {x y:List V} (h:fr t=.clo f x y):stS 1 (some t) dO b o (.clo f x y) ⟨fr,bx,nb⟩ K=((b<nb/\o+1<=(bx b).length)/\K ((⟨fr,up bx b (eQ (bx b) o [.clo f x y]),nb⟩:S).put dO .sk)):=by simp[stS,V.bcells,ib,h,V.isOw]
theorem ahH {t:Tmp} {dO:Option Tmp} {b o i k l c z:Nat} (h:fr t=.ms i k l c z):stS 1 (some t) dO b o (.ms i k l c z) ⟨fr,bx,nb⟩ K=((b<nb/\o+1<=(bx b).length)/\K ((⟨fr,up bx b (eQ (bx b) o [.ms i k l c z]),nb⟩:S).put dO .sk)):=by simp[stS,V.bcells,ib,h,V.isOw]
theorem acE {n:Nat} {t:Tmp} {dO:Option Tmp} {b o:Nat} {vs:List V} (h:fr t=.mag vs):stS n (some t) dO b o (.mag vs) ⟨fr,bx,nb⟩ K=
 ((b<nb/\vs.length=n/\o+n<=(bx b).length)/\K ((⟨fr,up bx b (eQ (bx b) o vs),nb⟩:S).put dO .sk)):=by
 simp[stS,V.bcells,ib,h,V.isOw]
theorem ahI {v x:V} {r:List V}:eQ (v::r) 0 [x]=x::r:=by simp[eQ]
theorem ahJ {v x:V} {r:List V} {k:Nat}:eQ (v::r) (k+1) [x]=v::eQ r k [x]:=by simp[eQ,Nat.add_right_comm]
def qO {α:Type} (p:α->Bool) (l:List α):Int:=match l.findIdx? p with
 |some i=>i
 |none=>-1
theorem oI {α:Type} {p:α->Bool} {l:List α} {i:Nat} (hi:i<l.length) (hy:p l[i]=true) (gw:∀ j (h:j<l.length),j<i->p l[j]=false):qO p l=i:=by
 have:l.findIdx? p=some i:=by rw[eF];exact⟨hi,hy,λj hj=>by simp[gw j (by omega) hj]⟩
 simp[qO,this]
theorem lM {α:Type} {p:α->Bool} {l:List α} (gw:∀ j (h:j<l.length),j<l.length->p l[j]=false):qO p l=-1:=by
 have:l.findIdx? p=none:=by rw[List.findIdx?_eq_none_iff];intro x hx;obtain⟨j,hj,rfl⟩:=iP.1 hx;exact gw j hj hj
 simp[qO,this]
theorem jT {α:Type} {p:α->Bool} {l:List α}:decide (0<=qO p l)=l.any p:=by
 unfold qO;cases h:l.findIdx? p with
 |some i=>obtain⟨hi,hy,_⟩:=eF.1 h;have:l.any p=true:=eI.2 ⟨_,bT hi,hy⟩;simp[this]
 |none=>
  have h2:=List.findIdx?_eq_none_iff.1 h;have:l.any p=false:=List.any_eq_false.2 λx hx=>by simp[h2 x hx]
  simp[this]
theorem wrap_i64 (n:Int) (h:-9223372036854775808<=n/\n<=9223372036854775807):IntKind.i64.wrap n=n:=by rw[kz];omega
theorem aC {s:S} {g:FuncId} {fs cs:List C} {args as:List V} {r:V} (hm:args.mapM (imm s)=some as) (h:FnOK P G g (fs.map .c++as++cs.map .c) r) (hb:args.any V.boxy=true->r.isFlat=true) (hK:KV r) :
 rM P G s (.c (.fn (.func g) fs cs)) args KV:=by
 simp only[rM,hm];exact⟨r,h,hb,hK⟩
end
section
variable {P:Program} {G:Gl} {tr:List Nat} {n:Nat} {I0:Ft} {M:Mx} {w0:World} {I:Ft} {β:Nat->Option Nat} {ob:Loc->Option Nat} {s:S} {a:Act} {w:World}
def obB (ob:Nat->Nat->Option Nat):Loc->Option Nat
 | .t _=>none
 | .b i j=>ob i j
theorem St.initB {ob:Nat->Nat->Option Nat} {vs:Array Value} {args:List V} {b0:List (List V)} {m:Nat} (hI:∀ b o,I b o->b<w.heap.size) (hg:GOK G I w) (hB:BxR (Wr M w) I w β ob b0) (fK:vs.size=args.length)
 (ha:∀ j x,args[j]?=some x->LR (Wr M w) I β w none (vs.getD j undef) x) (hm:m=(vs++Array.replicate (n - vs.size) undef).size) :
 St G m I ⟨M.m,β,[]⟩ w I β (obB ob) ⟨λj=>args.getD j .un,bxs b0,b0.length⟩ { tmps:=vs++Array.replicate (n - vs.size) undef,defers:=[] } w where
 size:=hm.symm
 defers:=rfl
 below:=BelowM.refl _ _
 kept:=λ_ _ _=>rfl
 ilow:=λ_ _ h=>h
 ihigh:=λ_ _ h=>.inl h
 ibnd:=hI
 fr:=λt=>by
  simp only[obB];by_cases ht:t<args.length
  .have e1:args.getD t .un=args[t]:=by simp[List.getD,ht]
   have e2:(vs++Array.replicate (n - vs.size) undef).getD t undef=vs.getD t undef:=(by rw[ak,fb (by omega),<- ak]);rw[e1,e2];exact ha t _ (ah ht)
  .have e1:args.getD t .un=.un:=by simp[List.getD,bG (ep ht)]
   rw[e1];simp only[LR];exact .un _
 bx:=λi hi=>by
  simp only at hi;obtain⟨blk,cur,e1,e2,e3,e4,e5,e7⟩:=hB.bx i _ (ah hi);have e:bxs b0 i=b0[i]:=by simp[bxs,List.getD,hi]
  refine⟨blk,cur,e1,e2,by simp only[e];exact e3,by simp only[e];exact e4,λj=>?_,e7⟩;simp only[e];exact e5 j
 bnone:=λi hi=>hB.bnone i hi
 ext:=λ_ _ h=>h
 bnew:=λ_ _ h=>.inl h
 binj:=hB.binj
 oinj:=λL L' b h h'=>by
  cases L<;>simp only[obB] at h<;>try cases h
  cases L'<;>simp only[obB] at h'<;>try cases h'
  obtain⟨e1,e2⟩:=hB.oinj _ _ _ _ b h h';rw[e1,e2]
 obx:=λL b i h=>by
  cases L<;>simp only[obB] at h<;>try cases h
  exact hB.obx _ _ b i h
 obnd:=λL b h=>by
  cases L<;>simp only[obB] at h<;>try cases h
  exact hB.obnd _ _ b h
 glob:=hg
def x7 (P:Program) (k:Nat) (r:V) (b1:List (List V)) (rs:List ResultVar) (e:VE) (s:S):Prop:=
 (match e with | .exit _=>False | _=>True)/\∃ l,S.Le k (hdS l b1) s/\rT P false (hdS l b1) r rs
theorem P3 {f:FuncId} {fn:Func} {c:Code} {args:List V} {b0 b1:List (List V)} {r:V} (tr:List Nat) (hm:P.follows .mixedOrders=true) (hf:P.funcs[f]?=some fn) (hb:fn.body=some c)
 (nC:(fn.name== "runtime.NumGoroutine")=false) (hn:args.length<=fn.ntmps) (vQ:cok fn.ntmps tr c=true) (oV:r.compT=true)
 (Vo:(∀ x∈args,x.lt b0.length)/\(∀ b∈b0,∀ x∈b,x.lt b0.length)/\b0.length<=b1.length)
 (h:ia P G tr b0.length c (x7 P b0.length r b1 fn.results.toList) ⟨λj=>args.getD j .un,bxs b0,b0.length⟩):FnB P G f args b0 r b1:=by
 refine⟨⟨fn,hf,nC,c,hb⟩,Vo,λI M w vs β ob hI hg hB fK ha=>?_⟩;have jJ:fn.ntmps=(vs++Array.replicate (fn.ntmps - vs.size) undef).size:=by simp;omega
 have hst:=St.initB (n:=fn.ntmps) hI hg hB fK ha jJ;have A2:∀ i b,β i=some b->i<b0.length:=λi b hi=>by
  by_cases h:i<b0.length
  .exact h
  .rw[hB.bnone i (by omega)] at hi;cases hi
 refine pV.1 (callsIn_of_wp_marks (F:=FW none) (n:=0) hf hb trivial (np (l:=none) hm (λi b hi=>A2 i b hi) (.inl rfl) c vQ _ _ (λe s a w' hq dH=>?_) _ _ _ h (.of ⟨_,_,_,hst⟩)));obtain⟨hex,l,kg,dq⟩:=hq;have dH:SX G fn.ntmps tr I ⟨M.m,β,[]⟩ w (hdS l b1) a w':=by obtain⟨I1,M1,w1,rs,tV,lQ,dH⟩:=dH;exact⟨I1,M1,w1,rs,tV,lQ,dH.weaken (by rw[tV.e];exact λi b hi=>A2 i b hi) kg⟩
 have main:LeavesInM (FW none) 0 P fn a.tmps (λe w'=>∃ v' I' β' ob' o',e=.returned v'/\BelowM (GT G) M w w'/\(∀ b o,I b o->I' b o)/\(∀ b o,I' b o->I b o∨(Wr M w b/\b<w'.heap.size))/\
  (∀ b o,I b o->w'.cell? ⟨b,o,none⟩=w.cell? ⟨b,o,none⟩)/\(∀ i,i<b0.length->β' i=β i)/\(∀ i b,b0.length<=i->β' i=some b->Wr M w b)/\BxR (Wr M w) I' w' β' ob' b1/\
  LR (Wr M w) I' β' w' o' v' r/\(∀ b,o'=some b->(b<w'.heap.size/\Wr M w b)/\(∀ i j,ob' i j≠some b)/\∀ i,β' i≠some b)) a.defers .returning w':=by
  refine dH.leaves rfl λw' I' β' ob' cN=>?_;obtain⟨v,o',h1,h2,h3⟩:=wL (P:=P) (fn:=fn) cN oV (Ic:=I') (λ_=>rfl) (λ_ _ h=>h) (λhz=>by cases hz) dq;have xn:∀ i,i<b0.length->β' i=β i:=λi hi=>by obtain⟨blk,_,e1,_⟩:=hB.bx i _ (ah hi);rw[e1];exact cN.ext i blk e1
  refine⟨v,h1,v,I',β',λi j=>if i<b1.length then ob' (.b i j) else none,o',rfl,⟨cN.below.os,cN.below.tape,cN.below.output,cN.below.size,cN.below.block,cN.below.drawn⟩,cN.ilow,λb o Gt=>?_,cN.kept,xn,λi b hi hb=>?_,?_,h2,λb hb=>?_⟩
  .rcases cN.ihigh b o Gt with h4 | h4
   .exact .inl h4
   .exact .inr ⟨h4,cN.ibnd b o Gt⟩
  .rcases cN.bnew i b hb with h4 | h4
   .have:=A2 i b h4;omega
   .exact h4
  .exact {
    bx:=λi cs js=>by have hi:i<b1.length:=(ai.1 js).1;obtain⟨blk,cur,e1,e2,e3,e4,e5,e7⟩:=cN.bx i hi;have e:bxs b1 i=cs:=(by simp[bxs,List.getD,js]);refine⟨blk,cur,e1,e2,by simp only[hdS,e] at e3;exact e3,by simp only[hdS,e] at e4;exact e4,λj=>?_,e7⟩;have:=e5 j;simp only[hdS,e] at this;rw[if_pos hi];exact this
    bnone:=λi hi=>cN.bnone i hi
    binj:=cN.binj
    oinj:=λi j i' j' b h h'=>by
     split at h<;>try cases h
     split at h'<;>try cases h'
     have:=cN.oinj _ _ b h h';simp only[Loc.b.injEq] at this;exact this
    obx:=λi j b k h=>by
     split at h<;>try cases h
     exact cN.obx _ b k h
    obnd:=λi j b h=>by
     split at h<;>try cases h
     exact cN.obnd _ b h
    olen:=λi j hi=>by rw[if_neg (by omega)] }
  .obtain⟨t,ht⟩:=h3 b hb
   refine⟨cN.obnd _ b ht,λi j h=>?_,λi=>cN.obx _ b i ht⟩;simp only at h;split at h<;>try cases h
   have:=cN.oinj _ _ b ht h;cases this
 cases e with
 |normal=>exact main
 |exit i=>exact hex.elim
 |ret=>exact main
theorem acF {f:FuncId} {fn:Func} {c:Code} {args:List V} {b0:List (List V)} {R:V->List (List V)->Prop} (tr:List Nat) (hm:P.follows .mixedOrders=true) (hf:P.funcs[f]?=some fn) (hb:fn.body=some c)
 (nC:(fn.name== "runtime.NumGoroutine")=false) (hn:args.length<=fn.ntmps) (vQ:cok fn.ntmps tr c=true) (oV:∀ r b1,R r b1->r.compT=true)
 (Vo:(∀ x∈args,x.lt b0.length)/\(∀ b∈b0,∀ x∈b,x.lt b0.length)/\∀ r b1,R r b1->b0.length<=b1.length)
 (h:ia P G tr b0.length c (λe s=>∃ r b1,R r b1/\x7 P b0.length r b1 fn.results.toList e s) ⟨λj=>args.getD j .un,bxs b0,b0.length⟩):FnE P G f args b0 R:=by
 refine⟨⟨fn,hf,nC,c,hb⟩,Vo,λI M w vs β ob hI hg hB fK ha=>?_⟩;have jJ:fn.ntmps=(vs++Array.replicate (fn.ntmps - vs.size) undef).size:=by simp;omega
 have hst:=St.initB (n:=fn.ntmps) hI hg hB fK ha jJ;have A2:∀ i b,β i=some b->i<b0.length:=λi b hi=>by
  by_cases h:i<b0.length
  .exact h
  .rw[hB.bnone i (by omega)] at hi;cases hi
 refine pV.1 (callsIn_of_wp_marks (F:=FW none) (n:=0) hf hb trivial (np (l:=none) hm (λi b hi=>A2 i b hi) (.inl rfl) c vQ _ _ (λe s a w' hq dH=>?_) _ _ _ h (.of ⟨_,_,_,hst⟩)));obtain⟨r,b1,hR,hex,l,kg,dq⟩:=hq;have dH:SX G fn.ntmps tr I ⟨M.m,β,[]⟩ w (hdS l b1) a w':=by obtain⟨I1,M1,w1,rs,tV,lQ,dH⟩:=dH;exact⟨I1,M1,w1,rs,tV,lQ,dH.weaken (by rw[tV.e];exact λi b hi=>A2 i b hi) kg⟩
 have main:LeavesInM (FW none) 0 P fn a.tmps (λe w'=>∃ r b1,R r b1/\∃ v' I' β' ob' o',e=.returned v'/\BelowM (GT G) M w w'/\(∀ b o,I b o->I' b o)/\(∀ b o,I' b o->I b o∨(Wr M w b/\b<w'.heap.size))/\
  (∀ b o,I b o->w'.cell? ⟨b,o,none⟩=w.cell? ⟨b,o,none⟩)/\(∀ i,i<b0.length->β' i=β i)/\(∀ i b,b0.length<=i->β' i=some b->Wr M w b)/\BxR (Wr M w) I' w' β' ob' b1/\
  LR (Wr M w) I' β' w' o' v' r/\(∀ b,o'=some b->(b<w'.heap.size/\Wr M w b)/\(∀ i j,ob' i j≠some b)/\∀ i,β' i≠some b)) a.defers .returning w':=by
  refine dH.leaves rfl λw' I' β' ob' cN=>?_;obtain⟨v,o',h1,h2,h3⟩:=wL (P:=P) (fn:=fn) cN (oV r b1 hR) (Ic:=I') (λ_=>rfl) (λ_ _ h=>h) (λhz=>by cases hz) dq;have xn:∀ i,i<b0.length->β' i=β i:=λi hi=>by obtain⟨blk,_,e1,_⟩:=hB.bx i _ (ah hi);rw[e1];exact cN.ext i blk e1
  refine⟨v,h1,r,b1,hR,v,I',β',λi j=>if i<b1.length then ob' (.b i j) else none,o',rfl,⟨cN.below.os,cN.below.tape,cN.below.output,cN.below.size,cN.below.block,cN.below.drawn⟩,cN.ilow,λb o Gt=>?_,cN.kept,xn,λi b hi hb=>?_,?_,h2,λb hb=>?_⟩
  .rcases cN.ihigh b o Gt with h4 | h4
   .exact .inl h4
   .exact .inr ⟨h4,cN.ibnd b o Gt⟩
  .rcases cN.bnew i b hb with h4 | h4
   .have:=A2 i b h4;omega
   .exact h4
  .exact {
    bx:=λi cs js=>by have hi:i<b1.length:=(ai.1 js).1;obtain⟨blk,cur,e1,e2,e3,e4,e5,e7⟩:=cN.bx i hi;have e:bxs b1 i=cs:=(by simp[bxs,List.getD,js]);refine⟨blk,cur,e1,e2,by simp only[hdS,e] at e3;exact e3,by simp only[hdS,e] at e4;exact e4,λj=>?_,e7⟩;have:=e5 j;simp only[hdS,e] at this;rw[if_pos hi];exact this
    bnone:=λi hi=>cN.bnone i hi
    binj:=cN.binj
    oinj:=λi j i' j' b h h'=>by
     split at h<;>try cases h
     split at h'<;>try cases h'
     have:=cN.oinj _ _ b h h';simp only[Loc.b.injEq] at this;exact this
    obx:=λi j b k h=>by
     split at h<;>try cases h
     exact cN.obx _ b k h
    obnd:=λi j b h=>by
     split at h<;>try cases h
     exact cN.obnd _ b h
    olen:=λi j hi=>by rw[if_neg (by omega)] }
  .obtain⟨t,ht⟩:=h3 b hb
   refine⟨cN.obnd _ b ht,λi j h=>?_,λi=>cN.obx _ b i ht⟩;simp only at h;split at h<;>try cases h
   have:=cN.oinj _ _ b ht h;cases this
 cases e with
 |normal=>exact main
 |exit i=>exact hex.elim
 |ret=>exact main
end
theorem Bc (x:V):x.renP (λi=>i)=x:=by cases x<;>rfl
theorem Xn (x:V):x.ren (λi=>i)=x:=by
 cases x<;>simp only[V.ren]
 .rw[bS (g:=id) (λx _=>Bc x),bS (g:=id) (λx _=>Bc x)];simp
 .rw[bS (g:=id) (λx _=>Bc x)];simp
 .rw[bS (g:=id) (λp _=>by rw[Bc];rfl)];simp
theorem qd (l:List V):l.map (V.ren λi=>i)=l:=by rw[bS (g:=id) (λx _=>Xn x)];simp
theorem jz {α:Type} {f:α->α}:∀ {l:List α},(∀ x∈l,f x=x)->l.map f=l
 |[],_=>rfl
 |x::l,h=>by rw[bB,h x (bD ..),jz λy hy=>h y (aP _ hy)]
theorem x8 {ρ:Nat->Nat} {x:V} (h:x.ltP 0):x.renP ρ=x:=by cases x<;>simp_all[V.renP,V.ltP]
theorem acG {ρ:Nat->Nat} {x:V} (h:x.lt 0):x.ren ρ=x:=by
 cases x<;>simp only[V.ren]<;>simp only[V.lt] at h<;>try omega
 .rw[jz λx hx=>x8 (h.1 x hx),jz λx hx=>x8 (h.2 x hx)]
 .rw[jz λx hx=>x8 (h x hx)]
 .rw[jz λp hp=>by rw[x8 (h p hp)]]
theorem zd (nb:Nat):rho (List.range nb) nb=λi=>i:=by
 funext i;unfold rho;rw[List.length_range];split
 .rename_i h;simp[List.getD,h]
 .omega
theorem acH (nb:Nat):rho [] nb=λi=>nb+i:=by funext i;simp[rho]
theorem um:∀ (b1:List (List V)) (k:Nat) (f:Nat->List V),fM (λi=>i) k b1 f=λi=>if k<=i/\i<k+b1.length then b1.getD (i - k) [] else f i
 |[],k,f=>by funext i;simp only[fM,aF];rw[if_neg (by omega)]
 |b::r,k,f=>by
  funext i;simp only[fM,um r,qd,aB,up];by_cases h1:k+1<=i/\i<k+1+r.length
  .rw[if_pos h1,if_pos (by omega)]
   have:i - k=(i - (k+1))+1:=(by omega);rw[this];rfl
  .rw[if_neg h1]
   by_cases h2:i=k
   .subst h2;rw[if_pos rfl,if_pos (by omega)];simp
   .rw[if_neg h2,if_neg (by omega)]
theorem x9:∀ (b0:List (List V)) (k nb:Nat) (f:Nat->List V),(∀ i b,b0[i]?=some b->k+i<nb/\f (k+i)=b)->rf f nb (λi=>i) k b0
 |[],_,_,_,_=>trivial
 |b::r,k,nb,f,h=>by
  refine⟨?_,x9 r (k+1) nb f λi c hc=>?_⟩
  .have:=h 0 b rfl
   rw[qd];exact this
  .have:=h (i+1) c (by simpa using hc)
   rw[dN,Nat.add_comm 1 i];exact this
def rV:VE->Bool
 | .exit _=>false
 |_=>true
theorem J4:∀ e:VE,rV e=true->(match e with | .exit _=>False | _=>True)
 | .exit _,h=>by cases h
 | .normal,_=>trivial
 | .ret,_=>trivial
def lD (args:List V) (b0:List (List V)):Bool:=args.all (λv=>v.ltB b0.length)&&b0.all λb=>b.all λv=>v.ltB b0.length
section
variable {P:Program} {G:Gl} {tr:List Nat} {fr:Nat->V} {bx:Nat->List V} {nb:Nat} {K:S->Prop} {KV:V->Prop} {dO:Option Tmp} {T ty:TypeId} {pos:String} {af:Array Edge} {g:Option (Nat×Bool)}
def acI (dO:Option Tmp) (K:S->Prop) (s:S):Prop:=K (s.put dO .sk)
theorem acJ:acI dO K ⟨fr,bx,nb⟩=K ((⟨fr,bx,nb⟩:S).put dO .sk):=rfl
def Xo (t:Tmp) (dO:Option Tmp) (s:S) (K:S->Prop) (it:Option V) (v:V):Prop:=K ((match it with | some x=>{ s with fr:=up s.fr t x } | none=>s:S).put dO v)
theorem NS {t:Tmp} {x v:V}:Xo t dO ⟨fr,bx,nb⟩ K (some x) v=K ((⟨up fr t x,bx,nb⟩:S).put dO v):=rfl
theorem NT {t:Tmp} {v:V}:Xo t dO ⟨fr,bx,nb⟩ K none v=K ((⟨fr,bx,nb⟩:S).put dO v):=rfl
theorem wN {i:TI} {kt et:TypeId} (hT:ti P T=some i) (hk:i.kd=.map kt et):VStep P G tr ⟨dO,.makeMap T none,ty,pos,af,g⟩ ⟨fr,bx,nb⟩ K=K ((⟨fr,up bx nb [.mk [] 0],nb+1⟩:S).put dO (.mr nb)):=by obtain⟨kd,a,b,c,d,f,e⟩:=i;simp only at hk;subst hk;simp only[VStep,hT]
theorem HE {m k x:Operand}:VStep P G tr ⟨dO,.mapUpdate T m k x,ty,pos,af,g⟩ ⟨fr,bx,nb⟩ K=gY P T ⟨fr,bx,nb⟩ (ev G ⟨fr,bx,nb⟩ m) (ev G ⟨fr,bx,nb⟩ k) (ev G ⟨fr,bx,nb⟩ x) (acI dO K):=rfl
theorem S3 {m k x:Operand}:VStep P G tr ⟨dO,.insert T m k x,ty,pos,af,g⟩ ⟨fr,bx,nb⟩ K=gY P T ⟨fr,bx,nb⟩ (ev G ⟨fr,bx,nb⟩ m) (ev G ⟨fr,bx,nb⟩ k) (ev G ⟨fr,bx,nb⟩ x) (acI dO K):=rfl
theorem J5 {m k:Operand}:VStep P G tr ⟨dO,.mapEntry T m k,ty,pos,af,g⟩ ⟨fr,bx,nb⟩ K=fY P T ⟨fr,bx,nb⟩ (ev G ⟨fr,bx,nb⟩ m) (ev G ⟨fr,bx,nb⟩ k) (Eb dO K):=rfl
theorem Ez {m k x:Operand}:VStep P G tr ⟨dO,.entryStore T m k x,ty,pos,af,g⟩ ⟨fr,bx,nb⟩ K=fJ ⟨fr,bx,nb⟩ (ev G ⟨fr,bx,nb⟩ m) (ev G ⟨fr,bx,nb⟩ k) (ev G ⟨fr,bx,nb⟩ x) (acI dO K):=rfl
theorem acK {t:Tmp}:VStep P G tr ⟨dO,.next (.tmp t) false,ty,pos,af,g⟩ ⟨fr,bx,nb⟩ K=EL ⟨fr,bx,nb⟩ (fr t) (Xo t dO ⟨fr,bx,nb⟩ K):=rfl
theorem S4 {m k:Operand} {ok:Bool}:VStep P G tr ⟨dO,.lookup T m k ok,ty,pos,af,g⟩ ⟨fr,bx,nb⟩ K=fH P T ⟨fr,bx,nb⟩ (ev G ⟨fr,bx,nb⟩ m) (ev G ⟨fr,bx,nb⟩ k) ok (lW dO ⟨fr,bx,nb⟩ K):=rfl
theorem Xp {x:Operand}:VStep P G tr ⟨dO,.range T x,ty,pos,af,g⟩ ⟨fr,bx,nb⟩ K=o0 P T ⟨fr,bx,nb⟩ (ev G ⟨fr,bx,nb⟩ x) (lW dO ⟨fr,bx,nb⟩ K):=rfl
theorem Xq {x:Operand}:VStep P G tr ⟨dO,.entry x,ty,pos,af,g⟩ ⟨fr,bx,nb⟩ K=o5 ⟨fr,bx,nb⟩ (ev G ⟨fr,bx,nb⟩ x) (lW dO ⟨fr,bx,nb⟩ K):=rfl
theorem amf {i:Nat}:(V.mr i).fz=.mr i:=rfl
theorem amg {i:Nat}:(V.yl i).fz=.yl i:=rfl
theorem acL {i:Nat}:(V.mr i).isOw=false:=rfl
theorem acM {i:Nat}:(V.yl i).isOw=false:=rfl
theorem acN {i a b:Nat} {l:List Nat}:(V.it i a b l).isOw=true:=rfl
theorem acO {i:Nat}:(V.mr i).isPO=true:=rfl
theorem acP {i:Nat}:(V.yl i).isPO=true:=rfl
theorem acQ {i:Nat}:(V.mr i).isPR=true:=rfl
theorem acR {i:Nat}:(V.yl i).isPR=true:=rfl
theorem aph {x:C}:(V.c x).dr=.c x:=rfl
theorem ahK {x:List C}:(V.agg x).dr=.agg x:=rfl
def nf {α β:Type} (f:α->V) (h:β->V):List (α×β)->List V
 |[]=>[]
 |(a,b)::l=>f a::h b::nf f h l
theorem qP {α β:Type} {f:α->V} {h:β->V}:∀ l m:List (α×β),nf f h (l++m)=nf f h l++nf f h m
 |[],_=>rfl
 |(a,b)::l,m=>by simp[nf,qP l m]
theorem uo {α β:Type} {ag:Bool} {f:α->V} {h:β->V} {c:α->List C} (hf:∀ a,(f a).kcs ag=some (c a)):∀ l:List (α×β),j4 ag (nf f h l)=some (l.map λp=>c p.1)
 |[]=>rfl
 |(a,b)::l=>by simp[nf,j4,hf,uo hf l]
theorem rW {α β:Type} {f:α->V} {h:β->V}:∀ (l:List (α×β)) (j:Nat) (p:α×β),l[j]?=some p->(nf f h l).getD (2*j+1) .un=h p.2/\(nf f h l).getD (2*j) .un=f p.1
 |[],j,p,hp=>by simp at hp
 |(a,b)::l,0,p,hp=>by simp at hp;subst hp;exact⟨rfl,rfl⟩
 |(a,b)::l,j+1,p,hp=>by have:=rW (f:=f) (h:=h) l j p (by simpa using hp);rw[show 2*(j+1)=2*j+1+1 by omega];simpa only[nf,fx] using this
theorem yd {α β:Type} {f:α->V} {h:β->V}:∀ (l:List (α×β)) (j:Nat) (a:α) (b b':β),l[j]?=some (a,b)->(nf f h l).set (2*j+1) (h b')=nf f h (l.set j (a,b'))
 |[],j,a,b,b',hp=>by simp at hp
 |(a,b)::l,0,a',b0,b',hp=>by simp at hp;simp[nf,hp.1]
 |(a,b)::l,j+1,a',b0,b',hp=>by have:=yd (f:=f) (h:=h) l j a' b0 b' (by simpa using hp);rw[show 2*(j+1)+1=2*j+1+1+1 by omega];simp only[nf,jC,this]
theorem ze {α:Type} {ks:List EK} {c:α->List C} [DecidableEq α] (hl:∀ a,(c a).length=ks.length) (he:∀ a b,iG ks (c a) (c b)=some (decide (a=b))) (a:α):∀ (l:List α) (i:Nat),
 nK ks (c a) (l.map c) i=some ((l.findIdx? (λb=>decide (a=b))).map (i+·))
 |[],i=>rfl
 |b::l,i=>by
  simp only[bB,nK,hl,cZ,he,List.findIdx?_cons];by_cases h:a=b
  .simp[h]
  .simp only[h,decide_false,aM,dp]
   rw[ze hl he a l (i+1)];cases l.findIdx? (λb=>decide (a=b))<;>simp;omega
end
section
variable {P:Program} {G:Gl} {tr:List Nat} {fr:Nat->V} {bx:Nat->List V} {nb:Nat} {K:S->Prop} {KV:V->Prop} {Q:VE->S->Prop}
theorem NU (args:List V):frm 0 args=λj=>args.getD j .un:=by have:=J1 args;simp only[Ai,S.mk.injEq] at this;exact this.1.symm
theorem Xr {b:List V} {r:List (List V)}:bxs (b::r) 0=b:=rfl
theorem Xs {b:List V} {r:List (List V)} {n:Nat}:bxs (b::r) (n+1)=bxs r n:=rfl
theorem acS {n:Nat}:bxs [] n=[]:=by simp[bxs]
theorem jL {f:FuncId} {fn:Func} {c:Code} {args:List V} {b0 b1:List (List V)} {r:V} (tr:List Nat) (hm:P.follows .mixedOrders=true) (hf:P.funcs[f]?=some fn) (hb:fn.body=some c) (nC:(fn.name== "runtime.NumGoroutine")=false)
 {rs:List ResultVar} (PE:fn.results.toList=rs) {n:Nat} (hn:fn.ntmps=n) (vQ:cok n tr c=true) (cm:args.length<=n) (oV:r.compT=true) {k:Nat} (hk:Vv tr=k) (xw:b0.length=k)
 (dQ:lD args b0=true) (kg:b0.length<=b1.length)
 (h:ia P G tr k c (x7 P k r b1 rs) ⟨frm 0 args,bxs b0,k⟩):FnB P G f args b0 r b1:=by
 subst hn;subst PE;subst xw;simp only[lD,aZ,a8] at dQ;refine P3 tr hm hf hb nC cm vQ oV ⟨λx hx=>V.ltB_ok (dQ.1 x hx),λb hb x hx=>V.ltB_ok (dQ.2 b hb x hx),kg⟩ ?_;rw[NU] at h;exact h
theorem nO {k:Nat} {r:V} {b1:List (List V)} {rs:List ResultVar} {e:VE} (l:List (Nat×V)) (he:rV e=true) (eG:gz l b1=true) (hk:k<=b1.length) (hn:b1.length<=nb) (h1:FL l fr) (h2:BL 0 b1 bx) (hr:rT P false (hdS l b1) r rs) :
 x7 P k r b1 rs e ⟨fr,bx,nb⟩:=⟨J4 _ he,l,cg eG hk hn h1 h2,hr⟩
theorem nW {fr:Nat->V} {bx:Nat->List V} {nb:Nat}:rT P false ⟨fr,bx,nb⟩ (.tup []) []:=⟨[],rfl,rfl,λ_ _ _ h=>by simp at h⟩
theorem gQ (m:Nat) (cs:List C):(cs.map V.c).all (λx=>x.ltB m)=true:=by rw[List.all_map,a8];intro x _;rfl
theorem P4 {T:TypeId} {i:TI} {e:TypeId} {es:List (List C)} (hT:ti P T=some i) (hk:i.kd=.slice e) (gZ:es≠[]):IM P .eql T (.c (.sl es)) KV=KV (.c (.lit (.bool false))):=by
 obtain⟨kd,a,b,c,d,f,g⟩:=i;subst hk;cases es with
 |nil=>exact absurd rfl gZ
 |cons e es=>simp only[IM,hT,EM]
theorem Xt {T:TypeId} {i:TI} {e:TypeId} (hT:ti P T=some i) (hk:i.kd=.slice e):IM P .eql T (.c (.sl [])) KV=(KV (.c (.lit (.bool true)))/\KV (.c (.lit (.bool false)))):=by obtain⟨kd,a,b,c,d,f,g⟩:=i;subst hk;simp only[IM,hT,EM]
theorem vj {s:S} {f:V} {args all cargs:List V} {g:FuncId} {K:S->V->Prop} {r:V} {b1:List (List V)} (hc:gx f args=some (g,all)) (hf:FnB P G g cargs [] r b1) (eE:all.map V.fz=cargs)
 (hK:K { s with bx:=fM (λi=>s.nb+i) 0 b1 s.bx,nb:=s.nb+b1.length } (r.ren λi=>s.nb+i)):vcallB P G s f args K:=by
 unfold vcallB kE;simp only[hc];refine⟨[],cargs,[],r,b1,hf,?_,⟨rfl,gI⟩,trivial,?_⟩
 .rw[eE,jz λx hx=>acG (hf.2.1.1 x hx)]
 .rw[acH]
  simpa using hK
theorem vl {s:S} {f:V} {args all cargs:List V} {g:FuncId} {K:S->V->Prop} {r:V} {b0 b1:List (List V)} (hc:gx f args=some (g,all)) (hf:FnB P G g cargs b0 r b1) (eE:all.map V.fz=cargs)
 (hn:b0.length=s.nb) (hb:BL 0 b0 s.bx) (hK:K { s with bx:=λi=>if i<b1.length then b1.getD i [] else s.bx i,nb:=b1.length } r):vcallB P G s f args K:=by
 unfold vcallB kE;simp only[hc];refine⟨List.range s.nb,cargs,b0,r,b1,hf,?_,⟨by simp[hn],kA⟩,?_,?_⟩
 .rw[zd,eE,qd]
 .rw[zd]
  refine x9 _ _ _ _ λi b yP=>?_;have hi:=(ai.1 yP).1;have:=hb.get i hi;rw[aJ] at this ⊢
  refine⟨by omega,?_⟩;rw[<- this];simp[yP]
 .rw[zd,um,Xn]
  have kg:=hf.2.1.2.2;have e1:s.nb+(b1.length - b0.length)=b1.length:=by omega
  rw[e1];have e2:(λi=>if 0<=i/\i<0+b1.length then b1.getD (i - 0) [] else s.bx i)=λi=>if i<b1.length then b1.getD i [] else s.bx i:=by funext i;simp
  rw[e2];exact hK
end
section
variable {P:Program} {G:Gl} {tr:List Nat} {fr:Nat->V} {bx:Nat->List V} {nb:Nat} {K:S->Prop} {KV:V->Prop} {Q:VE->S->Prop}
def acT {α:Type} (o:Option α) (K:α->Prop):Prop:=match o with
 |some a=>K a
 |none=>False
def Cj (f:Option (Nat×Nat×Bool)) (ds:List C) (flds:List (Nat×Nat×Bool)) (r:List (Nat×V)) (cs:List C):Option (List C):=match f with
 |some (off,sz,_)=>if ds.length=sz/\off+sz<=cs.length then ka flds r (pd cs off ds) else none
 |none=>none
def AO (e sz:Nat) (z:List C) (len:Nat) (parts:List (Nat×V)) (K:V->Prop):Prop:=match mb sz parts (List.replicate len z) with
 |some es=>K (.ow (if len=0 then none else some (e,sz)) es)
 |none=>False
theorem sM {T e:TypeId} {i j:TI} {z:List C} {sz len:Nat} {parts:List (Nat×V)} (hT:ti P T=some i) (hk:i.kd=.slice e) (hE:ti P e=some j) (hz:j.zero=some z) (hs:j.size=sz) (hp:0<sz) (hl:z.length=sz) (hn:len*sz<=16777216) :
 cH P T len parts KV=AO e sz z len parts KV:=by
 obtain⟨kd,a,b,c,d,f,g⟩:=i;subst hk;obtain⟨kd',a',b',c',d',f',g'⟩:=j;simp only at hz hs;subst hz;subst hs;simp only[cH,hT,hE,hp,hl,hn,iM];rfl
theorem S5 {sz:Nat} {es:List (List C)}:mb sz [] es=some es:=rfl
theorem S7 {sz i:Nat} {ds:List C} {r:List (Nat×V)} {es:List (List C)}:mb sz ((i,.agg ds)::r) es=if ds.length=sz/\i<es.length then mb sz r (es.set i ds) else none:=rfl
theorem acU {sz i:Nat} {x:C} {r:List (Nat×V)} {es:List (List C)}:mb sz ((i,.c x)::r) es=if[x].length=sz/\i<es.length then mb sz r (es.set i [x]) else none:=rfl
theorem Xu {sz i:Nat} {E:Option (TypeId×Nat)} {x:List (List C)} {r:List (Nat×V)} {es:List (List C)}:mb sz ((i,.ow E x)::r) es=if[C.sl x].length=sz/\i<es.length then mb sz r (es.set i [.sl x]) else none:=rfl
theorem acV {e sz len:Nat} {z:List C} {parts:List (Nat×V)}:AO e sz z len parts KV=acT (mb sz parts (List.replicate len z)) (λes=>KV (.ow (if len=0 then none else some (e,sz)) es)):=by unfold AO acT;cases mb sz parts (List.replicate len z)<;>rfl
def sN (flds:List (Nat×Nat×Bool)) (z:List C) (parts:List (Nat×V)) (K:V->Prop):Option (List C)->Prop
 |some cs=>K (.agg cs)
 |none=>acT (iR flds parts (z.map .c)) λvs=>K (.mag vs)
theorem mJ {T:TypeId} {i:TI} {z:List C} {flds:List (Nat×Nat×Bool)} {parts:List (Nat×V)} (hT:ti P T=some i) (hk:i.kd=.struct) (hz:i.zero=some z) (hf:i.flds=flds) :
 iH P T parts KV=sN flds z parts KV (ka flds parts z):=by
 obtain⟨kd,a,b,c,d,f,g⟩:=i;simp only at hk hz hf;subst hk;subst hz;subst hf;simp only[iH,hT];unfold sN;cases ka f parts z with
 |some cs=>rfl
 |none=>cases iR f parts (z.map .c)<;>rfl
theorem S8 {z cs:List C} {flds:List (Nat×Nat×Bool)} {parts:List (Nat×V)}:sN flds z parts KV (some cs)=KV (.agg cs):=rfl
theorem S9 {α:Type} {a:α} {K:α->Prop}:acT (some a) K=K a:=rfl
theorem Ta {flds:List (Nat×Nat×Bool)} {cs:List C}:ka flds [] cs=some cs:=rfl
theorem acW {flds:List (Nat×Nat×Bool)} {i:Nat} {x:C} {r:List (Nat×V)} {cs:List C}:ka flds ((i,.c x)::r) cs=Cj flds[i]? [x] flds r cs:=by unfold ka Cj;cases flds[i]?<;>rfl
theorem Xv {flds:List (Nat×Nat×Bool)} {i:Nat} {E:Option (TypeId×Nat)} {x:List (List C)} {r:List (Nat×V)} {cs:List C}:ka flds ((i,.ow E x)::r) cs=Cj flds[i]? [.sl x] flds r cs:=by unfold ka Cj;cases flds[i]?<;>rfl
theorem Tc {flds:List (Nat×Nat×Bool)} {i:Nat} {ds:List C} {r:List (Nat×V)} {cs:List C}:ka flds ((i,.agg ds)::r) cs=Cj flds[i]? ds flds r cs:=by unfold ka Cj;cases flds[i]?<;>rfl
theorem NV {off sz:Nat} {ag:Bool} {ds:List C} {flds:List (Nat×Nat×Bool)} {r:List (Nat×V)} {cs:List C}:Cj (some (off,sz,ag)) ds flds r cs=if ds.length=sz/\off+sz<=cs.length then ka flds r (pd cs off ds) else none:=rfl
theorem NW {cs ds:List C}:pd cs 0 ds=ds++cs.drop ds.length:=by simp[pd]
theorem NY {c:C} {cs ds:List C} {n:Nat}:pd (c::cs) (n+1) ds=c::pd cs n ds:=by simp[pd,Nat.succ_add]
def ldZ (nb b:Nat) (l:List V) (o:Nat) (K:V->Prop):Prop:=b<nb/\match l[o]? with
 |some (.ow none es)=>K (.ow none es)
 |_=>False
theorem wO {T:TypeId} {i:TI} {b o:Nat} (hT:ti P T=some i) (ha:i.agg=false):nQ P T ⟨fr,bx,nb⟩ (.bp b o) KV=(ck (bx b)=false/\ldZ nb b (bx b) o KV):=by simp only[nQ,hT,ha,ldZ];exact propext ⟨λ⟨⟨a,_,b⟩,c⟩=>⟨b,a,c⟩,λ⟨b,a,c⟩=>⟨⟨a,trivial,b⟩,c⟩⟩
theorem amh {b:Nat} {es:List (List C)} {l:List V}:ldZ nb b (.ow none es::l) 0 KV=(b<nb/\KV (.ow none es)):=rfl
theorem ami {b o:Nat} {v:V} {l:List V}:ldZ nb b (v::l) (o+1) KV=ldZ nb b l o KV:=by simp[ldZ]
def sO (f:Option (Nat×Nat×Bool)) (ds:List V) (flds:List (Nat×Nat×Bool)) (r:List (Nat×V)) (cs:List V):Option (List V):=match f with
 |some (off,sz,_)=>if ds.length=sz/\off+sz<=cs.length then iR flds r (AE cs off ds) else none
 |none=>none
def qQ (K:V->Prop):Option (List V)->Prop
 |some vs=>K (.mag vs)
 |none=>False
theorem nu {T:TypeId} {i:TI} {z:List C} {flds:List (Nat×Nat×Bool)} {parts:List (Nat×V)} (hT:ti P T=some i) (hk:i.kd=.struct) (hz:i.zero=some z) (hf:i.flds=flds) :
 jR P T parts KV=qQ KV (iR flds parts (z.map nM)):=by
 obtain⟨kd,a,b,c,d,f,g⟩:=i;simp only at hk hz hf;subst hk;subst hz;subst hf;simp only[jR,hT];cases iR f parts (z.map nM)<;>rfl
theorem NZ {vs:List V}:qQ KV (some vs)=KV (.mag vs):=rfl
theorem Td {flds:List (Nat×Nat×Bool)} {cs:List V}:iR flds [] cs=some cs:=rfl
theorem acX {flds:List (Nat×Nat×Bool)} {i:Nat} {x:C} {r:List (Nat×V)} {cs:List V}:iR flds ((i,.c x)::r) cs=sO flds[i]? [.c x] flds r cs:=by unfold sO;simp only[iR,V.ps];cases flds[i]?<;>rfl
theorem Xw {flds:List (Nat×Nat×Bool)} {i:Nat} {E:Option (TypeId×Nat)} {x:List (List C)} {r:List (Nat×V)} {cs:List V}:iR flds ((i,.ow E x)::r) cs=sO flds[i]? [.c (.sl x)] flds r cs:=by unfold sO;simp only[iR,V.ps];cases flds[i]?<;>rfl
theorem Tf {flds:List (Nat×Nat×Bool)} {i:Nat} {ds:List C} {r:List (Nat×V)} {cs:List V}:iR flds ((i,.agg ds)::r) cs=sO flds[i]? (ds.map .c) flds r cs:=by unfold sO;simp only[iR,V.ps];cases flds[i]?<;>rfl
theorem Xx {flds:List (Nat×Nat×Bool)} {i b o l c z:Nat} {r:List (Nat×V)} {cs:List V}:iR flds ((i,.ms b o l c z)::r) cs=sO flds[i]? [.ms b o l c z] flds r cs:=by unfold sO;simp only[iR,V.ps];cases flds[i]?<;>rfl
theorem J6 {off sz:Nat} {ag:Bool} {ds:List V} {flds:List (Nat×Nat×Bool)} {r:List (Nat×V)} {cs:List V}:sO (some (off,sz,ag)) ds flds r cs=if ds.length=sz/\off+sz<=cs.length then iR flds r (AE cs off ds) else none:=rfl
theorem Ti {cs ds:List V}:AE cs 0 ds=ds++cs.drop ds.length:=by simp[AE]
theorem Tj {c:V} {cs ds:List V} {n:Nat}:AE (c::cs) (n+1) ds=c::AE cs n ds:=by simp[AE,Nat.succ_add]
theorem HF {T e:TypeId} {i j:TI} {z:List C} {sz by_:Nat} {E:Option (TypeId×Nat)} {es ys:List (List C)} (hT:ti P T=some i) (hk:i.kd=.slice e) (hE:ti P e=some j) (hz:j.zero=some z) (hs:j.size=sz) (hb:j.bytes=by_) (hp:0<sz) (hl:z.length=sz) :
 dS P T (.ow E es) (.c (.sl ys)) KV=(((E=none∨E=some (e,sz))/\∀ x∈es,x.length=sz)/\((es.length+ys.length)*by_<=140737488355328/\es.length+ys.length<=9223372036854775807/\∀ x∈ys,x.length=sz)/\KV (.ow (if ys.isEmpty then E else some (e,sz)) (es++ys))):=by
 obtain⟨kd,a,b,c,d,f,g⟩:=i;subst hk;obtain⟨kd',a',b',c',d',f',g'⟩:=j;simp only at hz hs hb;subst hz;subst hs;subst hb;simp only[dS,hT,hE,hp,hl,iM]
end
theorem br {n:Int} {k:Nat} (h:n=(k:Nat)) (hk:k<=9223372036854775807):IntKind.i64.wrap n=(k:Nat):=by subst h;exact wrap_i64 _ (by omega)
section
variable {P:Program} {T e:TypeId} {i j:TI} {K:V->Prop} {blk off len cap k n' sz:Nat} {E:Option (TypeId×Nat)} {es:List (List C)} {s:S}
theorem Bd {a:Option Addr} (hT:ti P T=some i) (hk:i.kd=.slice e) (hK:K (.c (.lit (.int .i64 len)))):fq P T (.c (.ex (.slice a len cap))) K:=by obtain⟨kd,a1,a2,a3,a4,a5,a6⟩:=i;simp only at hk;subst hk;simp only[fq,hT];exact hK
theorem N1 {kd:IntKind} {n:Int} (hT:ti P T=some i) (hk:i.kd=.slice e) (hE:ti P e=some j) (hs:j.size=sz) (hz:sz≠0) (hn:n=(k:Nat)) (hl:k<len) (hK:K (.c (.ex (.pointer (some ⟨blk,off+k*sz,none⟩))))) :
 dW P T (.c (.ex (.slice (some ⟨blk,off,none⟩) len cap))) (.c (.lit (.int kd n))) K:=by
 obtain⟨kd',a1,a2,a3,a4,a5,a6⟩:=i;simp only at hk;subst hk;subst hn;subst hs;simp only[dW,hT,hE,cz];exact⟨⟨ay k,by omega,hz⟩,hK⟩
theorem N2 {f:Nat} {ag:Bool} (hT:ti P T=some i) (hf:i.flds[f]?=some (off,sz,ag)) (hz:sz≠0) (hK:K (.c (.ex (.pointer (some ⟨blk,k+off,none⟩))))):aR P T (.c (.ex (.pointer (some ⟨blk,k,none⟩)))) f K:=by simp only[aR,hT,hf];exact⟨hz,hK⟩
theorem ahL {b o:Nat} {c:C} (hT:ti P T=some i) (kK:i.agg=false) (hb:b<s.nb) (hm:ck (s.bx b)=false) (hk:(s.bx b)[k]?=some (.hh (some (.slice (some ⟨blk,0,none⟩) len cap)) E es)) (ho:es.flatten[o]?=some c) (hK:K c.ldc) :
 cO P T s (.c (.ex (.pointer (some ⟨blk,o,none⟩)))) K:=by
 simp only[cO,hT];exact .inl ⟨kK,b,k,len,cap,E,es,c,⟨hb,hm,hk,ho⟩,hK⟩
theorem acY {b o r:Nat} {x:List C} {c:C} {v:V} {t:Option Tmp} {dO:Option Tmp} {K:S->Prop} (hT:ti P T=some i) (hs:i.size=1) (hb:b<s.nb) (hm:ck (s.bx b)=false)
 (hk:(s.bx b)[k]?=some (.hh (some (.slice (some ⟨blk,0,none⟩) len cap)) E (es++[x]))) (ho:es.flatten.length+r=o) (hr:r<x.length) (hc:v.asC=some c)
 (hK:K ((let s':=s.use t;{ s' with bx:=up s'.bx b ((s'.bx b).set k (.hh (some (.slice (some ⟨blk,0,none⟩) len cap)) E (es++[x.set r c]))) }:S).put dO .sk)):oH (ti P T) t dO (.c (.ex (.pointer (some ⟨blk,o,none⟩)))) v s K:=by
 simp only[oH,hT];exact .inl ⟨b,k,len,cap,E,es,r,x,c,⟨hs,hb,hm,hk,⟨ho,hr⟩,hc⟩,hK⟩
theorem ahM {G:Gl} {t d y:Nat} {v:Value} {y1:List C} {by_:Nat} {z:List C} (hT:ti P T=some i) (hk:i.kd=.slice e) (hE:ti P e=some j) (hs:j.size=sz) (hb:j.bytes=by_) (hz:j.zero=some z) (hp:0<sz) (tX:z.length=sz) (h1:s.fr t=.c (.ex v)) (h2:s.fr d=.gh v E es)
 (h0:t≠d/\y≠t/\y≠d) (hy:(vw s (s.fr y)).fz=.c (.sl [y1])) (hEE:E=none∨E=some (e,sz)) (pG:∀ x∈es,x.length=sz) (Gp:y1.length=sz) (hm:(es.length+1)*by_<=140737488355328) (Vp:es.length+1<=9223372036854775807)
 (hK:K (.hh none (some (e,sz)) (es++[y1]))):vG P G s (some d) [T,T] [.tmp t,.tmp y] K:=by
 obtain⟨kd',a1,a2,a3,a4,a5,a6⟩:=i;simp only at hk;subst hk;obtain⟨b0,b1,b2,b3,b4,b5,b6⟩:=j;simp only at hs hb hz;subst hs;subst hb;subst hz;unfold vG;simp only[h1,h2,ev];refine⟨⟨h0.1,trivial,by simp[h0.2.1],by simp[h0.2.2]⟩,?_⟩;rw[hy];simp only[tY,hT,hE];exact⟨trivial,⟨hp,tX,hEE,pG⟩,⟨hm,Vp,Gp⟩,hK⟩
theorem ahN {fr:Nat->V} {bx:Nat->List V} {nb:Nat} {t:Tmp} {dO:Option Tmp} {b o:Nat} {g:Option Value} {K:S->Prop} (h:fr t=.hh g E es):stS 1 (some t) dO b o (.hh g E es) ⟨fr,bx,nb⟩ K=
 ((b<nb/\o+1<=(bx b).length)/\K ((⟨up fr t .un,up bx b (eQ (bx b) o [.hh g E es]),nb⟩:S).put dO .sk)):=by
 simp[stS,V.bcells,ib,h,V.isOw]
