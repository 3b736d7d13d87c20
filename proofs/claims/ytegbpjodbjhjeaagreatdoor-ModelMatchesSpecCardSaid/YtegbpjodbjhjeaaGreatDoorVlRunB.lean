/- Values without memory: how the conditions are computed: each law fires at a state that is written out, so that what follows stays as it is until its turn comes. -/
import Derived.Test.YtegbpjodbjhjeaaGreatDoorVlFn
set_option linter.all false
namespace Go.Vl
open Go Go.RowKit
section
variable {P:Program} {G:Gl} {tr:List Nat} {fr:Nat->V} {bx:Nat->List V} {nb k0:Nat} {K:S->Prop} {KV:V->Prop} {Q:VE->S->Prop}
def RA (P:Program) (G:Gl) (tr:List Nat) (ops:Array Oper) (r:List Oper) (K:S->Prop) (s:S):Prop:=eU P G tr ops r s K
def RB (P:Program) (G:Gl) (tr:List Nat) (k0:Nat) (b:Code) (Q:VE->S->Prop) (e:VE) (s:S):Prop:=match e with | .normal=>gJ P G tr k0 b Q s | e=>Q e s
def Xd (id:Nat) (Q:VE->S->Prop) (e:VE) (s:S):Prop:=match e with | .exit i=>if i=id then Q .normal s else Q (.exit i) s | e=>Q e s
def Dj (P:Program) (G:Gl) (tr:List Nat) (k0:Nat) (v:V) (c:Operand) (x y:Code) (Q:VE->S->Prop) (s:S):Prop:=match v with
 | .c (.lit (.bool p))=>(p=true->gJ P G tr k0 x Q (refine s c true))/\(p=false->gJ P G tr k0 y Q (refine s c false))
 |_=>False
def vgd (P:Program) (G:Gl) (tr:List Nat) (ops:Array Oper) (o:Oper) (r:List Oper) (K:S->Prop) (d:Option Tmp) (v:V) (want:Bool) (s:S):Prop:=match d with
 |some d=>match v with
  | .c (.lit (.bool p))=>(p=want->VStep P G tr o { s with fr:=up s.fr d (.c (.lit (.bool want))) } (RA P G tr ops r K))/\
   (p=(!want)->eU P G tr ops r (({ s with fr:=up s.fr d (.c (.lit (.bool (!want)))) }:S).put o.dst .sk) K)
  | .sk=>eU P G tr ops r (s.put o.dst .sk) K
  |_=>False
 |none=>False
def RE (s:S):Option Tmp->V
 |some d=>s.fr d
 |none=>.un
def fzK (P:Program) (G:Gl) (tr:List Nat) (k0:Nat) (id:Nat) (ops:Array Oper) (Q:VE->S->Prop) (s:S):Prop:=∃ s',S.Fz (k0) s' s/\vtw P G tr id ops s' (Q .normal)
def afq (P:Program) (G:Gl) (tr:List Nat) (ops:Array Oper) (K:S->Prop) (s:S):Prop:=eU P G tr ops ops.toList s K
theorem Xe {ops:Array Oper}:afq P G tr ops K ⟨fr,bx,nb⟩=eU P G tr ops ops.toList ⟨fr,bx,nb⟩ K:=rfl
theorem Xf {i:Nat}:J1 tr i=tr.contains (2300000+i):=rfl
theorem rJ {i:Nat} {ops:Array Oper} {s:S} (b k q:Nat) {E:Option (TypeId×Nat)} {es:List (List C)} (hi:J1 tr i=true) (hb:b<s.nb) (hk:(s.bx b)[k]?=some (.ow E es)) (hq:(ops.toList.any λo=>o.dst==some q)=true) (h:∀ v,K (s.split b k q v E es)):spl tr i ops s K:=by unfold spl;rw[if_pos hi];exact .inl ⟨b,k,q,E,es,⟨hb,hk,hq⟩,h⟩
theorem Bg {i:Nat} {ops:Array Oper} {s:S} (hi:J1 tr i=true) (h:GsK ops K s):spl tr i ops s K:=by unfold spl;rw[if_pos hi];exact .inr (.inr (.inr h))
theorem Ks {i:Nat} {ops:Array Oper} {d:Bool}:gJ P G tr k0 (.region i ops d) Q ⟨fr,bx,nb⟩=if N6 tr i then vpa P G tr i ops (Q .normal) ⟨fr,bx,nb⟩ else if Q5 tr i then fzK P G tr k0 i ops Q ⟨fr,bx,nb⟩ else if J1 tr i then spl tr i ops ⟨fr,bx,nb⟩ (afq P G tr ops (Q .normal)) else eU P G tr ops ops.toList ⟨fr,bx,nb⟩ (Q .normal):=by
 show(if N6 tr i then _ else if Q5 tr i then _ else spl tr i ops ⟨fr,bx,nb⟩ _)=_
 congr 1;congr 1;unfold spl;split<;>rfl
theorem Xg {i:Nat}:N6 tr i=tr.contains (2850000+i):=rfl
theorem Xh {i:Nat}:Q5 tr i=tr.contains (2600000+i):=rfl
theorem Xi {a b:Code}:gJ P G tr k0 (.seq a b) Q ⟨fr,bx,nb⟩=gJ P G tr k0 a (RB P G tr k0 b Q) ⟨fr,bx,nb⟩:=rfl
theorem Ox:gJ P G tr k0 .skip Q ⟨fr,bx,nb⟩=Q .normal ⟨fr,bx,nb⟩:=rfl
theorem Xj:gJ P G tr k0 .ret Q ⟨fr,bx,nb⟩=Q .ret ⟨fr,bx,nb⟩:=rfl
theorem RF {i:Nat}:gJ P G tr k0 (.exit i) Q ⟨fr,bx,nb⟩=Q (.exit i) ⟨fr,bx,nb⟩:=rfl
theorem Oy {i:Nat} {a:Code}:gJ P G tr k0 (.block i a) Q ⟨fr,bx,nb⟩=gJ P G tr k0 a (Xd i Q) ⟨fr,bx,nb⟩:=rfl
theorem RG {c:Operand} {x y:Code}:gJ P G tr k0 (.cond c x y) Q ⟨fr,bx,nb⟩=Dj P G tr k0 (ev G ⟨fr,bx,nb⟩ c) c x y Q ⟨fr,bx,nb⟩:=rfl
theorem CB {c:Operand} {x y:Code}:Dj P G tr k0 (.c (.lit (.bool true))) c x y Q ⟨fr,bx,nb⟩=gJ P G tr k0 x Q (refine ⟨fr,bx,nb⟩ c true):=by simp[Dj]
theorem Bh {c:Operand} {x y:Code}:Dj P G tr k0 (.c (.lit (.bool false))) c x y Q ⟨fr,bx,nb⟩=gJ P G tr k0 y Q (refine ⟨fr,bx,nb⟩ c false):=by simp[Dj]
theorem aJ {c:Operand} {x y:Code} {p:Bool} {s:S} (h1:p=true->gJ P G tr k0 x Q (refine s c true)) (h2:p=false->gJ P G tr k0 y Q (refine s c false)) :
 Dj P G tr k0 (.c (.lit (.bool p))) c x y Q s:=⟨h1,h2⟩
theorem HJ {b:Code} {s:S}:RB P G tr k0 b Q .normal s=gJ P G tr k0 b Q s:=rfl
theorem RH {b:Code} {s:S}:RB P G tr k0 b Q .ret s=Q .ret s:=rfl
theorem Oz {b:Code} {s:S} {i:Nat}:RB P G tr k0 b Q (.exit i) s=Q (.exit i) s:=rfl
theorem HK {id:Nat} {s:S}:Xd id Q .normal s=Q .normal s:=rfl
theorem RI {id:Nat} {s:S}:Xd id Q .ret s=Q .ret s:=rfl
theorem OA {id i:Nat} {s:S}:Xd id Q (.exit i) s=if i=id then Q .normal s else Q (.exit i) s:=rfl
theorem Kt {t:Tmp} {p:Bool}:refine ⟨fr,bx,nb⟩ (.tmp t) p=⟨up fr t (.c (.lit (.bool p))),bx,nb⟩:=rfl
theorem Xk {ops:Array Oper}:eU P G tr ops [] ⟨fr,bx,nb⟩ K=K ⟨fr,bx,nb⟩:=rfl
theorem abI {ops:Array Oper} {d:Option Tmp} {op:Op} {ty:TypeId} {pos:String} {af:Array Edge} {r:List Oper} :
 eU P G tr ops (⟨d,op,ty,pos,af,none⟩::r) ⟨fr,bx,nb⟩ K=VStep P G tr ⟨d,op,ty,pos,af,none⟩ ⟨fr,bx,nb⟩ (RA P G tr ops r K):=rfl
theorem Xl {ops:Array Oper} {d:Option Tmp} {op:Op} {ty:TypeId} {pos:String} {af:Array Edge} {j:Nat} {w:Bool} {r:List Oper} :
 eU P G tr ops (⟨d,op,ty,pos,af,some (j,w)⟩::r) ⟨fr,bx,nb⟩ K=
  vgd P G tr ops ⟨d,op,ty,pos,af,some (j,w)⟩ r K ((ops[j]?).bind (·.dst)) (RE ⟨fr,bx,nb⟩ ((ops[j]?).bind (·.dst))) w ⟨fr,bx,nb⟩:=by
 simp only[eU,nw,vgd];cases hd:(ops[j]?).bind (·.dst) with
 |none=>rfl
 |some d=>rfl
theorem Xm {ops:Array Oper} {o:Oper} {r:List Oper} {d:Tmp} {w:Bool}:vgd P G tr ops o r K (some d) (.c (.lit (.bool w))) w ⟨fr,bx,nb⟩=VStep P G tr o ⟨up fr d (.c (.lit (.bool w))),bx,nb⟩ (RA P G tr ops r K):=by simp[vgd]
theorem abJ {ops:Array Oper} {o:Oper} {r:List Oper} {d:Tmp}:vgd P G tr ops o r K (some d) (.c (.lit (.bool true))) false ⟨fr,bx,nb⟩=eU P G tr ops r ((⟨up fr d (.c (.lit (.bool true))),bx,nb⟩:S).put o.dst .sk) K:=by simp[vgd]
theorem abK {ops:Array Oper} {o:Oper} {r:List Oper} {d:Tmp}:vgd P G tr ops o r K (some d) (.c (.lit (.bool false))) true ⟨fr,bx,nb⟩=eU P G tr ops r ((⟨up fr d (.c (.lit (.bool false))),bx,nb⟩:S).put o.dst .sk) K:=by simp[vgd]
theorem abL {ops:Array Oper} {o:Oper} {r:List Oper} {d:Tmp} {w:Bool}:vgd P G tr ops o r K (some d) .sk w ⟨fr,bx,nb⟩=eU P G tr ops r ((⟨fr,bx,nb⟩:S).put o.dst .sk) K:=rfl
theorem fQ {ops:Array Oper} {o:Oper} {r:List Oper} {d:Tmp} {w p:Bool} {s:S} (h1:p=w->VStep P G tr o { s with fr:=up s.fr d (.c (.lit (.bool w))) } (RA P G tr ops r K))
 (h2:p=(!w)->eU P G tr ops r (({ s with fr:=up s.fr d (.c (.lit (.bool (!w)))) }:S).put o.dst .sk) K):vgd P G tr ops o r K (some d) (.c (.lit (.bool p))) w s:=⟨h1,h2⟩
theorem HL {d:Tmp}:RE ⟨fr,bx,nb⟩ (some d)=fr d:=rfl
theorem Xn {ops:Array Oper} {r:List Oper}:RA P G tr ops r K ⟨fr,bx,nb⟩=eU P G tr ops r ⟨fr,bx,nb⟩ K:=rfl
theorem RJ {d:Nat} {v:V}:(⟨fr,bx,nb⟩:S).put (some d) v=⟨up fr d v,bx,nb⟩:=rfl
theorem RL {v:V}:(⟨fr,bx,nb⟩:S).put none v=⟨fr,bx,nb⟩:=rfl
section
variable {d:Nat} {dO:Option Tmp} {t:Tmp} {ty T:TypeId} {pos:String} {af:Array Edge} {g:Option (Nat×Bool)}
theorem Xo:VStep P G tr ⟨some d,.move (.tmp t),ty,pos,af,g⟩ ⟨fr,bx,nb⟩ K=if tr.contains d then K (((⟨fr,bx,nb⟩:S).use (some t)).put (some d) (fr t)) else K ⟨up fr d (fr t).fz,bx,nb⟩:=by
 simp only[VStep,VYK,QX,ev];split
 .rename_i h;simp only[S.after,cL,QX,h,bY]
 .rename_i h;simp only[S.after,cL,QX,h];rfl
theorem CC {v:Value}:VStep P G tr ⟨some d,.move (.const v),ty,pos,af,g⟩ ⟨fr,bx,nb⟩ K=if tr.contains d then K ⟨up fr d (mJ v),bx,nb⟩ else K ⟨up fr d (mJ v).fz,bx,nb⟩:=rfl
theorem OB:VStep P G tr ⟨some d,.assign (.tmp t),ty,pos,af,g⟩ ⟨fr,bx,nb⟩ K=K (((⟨fr,bx,nb⟩:S).use (some t)).put (some d) (fr t)):=rfl
theorem zY {v:Value}:VStep P G tr ⟨some d,.assign (.const v),ty,pos,af,g⟩ ⟨fr,bx,nb⟩ K=K ⟨up fr d (mJ v),bx,nb⟩:=rfl
def RN (c a b:V) (K:V->Prop):Prop:=match c with
 | .c (.lit (.bool p))=>K (if p then a.fz else b.fz)
 |_=>False
def nB (dO:Option Tmp) (s:S) (K:S->Prop) (v:V):Prop:=K (s.put dO v)
theorem Xp {v:V}:nB (some d) ⟨fr,bx,nb⟩ K v=K ⟨up fr d v,bx,nb⟩:=rfl
theorem RO {c a b:Operand}:VStep P G tr ⟨dO,.pick c a b,ty,pos,af,g⟩ ⟨fr,bx,nb⟩ K=RN (ev G ⟨fr,bx,nb⟩ c) (ev G ⟨fr,bx,nb⟩ a) (ev G ⟨fr,bx,nb⟩ b) (nB dO ⟨fr,bx,nb⟩ K):=rfl
theorem Ku {a b:V}:RN (.c (.lit (.bool true))) a b KV=KV a.fz:=rfl
theorem HM {a b:V}:RN (.c (.lit (.bool false))) a b KV=KV b.fz:=rfl
theorem abM {op:BinOp} {x:Operand} {t:Tmp} {yT:TypeId}:VStep P G tr ⟨dO,.binOp op T x (.tmp t) yT,ty,pos,af,g⟩ ⟨fr,bx,nb⟩ K=nh P op T (ev G ⟨fr,bx,nb⟩ x) (fr t) (nB dO ⟨fr,bx,nb⟩ K):=rfl
theorem RP {op:BinOp} {x:Operand} {k:IntKind} {m:Int} {yT:TypeId}:VStep P G tr ⟨dO,.binOp op T x (.const (.int k m)) yT,ty,pos,af,g⟩ ⟨fr,bx,nb⟩ K=nh P op T (ev G ⟨fr,bx,nb⟩ x) (.c (.lit (.int k m))) (nB dO ⟨fr,bx,nb⟩ K):=rfl
theorem RQ {op:BinOp} {x:Operand} {b:Bool} {yT:TypeId}:VStep P G tr ⟨dO,.binOp op T x (.const (.bool b)) yT,ty,pos,af,g⟩ ⟨fr,bx,nb⟩ K=nh P op T (ev G ⟨fr,bx,nb⟩ x) (.c (.lit (.bool b))) (nB dO ⟨fr,bx,nb⟩ K):=rfl
theorem RR {op:BinOp} {x:Operand} {b:ByteArray} {yT:TypeId}:VStep P G tr ⟨dO,.binOp op T x (.const (.string b)) yT,ty,pos,af,g⟩ ⟨fr,bx,nb⟩ K=nh P op T (ev G ⟨fr,bx,nb⟩ x) (.c (.lit (.string b))) (nB dO ⟨fr,bx,nb⟩ K):=rfl
theorem Kv {op:BinOp} {x:Operand} {yT:TypeId}:VStep P G tr ⟨dO,.binOp op T x (.const (.slice none 0 0)) yT,ty,pos,af,g⟩ ⟨fr,bx,nb⟩ K=WX P op T (ev G ⟨fr,bx,nb⟩ x) (nB dO ⟨fr,bx,nb⟩ K):=rfl
theorem afr {op:UnOp} {x:Operand}:VStep P G tr ⟨dO,.unOp op T x,ty,pos,af,g⟩ ⟨fr,bx,nb⟩ K=vun op (ev G ⟨fr,bx,nb⟩ x) (nB dO ⟨fr,bx,nb⟩ K):=rfl
def zK (dO:Option Tmp) (s:S) (K:S->Prop) (v:V):Prop:=K (s.put dO v)
theorem afs {v:V}:zK dO ⟨fr,bx,nb⟩ K v=K ((⟨fr,bx,nb⟩:S).put dO v):=rfl
theorem RS:isZ tr (some d)=tr.contains (2500000+d):=rfl
theorem Xq {x:Operand}:VStep P G tr ⟨dO,.load T x,ty,pos,af,g⟩ ⟨fr,bx,nb⟩ K=
 if isZ tr dO then Eu P T ⟨fr,bx,nb⟩ (ev G ⟨fr,bx,nb⟩ x) (zK dO ⟨fr,bx,nb⟩ K) else qc tr dO (ev G ⟨fr,bx,nb⟩ x)=true/\dJ P T ⟨fr,bx,nb⟩ (ev G ⟨fr,bx,nb⟩ x) (nB dO ⟨fr,bx,nb⟩ K):=rfl
theorem RU {t b k:Nat}:qc tr (some t) (.bp b k)=(!tr.contains (200000+t)||(decide (b<100)&&tr.contains (300000+t*100+b))):=rfl
theorem Xr {t:Nat} {cs:List C} {k:Nat}:qc tr (some t) (.c (.rp cs k))=true:=rfl
theorem RV {t:Nat} {v:Value}:qc tr (some t) (.c (.ex v))=!tr.contains (200000+t):=rfl
theorem abN {t:Tmp}:J0 (.tmp t)=some t:=rfl
theorem Fe {x:Operand} {f:Nat}:VStep P G tr ⟨dO,.fieldAddr T x f,ty,pos,af,g⟩ ⟨fr,bx,nb⟩ K=bj P T (ev G ⟨fr,bx,nb⟩ x) f (nB dO ⟨fr,bx,nb⟩ K):=rfl
theorem RX {x:Operand} {f:Nat}:VStep P G tr ⟨dO,.field T x f,ty,pos,af,g⟩ ⟨fr,bx,nb⟩ K=ru P T (ev G ⟨fr,bx,nb⟩ x) f (nB dO ⟨fr,bx,nb⟩ K):=rfl
theorem Ff {x i:Operand}:VStep P G tr ⟨dO,.indexAddr T x i,ty,pos,af,g⟩ ⟨fr,bx,nb⟩ K=bK P T (ev G ⟨fr,bx,nb⟩ x).fz (ev G ⟨fr,bx,nb⟩ i) (nB dO ⟨fr,bx,nb⟩ K):=rfl
theorem RY {x i:Operand}:VStep P G tr ⟨dO,.index T x i,ty,pos,af,g⟩ ⟨fr,bx,nb⟩ K=nu P T (ev G ⟨fr,bx,nb⟩ x) (ev G ⟨fr,bx,nb⟩ i) (nB dO ⟨fr,bx,nb⟩ K):=rfl
theorem RZ {x:Operand} {lo hi mx:Option Operand}:VStep P G tr ⟨dO,.slice T x lo hi mx,ty,pos,af,g⟩ ⟨fr,bx,nb⟩ K=
 ig P T (ev G ⟨fr,bx,nb⟩ x).fz (lo.map (ev G ⟨fr,bx,nb⟩)) (hi.map (ev G ⟨fr,bx,nb⟩)) (mx.map (ev G ⟨fr,bx,nb⟩)) (nB dO ⟨fr,bx,nb⟩ K):=rfl
theorem Kw {x:Operand} {U:TypeId}:VStep P G tr ⟨dO,.convert T U x,ty,pos,af,g⟩ ⟨fr,bx,nb⟩ K=
 if nR tr dO then JZ P ⟨fr,bx,nb⟩ dO T U K (ev G ⟨fr,bx,nb⟩ x) else oK P T U (vw ⟨fr,bx,nb⟩ (ev G ⟨fr,bx,nb⟩ x)).fz (nB dO ⟨fr,bx,nb⟩ K):=rfl
def MD (x:V) (K:V->Prop):Prop:=match x with
 | .bp i o=>K (.bp i o)
 | .c (.rp cs k)=>K (.c (.rp cs k))
 |_=>False
theorem HN {x:Operand}:VStep P G tr ⟨dO,.nilCheck x,ty,pos,af,g⟩ ⟨fr,bx,nb⟩ K=MD (ev G ⟨fr,bx,nb⟩ x) (nB dO ⟨fr,bx,nb⟩ K):=rfl
theorem OC {i o:Nat}:MD (.bp i o) KV=KV (.bp i o):=rfl
theorem R1 {parts:Array (Nat×Operand)}:VStep P G tr ⟨dO,.build T parts,ty,pos,af,g⟩ ⟨fr,bx,nb⟩ K=
 if isZ tr dO then rx P T (parts.toList.map λp=>(p.1,ev G ⟨fr,bx,nb⟩ p.2)) (zK dO ⟨fr,bx,nb⟩ K) else gI P T (parts.toList.map λp=>(p.1,ev G ⟨fr,bx,nb⟩ p.2)) (nB dO ⟨fr,bx,nb⟩ K):=rfl
theorem CE {len:Nat} {parts:Array (Nat×Operand)}:VStep P G tr ⟨dO,.buildSlice T len parts,ty,pos,af,g⟩ ⟨fr,bx,nb⟩ K=
 if nR tr dO then da P T len (parts.toList.map λp=>(p.1,ev G ⟨fr,bx,nb⟩ p.2)) (QY ⟨fr,bx,nb⟩ dO len len K)
 else if Q2 tr dO then False
 else da P T len (parts.toList.map λp=>(p.1,ev G ⟨fr,bx,nb⟩ p.2)) (nB dO ⟨fr,bx,nb⟩ K):=rfl
theorem Xs {e:TypeId} {sz n m:Nat} {es:List (List C)}:QY ⟨fr,bx,nb⟩ dO n m K (.ow (some (e,sz)) es)=K ((⟨fr,up bx nb (es.flatten.map .c),nb+1⟩:S).put dO (.ms nb 0 n m sz)):=rfl
theorem OD:nR [] dO=false:=by cases dO<;>rfl
theorem OE:wo [] dO=false:=rfl
theorem R7:N3 [] dO=false:=rfl
theorem OF:Q2 tr (some d)=tr.contains (1400000+d):=rfl
theorem OG:JX tr (some d)=tr.contains (1100000+d):=rfl
theorem aft {s:S} {t:Tmp}:evX G s (.tmp t)=s.fr t:=rfl
theorem Xt {s:S}:evX G s (.const (.slice none 0 0))=.c (.ex (.slice none 0 0)):=rfl
theorem OH:QW tr (some d)=tr.contains (1500000+d):=rfl
theorem Kx:nR tr (some d)=tr.contains (2000000+d):=rfl
theorem Ky:nR tr none=false:=rfl
theorem Kz:wo tr (some d)=tr.contains (1000000+d):=rfl
theorem KA:wo tr none=tr.contains 999999:=rfl
theorem OI {d:Tmp}:N3 tr (some d)=tr.contains (1900000+d):=rfl
theorem OJ:N3 tr none=tr.contains 1999999:=rfl
theorem OK:Cp tr (some d)=tr.contains (400000+d):=rfl
theorem OL:Cp tr none=tr.contains 399999:=rfl
theorem abO {s:S} {v:V}:lcK tr dO s K ⟨fr,bx,nb⟩ v=(abD tr dO s ⟨fr,bx,nb⟩/\K ((⟨fr,bx,nb⟩:S).put dO v)):=rfl
def mkK (dO:Option Tmp) (s:S) (K:S->Prop) (n m sz:Nat) (z:List C):Prop:=K ({ s with bx:=up s.bx s.nb ((List.replicate m z).flatten.map .c),nb:=s.nb+1 }.put dO (.ms s.nb 0 n m sz))
theorem Fg {l c:Operand}:VStep P G tr ⟨dO,.makeSlice T l c,ty,pos,af,g⟩ ⟨fr,bx,nb⟩ K=qP P T (ev G ⟨fr,bx,nb⟩ l) (ev G ⟨fr,bx,nb⟩ c) (mkK dO ⟨fr,bx,nb⟩ K):=rfl
theorem abP {n m sz:Nat} {z:List C}:mkK dO ⟨fr,bx,nb⟩ K n m sz z=K ((⟨fr,up bx nb ((List.replicate m z).flatten.map .c),nb+1⟩:S).put dO (.ms nb 0 n m sz)):=rfl
def Xu (x:V) (i:Nat) (K:V->Prop):Prop:=match x with
 | .tup ds=>match ds[i]? with
  |some d=>K d
  |none=>False
 |_=>False
theorem KB {x:Operand} {i:Nat}:VStep P G tr ⟨dO,.extract x i,ty,pos,af,g⟩ ⟨fr,bx,nb⟩ K=Xu (ev G ⟨fr,bx,nb⟩ x) i (nB dO ⟨fr,bx,nb⟩ K):=rfl
theorem OM {v:V} {ds:List V}:Xu (.tup (v::ds)) 0 KV=KV v:=rfl
theorem R9 {v u:V} {ds:List V}:Xu (.tup (v::u::ds)) 1 KV=KV u:=rfl
theorem Sa {v u x:V} {ds:List V}:Xu (.tup (v::u::x::ds)) 2 KV=KV x:=rfl
theorem HO {f:Fn} {a b:Array Operand}:VStep P G tr ⟨dO,.makeFunc f a b,ty,pos,af,g⟩ ⟨fr,bx,nb⟩ K=
 ((((a.toList.map (ev G ⟨fr,bx,nb⟩)).all V.isPR=true/\(b.toList.map (ev G ⟨fr,bx,nb⟩)).all V.isPR=true))/\nB dO ⟨fr,bx,nb⟩ K (.clo f (a.toList.map (ev G ⟨fr,bx,nb⟩)) (b.toList.map (ev G ⟨fr,bx,nb⟩)))):=rfl
theorem Xv {v:V}:GZ dO K ⟨fr,bx,nb⟩ v=K ((⟨fr,bx,nb⟩:S).put dO v):=rfl
theorem Xw {f:Operand} {args:Array Operand} {ts:Array TypeId}:VStep P G tr ⟨dO,.call ⟨.value f,args,ts⟩,ty,pos,af,g⟩ ⟨fr,bx,nb⟩ K=
 if JX tr dO then x9 P G ⟨fr,bx,nb⟩ (ev G ⟨fr,bx,nb⟩ f) (args.toList.map (ev G ⟨fr,bx,nb⟩)) (GZ dO K) else
 if QW tr dO then mK P G ⟨fr,bx,nb⟩ (ev G ⟨fr,bx,nb⟩ f) (args.toList.map (evX G ⟨fr,bx,nb⟩)) (GZ dO K) else
 if wo tr dO then vcallB P G ⟨fr,bx,nb⟩ (ev G ⟨fr,bx,nb⟩ f) (args.toList.map (ev G ⟨fr,bx,nb⟩)) (if Cp tr dO then lcK tr dO ⟨fr,bx,nb⟩ K else GZ dO K)
 else if N3 tr dO then mc P G ⟨fr,bx,nb⟩ (ev G ⟨fr,bx,nb⟩ f) (args.toList.map (ev G ⟨fr,bx,nb⟩)) (nB dO ⟨fr,bx,nb⟩ K)
 else qO P G ⟨fr,bx,nb⟩ (ev G ⟨fr,bx,nb⟩ f) (args.toList.map (ev G ⟨fr,bx,nb⟩)) (nB dO ⟨fr,bx,nb⟩ K):=rfl
theorem abQ {args:Array Operand} {ts:Array TypeId}:VStep P G tr ⟨dO,.call ⟨.builtin .len,args,ts⟩,ty,pos,af,g⟩ ⟨fr,bx,nb⟩ K=
 if Q3 tr dO then GY P ⟨fr,bx,nb⟩ (nB dO ⟨fr,bx,nb⟩ K) ts.toList (args.toList.map (ev G ⟨fr,bx,nb⟩)) else eH P .len ts.toList (args.toList.map (ev G ⟨fr,bx,nb⟩)) (nB dO ⟨fr,bx,nb⟩ K):=rfl
theorem ON:Q3 tr (some d)=tr.contains (1600000+d):=rfl
def Xx (t:Option Tmp) (dO:Option Tmp) (s:S) (K:S->Prop) (v:V):Prop:=K ((s.use t).put dO v)
def OO:List Operand->Option Tmp
 | .tmp t::_=>some t
 |_=>none
theorem OP {args:Array Operand} {T U:TypeId}:VStep P G tr ⟨dO,.call ⟨.builtin .append,args,#[T,U]⟩,ty,pos,af,g⟩ ⟨fr,bx,nb⟩ K=
 if nR tr dO then Es P ⟨fr,bx,nb⟩ dO K [T,U] (args.toList.map λx=>vw ⟨fr,bx,nb⟩ (ev G ⟨fr,bx,nb⟩ x))
 else if AE tr dO then eT P ⟨fr,bx,nb⟩ (GZ dO K) [T,U] (args.toList.map (ev G ⟨fr,bx,nb⟩))
 else if AC tr dO then(if yd tr dO then Er P G ⟨fr,bx,nb⟩ dO [T,U] args.toList (Xx (OO args.toList) dO ⟨fr,bx,nb⟩ K) else jl P G ⟨fr,bx,nb⟩ dO [T,U] args.toList (Xx (OO args.toList) dO ⟨fr,bx,nb⟩ K))
 else eH P .append [T,U] (args.toList.map λx=>vw ⟨fr,bx,nb⟩ (ev G ⟨fr,bx,nb⟩ x)) (Xx (OO args.toList) dO ⟨fr,bx,nb⟩ K):=rfl
theorem fP:AC tr (some d)=tr.contains (2400000+d):=rfl
theorem OQ:yd tr (some d)=tr.contains (2450000+d):=rfl
theorem HQ:AE tr (some d)=tr.contains (2700000+d):=rfl
theorem Sb {args:Array Operand} {T:TypeId}:VStep P G tr ⟨dO,.call ⟨.builtin .clear,args,#[T]⟩,ty,pos,af,g⟩ ⟨fr,bx,nb⟩ K=iQ P ⟨fr,bx,nb⟩ (λs'=>K (s'.put dO .un)) [T] (args.toList.map (ev G ⟨fr,bx,nb⟩)):=rfl
theorem Sc {v:V}:Xx (some t) (some d) ⟨fr,bx,nb⟩ K v=K (((⟨fr,bx,nb⟩:S).use (some t)).put (some d) v):=rfl
theorem Se:VStep P G tr ⟨some d,.alloc T,ty,pos,af,g⟩ ⟨fr,bx,nb⟩ K=match ti P T with
 |some { zero:=some z,.. }=>K ⟨up fr d (.bp nb 0),up bx nb (z.map mL),nb+1⟩
 |_=>False:=rfl
def boxK (t:Option Tmp) (d:Nat) (v:V) (s:S) (K:S->Prop):Prop:=match v.bcells with
 |some cs=>K ((let s':=s.use t;{ s' with bx:=up s'.bx s'.nb cs,nb:=s'.nb+1 }:S).put (some d) (.bp s.nb 0))
 |none=>False
theorem abR:VStep P G tr ⟨some d,.box T (.tmp t),ty,pos,af,g⟩ ⟨fr,bx,nb⟩ K=boxK (some t) d (fr t) ⟨fr,bx,nb⟩ K:=rfl
def oV (i:Option TI) (t:Option Tmp) (dO:Option Tmp) (p v:V) (s:S) (K:S->Prop):Prop:=match i,p,v.bcells with
 |some i,.bp b k,some cs=>(b<s.nb/\cs.length=i.size/\k+i.size<=(s.bx b).length/\dE (s.bx b)=false)/\
   K ((let s':=s.use t;{ s' with bx:=up s'.bx b (fW (s'.bx b) k cs) }:S).put dO .sk)
 |some i,.c (.ex (.pointer (some ⟨blk,j,none⟩))),_=>False∨abE s.bx s.nb i blk j v (λbx=>K ((let s':=s.use t;{ s' with bx:=bx }:S).put dO .sk))
 |_,_,_=>False
theorem Sf {p:Operand}:VStep P G tr ⟨dO,.store T p (.tmp t),ty,pos,af,g⟩ ⟨fr,bx,nb⟩ K=(qc tr (J0 p) (ev G ⟨fr,bx,nb⟩ p)=true/\oV (ti P T) (some t) dO (ev G ⟨fr,bx,nb⟩ p) (fr t) ⟨fr,bx,nb⟩ K):=rfl
theorem Bi {p:Operand} {v:Value}:VStep P G tr ⟨dO,.store T p (.const v),ty,pos,af,g⟩ ⟨fr,bx,nb⟩ K=(qc tr (J0 p) (ev G ⟨fr,bx,nb⟩ p)=true/\oV (ti P T) none dO (ev G ⟨fr,bx,nb⟩ p) (mJ v) ⟨fr,bx,nb⟩ K):=rfl
theorem mR:(⟨fr,bx,nb⟩:S).use (some t)=if(fr t).isOw=true then⟨up fr t .un,bx,nb⟩ else⟨fr,bx,nb⟩:=rfl
theorem Sg:(⟨fr,bx,nb⟩:S).use none=⟨fr,bx,nb⟩:=rfl
theorem abS:ev G ⟨fr,bx,nb⟩ (.tmp t)=fr t:=rfl
theorem Si {v:Value}:ev G ⟨fr,bx,nb⟩ (.const v)=mJ v:=rfl
theorem Xy {f:FuncId}:ev G ⟨fr,bx,nb⟩ (.func f)=.c (.fn (.func f) [] []):=rfl
theorem KC {k:IntKind} {n:Int}:mJ (.int k n)=.c (.lit (.int k n)):=rfl
theorem HS {b:Bool}:mJ (.bool b)=.c (.lit (.bool b)):=rfl
theorem CG {b:ByteArray}:mJ (.string b)=.c (.lit (.string b)):=rfl
theorem KD {l:List Value}:mJ (.agg l.toArray)=if l.all ut then .agg (l.map constC) else .un:=rfl
theorem HT {k:IntKind} {n:Int}:ut (.int k n)=true:=rfl
theorem HU:ut (.slice none 0 0)=true:=rfl
theorem KE {k:IntKind} {n:Int}:constC (.int k n)=.lit (.int k n):=rfl
theorem KF:constC (.slice none 0 0)=.sl []:=rfl
theorem KG:mJ (.slice none 0 0)=.ow none []:=rfl
theorem aii {s:S} {x:C}:vw s (.c x)=.c x:=rfl
theorem abT {s:S} {E:Option (TypeId×Nat)} {es:List (List C)}:vw s (.ow E es)=.ow E es:=rfl
section
variable {k:IntKind} {a b:Int} {op:BinOp} {T:TypeId} {t:Tmp}
theorem Sj:nh P op T (.c (.lit (.int k a))) (.c (.lit (.int k b))) KV=rq op k a b KV:=by simp only[nh];split<;>rfl
theorem Sk {a b:ByteArray}:nh P op T (.c (.lit (.string a))) (.c (.lit (.string b))) KV=AA op a b KV:=rfl
def abU (i:Option TI) (op:BinOp) (a b:Bool) (K:V->Prop):Prop:=match i with
 |some { kd:=.bool,.. }=>match op with
  | .eql=>K (.c (.lit (.bool (a==b))))
  | .neq=>K (.c (.lit (.bool (!(a==b)))))
  |_=>False
 |_=>False
theorem OR {a b:Bool}:nh P op T (.c (.lit (.bool a))) (.c (.lit (.bool b))) KV=abU (ti P T) op a b KV:=rfl
def HV (i:Option TI) (op:BinOp) (xs ys:List C) (K:V->Prop):Prop:=match i with
 |some { eqs:=some ks,agg:=true,.. }=>match jF ks xs ys with
  |some r=>(xs.length=ks.length/\ys.length=ks.length)/\match op with
   | .eql=>K (.c (.lit (.bool r)))
   | .neq=>K (.c (.lit (.bool (!r))))
   |_=>False
  |none=>False
 |_=>False
theorem HW {xs ys:List C}:nh P op T (.agg xs) (.agg ys) KV=HV (ti P T) op xs ys KV:=rfl
theorem Sl:rq .add k a b KV=KV (.c (.lit (.int k (k.wrap (a+b))))):=rfl
theorem Sm:rq .sub k a b KV=KV (.c (.lit (.int k (k.wrap (a - b))))):=rfl
theorem So:rq .eql k a b KV=KV (.c (.lit (.bool (decide (a=b))))):=rfl
theorem Sp:rq .neq k a b KV=KV (.c (.lit (.bool (!decide (a=b))))):=rfl
theorem Sq:rq .lss k a b KV=KV (.c (.lit (.bool (decide (a<b))))):=rfl
theorem Sr:rq .leq k a b KV=KV (.c (.lit (.bool (decide (a<=b))))):=rfl
theorem Ss:rq .gtr k a b KV=KV (.c (.lit (.bool (decide (b<a))))):=rfl
theorem Su:rq .geq k a b KV=KV (.c (.lit (.bool (decide (b<=a))))):=rfl
theorem afu {x:C}:(V.c x).ldv=.c x:=rfl
theorem Xz {cs:List C}:(V.agg cs).ldv=.agg cs:=rfl
theorem Sv {es:List (List C)}:(V.ow none es).ldv=.ow none es:=rfl
theorem Sw {E:TypeId×Nat} {es:List (List C)}:(V.ow (some E) es).ldv=.c (.sl es):=rfl
theorem abV {i o:Nat}:(V.bp i o).ldv=.bp i o:=rfl
theorem XA {f:Fn} {x y:List V}:(V.clo f x y).ldv=.clo f x y:=rfl
theorem abW {i o l c z:Nat}:(V.ms i o l c z).ldv=.ms i o l c z:=rfl
theorem abX {i:Nat}:(V.mr i).ldv=.mr i:=rfl
theorem aij {x:C}:(V.c x).fz=.c x:=rfl
theorem afv {E:Option (TypeId×Nat)} {es:List (List C)}:(V.ow E es).fz=.c (.sl es):=rfl
theorem afw {i o:Nat}:(V.bp i o).fz=.bp i o:=rfl
theorem abY {f:Fn} {x y:List V}:(V.clo f x y).fz=.clo f x y:=rfl
theorem afx {i o l c z:Nat}:(V.ms i o l c z).fz=.ms i o l c z:=rfl
theorem XB {i o l c z:Nat}:(V.ms i o l c z).isOw=false:=rfl
theorem abZ {x:List V}:(V.tup x).fz=.tup x:=rfl
theorem ab0 {x:C}:(V.c x).isOw=false:=rfl
theorem Sx {cs:List C}:(V.agg cs).isOw=false:=rfl
theorem XC {E:Option (TypeId×Nat)} {es:List (List C)}:(V.ow E es).isOw=true:=rfl
theorem XD {i o:Nat}:(V.bp i o).isOw=false:=rfl
theorem Sz {f:Fn} {x y:List V}:(V.clo f x y).isOw=false:=rfl
def frm:Nat->List V->Nat->V
 |_,[]=>λ_=>.un
 |i,v::r=>up (frm (i+1) r) i v
theorem XE {i:Nat}:frm i []=λ_=>.un:=rfl
theorem SA {i:Nat} {v:V} {r:List V}:frm i (v::r)=up (frm (i+1) r) i v:=rfl
theorem ME:∀ (l:List V) (i j:Nat),frm i l j=if i<=j then l.getD (j - i) .un else .un
 |[],i,j=>by simp[frm]
 |v::r,i,j=>by
  simp only[frm,aw,ME r (i+1) j];by_cases h:j=i
  .subst h;simp
  .rw[if_neg h]
   by_cases h1:i<=j
   .rw[if_pos h1,if_pos (by omega)]
    have:j - i=(j - (i+1))+1:=(by omega);rw[this];rfl
   .rw[if_neg h1,if_neg (by omega)]
theorem HY (args:List V):zh args=⟨frm 0 args,λ_=>[],0⟩:=by unfold zh;congr 1;funext j;rw[ME];simp
def SB (P:Program) (z:Bool) (r:V) (rs:List ResultVar) (e:VE) (s:S):Prop:=(match e with | .exit _=>False | _=>True)/\qC P z s r rs
theorem SC {z:Bool} {r:V} {rs:List ResultVar} {s:S}:SB P z r rs .ret s=qC P z s r rs:=by simp[SB]
theorem HZ {z:Bool} {r:V} {rs:List ResultVar} {s:S}:SB P z r rs .normal s=qC P z s r rs:=by simp[SB]
theorem gK {r:V} {t:Tmp}:qC P false ⟨fr,bx,nb⟩ r [.tmp t]=(fr t=r):=rfl
theorem Fh {r:V} {t:Tmp}:qC P true ⟨fr,bx,nb⟩ r [.tmp t]=(imm ⟨fr,bx,nb⟩ (fr t)=some r):=by simp[qC,Kq]
theorem o8 {r:V} {t:Tmp} {T:TypeId}:qC P false ⟨fr,bx,nb⟩ r [.cell t T]=dJ P T ⟨fr,bx,nb⟩ (fr t) (λu=>u=r):=rfl
theorem lX {d e:V} {t u:Tmp} (h1:(fr t).fz=d) (h2:(fr u).fz=e):qC P false ⟨fr,bx,nb⟩ (.tup [d,e]) [.tmp t,.tmp u]:=by
 refine⟨_,rfl,rfl,λi R x hR hx=>?_⟩
 match i with
 |0=>simp only[bJ,ap] at hR hx;subst hR;subst hx;exact h1
 |1=>simp only[cU,bJ,ap] at hR hx;subst hR;subst hx;exact h2
 |n+2=>simp at hR
theorem bD {f:FuncId} {fn:Func} {c:Code} {args:List V} {r:V} (z:Bool) (tr:List Nat) (hm:P.follows .mixedOrders=true) (hf:P.funcs[f]?=some fn) (hb:fn.body=some c) (gZ:(fn.name== "runtime.NumGoroutine")=false)
 {rs:List ResultVar} (Az:fn.results.toList=rs) {n:Nat} (hn:fn.ntmps=n) (pS:cok n tr c=true) (cH:args.length<=n)
 (hr:r.out=true) (iV:r.compT=true)
 (h:gJ P G tr (ou tr) c (SB P z r rs) ⟨frm 0 args,λ_=>[],0⟩):FnOK P G f args r:=by
 subst hn;subst Az;refine Xc z tr hm hf hb gZ cH pS hr iV ?_;rw[HY];exact h
end
end
end
section
variable {P:Program} {G:Gl} {tr:List Nat} {fr:Nat->V} {bx:Nat->List V} {nb k0:Nat} {K:S->Prop} {KV:V->Prop} {Q:VE->S->Prop}
def frs:List (Nat×V)->Nat->V
 |[]=>λ_=>.un
 |(i,v)::r=>up (frs r) i v
theorem XG:frs []=λ_=>.un:=rfl
theorem SD {i:Nat} {v:V} {r:List (Nat×V)}:frs ((i,v)::r)=up (frs r) i v:=rfl
def FL:List (Nat×V)->(Nat->V)->Prop
 |[],_=>True
 |(i,v)::r,f=>f i=v/\FL r f
theorem FL.le:∀ {l:List (Nat×V)} {f:Nat->V},FL l f->afl (frs l) f
 |[],_,_=>λ_=>.inl rfl
 |(i,v)::r,f,h=>λt=>by
  by_cases ht:t=i
  .subst ht;right;simp only[frs,cG];exact h.1.symm
  .simp only[frs,dp _ _ ht];exact h.2.le t
def bxs (bl:List (List V)):Nat->List V:=λi=>bl.getD i []
def BL:Nat->List (List V)->(Nat->List V)->Prop
 |_,[],_=>True
 |i,b::r,f=>f i=b/\BL (i+1) r f
theorem BL.get:∀ {bl:List (List V)} {k:Nat} {f:Nat->List V},BL k bl f->∀ i,i<bl.length->bl.getD i []=f (k+i)
 |[],_,_,_,i,hi=>by simp at hi
 |b::r,k,f,h,i,hi=>by
  cases i with
  |zero=>simp[h.1]
  |succ i=>have:=h.2.get i (by simpa using hi);simpa[dw,lG,Nat.add_left_comm] using this
def V.ltPB (m:Nat):V->Bool
 | .bp i _=>decide (i<m)
 | .bm _ i _=>decide (i<m)
 | .ms i _ _ _ _=>decide (i<m)
 | .mr i=>decide (i<m)
 | .yl i=>decide (i<m)
 |_=>true
theorem V.ltPB_ok {m:Nat} {v:V} (h:v.ltPB m=true):v.ltP m:=by cases v<;>simp only[V.ltP]<;>simpa[V.ltPB] using h
def V.ltB (m:Nat):V->Bool
 | .bp i _=>decide (i<m)
 | .bm _ i _=>decide (i<m)
 | .ms i _ _ _ _=>decide (i<m)
 | .clo _ fs cs=>fs.all (V.ltPB m)&&cs.all (V.ltPB m)
 | .mag vs=>vs.all (V.ltPB m)
 | .mr i=>decide (i<m)
 | .it i _ _ _=>decide (i<m)
 | .yl i=>decide (i<m)
 | .lp _ fl=>fl.all λp=>p.2.ltPB m
 |_=>true
theorem V.ltB_ok {m:Nat} {v:V} (h:v.ltB m=true):v.lt m:=by
 cases v<;>simp only[V.lt]<;>simp only[V.ltB] at h
 .simpa using h
 .simp only[aA,a8] at h
  exact⟨λx hx=>V.ltPB_ok (h.1 x hx),λx hx=>V.ltPB_ok (h.2 x hx)⟩
 .simpa using h
 .simp only[a8] at h
  exact λx hx=>V.ltPB_ok (h x hx)
 .simpa using h
 .simpa using h
 .simpa using h
 .simp only[a8] at h
  exact λp hp=>V.ltPB_ok (h p hp)
 .simpa using h
def eu (l:List (Nat×V)) (bl:List (List V)):Bool:=l.all (λp=>p.2.ltB bl.length)&&bl.all λb=>b.all λx=>x.ltB bl.length
theorem Fi {m:Nat}:∀ {l:List (Nat×V)},(∀ p∈l,p.2.lt m)->∀ t,(frs l t).lt m
 |[],_,_=>trivial
 |(i,v)::r,h,t=>by
  by_cases ht:t=i
  .subst ht;simp only[frs,cG];exact h _ (aX ..)
  .simp only[frs,dp _ _ ht];exact Fi (λp hp=>h p (aT _ hp)) t
def hdS (l:List (Nat×V)) (bl:List (List V)):S:=⟨frs l,bxs bl,bl.length⟩
theorem bT {l:List (Nat×V)} {bl:List (List V)} {k:Nat} (dV:eu l bl=true) (hk:k<=bl.length) (hn:bl.length<=nb) (h1:FL l fr) (h2:BL 0 bl bx):S.Le k (hdS l bl) ⟨fr,bx,nb⟩:=by
 simp only[eu,aA,a8] at dV;refine⟨hk,h1.le,hn,λi hi=>?_,λt=>Fi (λp hp=>V.ltB_ok (dV.1 p hp)) t,λi hi x hx=>?_⟩
 .have:=h2.get i hi;simpa[hdS,bxs] using this
 .simp only[hdS] at hi hx
  have:bxs bl i∈bl:=by simp only[bxs,List.getD,ak hi,ba];exact aH hi
  exact V.ltB_ok (dV.2 _ this x hx)
def FZL (s:S) (m:Nat):List (Nat×V)->(Nat->V)->Prop
 |[],_=>True
 |(i,v)::r,f=>(f i=v∨FzV s m v (f i))/\FZL s m r f
def LZ (s:S) (m:Nat):List V->List V->Prop
 |[],[]=>True
 |x::xs,y::ys=>(x=y∨FzV s m x y)/\LZ s m xs ys
 |_,_=>False
def BZL (s:S) (m:Nat):Nat->List (List V)->(Nat->List V)->Prop
 |_,[],_=>True
 |i,b::r,f=>LZ s m b (f i)/\BZL s m (i+1) r f
theorem LZ.ok {s:S} {m:Nat}:∀ {xs ys:List V},LZ s m xs ys->xs.length=ys.length/\∀ j,xs.getD j .un=ys.getD j .un∨FzV s m (xs.getD j .un) (ys.getD j .un)
 |[],[],_=>⟨rfl,λ_=>.inl rfl⟩
 |x::xs,y::ys,h=>by
  obtain⟨h1,h2⟩:=LZ.ok h.2;refine⟨by simp[h1],λj=>?_⟩;cases j with
  |zero=>simpa using h.1
  |succ j=>simpa using h2 j
 |[],_::_,h=>h.elim
 |_::_,[],h=>h.elim
theorem BZL.get {s:S} {m:Nat}:∀ {bl:List (List V)} {k:Nat} {f:Nat->List V},BZL s m k bl f->∀ i,i<bl.length->LZ s m (bl.getD i []) (f (k+i))
 |[],_,_,_,i,hi=>by simp at hi
 |b::r,k,f,h,i,hi=>by
  cases i with
  |zero=>simpa using h.1
  |succ i=>have:=h.2.get i (by simpa using hi);simpa[dw,lG,Nat.add_left_comm] using this
theorem FZL.ok {s:S} {m:Nat}:∀ {l:List (Nat×V)} {f:Nat->V},FZL s m l f->∀ t,frs l t=.un∨frs l t=f t∨FzV s m (frs l t) (f t)
 |[],_,_,_=>.inl rfl
 |(i,v)::r,f,h,t=>by
  by_cases ht:t=i
  .subst ht
   simp only[frs,cG];rcases h.1 with e | e
   .exact .inr (.inl e.symm)
   .exact .inr (.inr e)
  .simp only[frs,dp _ _ ht];exact h.2.ok t
theorem afy {i:Nat} {ops:Array Oper} {l:List (Nat×V)} {bl:List (List V)} (dV:eu l bl=true) (hk:k0<=bl.length) (hn:bl.length<=nb) (h1:FZL ⟨fr,bx,nb⟩ bl.length l fr) (h2:BZL ⟨fr,bx,nb⟩ bl.length 0 bl bx)
 (h:eU P G tr ops ops.toList (hdS l bl) (Q .normal)) (hw:N4 tr i=false:=by rfl):fzK P G tr k0 i ops Q ⟨fr,bx,nb⟩:=by
 simp only[eu,aA,a8] at dV;refine⟨hdS l bl,⟨hk,h1.ok,hn,λi hi=>?_,λi hi=>?_,λt=>Fi (λp hp=>V.ltB_ok (dV.1 p hp)) t,λi hi x hx=>?_⟩,by unfold vtw;rw[if_neg (by rw[hw];decide)];exact h⟩
 .have:=(h2.get i hi).ok.1;simpa[hdS,bxs] using this
 .have:=(h2.get i hi).ok.2;simpa[hdS,bxs] using this
 .simp only[hdS] at hi hx
  have:bxs bl i∈bl:=by simp only[bxs,List.getD,ak hi,ba];exact aH hi
  exact V.ltB_ok (dV.2 _ this x hx)
theorem Bj {k:Nat} {α:Type} {hd:α->S} {m:α->Nat} {Inv:α->Prop} {body:(VE->S->Prop)->S->Prop}
 (hb:∀ x,Inv x->∀ R:VE->S->Prop,(∀ y s',Inv y->m y<m x->S.Le k (hd y) s'->R .normal s')->(∀ i s',Q (.exit i) s'->R (.exit i) s')->(∀ s',Q .ret s'->R .ret s')->body R (hd x)) :
 ∀ n x s,Inv x->m x<n->S.Le k (hd x) s->uu k body Q n s
 |0,_,_,_,h,_=>absurd h (Nat.not_lt_zero _)
 |n+1,x,s,hx,hm,fO=>⟨hd x,.inr fO,hb x hx _ (λy s' hy bF aj6=>Bj hb n y s' hy (by omega) aj6) (λ_ _ h=>h) (λ_ h=>h)⟩
theorem cm {α:Type} (hd:α->S) (m:α->Nat) (Inv:α->Prop) {body:Code} (x:α) (hx:Inv x) (fO:S.Le (k0) (hd x) ⟨fr,bx,nb⟩)
 (hb:∀ x,Inv x->∀ R:VE->S->Prop,(∀ y s',Inv y->m y<m x->S.Le (k0) (hd y) s'->R .normal s')->(∀ i s',Q (.exit i) s'->R (.exit i) s')->(∀ s',Q .ret s'->R .ret s')->gJ P G tr k0 body R (hd x)) :
 gJ P G tr k0 (.loop body) Q ⟨fr,bx,nb⟩:=
 ⟨m x+1,Bj hb _ x _ hx (bH _) fO⟩
theorem XH {b:Bool}:vun .not (.c (.lit (.bool b))) KV=KV (.c (.lit (.bool (!b)))):=rfl
theorem nM {T e:TypeId} {i:TI} {es:List (List C)} (hT:ti P T=some i) (hk:i.kd=.slice e):mb P T (.c (.sl es)) KV=KV (.c (.lit (.int .i64 es.length))):=by obtain⟨kd,a,b,c,d,f,g⟩:=i;subst hk;simp only[mb,hT]
theorem XI {T e:TypeId} {i:TI} {b o l c z:Nat} (hT:ti P T=some i) (hk:i.kd=.slice e):mb P T (.ms b o l c z) KV=KV (.c (.lit (.int .i64 l))):=by obtain⟨kd,a,b,c,d,f,g⟩:=i;subst hk;simp only[mb,hT]
theorem SG {T:TypeId} {i:TI} {b:ByteArray} (hT:ti P T=some i) (hk:i.kd=.str):mb P T (.c (.lit (.string b))) KV=KV (.c (.lit (.int .i64 b.size))):=by obtain⟨kd,a,b,c,d,f,g⟩:=i;subst hk;simp only[mb,hT]
theorem Fj {t:TypeId} {x:V}:eH P .len [t] [x] KV=mb P t x KV:=rfl
theorem Fl {t u:TypeId} {x y:V}:eH P .append [t,u] [x,y] KV=if t=u then dL P t x y.fz KV else qb P t u x y.fz KV:=rfl
theorem SH {T e:TypeId} {i j:TI} {b off len cap sz:Nat} {z:List C} {K2:S->Prop} (hT:ti P T=some i) (hk:i.kd=.slice e) (hE:ti P e=some j) (hs:j.size=sz) (hz:j.zero=some z) (hp:0<sz) (hl:z.length=sz) (hb:b<nb) (hm:dE (bx b)=false)
 (hf:off+len*sz<=(bx b).length) (hK:K2 ⟨fr,up bx b (fW (bx b) off ((List.replicate len z).flatten.map .c)),nb⟩):iQ P ⟨fr,bx,nb⟩ K2 [T] [.ms b off len cap sz]:=by
 obtain⟨kd,a,b',c,d,f,g⟩:=i;simp only at hk;subst hk;obtain⟨kd',a',b'',c',d',f',g'⟩:=j;simp only at hs hz;subst hs;subst hz;simp only[iQ,hT,hE];exact⟨⟨trivial,hp,hl,hb,hm,hf⟩,hK⟩
theorem cR {T e:TypeId} {i j:TI} {k:IntKind} {n:Int} {c:List C} {es:List (List C)} (hT:ti P T=some i) (hk:i.kd=.slice e) (hj:ti P e=some j) (hs:j.size≠0) (hn:0<=n)
 (he:es[n.toNat]?=some c) (hc:c.length=j.size) (hK:KV (.c (.rp c 0))):bK P T (.c (.sl es)) (.c (.lit (.int k n))) KV:=by
 obtain⟨kd,a,b,x,d,f,g⟩:=i;simp only at hk;subst hk;simp only[bK,hT,hj,he];exact⟨⟨hn,hs⟩,hc,hK⟩
theorem aaq {T e:TypeId} {i j:TI} {k:IntKind} {n:Int} {b o l c z:Nat} (hT:ti P T=some i) (hk:i.kd=.slice e) (hj:ti P e=some j) (hs:j.size=z) (hz:z≠0) (hn:0<=n) (hl:n<l)
 (hK:KV (.bp b (o+n.toNat*z))):bK P T (.ms b o l c z) (.c (.lit (.int k n))) KV:=by
 obtain⟨kd,a,b,x,d,f,g⟩:=i;simp only at hk;subst hk;simp only[bK,hT,hj];exact⟨⟨hn,hl,hs,hz⟩,hK⟩
theorem ab1 {T e:TypeId} {i j:TI} {k:IntKind} {n:Int} {m o q:Nat} (hT:ti P T=some i) (hk:i.kd=.arr m e) (hj:ti P e=some j) (hn:0<=n) (hm:n<m)
 (hK:KV (.bp q (o+n.toNat*j.size))):bK P T (.bp q o) (.c (.lit (.int k n))) KV:=by
 obtain⟨kd,a,b,x,d,f,g⟩:=i;simp only at hk;subst hk;simp only[bK,hT,hj];exact⟨⟨hn,hm⟩,hK⟩
theorem OS {ag:Bool} {sz:Nat} {cs:List C} (ha:ag=true) (h:cs.length=sz):dZ ag sz 0 cs KV=KV (.agg cs):=by subst ha;subst h;simp[dZ]
theorem rK {T:TypeId} {i:TI} {s:S} {cs:List C} (hT:ti P T=some i) (ha:i.agg=true) (h:cs.length=i.size):dJ P T s (.c (.rp cs 0)) KV=KV (.agg cs):=by simp only[dJ,hT];exact OS ha h
theorem tC {T:TypeId} {i:TI} {f k off sz:Nat} {ag:Bool} {cs:List C} (hT:ti P T=some i) (hf:i.flds[f]?=some (off,sz,ag)) (hs:sz≠0):bj P T (.c (.rp cs k)) f KV=KV (.c (.rp cs (k+off))):=by simp only[bj,hT,hf];simp[hs]
theorem eW {T:TypeId} {i:TI} {f k off sz b:Nat} {ag:Bool} (hT:ti P T=some i) (hf:i.flds[f]?=some (off,sz,ag)) (hs:sz≠0):bj P T (.bp b k) f KV=KV (.bp b (k+off)):=by simp only[bj,hT,hf];simp[hs]
theorem Am {T:TypeId} {i:TI} {s:S} {cs:List C} {o:Nat} (hT:ti P T=some i) (ha:i.agg=false) (hs:i.size=1):dJ P T s (.c (.rp cs o)) KV=dZ false 1 o cs KV:=by simp only[dJ,hT,ha,hs]
theorem XJ {sz:Nat} {c:C} {cs:List C}:dZ false sz 0 (c::cs) KV=KV (.c c):=rfl
def ldA (nb b:Nat) (l:List V) (o n:Nat) (K:V->Prop):Prop:=b<nb/\((((l.drop o).take n).length=n/\((l.drop o).take n).all V.isPO=true)/\K (zQ (((l.drop o).take n).map V.fz)))
def SI (a:C):V->V
 | .agg cs=>.agg (a::cs)
 | .mag vs=>.mag (.c a::vs)
 |x=>x
theorem SJ:zQ []=.agg []:=rfl
theorem SK {a:C} {r:List V}:zQ (.c a::r)=SI a (zQ r):=by unfold zQ;simp only[fR];cases h:r.mapM V.asC<;>simp[V.asC,SI]
theorem OT {a:C} {cs:List C}:SI a (.agg cs)=.agg (a::cs):=rfl
theorem SL {b o n:Nat} {v:V} {l:List V}:ldA nb b (v::l) o n KV=(b<nb/\(((((v::l).drop o).take n).length=n/\(((v::l).drop o).take n).all V.isPO=true)/\KV (zQ ((((v::l).drop o).take n).map V.fz)))):=rfl
theorem XK {i o:Nat}:(V.bp i o).isPR=true:=rfl
theorem ab2 {x:C}:(V.c x).isPO=true:=rfl
theorem XL {E:Option (TypeId×Nat)} {es:List (List C)}:(V.ow E es).isPO=true:=rfl
def ldB (nb b:Nat) (l:List V) (o:Nat) (K:V->Prop):Prop:=b<nb/\match l[o]? with
 |some v=>K v.ldv
 |none=>False
theorem mT {T:TypeId} {i:TI} {b o n:Nat} (hT:ti P T=some i) (ha:i.agg=true) (hs:i.size=n):dJ P T ⟨fr,bx,nb⟩ (.bp b o) KV=(dE (bx b)=false/\ldA nb b (bx b) o n KV):=by subst hs;simp only[dJ,hT,ha,bY,ldA];exact propext ⟨λ⟨⟨a,b⟩,c⟩=>⟨b,a,c⟩,λ⟨b,a,c⟩=>⟨⟨a,b⟩,c⟩⟩
theorem nC {T:TypeId} {i:TI} {b o:Nat} (hT:ti P T=some i) (ha:i.agg=false):dJ P T ⟨fr,bx,nb⟩ (.bp b o) KV=(dE (bx b)=false/\ldB nb b (bx b) o KV):=by simp only[dJ,hT,ha,ldB];exact propext ⟨λ⟨⟨a,b⟩,c⟩=>⟨b,a,c⟩,λ⟨b,a,c⟩=>⟨⟨a,b⟩,c⟩⟩
theorem afz {b:Nat} {v:V} {l:List V}:ldB nb b (v::l) 0 KV=(b<nb/\KV v.ldv):=rfl
theorem afA {b o:Nat} {v:V} {l:List V}:ldB nb b (v::l) (o+1) KV=ldB nb b l o KV:=by simp[ldB]
theorem XM {b o:Nat} {cs:List C}:ldB nb b (cs.map V.c) o KV=(b<nb/\dZ false 1 o cs KV):=by simp only[ldB,dZ,bw,ay,cD];cases cs[o]?<;>rfl
theorem OU {i:TI} {ks:List EK} {xs ys:List C} {r:Bool} (he:i.eqs=some ks) (ha:i.agg=true) (h:jF ks xs ys=some r) (h1:xs.length=ks.length) (h2:ys.length=ks.length):HV (some i) .eql xs ys KV=KV (.c (.lit (.bool r))):=by obtain⟨kd,a,b,c,d,f,g⟩:=i;simp only at he ha;subst he;subst ha;simp[HV,h,h1,h2]
theorem OV {i:TI} {ks:List EK} {xs ys:List C} {r:Bool} (he:i.eqs=some ks) (ha:i.agg=true) (h:jF ks xs ys=some r) (h1:xs.length=ks.length) (h2:ys.length=ks.length):HV (some i) .neq xs ys KV=KV (.c (.lit (.bool (!r)))):=by obtain⟨kd,a,b,c,d,f,g⟩:=i;simp only at he ha;subst he;subst ha;simp[HV,h,h1,h2]
theorem H2 {T:TypeId} {i:TI} {ks:List EK} {xs ys:List C} {r:Bool} (hT:ti P T=some i) (he:i.eqs=some ks) (ha:i.agg=true) (h:jF ks xs ys=some r) (h1:xs.length=ks.length) (h2:ys.length=ks.length) :
 nh P .eql T (.agg xs) (.agg ys) KV=KV (.c (.lit (.bool r))):=by rw[HW,hT];exact OU he ha h h1 h2
theorem SN {T:TypeId} {i:TI} {ks:List EK} {xs ys:List C} {r:Bool} (hT:ti P T=some i) (he:i.eqs=some ks) (ha:i.agg=true) (h:jF ks xs ys=some r) (h1:xs.length=ks.length) (h2:ys.length=ks.length) :
 nh P .neq T (.agg xs) (.agg ys) KV=KV (.c (.lit (.bool (!r)))):=by rw[HW,hT];exact OV he ha h h1 h2
theorem OW {T:TypeId} {i:TI} {a b:Bool} (hT:ti P T=some i) (hk:i.kd=.bool):nh P .neq T (.c (.lit (.bool a))) (.c (.lit (.bool b))) KV=KV (.c (.lit (.bool (!(a==b))))):=by obtain⟨kd,a,b,c,d,f,g⟩:=i;simp only at hk;subst hk;rw[OR,hT];rfl
theorem SO {a b:ByteArray}:AA .eql a b KV=KV (.c (.lit (.bool (decide (a=b))))):=rfl
theorem KH {T:TypeId} {i:TI} {k:IntKind} {n:Int} {st:ByteArray} {b:UInt8} (hT:ti P T=some i) (hk:i.kd=.str) (hn:0<=n) (hb:st.data[n.toNat]?=some b) :
 nu P T (.c (.lit (.string st))) (.c (.lit (.int k n))) KV=KV (.c (.lit (.int .u8 b.toNat))):=by
 obtain⟨kd,a,b,c,d,f,g⟩:=i;simp only at hk;subst hk;simp only[nu,hT,hn,hb,bX]
theorem Bl:∀ cs:List C,zQ (cs.map V.c)=.agg cs
 |[]=>rfl
 |c::cs=>by rw[aN,SK,Bl cs];rfl
theorem XN {b n:Nat} {cs:List C} (h:cs.length=n):ldA nb b (cs.map V.c) 0 n KV=(b<nb/\KV (.agg cs)):=by
 have h1:(cs.map V.c).take n=cs.map V.c:=ey (by simp[h]);have h2:(cs.map V.c).map V.fz=cs.map V.c:=by simp[jE,Function.comp_def,V.fz]
 have h3:(cs.map V.c).all V.isPO=true:=by simp[List.all_map,Function.comp_def,V.isPO]
 simp only[ldA,eZ,h1,h2,h3,Bl,aj,h,bX]
theorem ab3 {t:Option Tmp} {d:Nat} {x:C} (h:∀ u,t=some u->(fr u).isOw=false):boxK t d (.c x) ⟨fr,bx,nb⟩ K=K ⟨up fr d (.bp nb 0),up bx nb [.c x],nb+1⟩:=by
 cases t with
 |none=>rfl
 |some u=>simp[boxK,V.bcells,mR,h u rfl,S.put]
theorem afB {t:Tmp} {d:Nat} {x:C} (h:fr t=.c x):boxK (some t) d (.c x) ⟨fr,bx,nb⟩ K=K ⟨up fr d (.bp nb 0),up bx nb [.c x],nb+1⟩:=ab3 (λu hu=>by cases hu;rw[h];rfl)
theorem XO {t:Tmp} {d:Nat} {cs:List C} (h:fr t=.agg cs):boxK (some t) d (.agg cs) ⟨fr,bx,nb⟩ K=K ⟨up fr d (.bp nb 0),up bx nb (cs.map .c),nb+1⟩:=by simp[boxK,V.bcells,mR,h,S.put,V.isOw]
def stS (n:Nat) (t:Option Tmp) (dO:Option Tmp) (b o:Nat) (v:V) (s:S) (K:S->Prop):Prop:=match v.bcells with
 |some cs=>(b<s.nb/\cs.length=n/\o+n<=(s.bx b).length)/\K ((let s':=s.use t;{ s' with bx:=up s'.bx b (fW (s'.bx b) o cs) }:S).put dO .sk)
 |none=>False
theorem kN {i:TI} {n:Nat} {t dO:Option Tmp} {b o:Nat} {v:V} {s:S} (h:i.size=n):oV (some i) t dO (.bp b o) v s K=(dE (s.bx b)=false/\stS n t dO b o v s K):=by
 subst h;cases hv:v.bcells<;>simp only[oV,stS,hv]
 .simp
 .exact propext ⟨λ⟨⟨a,b,c,d⟩,e⟩=>⟨d,⟨a,b,c⟩,e⟩,λ⟨d,⟨a,b,c⟩,e⟩=>⟨⟨a,b,c,d⟩,e⟩⟩
theorem OX {v:V} {l:List V}:dE (v::l)=v.isMk:=rfl
theorem H3:∀ {l:List C},dE (l.map V.c)=false
 |[]=>rfl
 |_::_=>rfl
theorem ab4 {x:C}:(V.c x).isMk=false:=rfl
theorem XQ {E:Option (TypeId×Nat)} {es:List (List C)}:(V.ow E es).isMk=false:=rfl
theorem XR {i o l c z:Nat}:(V.ms i o l c z).isMk=false:=rfl
theorem XT {i:Nat}:(V.mr i).isMk=false:=rfl
theorem SQ {dO:Option Tmp} {b o:Nat} {x:C}:stS 1 none dO b o (.c x) ⟨fr,bx,nb⟩ K=((b<nb/\o+1<=(bx b).length)/\K ((⟨fr,up bx b (fW (bx b) o [.c x]),nb⟩:S).put dO .sk)):=by simp[stS,V.bcells,Sg]
theorem afC {t:Tmp} {dO:Option Tmp} {b o:Nat} {x:C} (h:fr t=.c x):stS 1 (some t) dO b o (.c x) ⟨fr,bx,nb⟩ K=((b<nb/\o+1<=(bx b).length)/\K ((⟨fr,up bx b (fW (bx b) o [.c x]),nb⟩:S).put dO .sk)):=by simp[stS,V.bcells,mR,h,V.isOw]
theorem ab5 {t:Tmp} {dO:Option Tmp} {b o:Nat} {E:Option (TypeId×Nat)} {es:List (List C)} (h:fr t=.ow E es):stS 1 (some t) dO b o (.ow E es) ⟨fr,bx,nb⟩ K=
 ((b<nb/\o+1<=(bx b).length)/\K ((⟨up fr t .un,up bx b (fW (bx b) o [.ow E es]),nb⟩:S).put dO .sk)):=by
 simp[stS,V.bcells,mR,h,V.isOw]
theorem XU {n:Nat} {t:Tmp} {dO:Option Tmp} {b o:Nat} {cs:List C} (h:fr t=.agg cs):stS n (some t) dO b o (.agg cs) ⟨fr,bx,nb⟩ K=
 ((b<nb/\cs.length=n/\o+n<=(bx b).length)/\K ((⟨fr,up bx b (fW (bx b) o (cs.map .c)),nb⟩:S).put dO .sk)):=by
 simp[stS,V.bcells,mR,h,V.isOw]
theorem XV {n:Nat} {t:Tmp} {dO:Option Tmp} {b o:Nat} {vs:List V} (h:fr t=.mag vs):stS n (some t) dO b o (.mag vs) ⟨fr,bx,nb⟩ K=
 ((b<nb/\vs.length=n/\o+n<=(bx b).length)/\K ((⟨fr,up bx b (fW (bx b) o vs),nb⟩:S).put dO .sk)):=by
 simp[stS,V.bcells,mR,h,V.isOw]
theorem ab6 {v x:V} {r:List V}:fW (v::r) 0 [x]=x::r:=by simp[fW]
def mU {α:Type} (p:α->Bool) (l:List α):Int:=match l.findIdx? p with
 |some i=>i
 |none=>-1
theorem oa {α:Type} {p:α->Bool} {l:List α} {i:Nat} (hi:i<l.length) (hy:p l[i]=true) (eX:∀ j (h:j<l.length),j<i->p l[j]=false):mU p l=i:=by
 have:l.findIdx? p=some i:=by rw[b9];exact⟨hi,hy,λj hj=>by simp[eX j (by omega) hj]⟩
 simp[mU,this]
theorem k6 {α:Type} {p:α->Bool} {l:List α} (eX:∀ j (h:j<l.length),j<l.length->p l[j]=false):mU p l=-1:=by
 have:l.findIdx? p=none:=by rw[dT];intro x hx;obtain⟨j,hj,rfl⟩:=iq.1 hx;exact eX j hj hj
 simp[mU,this]
theorem kq {α:Type} {p:α->Bool} {l:List α}:decide (0<=mU p l)=l.any p:=by
 unfold mU;cases h:l.findIdx? p with
 |some i=>obtain⟨hi,hy,_⟩:=b9.1 h;have:l.any p=true:=dN.2 ⟨_,aH hi,hy⟩;simp[this]
 |none=>
  have h2:=dT.1 h;have:l.any p=false:=List.any_eq_false.2 λx hx=>by simp[h2 x hx]
  simp[this]
theorem wrap_i64 (n:Int) (h:-9223372036854775808<=n/\n<=9223372036854775807):IntKind.i64.wrap n=n:=by rw[IntKind.wrap_i64];omega
def fD (s:S) (as:Option (List V)) (bxy:Bool) (g:FuncId) (P:Program) (G:Gl) (fs cs:List C) (K:V->Prop):Prop:=match as with
 |some as=>∃ r,FnOK P G g (fs.map .c++as++cs.map .c) r/\(bxy=true->r.isFlat=true)/\K r
 |none=>False
theorem ax {s:S} {g:FuncId} {fs cs:List C} {args as:List V} {r:V} (hm:args.mapM (imm s)=some as) (h:FnOK P G g (fs.map .c++as++cs.map .c) r) (hb:args.any V.boxy=true->r.isFlat=true) (hK:KV r) :
 qO P G s (.c (.fn (.func g) fs cs)) args KV:=by
 simp only[qO,hm];exact⟨r,h,hb,hK⟩
end
section
variable {P:Program} {G:Gl} {tr:List Nat} {n:Nat} {I0:Ft} {M:Mx} {w0:World} {I:Ft} {β:Nat->Option Nat} {ob:Loc->Option Nat} {s:S} {a:Act} {w:World}
def obB (ob:Nat->Nat->Option Nat):Loc->Option Nat
 | .t _=>none
 | .b i j=>ob i j
theorem St.initB {ob:Nat->Nat->Option Nat} {vs:Array Value} {args:List V} {b0:List (List V)} {m:Nat} (hI:∀ b o,I b o->b<w.heap.size) (hg:GOK G I w) (hB:BxR (Wr M w) I w β ob b0) (ej:vs.size=args.length)
 (ha:∀ j x,args[j]?=some x->LR (Wr M w) I β w none (vs.getD j undef) x) (hm:m=(vs++Array.replicate (n - vs.size) undef).size) :
 St G m I ⟨M.m,β,[]⟩ w I β (obB ob) ⟨λj=>args.getD j .un,bxs b0,b0.length⟩ { tmps:=vs++Array.replicate (n - vs.size) undef,defers:=[] } w where
 size:=hm.symm
 defers:=rfl
 below:=BelowM.refl _ _
 kept:=λ_ _ _=>rfl
 ilow:=λ_ _ h=>h
 ihigh:=λ_ _ h=>.inl h
 ibnd:=hI
 fr:=λt=>by
  simp only[obB];by_cases ht:t<args.length
  .have e1:args.getD t .un=args[t]:=by simp[List.getD,ht]
   have e2:(vs++Array.replicate (n - vs.size) undef).getD t undef=vs.getD t undef:=(by rw[au,ee (by omega),<- au]);rw[e1,e2];exact ha t _ (ak ht)
  .have e1:args.getD t .un=.un:=by simp[List.getD,cE (dY ht)]
   rw[e1];simp only[LR];exact .un _
 bx:=λi hi=>by
  simp only at hi;obtain⟨blk,cur,e1,e2,e3,e4,e5,e7⟩:=hB.bx i _ (ak hi);have e:bxs b0 i=b0[i]:=by simp[bxs,List.getD,hi]
  refine⟨blk,cur,e1,e2,by simp only[e];exact e3,by simp only[e];exact e4,λj=>?_,e7⟩;simp only[e];exact e5 j
 bnone:=λi hi=>hB.bnone i hi
 ext:=λ_ _ h=>h
 bnew:=λ_ _ h=>.inl h
 binj:=hB.binj
 oinj:=λL L' b h h'=>by
  cases L<;>simp only[obB] at h<;>try cases h
  cases L'<;>simp only[obB] at h'<;>try cases h'
  obtain⟨e1,e2⟩:=hB.oinj _ _ _ _ b h h';rw[e1,e2]
 obx:=λL b i h=>by
  cases L<;>simp only[obB] at h<;>try cases h
  exact hB.obx _ _ b i h
 obnd:=λL b h=>by
  cases L<;>simp only[obB] at h<;>try cases h
  exact hB.obnd _ _ b h
 glob:=hg
def vJ (P:Program) (k:Nat) (r:V) (b1:List (List V)) (rs:List ResultVar) (e:VE) (s:S):Prop:=
 (match e with | .exit _=>False | _=>True)/\∃ l,S.Le k (hdS l b1) s/\qC P false (hdS l b1) r rs
theorem MF {f:FuncId} {fn:Func} {c:Code} {args:List V} {b0 b1:List (List V)} {r:V} (tr:List Nat) (hm:P.follows .mixedOrders=true) (hf:P.funcs[f]?=some fn) (hb:fn.body=some c)
 (gZ:(fn.name== "runtime.NumGoroutine")=false) (hn:args.length<=fn.ntmps) (pS:cok fn.ntmps tr c=true) (iV:r.compT=true)
 (JR:(∀ x∈args,x.lt b0.length)/\(∀ b∈b0,∀ x∈b,x.lt b0.length)/\b0.length<=b1.length)
 (h:gJ P G tr b0.length c (vJ P b0.length r b1 fn.results.toList) ⟨λj=>args.getD j .un,bxs b0,b0.length⟩):FnB P G f args b0 r b1:=by
 refine⟨⟨fn,hf,gZ,c,hb⟩,JR,λI M w vs β ob hI hg hB ej ha=>?_⟩;have iU:fn.ntmps=(vs++Array.replicate (fn.ntmps - vs.size) undef).size:=by simp;omega
 have hst:=St.initB (n:=fn.ntmps) hI hg hB ej ha iU;have pT:∀ i b,β i=some b->i<b0.length:=λi b hi=>by
  by_cases h:i<b0.length
  .exact h
  .rw[hB.bnone i (by omega)] at hi;cases hi
 refine po.1 (callsIn_of_wp_marks (F:=FW none) (n:=0) hf hb trivial (lE (l:=none) hm (λi b hi=>pT i b hi) (.inl rfl) c pS _ _ (λe s a w' hq cM=>?_) _ _ _ h (.of ⟨_,_,_,hst⟩)));obtain⟨QI,l,fO,db⟩:=hq;have cM:SX G fn.ntmps tr I ⟨M.m,β,[]⟩ w (hdS l b1) a w':=by obtain⟨I1,M1,w1,rs,sV,nf,cM⟩:=cM;exact⟨I1,M1,w1,rs,sV,nf,cM.weaken (by rw[sV.e];exact λi b hi=>pT i b hi) fO⟩
 have main:LeavesInM (FW none) 0 P fn a.tmps (λe w'=>∃ v' I' β' ob' o',e=.returned v'/\BelowM (GT G) M w w'/\(∀ b o,I b o->I' b o)/\(∀ b o,I' b o->I b o∨(Wr M w b/\b<w'.heap.size))/\
  (∀ b o,I b o->w'.cell? ⟨b,o,none⟩=w.cell? ⟨b,o,none⟩)/\(∀ i,i<b0.length->β' i=β i)/\(∀ i b,b0.length<=i->β' i=some b->Wr M w b)/\BxR (Wr M w) I' w' β' ob' b1/\
  LR (Wr M w) I' β' w' o' v' r/\(∀ b,o'=some b->(b<w'.heap.size/\Wr M w b)/\(∀ i j,ob' i j≠some b)/\∀ i,β' i≠some b)) a.defers .returning w':=by
  refine cM.leaves rfl λw' I' β' ob' bP=>?_;obtain⟨v,o',h1,h2,h3⟩:=px (P:=P) (fn:=fn) bP iV (Ic:=I') (λ_=>rfl) (λ_ _ h=>h) (λhz=>by cases hz) db;have qL:∀ i,i<b0.length->β' i=β i:=λi hi=>by obtain⟨blk,_,e1,_⟩:=hB.bx i _ (ak hi);rw[e1];exact bP.ext i blk e1
  refine⟨v,h1,v,I',β',λi j=>if i<b1.length then ob' (.b i j) else none,o',rfl,⟨bP.below.os,bP.below.tape,bP.below.output,bP.below.size,bP.below.block,bP.below.drawn⟩,bP.ilow,λb o xW=>?_,bP.kept,qL,λi b hi hb=>?_,?_,h2,λb hb=>?_⟩
  .rcases bP.ihigh b o xW with h4 | h4
   .exact .inl h4
   .exact .inr ⟨h4,bP.ibnd b o xW⟩
  .rcases bP.bnew i b hb with h4 | h4
   .have:=pT i b h4;omega
   .exact h4
  .exact {
    bx:=λi cs ju=>by have hi:i<b1.length:=(am.1 ju).1;obtain⟨blk,cur,e1,e2,e3,e4,e5,e7⟩:=bP.bx i hi;have e:bxs b1 i=cs:=(by simp[bxs,List.getD,ju]);refine⟨blk,cur,e1,e2,by simp only[hdS,e] at e3;exact e3,by simp only[hdS,e] at e4;exact e4,λj=>?_,e7⟩;have:=e5 j;simp only[hdS,e] at this;rw[if_pos hi];exact this
    bnone:=λi hi=>bP.bnone i hi
    binj:=bP.binj
    oinj:=λi j i' j' b h h'=>by
     split at h<;>try cases h
     split at h'<;>try cases h'
     have:=bP.oinj _ _ b h h';simp only[Loc.b.injEq] at this;exact this
    obx:=λi j b k h=>by
     split at h<;>try cases h
     exact bP.obx _ b k h
    obnd:=λi j b h=>by
     split at h<;>try cases h
     exact bP.obnd _ b h
    olen:=λi j hi=>by rw[if_neg (by omega)] }
  .obtain⟨t,ht⟩:=h3 b hb
   refine⟨bP.obnd _ b ht,λi j h=>?_,λi=>bP.obx _ b i ht⟩;simp only at h;split at h<;>try cases h
   have:=bP.oinj _ _ b ht h;cases this
 cases e with
 |normal=>exact main
 |exit i=>exact QI.elim
 |ret=>exact main
theorem XW {f:FuncId} {fn:Func} {c:Code} {args:List V} {b0:List (List V)} {R:V->List (List V)->Prop} (tr:List Nat) (hm:P.follows .mixedOrders=true) (hf:P.funcs[f]?=some fn) (hb:fn.body=some c)
 (gZ:(fn.name== "runtime.NumGoroutine")=false) (hn:args.length<=fn.ntmps) (pS:cok fn.ntmps tr c=true) (iV:∀ r b1,R r b1->r.compT=true)
 (JR:(∀ x∈args,x.lt b0.length)/\(∀ b∈b0,∀ x∈b,x.lt b0.length)/\∀ r b1,R r b1->b0.length<=b1.length)
 (h:gJ P G tr b0.length c (λe s=>∃ r b1,R r b1/\vJ P b0.length r b1 fn.results.toList e s) ⟨λj=>args.getD j .un,bxs b0,b0.length⟩):FnE P G f args b0 R:=by
 refine⟨⟨fn,hf,gZ,c,hb⟩,JR,λI M w vs β ob hI hg hB ej ha=>?_⟩;have iU:fn.ntmps=(vs++Array.replicate (fn.ntmps - vs.size) undef).size:=by simp;omega
 have hst:=St.initB (n:=fn.ntmps) hI hg hB ej ha iU;have pT:∀ i b,β i=some b->i<b0.length:=λi b hi=>by
  by_cases h:i<b0.length
  .exact h
  .rw[hB.bnone i (by omega)] at hi;cases hi
 refine po.1 (callsIn_of_wp_marks (F:=FW none) (n:=0) hf hb trivial (lE (l:=none) hm (λi b hi=>pT i b hi) (.inl rfl) c pS _ _ (λe s a w' hq cM=>?_) _ _ _ h (.of ⟨_,_,_,hst⟩)));obtain⟨r,b1,hR,QI,l,fO,db⟩:=hq;have cM:SX G fn.ntmps tr I ⟨M.m,β,[]⟩ w (hdS l b1) a w':=by obtain⟨I1,M1,w1,rs,sV,nf,cM⟩:=cM;exact⟨I1,M1,w1,rs,sV,nf,cM.weaken (by rw[sV.e];exact λi b hi=>pT i b hi) fO⟩
 have main:LeavesInM (FW none) 0 P fn a.tmps (λe w'=>∃ r b1,R r b1/\∃ v' I' β' ob' o',e=.returned v'/\BelowM (GT G) M w w'/\(∀ b o,I b o->I' b o)/\(∀ b o,I' b o->I b o∨(Wr M w b/\b<w'.heap.size))/\
  (∀ b o,I b o->w'.cell? ⟨b,o,none⟩=w.cell? ⟨b,o,none⟩)/\(∀ i,i<b0.length->β' i=β i)/\(∀ i b,b0.length<=i->β' i=some b->Wr M w b)/\BxR (Wr M w) I' w' β' ob' b1/\
  LR (Wr M w) I' β' w' o' v' r/\(∀ b,o'=some b->(b<w'.heap.size/\Wr M w b)/\(∀ i j,ob' i j≠some b)/\∀ i,β' i≠some b)) a.defers .returning w':=by
  refine cM.leaves rfl λw' I' β' ob' bP=>?_;obtain⟨v,o',h1,h2,h3⟩:=px (P:=P) (fn:=fn) bP (iV r b1 hR) (Ic:=I') (λ_=>rfl) (λ_ _ h=>h) (λhz=>by cases hz) db;have qL:∀ i,i<b0.length->β' i=β i:=λi hi=>by obtain⟨blk,_,e1,_⟩:=hB.bx i _ (ak hi);rw[e1];exact bP.ext i blk e1
  refine⟨v,h1,r,b1,hR,v,I',β',λi j=>if i<b1.length then ob' (.b i j) else none,o',rfl,⟨bP.below.os,bP.below.tape,bP.below.output,bP.below.size,bP.below.block,bP.below.drawn⟩,bP.ilow,λb o xW=>?_,bP.kept,qL,λi b hi hb=>?_,?_,h2,λb hb=>?_⟩
  .rcases bP.ihigh b o xW with h4 | h4
   .exact .inl h4
   .exact .inr ⟨h4,bP.ibnd b o xW⟩
  .rcases bP.bnew i b hb with h4 | h4
   .have:=pT i b h4;omega
   .exact h4
  .exact {
    bx:=λi cs ju=>by have hi:i<b1.length:=(am.1 ju).1;obtain⟨blk,cur,e1,e2,e3,e4,e5,e7⟩:=bP.bx i hi;have e:bxs b1 i=cs:=(by simp[bxs,List.getD,ju]);refine⟨blk,cur,e1,e2,by simp only[hdS,e] at e3;exact e3,by simp only[hdS,e] at e4;exact e4,λj=>?_,e7⟩;have:=e5 j;simp only[hdS,e] at this;rw[if_pos hi];exact this
    bnone:=λi hi=>bP.bnone i hi
    binj:=bP.binj
    oinj:=λi j i' j' b h h'=>by
     split at h<;>try cases h
     split at h'<;>try cases h'
     have:=bP.oinj _ _ b h h';simp only[Loc.b.injEq] at this;exact this
    obx:=λi j b k h=>by
     split at h<;>try cases h
     exact bP.obx _ b k h
    obnd:=λi j b h=>by
     split at h<;>try cases h
     exact bP.obnd _ b h
    olen:=λi j hi=>by rw[if_neg (by omega)] }
  .obtain⟨t,ht⟩:=h3 b hb
   refine⟨bP.obnd _ b ht,λi j h=>?_,λi=>bP.obx _ b i ht⟩;simp only at h;split at h<;>try cases h
   have:=bP.oinj _ _ b ht h;cases this
 cases e with
 |normal=>exact main
 |exit i=>exact QI.elim
 |ret=>exact main
end
theorem Fo:∀ (bl:List (List V)) (k:Nat) (f:Nat->List V),(∀ i b,bl[i]?=some b->f (k+i)=b)->BL k bl f
 |[],_,_,_=>trivial
 |b::r,k,f,h=>⟨by simpa using h 0 b rfl,Fo r (k+1) f λi c hc=>by have:=h (i+1) c (by simpa using hc);rw[dw,lG 1 i];exact this⟩
theorem An (x:V):x.renP (λi=>i)=x:=by cases x<;>rfl
theorem Fp (x:V):x.ren (λi=>i)=x:=by
 cases x<;>simp only[V.ren]
 .rw[cF (g:=id) (λx _=>An x),cF (g:=id) (λx _=>An x)];simp
 .rw[cF (g:=id) (λx _=>An x)];simp
 .rw[cF (g:=id) (λp _=>by rw[An];rfl)];simp
theorem pz (l:List V):l.map (V.ren λi=>i)=l:=by rw[cF (g:=id) (λx _=>Fp x)];simp
theorem iS {α:Type} {f:α->α}:∀ {l:List α},(∀ x∈l,f x=x)->l.map f=l
 |[],_=>rfl
 |x::l,h=>by rw[aN,h x (aX ..),iS λy hy=>h y (aT _ hy)]
theorem wN {ρ:Nat->Nat} {x:V} (h:x.ltP 0):x.renP ρ=x:=by cases x<;>simp_all[V.renP,V.ltP]
theorem XX {ρ:Nat->Nat} {x:V} (h:x.lt 0):x.ren ρ=x:=by
 cases x<;>simp only[V.ren]<;>simp only[V.lt] at h<;>try omega
 .rw[iS λx hx=>wN (h.1 x hx),iS λx hx=>wN (h.2 x hx)]
 .rw[iS λx hx=>wN (h x hx)]
 .rw[iS λp hp=>by rw[wN (h p hp)]]
theorem yu (nb:Nat):rho (List.range nb) nb=λi=>i:=by
 funext i;unfold rho;rw[jC];split
 .rename_i h;simp[List.getD,h]
 .omega
theorem XY (nb:Nat):rho [] nb=λi=>nb+i:=by funext i;simp[rho]
theorem qT:∀ (b1:List (List V)) (k:Nat) (f:Nat->List V),fC (λi=>i) k b1 f=λi=>if k<=i/\i<k+b1.length then b1.getD (i - k) [] else f i
 |[],k,f=>by funext i;simp only[fC,aL];rw[if_neg (by omega)]
 |b::r,k,f=>by
  funext i;simp only[fC,qT r,pz,aI,up];by_cases h1:k+1<=i/\i<k+1+r.length
  .rw[if_pos h1,if_pos (by omega)]
   have:i - k=(i - (k+1))+1:=(by omega);rw[this];rfl
  .rw[if_neg h1]
   by_cases h2:i=k
   .subst h2;rw[if_pos rfl,if_pos (by omega)];simp
   .rw[if_neg h2,if_neg (by omega)]
theorem uB:∀ (b0:List (List V)) (k nb:Nat) (f:Nat->List V),(∀ i b,b0[i]?=some b->k+i<nb/\f (k+i)=b)->pV f nb (λi=>i) k b0
 |[],_,_,_,_=>trivial
 |b::r,k,nb,f,h=>by
  refine⟨?_,uB r (k+1) nb f λi c hc=>?_⟩
  .have:=h 0 b rfl
   rw[pz];exact this
  .have:=h (i+1) c (by simpa using hc)
   rw[dw,lG 1 i];exact this
def Dk:VE->Bool
 | .exit _=>false
 |_=>true
theorem H4:∀ e:VE,Dk e=true->(match e with | .exit _=>False | _=>True)
 | .exit _,h=>by cases h
 | .normal,_=>trivial
 | .ret,_=>trivial
def eM (args:List V) (b0:List (List V)):Bool:=args.all (λv=>v.ltB b0.length)&&b0.all λb=>b.all λv=>v.ltB b0.length
section
variable {P:Program} {G:Gl} {tr:List Nat} {fr:Nat->V} {bx:Nat->List V} {nb:Nat} {K:S->Prop} {KV:V->Prop} {dO:Option Tmp} {T ty:TypeId} {pos:String} {af:Array Edge} {g:Option (Nat×Bool)}
def ab7 (dO:Option Tmp) (K:S->Prop) (s:S):Prop:=K (s.put dO .sk)
theorem XZ:ab7 dO K ⟨fr,bx,nb⟩=K ((⟨fr,bx,nb⟩:S).put dO .sk):=rfl
def SR (t:Tmp) (dO:Option Tmp) (s:S) (K:S->Prop) (it:Option V) (v:V):Prop:=K ((match it with | some x=>{ s with fr:=up s.fr t x } | none=>s:S).put dO v)
theorem KI {t:Tmp} {x v:V}:SR t dO ⟨fr,bx,nb⟩ K (some x) v=K ((⟨up fr t x,bx,nb⟩:S).put dO v):=rfl
theorem KJ {t:Tmp} {v:V}:SR t dO ⟨fr,bx,nb⟩ K none v=K ((⟨fr,bx,nb⟩:S).put dO v):=rfl
theorem Bm {i:TI} {kt et:TypeId} (hT:ti P T=some i) (hk:i.kd=.map kt et):VStep P G tr ⟨dO,.makeMap T none,ty,pos,af,g⟩ ⟨fr,bx,nb⟩ K=K ((⟨fr,up bx nb [.mk [] 0],nb+1⟩:S).put dO (.mr nb)):=by obtain⟨kd,a,b,c,d,f,e⟩:=i;simp only at hk;subst hk;simp only[VStep,hT]
theorem Fq {m k x:Operand}:VStep P G tr ⟨dO,.mapUpdate T m k x,ty,pos,af,g⟩ ⟨fr,bx,nb⟩ K=iC P T ⟨fr,bx,nb⟩ (ev G ⟨fr,bx,nb⟩ m) (ev G ⟨fr,bx,nb⟩ k) (ev G ⟨fr,bx,nb⟩ x) (ab7 dO K):=rfl
theorem OY {m k x:Operand}:VStep P G tr ⟨dO,.insert T m k x,ty,pos,af,g⟩ ⟨fr,bx,nb⟩ K=iC P T ⟨fr,bx,nb⟩ (ev G ⟨fr,bx,nb⟩ m) (ev G ⟨fr,bx,nb⟩ k) (ev G ⟨fr,bx,nb⟩ x) (ab7 dO K):=rfl
theorem X0 {t:Tmp}:VStep P G tr ⟨dO,.next (.tmp t) false,ty,pos,af,g⟩ ⟨fr,bx,nb⟩ K=AB ⟨fr,bx,nb⟩ (fr t) (SR t dO ⟨fr,bx,nb⟩ K):=rfl
theorem OZ {m k:Operand} {ok:Bool}:VStep P G tr ⟨dO,.lookup T m k ok,ty,pos,af,g⟩ ⟨fr,bx,nb⟩ K=fV P T ⟨fr,bx,nb⟩ (ev G ⟨fr,bx,nb⟩ m) (ev G ⟨fr,bx,nb⟩ k) ok (nB dO ⟨fr,bx,nb⟩ K):=rfl
theorem SS {x:Operand}:VStep P G tr ⟨dO,.range T x,ty,pos,af,g⟩ ⟨fr,bx,nb⟩ K=ot P T ⟨fr,bx,nb⟩ (ev G ⟨fr,bx,nb⟩ x) (nB dO ⟨fr,bx,nb⟩ K):=rfl
theorem SU {x:Operand}:VStep P G tr ⟨dO,.entry x,ty,pos,af,g⟩ ⟨fr,bx,nb⟩ K=nv ⟨fr,bx,nb⟩ (ev G ⟨fr,bx,nb⟩ x) (nB dO ⟨fr,bx,nb⟩ K):=rfl
theorem afD {i:Nat}:(V.mr i).fz=.mr i:=rfl
theorem afE {i:Nat}:(V.yl i).fz=.yl i:=rfl
theorem X1 {i:Nat}:(V.mr i).isOw=false:=rfl
def qD {α β:Type} (f:α->V) (h:β->V):List (α×β)->List V
 |[]=>[]
 |(a,b)::l=>f a::h b::qD f h l
theorem zj {α β:Type} {f:α->V} {h:β->V}:∀ l m:List (α×β),qD f h (l++m)=qD f h l++qD f h m
 |[],_=>rfl
 |(a,b)::l,m=>by simp[qD,zj l m]
theorem zk {α β:Type} {ag:Bool} {f:α->V} {h:β->V} {c:α->List C} (hf:∀ a,(f a).kcs ag=some (c a)):∀ l:List (α×β),jG ag (qD f h l)=some (l.map λp=>c p.1)
 |[]=>rfl
 |(a,b)::l=>by simp[qD,jG,hf,zk hf l]
theorem tD {α β:Type} {f:α->V} {h:β->V}:∀ (l:List (α×β)) (j:Nat) (p:α×β),l[j]?=some p->(qD f h l).getD (2*j+1) .un=h p.2/\(qD f h l).getD (2*j) .un=f p.1
 |[],j,p,hp=>by simp at hp
 |(a,b)::l,0,p,hp=>by simp at hp;subst hp;exact⟨rfl,rfl⟩
 |(a,b)::l,j+1,p,hp=>by have:=tD (f:=f) (h:=h) l j p (by simpa using hp);rw[show 2*(j+1)=2*j+1+1 by omega];simpa only[qD,bg] using this
theorem H5 {α β:Type} {f:α->V} {h:β->V}:∀ (l:List (α×β)) (j:Nat) (a:α) (b b':β),l[j]?=some (a,b)->(qD f h l).set (2*j+1) (h b')=qD f h (l.set j (a,b'))
 |[],j,a,b,b',hp=>by simp at hp
 |(a,b)::l,0,a',b0,b',hp=>by simp at hp;simp[qD,hp.1]
 |(a,b)::l,j+1,a',b0,b',hp=>by have:=H5 (f:=f) (h:=h) l j a' b0 b' (by simpa using hp);rw[show 2*(j+1)+1=2*j+1+1+1 by omega];simp only[qD,List.set_cons_succ,this]
theorem Dl {α:Type} {ks:List EK} {c:α->List C} [DecidableEq α] (hl:∀ a,(c a).length=ks.length) (he:∀ a b,jF ks (c a) (c b)=some (decide (a=b))) (a:α):∀ (l:List α) (i:Nat),
 nk ks (c a) (l.map c) i=some ((l.findIdx? (λb=>decide (a=b))).map (i+·))
 |[],i=>rfl
 |b::l,i=>by
  simp only[aN,nk,hl,bY,he,List.findIdx?_cons];by_cases h:a=b
  .simp[h]
  .simp only[h,aO,ay,cD]
   rw[Dl hl he a l (i+1)];cases l.findIdx? (λb=>decide (a=b))<;>simp;omega
end
section
variable {P:Program} {G:Gl} {tr:List Nat} {fr:Nat->V} {bx:Nat->List V} {nb:Nat} {K:S->Prop} {KV:V->Prop} {Q:VE->S->Prop}
theorem yv (args:List V):frm 0 args=λj=>args.getD j .un:=by have:=HY args;simp only[zh,S.mk.injEq] at this;exact this.1.symm
theorem SV {b:List V} {r:List (List V)}:bxs (b::r) 0=b:=rfl
theorem SY {b:List V} {r:List (List V)} {n:Nat}:bxs (b::r) (n+1)=bxs r n:=rfl
theorem nD {f:FuncId} {fn:Func} {c:Code} {args:List V} {b0 b1:List (List V)} {r:V} (tr:List Nat) (hm:P.follows .mixedOrders=true) (hf:P.funcs[f]?=some fn) (hb:fn.body=some c) (gZ:(fn.name== "runtime.NumGoroutine")=false)
 {rs:List ResultVar} (Az:fn.results.toList=rs) {n:Nat} (hn:fn.ntmps=n) (pS:cok n tr c=true) (cH:args.length<=n) (iV:r.compT=true) {k:Nat} (hk:ou tr=k) (um:b0.length=k)
 (cP:eM args b0=true) (fO:b0.length<=b1.length)
 (h:gJ P G tr k c (vJ P k r b1 rs) ⟨frm 0 args,bxs b0,k⟩):FnB P G f args b0 r b1:=by
 subst hn;subst Az;subst um;simp only[eM,aA,a8] at cP;refine MF tr hm hf hb gZ cH pS iV ⟨λx hx=>V.ltB_ok (cP.1 x hx),λb hb x hx=>V.ltB_ok (cP.2 b hb x hx),fO⟩ ?_;rw[yv] at h;exact h
theorem eO {k:Nat} {r:V} {b1:List (List V)} {rs:List ResultVar} {e:VE} (l:List (Nat×V)) (he:Dk e=true) (dV:eu l b1=true) (hk:k<=b1.length) (hn:b1.length<=nb) (h1:FL l fr) (h2:BL 0 b1 bx) (hr:qC P false (hdS l b1) r rs) :
 vJ P k r b1 rs e ⟨fr,bx,nb⟩:=⟨H4 _ he,l,bT dV hk hn h1 h2,hr⟩
theorem dD {fr:Nat->V} {bx:Nat->List V} {nb:Nat}:qC P false ⟨fr,bx,nb⟩ (.tup []) []:=⟨[],rfl,rfl,λ_ _ _ h=>by simp at h⟩
theorem fa (m:Nat) (cs:List C):(cs.map V.c).all (λx=>x.ltB m)=true:=by rw[List.all_map,a8];intro x _;rfl
theorem yw {s:S} {f:V} {args all cargs:List V} {g:FuncId} {K:S->V->Prop} {r:V} {b1:List (List V)} (hc:eB f args=some (g,all)) (hf:FnB P G g cargs [] r b1) (dC:all.map V.fz=cargs)
 (hK:K { s with bx:=fC (λi=>s.nb+i) 0 b1 s.bx,nb:=s.nb+b1.length } (r.ren λi=>s.nb+i)):vcallB P G s f args K:=by
 unfold vcallB jX;simp only[hc];refine⟨[],cargs,[],r,b1,hf,?_,⟨rfl,ir⟩,trivial,?_⟩
 .rw[dC,iS λx hx=>XX (hf.2.1.1 x hx)]
 .rw[XY]
  simpa using hK
theorem O0 {s:S} {f:V} {args all cargs:List V} {g:FuncId} {K:S->V->Prop} {r:V} {b0 b1:List (List V)} (hc:eB f args=some (g,all)) (hf:FnB P G g cargs b0 r b1) (dC:all.map V.fz=cargs)
 (hn:b0.length=s.nb) (hb:BL 0 b0 s.bx) (hK:K { s with bx:=λi=>if i<b1.length then b1.getD i [] else s.bx i,nb:=b1.length } r):vcallB P G s f args K:=by
 unfold vcallB jX;simp only[hc];refine⟨List.range s.nb,cargs,b0,r,b1,hf,?_,⟨by simp[hn],j6⟩,?_,?_⟩
 .rw[yu,dC,pz]
 .rw[yu]
  refine uB _ _ _ _ λi b wj=>?_;have hi:=(am.1 wj).1;have:=hb.get i hi;rw[ao] at this ⊢
  refine⟨by omega,?_⟩;rw[<- this];simp[wj]
 .rw[yu,qT,Fp]
  have fO:=hf.2.1.2.2;have e1:s.nb+(b1.length - b0.length)=b1.length:=by omega
  rw[e1];have e2:(λi=>if 0<=i/\i<0+b1.length then b1.getD (i - 0) [] else s.bx i)=λi=>if i<b1.length then b1.getD i [] else s.bx i:=by funext i;simp
  rw[e2];exact hK
end
section
variable {P:Program} {G:Gl} {tr:List Nat} {fr:Nat->V} {bx:Nat->List V} {nb:Nat} {K:S->Prop} {KV:V->Prop} {Q:VE->S->Prop}
def X2 {α:Type} (o:Option α) (K:α->Prop):Prop:=match o with
 |some a=>K a
 |none=>False
def Bn (f:Option (Nat×Nat×Bool)) (ds:List C) (flds:List (Nat×Nat×Bool)) (r:List (Nat×V)) (cs:List C):Option (List C):=match f with
 |some (off,sz,_)=>if ds.length=sz/\off+sz<=cs.length then jk flds r (oJ cs off ds) else none
 |none=>none
def yy (e sz:Nat) (z:List C) (len:Nat) (parts:List (Nat×V)) (K:V->Prop):Prop:=match qN sz parts (List.replicate len z) with
 |some es=>K (.ow (if len=0 then none else some (e,sz)) es)
 |none=>False
theorem qE {T e:TypeId} {i j:TI} {z:List C} {sz len:Nat} {parts:List (Nat×V)} (hT:ti P T=some i) (hk:i.kd=.slice e) (hE:ti P e=some j) (hz:j.zero=some z) (hs:j.size=sz) (hp:0<sz) (hl:z.length=sz) (hn:len*sz<=16777216) :
 da P T len parts KV=yy e sz z len parts KV:=by
 obtain⟨kd,a,b,c,d,f,g⟩:=i;subst hk;obtain⟨kd',a',b',c',d',f',g'⟩:=j;simp only at hz hs;subst hz;subst hs;simp only[da,hT,hE,hp,hl,hn,bX];rfl
theorem O1 {sz:Nat} {es:List (List C)}:qN sz [] es=some es:=rfl
theorem O2 {sz i:Nat} {ds:List C} {r:List (Nat×V)} {es:List (List C)}:qN sz ((i,.agg ds)::r) es=if ds.length=sz/\i<es.length then qN sz r (es.set i ds) else none:=rfl
theorem X3 {sz i:Nat} {x:C} {r:List (Nat×V)} {es:List (List C)}:qN sz ((i,.c x)::r) es=if[x].length=sz/\i<es.length then qN sz r (es.set i [x]) else none:=rfl
theorem X4 {e sz len:Nat} {z:List C} {parts:List (Nat×V)}:yy e sz z len parts KV=X2 (qN sz parts (List.replicate len z)) (λes=>KV (.ow (if len=0 then none else some (e,sz)) es)):=by unfold yy X2;cases qN sz parts (List.replicate len z)<;>rfl
def tG (flds:List (Nat×Nat×Bool)) (z:List C) (parts:List (Nat×V)) (K:V->Prop):Option (List C)->Prop
 |some cs=>K (.agg cs)
 |none=>X2 (nj flds parts (z.map .c)) λvs=>K (.mag vs)
theorem kO {T:TypeId} {i:TI} {z:List C} {flds:List (Nat×Nat×Bool)} {parts:List (Nat×V)} (hT:ti P T=some i) (hk:i.kd=.struct) (hz:i.zero=some z) (hf:i.flds=flds) :
 gI P T parts KV=tG flds z parts KV (jk flds parts z):=by
 obtain⟨kd,a,b,c,d,f,g⟩:=i;simp only at hk hz hf;subst hk;subst hz;subst hf;simp only[gI,hT];unfold tG;cases jk f parts z with
 |some cs=>rfl
 |none=>cases nj f parts (z.map .c)<;>rfl
theorem O3 {z cs:List C} {flds:List (Nat×Nat×Bool)} {parts:List (Nat×V)}:tG flds z parts KV (some cs)=KV (.agg cs):=rfl
theorem O4 {α:Type} {a:α} {K:α->Prop}:X2 (some a) K=K a:=rfl
theorem O5 {flds:List (Nat×Nat×Bool)} {cs:List C}:jk flds [] cs=some cs:=rfl
theorem X5 {flds:List (Nat×Nat×Bool)} {i:Nat} {x:C} {r:List (Nat×V)} {cs:List C}:jk flds ((i,.c x)::r) cs=Bn flds[i]? [x] flds r cs:=by unfold jk Bn;cases flds[i]?<;>rfl
theorem SZ {flds:List (Nat×Nat×Bool)} {i:Nat} {E:Option (TypeId×Nat)} {x:List (List C)} {r:List (Nat×V)} {cs:List C}:jk flds ((i,.ow E x)::r) cs=Bn flds[i]? [.sl x] flds r cs:=by unfold jk Bn;cases flds[i]?<;>rfl
theorem O6 {flds:List (Nat×Nat×Bool)} {i:Nat} {ds:List C} {r:List (Nat×V)} {cs:List C}:jk flds ((i,.agg ds)::r) cs=Bn flds[i]? ds flds r cs:=by unfold jk Bn;cases flds[i]?<;>rfl
theorem KL {off sz:Nat} {ag:Bool} {ds:List C} {flds:List (Nat×Nat×Bool)} {r:List (Nat×V)} {cs:List C}:Bn (some (off,sz,ag)) ds flds r cs=if ds.length=sz/\off+sz<=cs.length then jk flds r (oJ cs off ds) else none:=rfl
theorem KN {cs ds:List C}:oJ cs 0 ds=ds++cs.drop ds.length:=by simp[oJ]
theorem KO {c:C} {cs ds:List C} {n:Nat}:oJ (c::cs) (n+1) ds=c::oJ cs n ds:=by simp[oJ,Nat.succ_add]
def KQ (f:Option (Nat×Nat×Bool)) (ds:List V) (flds:List (Nat×Nat×Bool)) (r:List (Nat×V)) (cs:List V):Option (List V):=match f with
 |some (off,sz,_)=>if ds.length=sz/\off+sz<=cs.length then nj flds r (zR cs off ds) else none
 |none=>none
def S0 (K:V->Prop):Option (List V)->Prop
 |some vs=>K (.mag vs)
 |none=>False
theorem X6 {T:TypeId} {i:TI} {z:List C} {flds:List (Nat×Nat×Bool)} {parts:List (Nat×V)} (hT:ti P T=some i) (hk:i.kd=.struct) (hz:i.zero=some z) (hf:i.flds=flds) :
 rx P T parts KV=S0 KV (nj flds parts (z.map mL)):=by
 obtain⟨kd,a,b,c,d,f,g⟩:=i;simp only at hk hz hf;subst hk;subst hz;subst hf;simp only[rx,hT];cases nj f parts (z.map mL)<;>rfl
theorem KT {vs:List V}:S0 KV (some vs)=KV (.mag vs):=rfl
theorem O7 {flds:List (Nat×Nat×Bool)} {cs:List V}:nj flds [] cs=some cs:=rfl
theorem X7 {flds:List (Nat×Nat×Bool)} {i:Nat} {x:C} {r:List (Nat×V)} {cs:List V}:nj flds ((i,.c x)::r) cs=KQ flds[i]? [.c x] flds r cs:=by unfold KQ;simp only[nj,V.ps];cases flds[i]?<;>rfl
theorem H6 {off sz:Nat} {ag:Bool} {ds:List V} {flds:List (Nat×Nat×Bool)} {r:List (Nat×V)} {cs:List V}:KQ (some (off,sz,ag)) ds flds r cs=if ds.length=sz/\off+sz<=cs.length then nj flds r (zR cs off ds) else none:=rfl
theorem O8 {cs ds:List V}:zR cs 0 ds=ds++cs.drop ds.length:=by simp[zR]
theorem O9 {c:V} {cs ds:List V} {n:Nat}:zR (c::cs) (n+1) ds=c::zR cs n ds:=by simp[zR,Nat.succ_add]
theorem KU {T e:TypeId} {i j:TI} {z:List C} {sz by_:Nat} {E:Option (TypeId×Nat)} {es ys:List (List C)} (hT:ti P T=some i) (hk:i.kd=.slice e) (hE:ti P e=some j) (hz:j.zero=some z) (hs:j.size=sz) (hb:j.bytes=by_) (hp:0<sz) (hl:z.length=sz) :
 dL P T (.ow E es) (.c (.sl ys)) KV=(((E=none∨E=some (e,sz))/\∀ x∈es,x.length=sz)/\((es.length+ys.length)*by_<=140737488355328/\es.length+ys.length<=9223372036854775807/\∀ x∈ys,x.length=sz)/\KV (.ow (if ys.isEmpty then E else some (e,sz)) (es++ys))):=by
 obtain⟨kd,a,b,c,d,f,g⟩:=i;subst hk;obtain⟨kd',a',b',c',d',f',g'⟩:=j;simp only at hz hs hb;subst hz;subst hs;subst hb;simp only[dL,hT,hE,hp,hl,bX]
end
theorem dM {n:Int} {k:Nat} (h:n=(k:Nat)) (hk:k<=9223372036854775807):IntKind.i64.wrap n=(k:Nat):=by subst h;exact wrap_i64 _ (by omega)
section
variable {P:Program} {T e:TypeId} {i j:TI} {K:V->Prop} {blk off len cap k n' sz:Nat} {E:Option (TypeId×Nat)} {es:List (List C)} {s:S}
theorem nN {a:Option Addr} (hT:ti P T=some i) (hk:i.kd=.slice e) (hK:K (.c (.lit (.int .i64 len)))):mb P T (.c (.ex (.slice a len cap))) K:=by obtain⟨kd,a1,a2,a3,a4,a5,a6⟩:=i;simp only at hk;subst hk;simp only[mb,hT];exact hK
theorem Bo {kd:IntKind} {n:Int} (hT:ti P T=some i) (hk:i.kd=.slice e) (hE:ti P e=some j) (hs:j.size=sz) (hz:sz≠0) (hn:n=(k:Nat)) (hl:k<len) (hK:K (.c (.ex (.pointer (some ⟨blk,off+k*sz,none⟩))))) :
 bK P T (.c (.ex (.slice (some ⟨blk,off,none⟩) len cap))) (.c (.lit (.int kd n))) K:=by
 obtain⟨kd',a1,a2,a3,a4,a5,a6⟩:=i;simp only at hk;subst hk;subst hn;subst hs;simp only[bK,hT,hE,fq];exact⟨⟨aC k,by omega,hz⟩,hK⟩
theorem ab8 {f:Nat} {ag:Bool} (hT:ti P T=some i) (hf:i.flds[f]?=some (off,sz,ag)) (hz:sz≠0) (hK:K (.c (.ex (.pointer (some ⟨blk,k+off,none⟩))))):bj P T (.c (.ex (.pointer (some ⟨blk,k,none⟩)))) f K:=by simp only[bj,hT,hf];exact⟨hz,hK⟩
