/- Values without memory: how the conditions are computed: each law fires at a state that is written out, so that what follows stays as it is until its turn comes. -/
import Derived.Test.YtloppcgcepgbnaaGreatDoorVlFn
set_option linter.all false
namespace Go.Vl
open Go Go.RowKit
section
variable {P:Program} {G:Gl} {tr:List Nat} {fr:Nat->V} {bx:Nat->List V} {nb k0:Nat} {K:S->Prop} {KV:V->Prop} {Q:VE->S->Prop}
def Vu (P:Program) (G:Gl) (tr:List Nat) (ops:Array Oper) (r:List Oper) (K:S->Prop) (s:S):Prop:=ib P G tr ops r s K
def Rh (P:Program) (G:Gl) (tr:List Nat) (k0:Nat) (b:Code) (Q:VE->S->Prop) (e:VE) (s:S):Prop:=match e with | .normal=>hZ P G tr k0 b Q s | e=>Q e s
def Ri (id:Nat) (Q:VE->S->Prop) (e:VE) (s:S):Prop:=match e with | .exit i=>if i=id then Q .normal s else Q (.exit i) s | e=>Q e s
def Ad (P:Program) (G:Gl) (tr:List Nat) (k0:Nat) (v:V) (c:Operand) (x y:Code) (Q:VE->S->Prop) (s:S):Prop:=match v with
 | .c (.lit (.bool p))=>(p=true->hZ P G tr k0 x Q (refine s c true))/\(p=false->hZ P G tr k0 y Q (refine s c false))
 |_=>False
def vgd (P:Program) (G:Gl) (tr:List Nat) (ops:Array Oper) (o:Oper) (r:List Oper) (K:S->Prop) (d:Option Tmp) (v:V) (want:Bool) (s:S):Prop:=match d with
 |some d=>match v with
  | .c (.lit (.bool p))=>(p=want->VStep P G tr o { s with fr:=up s.fr d (.c (.lit (.bool want))) } (Vu P G tr ops r K))/\
   (p=(!want)->ib P G tr ops r (({ s with fr:=up s.fr d (.c (.lit (.bool (!want)))) }:S).put o.dst .sk) K)
  | .sk=>ib P G tr ops r (s.put o.dst .sk) K
  |_=>False
 |none=>False
def Vv (s:S):Option Tmp->V
 |some d=>s.fr d
 |none=>.un
def fzK (P:Program) (G:Gl) (tr:List Nat) (k0:Nat) (id:Nat) (ops:Array Oper) (Q:VE->S->Prop) (s:S):Prop:=∃ s',S.Fz (k0) s' s/\vtw P G tr id ops s' (Q .normal)
def ajm (P:Program) (G:Gl) (tr:List Nat) (ops:Array Oper) (K:S->Prop) (s:S):Prop:=ib P G tr ops ops.toList s K
theorem aaE {ops:Array Oper}:ajm P G tr ops K ⟨fr,bx,nb⟩=ib P G tr ops ops.toList ⟨fr,bx,nb⟩ K:=rfl
theorem aaF {i:Nat}:ME tr i=tr.contains (2300000+i):=rfl
theorem ra {i:Nat} {ops:Array Oper} {s:S} (b k q:Nat) {E:Option (TypeId×Nat)} {es:List (List C)} (hi:ME tr i=true) (hb:b<s.nb) (hk:(s.bx b)[k]?=some (.ow E es)) (hq:(ops.toList.any λo=>o.dst==some q)=true) (h:∀ v,K (s.split b k q v E es)):spl tr i ops s K:=by unfold spl;rw[if_pos hi];exact .inl ⟨b,k,q,E,es,⟨hb,hk,hq⟩,h⟩
theorem Cc {i:Nat} {ops:Array Oper} {s:S} (b k:Nat) {g:Option Value} {E:Option (TypeId×Nat)} {es:List (List C)} (hi:ME tr i=true) (hb:b<s.nb) (hk:(s.bx b)[k]?=some (.hh g E es)) (h:K (s.cool b k E es)):spl tr i ops s K:=by unfold spl;rw[if_pos hi];exact .inr (.inl ⟨b,k,g,E,es,⟨hb,hk⟩,h⟩)
theorem Vw {i:Nat} {ops:Array Oper} {s:S} (b k:Nat) {g:Option Value} {E:Option (TypeId×Nat)} {es:List (List C)} (hi:ME tr i=true) (hb:b<s.nb) (hk:(s.bx b)[k]?=some (.hh g E es)) (hm:cL (s.bx b)=false)
 (h:∀ blk cap,K (s.name b k (.slice (some ⟨blk,0,none⟩) es.length cap) E es)):spl tr i ops s K:=by
 unfold spl;rw[if_pos hi];exact .inr (.inr (.inl ⟨b,k,g,E,es,⟨hb,hk,hm⟩,h⟩))
theorem rb {i:Nat} {ops:Array Oper} {s:S} (hi:ME tr i=true) (h:GsK ops K s):spl tr i ops s K:=by unfold spl;rw[if_pos hi];exact .inr (.inr (.inr h))
theorem M8 {i:Nat} {ops:Array Oper} {d:Bool}:hZ P G tr k0 (.region i ops d) Q ⟨fr,bx,nb⟩=if QJ tr i then vpa P G tr i ops (Q .normal) ⟨fr,bx,nb⟩ else if UZ tr i then fzK P G tr k0 i ops Q ⟨fr,bx,nb⟩ else if ME tr i then spl tr i ops ⟨fr,bx,nb⟩ (ajm P G tr ops (Q .normal)) else ib P G tr ops ops.toList ⟨fr,bx,nb⟩ (Q .normal):=by
 show(if QJ tr i then _ else if UZ tr i then _ else spl tr i ops ⟨fr,bx,nb⟩ _)=_
 congr 1;congr 1;unfold spl;split<;>rfl
theorem aaG {i:Nat}:QJ tr i=tr.contains (2850000+i):=rfl
theorem aaH {i:Nat}:UZ tr i=tr.contains (2600000+i):=rfl
theorem aaI {a b:Code}:hZ P G tr k0 (.seq a b) Q ⟨fr,bx,nb⟩=hZ P G tr k0 a (Rh P G tr k0 b Q) ⟨fr,bx,nb⟩:=rfl
theorem Rk:hZ P G tr k0 .skip Q ⟨fr,bx,nb⟩=Q .normal ⟨fr,bx,nb⟩:=rfl
theorem aaJ:hZ P G tr k0 .ret Q ⟨fr,bx,nb⟩=Q .ret ⟨fr,bx,nb⟩:=rfl
theorem Vx {i:Nat}:hZ P G tr k0 (.exit i) Q ⟨fr,bx,nb⟩=Q (.exit i) ⟨fr,bx,nb⟩:=rfl
theorem Rl {a:Code}:hZ P G tr k0 (.scope a) Q ⟨fr,bx,nb⟩=hZ P G tr k0 a Q ⟨fr,bx,nb⟩:=rfl
theorem Rm {i:Nat}:hZ P G tr k0 (.label i) Q ⟨fr,bx,nb⟩=Q .normal ⟨fr,bx,nb⟩:=rfl
theorem Rn {i:Nat} {a:Code}:hZ P G tr k0 (.block i a) Q ⟨fr,bx,nb⟩=hZ P G tr k0 a (Ri i Q) ⟨fr,bx,nb⟩:=rfl
theorem Vy {c:Operand} {x y:Code}:hZ P G tr k0 (.cond c x y) Q ⟨fr,bx,nb⟩=Ad P G tr k0 (ev G ⟨fr,bx,nb⟩ c) c x y Q ⟨fr,bx,nb⟩:=rfl
theorem Es {c:Operand} {x y:Code}:Ad P G tr k0 (.c (.lit (.bool true))) c x y Q ⟨fr,bx,nb⟩=hZ P G tr k0 x Q (refine ⟨fr,bx,nb⟩ c true):=by simp[Ad]
theorem Cd {c:Operand} {x y:Code}:Ad P G tr k0 (.c (.lit (.bool false))) c x y Q ⟨fr,bx,nb⟩=hZ P G tr k0 y Q (refine ⟨fr,bx,nb⟩ c false):=by simp[Ad]
theorem aD {c:Operand} {x y:Code} {p:Bool} {s:S} (h1:p=true->hZ P G tr k0 x Q (refine s c true)) (h2:p=false->hZ P G tr k0 y Q (refine s c false)) :
 Ad P G tr k0 (.c (.lit (.bool p))) c x y Q s:=⟨h1,h2⟩
theorem Jy {b:Code} {s:S}:Rh P G tr k0 b Q .normal s=hZ P G tr k0 b Q s:=rfl
theorem Vz {b:Code} {s:S}:Rh P G tr k0 b Q .ret s=Q .ret s:=rfl
theorem Ro {b:Code} {s:S} {i:Nat}:Rh P G tr k0 b Q (.exit i) s=Q (.exit i) s:=rfl
theorem Jz {id:Nat} {s:S}:Ri id Q .normal s=Q .normal s:=rfl
theorem VA {id:Nat} {s:S}:Ri id Q .ret s=Q .ret s:=rfl
theorem Rq {id i:Nat} {s:S}:Ri id Q (.exit i) s=if i=id then Q .normal s else Q (.exit i) s:=rfl
theorem M9 {t:Tmp} {p:Bool}:refine ⟨fr,bx,nb⟩ (.tmp t) p=⟨up fr t (.c (.lit (.bool p))),bx,nb⟩:=rfl
theorem aaK {ops:Array Oper}:ib P G tr ops [] ⟨fr,bx,nb⟩ K=K ⟨fr,bx,nb⟩:=rfl
theorem ae8 {ops:Array Oper} {d:Option Tmp} {op:Op} {ty:TypeId} {pos:String} {af:Array Edge} {r:List Oper} :
 ib P G tr ops (⟨d,op,ty,pos,af,none⟩::r) ⟨fr,bx,nb⟩ K=VStep P G tr ⟨d,op,ty,pos,af,none⟩ ⟨fr,bx,nb⟩ (Vu P G tr ops r K):=rfl
theorem aaL {ops:Array Oper} {d:Option Tmp} {op:Op} {ty:TypeId} {pos:String} {af:Array Edge} {j:Nat} {w:Bool} {r:List Oper} :
 ib P G tr ops (⟨d,op,ty,pos,af,some (j,w)⟩::r) ⟨fr,bx,nb⟩ K=
  vgd P G tr ops ⟨d,op,ty,pos,af,some (j,w)⟩ r K ((ops[j]?).bind (·.dst)) (Vv ⟨fr,bx,nb⟩ ((ops[j]?).bind (·.dst))) w ⟨fr,bx,nb⟩:=by
 simp only[ib,nM,vgd];cases hd:(ops[j]?).bind (·.dst) with
 |none=>rfl
 |some d=>rfl
theorem aaM {ops:Array Oper} {o:Oper} {r:List Oper} {d:Tmp} {w:Bool}:vgd P G tr ops o r K (some d) (.c (.lit (.bool w))) w ⟨fr,bx,nb⟩=VStep P G tr o ⟨up fr d (.c (.lit (.bool w))),bx,nb⟩ (Vu P G tr ops r K):=by simp[vgd]
theorem ae9 {ops:Array Oper} {o:Oper} {r:List Oper} {d:Tmp}:vgd P G tr ops o r K (some d) (.c (.lit (.bool true))) false ⟨fr,bx,nb⟩=ib P G tr ops r ((⟨up fr d (.c (.lit (.bool true))),bx,nb⟩:S).put o.dst .sk) K:=by simp[vgd]
theorem afa {ops:Array Oper} {o:Oper} {r:List Oper} {d:Tmp}:vgd P G tr ops o r K (some d) (.c (.lit (.bool false))) true ⟨fr,bx,nb⟩=ib P G tr ops r ((⟨up fr d (.c (.lit (.bool false))),bx,nb⟩:S).put o.dst .sk) K:=by simp[vgd]
theorem afb {ops:Array Oper} {o:Oper} {r:List Oper} {d:Tmp} {w:Bool}:vgd P G tr ops o r K (some d) .sk w ⟨fr,bx,nb⟩=ib P G tr ops r ((⟨fr,bx,nb⟩:S).put o.dst .sk) K:=rfl
theorem eT {ops:Array Oper} {o:Oper} {r:List Oper} {d:Tmp} {w p:Bool} {s:S} (h1:p=w->VStep P G tr o { s with fr:=up s.fr d (.c (.lit (.bool w))) } (Vu P G tr ops r K))
 (h2:p=(!w)->ib P G tr ops r (({ s with fr:=up s.fr d (.c (.lit (.bool (!w)))) }:S).put o.dst .sk) K):vgd P G tr ops o r K (some d) (.c (.lit (.bool p))) w s:=⟨h1,h2⟩
theorem JA {d:Tmp}:Vv ⟨fr,bx,nb⟩ (some d)=fr d:=rfl
theorem aaN {ops:Array Oper} {r:List Oper}:Vu P G tr ops r K ⟨fr,bx,nb⟩=ib P G tr ops r ⟨fr,bx,nb⟩ K:=rfl
theorem VB {d:Nat} {v:V}:(⟨fr,bx,nb⟩:S).put (some d) v=⟨up fr d v,bx,nb⟩:=rfl
theorem VC {v:V}:(⟨fr,bx,nb⟩:S).put none v=⟨fr,bx,nb⟩:=rfl
section
variable {d:Nat} {dO:Option Tmp} {t:Tmp} {ty T:TypeId} {pos:String} {af:Array Edge} {g:Option (Nat×Bool)}
theorem aaO:VStep P G tr ⟨some d,.move (.tmp t),ty,pos,af,g⟩ ⟨fr,bx,nb⟩ K=if tr.contains d then K (((⟨fr,bx,nb⟩:S).use (some t)).put (some d) (fr t)) else K ⟨up fr d (fr t).fz,bx,nb⟩:=by
 simp only[VStep,VYK,UR,ev];split
 .rename_i h;simp only[S.after,cn,UR,h,cZ]
 .rename_i h;simp only[S.after,cn,UR,h];rfl
theorem Et {v:Value}:VStep P G tr ⟨some d,.move (.const v),ty,pos,af,g⟩ ⟨fr,bx,nb⟩ K=if tr.contains d then K ⟨up fr d (oN v),bx,nb⟩ else K ⟨up fr d (oN v).fz,bx,nb⟩:=rfl
theorem Rr:VStep P G tr ⟨some d,.assign (.tmp t),ty,pos,af,g⟩ ⟨fr,bx,nb⟩ K=K (((⟨fr,bx,nb⟩:S).use (some t)).put (some d) (fr t)):=rfl
theorem AL {v:Value}:VStep P G tr ⟨some d,.assign (.const v),ty,pos,af,g⟩ ⟨fr,bx,nb⟩ K=K ⟨up fr d (oN v),bx,nb⟩:=rfl
def VD (c a b:V) (K:V->Prop):Prop:=match c with
 | .c (.lit (.bool p))=>K (if p then a.fz else b.fz)
 |_=>False
def mJ (dO:Option Tmp) (s:S) (K:S->Prop) (v:V):Prop:=K (s.put dO v)
theorem aaP {v:V}:mJ (some d) ⟨fr,bx,nb⟩ K v=K ⟨up fr d v,bx,nb⟩:=rfl
theorem VF {c a b:Operand}:VStep P G tr ⟨dO,.pick c a b,ty,pos,af,g⟩ ⟨fr,bx,nb⟩ K=VD (ev G ⟨fr,bx,nb⟩ c) (ev G ⟨fr,bx,nb⟩ a) (ev G ⟨fr,bx,nb⟩ b) (mJ dO ⟨fr,bx,nb⟩ K):=rfl
theorem Na {a b:V}:VD (.c (.lit (.bool true))) a b KV=KV a.fz:=rfl
theorem JB {a b:V}:VD (.c (.lit (.bool false))) a b KV=KV b.fz:=rfl
theorem afc {op:BinOp} {x:Operand} {t:Tmp} {yT:TypeId}:VStep P G tr ⟨dO,.binOp op T x (.tmp t) yT,ty,pos,af,g⟩ ⟨fr,bx,nb⟩ K=j5 P op T (ev G ⟨fr,bx,nb⟩ x) (fr t) (mJ dO ⟨fr,bx,nb⟩ K):=rfl
theorem VG {op:BinOp} {x:Operand} {k:IntKind} {m:Int} {yT:TypeId}:VStep P G tr ⟨dO,.binOp op T x (.const (.int k m)) yT,ty,pos,af,g⟩ ⟨fr,bx,nb⟩ K=j5 P op T (ev G ⟨fr,bx,nb⟩ x) (.c (.lit (.int k m))) (mJ dO ⟨fr,bx,nb⟩ K):=rfl
theorem VH {op:BinOp} {x:Operand} {b:Bool} {yT:TypeId}:VStep P G tr ⟨dO,.binOp op T x (.const (.bool b)) yT,ty,pos,af,g⟩ ⟨fr,bx,nb⟩ K=j5 P op T (ev G ⟨fr,bx,nb⟩ x) (.c (.lit (.bool b))) (mJ dO ⟨fr,bx,nb⟩ K):=rfl
theorem VI {op:BinOp} {x:Operand} {b:ByteArray} {yT:TypeId}:VStep P G tr ⟨dO,.binOp op T x (.const (.string b)) yT,ty,pos,af,g⟩ ⟨fr,bx,nb⟩ K=j5 P op T (ev G ⟨fr,bx,nb⟩ x) (.c (.lit (.string b))) (mJ dO ⟨fr,bx,nb⟩ K):=rfl
theorem Nb {op:BinOp} {x:Operand} {yT:TypeId}:VStep P G tr ⟨dO,.binOp op T x (.const (.slice none 0 0)) yT,ty,pos,af,g⟩ ⟨fr,bx,nb⟩ K=IE P op T (ev G ⟨fr,bx,nb⟩ x) (mJ dO ⟨fr,bx,nb⟩ K):=rfl
theorem Rt {op:BinOp} {x:Operand} {yT:TypeId}:VStep P G tr ⟨dO,.binOp op T x (.const (.pointer none)) yT,ty,pos,af,g⟩ ⟨fr,bx,nb⟩ K=sX P op T false (ev G ⟨fr,bx,nb⟩ x) (mJ dO ⟨fr,bx,nb⟩ K):=rfl
theorem JC {fn b:Bool} {x:V} (h:O2 fn x=some b) (hT:aag P T fn=true):sX P .eql T fn x KV=KV (.c (.lit (.bool b))):=by simp only[sX,h,hT,iM]
theorem JD {fn b:Bool} {x:V} (h:O2 fn x=some b) (hT:aag P T fn=true):sX P .neq T fn x KV=KV (.c (.lit (.bool (!b)))):=by simp only[sX,h,hT,iM]
theorem ajn {op:UnOp} {x:Operand}:VStep P G tr ⟨dO,.unOp op T x,ty,pos,af,g⟩ ⟨fr,bx,nb⟩ K=vun op (ev G ⟨fr,bx,nb⟩ x) (mJ dO ⟨fr,bx,nb⟩ K):=rfl
def zK (dO:Option Tmp) (s:S) (K:S->Prop) (v:V):Prop:=K (s.put dO v)
theorem ajo {v:V}:zK dO ⟨fr,bx,nb⟩ K v=K ((⟨fr,bx,nb⟩:S).put dO v):=rfl
theorem VJ:isZ tr (some d)=tr.contains (2500000+d):=rfl
theorem aaQ {x:Operand}:VStep P G tr ⟨dO,.load T x,ty,pos,af,g⟩ ⟨fr,bx,nb⟩ K=
 if isZ tr dO then Gn P T ⟨fr,bx,nb⟩ (ev G ⟨fr,bx,nb⟩ x) (zK dO ⟨fr,bx,nb⟩ K) else qC tr dO (ev G ⟨fr,bx,nb⟩ x)=true/\dG P T ⟨fr,bx,nb⟩ (ev G ⟨fr,bx,nb⟩ x) (mJ dO ⟨fr,bx,nb⟩ K):=rfl
theorem VK {t b k:Nat}:qC tr (some t) (.bp b k)=(!tr.contains (200000+t)||(decide (b<100)&&tr.contains (300000+t*100+b))):=rfl
theorem aaR {t:Nat} {cs:List C} {k:Nat}:qC tr (some t) (.c (.rp cs k))=true:=rfl
theorem VL {t:Nat} {v:Value}:qC tr (some t) (.c (.ex v))=!tr.contains (200000+t):=rfl
theorem afd {t:Tmp}:MD (.tmp t)=some t:=rfl
theorem Hl {x:Operand} {f:Nat}:VStep P G tr ⟨dO,.fieldAddr T x f,ty,pos,af,g⟩ ⟨fr,bx,nb⟩ K=bq P T (ev G ⟨fr,bx,nb⟩ x) f (mJ dO ⟨fr,bx,nb⟩ K):=rfl
theorem VM {x:Operand} {f:Nat}:VStep P G tr ⟨dO,.field T x f,ty,pos,af,g⟩ ⟨fr,bx,nb⟩ K=r0 P T (ev G ⟨fr,bx,nb⟩ x) f (mJ dO ⟨fr,bx,nb⟩ K):=rfl
theorem Hm {x i:Operand}:VStep P G tr ⟨dO,.indexAddr T x i,ty,pos,af,g⟩ ⟨fr,bx,nb⟩ K=dF P T (ev G ⟨fr,bx,nb⟩ x).fz (ev G ⟨fr,bx,nb⟩ i) (mJ dO ⟨fr,bx,nb⟩ K):=rfl
theorem VN {x i:Operand}:VStep P G tr ⟨dO,.index T x i,ty,pos,af,g⟩ ⟨fr,bx,nb⟩ K=mI P T (ev G ⟨fr,bx,nb⟩ x) (ev G ⟨fr,bx,nb⟩ i) (mJ dO ⟨fr,bx,nb⟩ K):=rfl
theorem VO {x:Operand} {lo hi mx:Option Operand}:VStep P G tr ⟨dO,.slice T x lo hi mx,ty,pos,af,g⟩ ⟨fr,bx,nb⟩ K=
 jl P T (ev G ⟨fr,bx,nb⟩ x).fz (lo.map (ev G ⟨fr,bx,nb⟩)) (hi.map (ev G ⟨fr,bx,nb⟩)) (mx.map (ev G ⟨fr,bx,nb⟩)) (mJ dO ⟨fr,bx,nb⟩ K):=rfl
theorem Nc {x:Operand} {U:TypeId}:VStep P G tr ⟨dO,.convert T U x,ty,pos,af,g⟩ ⟨fr,bx,nb⟩ K=
 if oe tr dO then MC P ⟨fr,bx,nb⟩ dO T U K (ev G ⟨fr,bx,nb⟩ x) else jR P T U (vw ⟨fr,bx,nb⟩ (ev G ⟨fr,bx,nb⟩ x)).fz (mJ dO ⟨fr,bx,nb⟩ K):=rfl
def A7 (x:V) (K:V->Prop):Prop:=match x with
 | .bp i o=>K (.bp i o)
 | .c (.rp cs k)=>K (.c (.rp cs k))
 | .c (.ex (.pointer (some ad)))=>K (.c (.ex (.pointer (some ad))))
 |_=>False
theorem JE {x:Operand}:VStep P G tr ⟨dO,.nilCheck x,ty,pos,af,g⟩ ⟨fr,bx,nb⟩ K=A7 (ev G ⟨fr,bx,nb⟩ x) (mJ dO ⟨fr,bx,nb⟩ K):=rfl
theorem Rw {i o:Nat}:A7 (.bp i o) KV=KV (.bp i o):=rfl
theorem Rx {cs:List C} {k:Nat}:A7 (.c (.rp cs k)) KV=KV (.c (.rp cs k)):=rfl
theorem VP {parts:Array (Nat×Operand)}:VStep P G tr ⟨dO,.build T parts,ty,pos,af,g⟩ ⟨fr,bx,nb⟩ K=
 if isZ tr dO then pd P T (parts.toList.map λp=>(p.1,ev G ⟨fr,bx,nb⟩ p.2)) (zK dO ⟨fr,bx,nb⟩ K) else jt P T (parts.toList.map λp=>(p.1,ev G ⟨fr,bx,nb⟩ p.2)) (mJ dO ⟨fr,bx,nb⟩ K):=rfl
theorem Eu {len:Nat} {parts:Array (Nat×Operand)}:VStep P G tr ⟨dO,.buildSlice T len parts,ty,pos,af,g⟩ ⟨fr,bx,nb⟩ K=
 if oe tr dO then cH P T len (parts.toList.map λp=>(p.1,ev G ⟨fr,bx,nb⟩ p.2)) (US ⟨fr,bx,nb⟩ dO len len K)
 else if UU tr dO then(xo P T len (parts.toList.map λp=>(p.1,ev G ⟨fr,bx,nb⟩ p.2)) ⟨fr,bx,nb⟩ dO K∨cH P T len (parts.toList.map λp=>(p.1,ev G ⟨fr,bx,nb⟩ p.2)) (exK (mJ dO ⟨fr,bx,nb⟩ K)))
 else cH P T len (parts.toList.map λp=>(p.1,ev G ⟨fr,bx,nb⟩ p.2)) (mJ dO ⟨fr,bx,nb⟩ K):=rfl
theorem aaS {e:TypeId} {sz n m:Nat} {es:List (List C)}:US ⟨fr,bx,nb⟩ dO n m K (.ow (some (e,sz)) es)=K ((⟨fr,up bx nb (es.flatten.map .c),nb+1⟩:S).put dO (.ms nb 0 n m sz)):=rfl
theorem Ry:oe [] dO=false:=by cases dO<;>rfl
theorem Rz:xm [] dO=false:=rfl
theorem VQ:QI [] dO=false:=rfl
theorem RA:UU tr (some d)=tr.contains (1400000+d):=rfl
theorem RB:MB tr (some d)=tr.contains (1100000+d):=rfl
theorem ajp {s:S} {t:Tmp}:evX G s (.tmp t)=s.fr t:=rfl
theorem aaT {s:S}:evX G s (.const (.slice none 0 0))=.c (.ex (.slice none 0 0)):=rfl
theorem RE:QH tr (some d)=tr.contains (1500000+d):=rfl
theorem Nh:oe tr (some d)=tr.contains (2000000+d):=rfl
theorem Ni:oe tr none=false:=rfl
theorem Nj:xm tr (some d)=tr.contains (1000000+d):=rfl
theorem Nk:xm tr none=tr.contains 999999:=rfl
theorem RF {d:Tmp}:QI tr (some d)=tr.contains (1900000+d):=rfl
theorem RG:QI tr none=tr.contains 1999999:=rfl
theorem RH:Ea tr (some d)=tr.contains (400000+d):=rfl
theorem RI:Ea tr none=tr.contains 399999:=rfl
theorem afe {s:S} {v:V}:lcK tr dO s K ⟨fr,bx,nb⟩ v=(ae3 tr dO s ⟨fr,bx,nb⟩/\K ((⟨fr,bx,nb⟩:S).put dO v)):=rfl
def mkK (dO:Option Tmp) (s:S) (K:S->Prop) (n m sz:Nat) (z:List C):Prop:=K ({ s with bx:=up s.bx s.nb ((List.replicate m z).flatten.map .c),nb:=s.nb+1 }.put dO (.ms s.nb 0 n m sz))
theorem Hn {l c:Operand}:VStep P G tr ⟨dO,.makeSlice T l c,ty,pos,af,g⟩ ⟨fr,bx,nb⟩ K=ry P T (ev G ⟨fr,bx,nb⟩ l) (ev G ⟨fr,bx,nb⟩ c) (mkK dO ⟨fr,bx,nb⟩ K):=rfl
theorem aff {n m sz:Nat} {z:List C}:mkK dO ⟨fr,bx,nb⟩ K n m sz z=K ((⟨fr,up bx nb ((List.replicate m z).flatten.map .c),nb+1⟩:S).put dO (.ms nb 0 n m sz)):=rfl
def aaU (x:V) (i:Nat) (K:V->Prop):Prop:=match x with
 | .tup ds=>match ds[i]? with
  |some d=>K d
  |none=>False
 |_=>False
theorem Nl {x:Operand} {i:Nat}:VStep P G tr ⟨dO,.extract x i,ty,pos,af,g⟩ ⟨fr,bx,nb⟩ K=aaU (ev G ⟨fr,bx,nb⟩ x) i (mJ dO ⟨fr,bx,nb⟩ K):=rfl
theorem RJ {v:V} {ds:List V}:aaU (.tup (v::ds)) 0 KV=KV v:=rfl
theorem VR {v u:V} {ds:List V}:aaU (.tup (v::u::ds)) 1 KV=KV u:=rfl
theorem VS {v u x:V} {ds:List V}:aaU (.tup (v::u::x::ds)) 2 KV=KV x:=rfl
theorem JF {f:Fn} {a b:Array Operand}:VStep P G tr ⟨dO,.makeFunc f a b,ty,pos,af,g⟩ ⟨fr,bx,nb⟩ K=
 ((((a.toList.map (ev G ⟨fr,bx,nb⟩)).all V.isPR=true/\(b.toList.map (ev G ⟨fr,bx,nb⟩)).all V.isPR=true))/\mJ dO ⟨fr,bx,nb⟩ K (.clo f (a.toList.map (ev G ⟨fr,bx,nb⟩)) (b.toList.map (ev G ⟨fr,bx,nb⟩)))):=rfl
theorem aaV {v:V}:IG dO K ⟨fr,bx,nb⟩ v=K ((⟨fr,bx,nb⟩:S).put dO v):=rfl
theorem aaW {f:Operand} {args:Array Operand} {ts:Array TypeId}:VStep P G tr ⟨dO,.call ⟨.value f,args,ts⟩,ty,pos,af,g⟩ ⟨fr,bx,nb⟩ K=
 if MB tr dO then v8 P G ⟨fr,bx,nb⟩ (ev G ⟨fr,bx,nb⟩ f) (args.toList.map (ev G ⟨fr,bx,nb⟩)) (IG dO K) else
 if QH tr dO then lj P G ⟨fr,bx,nb⟩ (ev G ⟨fr,bx,nb⟩ f) (args.toList.map (evX G ⟨fr,bx,nb⟩)) (IG dO K) else
 if xm tr dO then vcallB P G ⟨fr,bx,nb⟩ (ev G ⟨fr,bx,nb⟩ f) (args.toList.map (ev G ⟨fr,bx,nb⟩)) (if Ea tr dO then lcK tr dO ⟨fr,bx,nb⟩ K else IG dO K)
 else if QI tr dO then pF P G ⟨fr,bx,nb⟩ (ev G ⟨fr,bx,nb⟩ f) (args.toList.map (ev G ⟨fr,bx,nb⟩)) (mJ dO ⟨fr,bx,nb⟩ K)
 else rq P G ⟨fr,bx,nb⟩ (ev G ⟨fr,bx,nb⟩ f) (args.toList.map (ev G ⟨fr,bx,nb⟩)) (mJ dO ⟨fr,bx,nb⟩ K):=rfl
theorem afg {args:Array Operand} {ts:Array TypeId}:VStep P G tr ⟨dO,.call ⟨.builtin .len,args,ts⟩,ty,pos,af,g⟩ ⟨fr,bx,nb⟩ K=
 if UW tr dO then IF P ⟨fr,bx,nb⟩ (mJ dO ⟨fr,bx,nb⟩ K) ts.toList (args.toList.map (ev G ⟨fr,bx,nb⟩)) else e9 P .len ts.toList (args.toList.map (ev G ⟨fr,bx,nb⟩)) (mJ dO ⟨fr,bx,nb⟩ K):=rfl
theorem RL:UW tr (some d)=tr.contains (1600000+d):=rfl
theorem afh {args:Array Operand} {ts:Array TypeId}:VStep P G tr ⟨dO,.call ⟨.builtin .min,args,ts⟩,ty,pos,af,g⟩ ⟨fr,bx,nb⟩ K=
 Br false (args.toList.map (ev G ⟨fr,bx,nb⟩)) (mJ dO ⟨fr,bx,nb⟩ K):=rfl
theorem afi {args:Array Operand} {ts:Array TypeId}:VStep P G tr ⟨dO,.call ⟨.builtin .max,args,ts⟩,ty,pos,af,g⟩ ⟨fr,bx,nb⟩ K=
 Br true (args.toList.map (ev G ⟨fr,bx,nb⟩)) (mJ dO ⟨fr,bx,nb⟩ K):=rfl
def aaX (t:Option Tmp) (dO:Option Tmp) (s:S) (K:S->Prop) (v:V):Prop:=K ((s.use t).put dO v)
def aaY:List Operand->Option Tmp
 | .tmp t::_=>some t
 |_=>none
theorem RN {args:Array Operand} {T U:TypeId}:VStep P G tr ⟨dO,.call ⟨.builtin .append,args,#[T,U]⟩,ty,pos,af,g⟩ ⟨fr,bx,nb⟩ K=
 if oe tr dO then xn P ⟨fr,bx,nb⟩ dO K [T,U] (args.toList.map λx=>vw ⟨fr,bx,nb⟩ (ev G ⟨fr,bx,nb⟩ x))
 else if Bw tr dO then fF P ⟨fr,bx,nb⟩ (IG dO K) [T,U] (args.toList.map (ev G ⟨fr,bx,nb⟩))
 else if Bt tr dO then(if xl tr dO then vr P G ⟨fr,bx,nb⟩ dO [T,U] args.toList (aaX (aaY args.toList) dO ⟨fr,bx,nb⟩ K) else ju P G ⟨fr,bx,nb⟩ dO [T,U] args.toList (aaX (aaY args.toList) dO ⟨fr,bx,nb⟩ K))
 else e9 P .append [T,U] (args.toList.map λx=>vw ⟨fr,bx,nb⟩ (ev G ⟨fr,bx,nb⟩ x)) (aaX (aaY args.toList) dO ⟨fr,bx,nb⟩ K):=rfl
theorem dm:Bt tr (some d)=tr.contains (2400000+d):=rfl
theorem RO:xl tr (some d)=tr.contains (2450000+d):=rfl
theorem JG:Bw tr (some d)=tr.contains (2700000+d):=rfl
theorem VT {args:Array Operand} {T:TypeId}:VStep P G tr ⟨dO,.call ⟨.builtin .clear,args,#[T]⟩,ty,pos,af,g⟩ ⟨fr,bx,nb⟩ K=jv P ⟨fr,bx,nb⟩ (λs'=>K (s'.put dO .un)) [T] (args.toList.map (ev G ⟨fr,bx,nb⟩)):=rfl
theorem Nn {T:TypeId} {es:List (List C)} {y:V}:xn P ⟨fr,bx,nb⟩ dO K [T,T] [.ow none es,y]=dR P T (.ow none es) y.fz (aaf ⟨fr,bx,nb⟩ dO K):=by simp[xn]
theorem aaZ {e:TypeId} {sz:Nat} {es:List (List C)}:aaf ⟨fr,bx,nb⟩ dO K (.ow (some (e,sz)) es)=K ((⟨fr,up bx nb (es.flatten.map .c),nb+1⟩:S).put dO (.ms nb 0 es.length es.length sz)):=rfl
theorem VU {v:V}:aaX (some t) (some d) ⟨fr,bx,nb⟩ K v=K (((⟨fr,bx,nb⟩:S).use (some t)).put (some d) v):=rfl
theorem VV:VStep P G tr ⟨some d,.alloc T,ty,pos,af,g⟩ ⟨fr,bx,nb⟩ K=match ti P T with
 |some { zero:=some z,.. }=>K ⟨up fr d (.bp nb 0),up bx nb (z.map nI),nb+1⟩
 |_=>False:=rfl
def y4 (t:Option Tmp) (d:Nat) (v:V) (s:S) (K:S->Prop):Prop:=match v.bcells with
 |some cs=>K ((let s':=s.use t;{ s' with bx:=up s'.bx s'.nb cs,nb:=s'.nb+1 }:S).put (some d) (.bp s.nb 0))
 |none=>False
theorem afj:VStep P G tr ⟨some d,.box T (.tmp t),ty,pos,af,g⟩ ⟨fr,bx,nb⟩ K=y4 (some t) d (fr t) ⟨fr,bx,nb⟩ K:=rfl
def pQ (i:Option TI) (t:Option Tmp) (dO:Option Tmp) (p v:V) (s:S) (K:S->Prop):Prop:=match i,p,v.bcells with
 |some i,.bp b k,some cs=>(b<s.nb/\cs.length=i.size/\k+i.size<=(s.bx b).length/\cL (s.bx b)=false)/\
   K ((let s':=s.use t;{ s' with bx:=up s'.bx b (eP (s'.bx b) k cs) }:S).put dO .sk)
 |some i,.c (.ex (.pointer (some ⟨blk,j,none⟩))),_=>(∃ (b k len cap:Nat) (E:Option (TypeId×Nat)) (es:List (List C)) (r:Nat) (e:List C) (c:C),(i.size=1/\b<s.nb/\cL (s.bx b)=false/\(s.bx b)[k]?=some (V.hh (some (.slice (some ⟨blk,0,none⟩) len cap)) E (es++[e]))/\
   (es.flatten.length+r=j/\r<e.length)/\v.asC=some c)/\
   K ((let s':=s.use t;{ s' with bx:=up s'.bx b ((s'.bx b).set k (.hh (some (.slice (some ⟨blk,0,none⟩) len cap)) E (es++[e.set r c]))) }:S).put dO .sk))∨
   ae4 s.bx s.nb i blk j v (λbx=>K ((let s':=s.use t;{ s' with bx:=bx }:S).put dO .sk))
 |_,_,_=>False
theorem VW {p:Operand}:VStep P G tr ⟨dO,.store T p (.tmp t),ty,pos,af,g⟩ ⟨fr,bx,nb⟩ K=(qC tr (MD p) (ev G ⟨fr,bx,nb⟩ p)=true/\pQ (ti P T) (some t) dO (ev G ⟨fr,bx,nb⟩ p) (fr t) ⟨fr,bx,nb⟩ K):=rfl
theorem Ce {p:Operand} {v:Value}:VStep P G tr ⟨dO,.store T p (.const v),ty,pos,af,g⟩ ⟨fr,bx,nb⟩ K=(qC tr (MD p) (ev G ⟨fr,bx,nb⟩ p)=true/\pQ (ti P T) none dO (ev G ⟨fr,bx,nb⟩ p) (oN v) ⟨fr,bx,nb⟩ K):=rfl
theorem jx:(⟨fr,bx,nb⟩:S).use (some t)=if(fr t).isOw=true then⟨up fr t .un,bx,nb⟩ else⟨fr,bx,nb⟩:=rfl
theorem VX:(⟨fr,bx,nb⟩:S).use none=⟨fr,bx,nb⟩:=rfl
theorem afk:ev G ⟨fr,bx,nb⟩ (.tmp t)=fr t:=rfl
theorem VY {v:Value}:ev G ⟨fr,bx,nb⟩ (.const v)=oN v:=rfl
theorem aa0 {f:FuncId}:ev G ⟨fr,bx,nb⟩ (.func f)=.c (.fn (.func f) [] []):=rfl
theorem Np {k:IntKind} {n:Int}:oN (.int k n)=.c (.lit (.int k n)):=rfl
theorem JH {b:Bool}:oN (.bool b)=.c (.lit (.bool b)):=rfl
theorem Ew {b:ByteArray}:oN (.string b)=.c (.lit (.string b)):=rfl
theorem Nq:oN (.slice none 0 0)=.ow none []:=rfl
theorem amy {s:S} {x:C}:vw s (.c x)=.c x:=rfl
theorem afl {s:S} {E:Option (TypeId×Nat)} {es:List (List C)}:vw s (.ow E es)=.ow E es:=rfl
section
variable {k:IntKind} {a b:Int} {op:BinOp} {T:TypeId} {t:Tmp}
theorem VZ:j5 P op T (.c (.lit (.int k a))) (.c (.lit (.int k b))) KV=nD op k a b KV:=by simp only[j5];split<;>rfl
theorem JI {k':IntKind}:j5 P .shr T (.c (.lit (.int k a))) (.c (.lit (.int k' b))) KV=nD .shr k a b KV:=rfl
theorem V0 {a b:ByteArray}:j5 P op T (.c (.lit (.string a))) (.c (.lit (.string b))) KV=ID op a b KV:=rfl
def afm (i:Option TI) (op:BinOp) (a b:Bool) (K:V->Prop):Prop:=match i with
 |some { kd:=.bool,.. }=>match op with
  | .eql=>K (.c (.lit (.bool (a==b))))
  | .neq=>K (.c (.lit (.bool (!(a==b)))))
  |_=>False
 |_=>False
theorem E4 {a b:Bool}:j5 P op T (.c (.lit (.bool a))) (.c (.lit (.bool b))) KV=afm (ti P T) op a b KV:=rfl
def JJ (i:Option TI) (op:BinOp) (xs ys:List C) (K:V->Prop):Prop:=match i with
 |some { eqs:=some ks,agg:=true,.. }=>match iG ks xs ys with
  |some r=>(xs.length=ks.length/\ys.length=ks.length)/\match op with
   | .eql=>K (.c (.lit (.bool r)))
   | .neq=>K (.c (.lit (.bool (!r))))
   |_=>False
  |none=>False
 |_=>False
theorem JK {xs ys:List C}:j5 P op T (.agg xs) (.agg ys) KV=JJ (ti P T) op xs ys KV:=rfl
theorem V1:nD .add k a b KV=KV (.c (.lit (.int k (k.wrap (a+b))))):=rfl
theorem V2:nD .sub k a b KV=KV (.c (.lit (.int k (k.wrap (a - b))))):=rfl
theorem V3:nD .mul k a b KV=KV (.c (.lit (.int k (k.wrap (a*b))))):=rfl
theorem V4:nD .eql k a b KV=KV (.c (.lit (.bool (decide (a=b))))):=rfl
theorem V5:nD .neq k a b KV=KV (.c (.lit (.bool (!decide (a=b))))):=rfl
theorem V6:nD .lss k a b KV=KV (.c (.lit (.bool (decide (a<b))))):=rfl
theorem V7:nD .leq k a b KV=KV (.c (.lit (.bool (decide (a<=b))))):=rfl
theorem V8:nD .gtr k a b KV=KV (.c (.lit (.bool (decide (b<a))))):=rfl
theorem V9:nD .geq k a b KV=KV (.c (.lit (.bool (decide (b<=a))))):=rfl
theorem ajq {x:C}:(V.c x).ldv=.c x:=rfl
theorem aa1 {cs:List C}:(V.agg cs).ldv=.agg cs:=rfl
theorem Wa {es:List (List C)}:(V.ow none es).ldv=.ow none es:=rfl
theorem Wb {E:TypeId×Nat} {es:List (List C)}:(V.ow (some E) es).ldv=.c (.sl es):=rfl
theorem afn {i o:Nat}:(V.bp i o).ldv=.bp i o:=rfl
theorem Pl {f:Fn} {x y:List V}:(V.clo f x y).ldv=.clo f x y:=rfl
theorem afo {i o l c z:Nat}:(V.ms i o l c z).ldv=.ms i o l c z:=rfl
theorem afp {i:Nat}:(V.mr i).ldv=.mr i:=rfl
theorem amz {x:C}:(V.c x).fz=.c x:=rfl
theorem ajr {E:Option (TypeId×Nat)} {es:List (List C)}:(V.ow E es).fz=.c (.sl es):=rfl
theorem ajs {i o:Nat}:(V.bp i o).fz=.bp i o:=rfl
theorem afq {f:Fn} {x y:List V}:(V.clo f x y).fz=.clo f x y:=rfl
theorem ajt {i o l c z:Nat}:(V.ms i o l c z).fz=.ms i o l c z:=rfl
theorem aa2 {i o l c z:Nat}:(V.ms i o l c z).isOw=false:=rfl
theorem afr {x:List V}:(V.tup x).fz=.tup x:=rfl
theorem afs {x:C}:(V.c x).isOw=false:=rfl
theorem aa3 {E:Option (TypeId×Nat)} {es:List (List C)}:(V.ow E es).isOw=true:=rfl
theorem aa4 {i o:Nat}:(V.bp i o).isOw=false:=rfl
theorem Wc {f:Fn} {x y:List V}:(V.clo f x y).isOw=false:=rfl
def frm:Nat->List V->Nat->V
 |_,[]=>λ_=>.un
 |i,v::r=>up (frm (i+1) r) i v
theorem fX {i:Nat}:frm i []=λ_=>.un:=rfl
theorem fh {i:Nat} {v:V} {r:List V}:frm i (v::r)=up (frm (i+1) r) i v:=rfl
theorem Pm:∀ (l:List V) (i j:Nat),frm i l j=if i<=j then l.getD (j - i) .un else .un
 |[],i,j=>by simp[frm]
 |v::r,i,j=>by
  simp only[frm,ah,Pm r (i+1) j];by_cases h:j=i
  .subst h;simp
  .rw[if_neg h]
   by_cases h1:i<=j
   .rw[if_pos h1,if_pos (by omega)]
    have:j - i=(j - (i+1))+1:=(by omega);rw[this];rfl
   .rw[if_neg h1,if_neg (by omega)]
theorem JL (args:List V):Ab args=⟨frm 0 args,λ_=>[],0⟩:=by unfold Ab;congr 1;funext j;rw[Pm];simp
def aft (P:Program) (z:Bool) (r:V) (rs:List ResultVar) (e:VE) (s:S):Prop:=(match e with | .exit _=>False | _=>True)/\rE P z s r rs
theorem We {z:Bool} {r:V} {rs:List ResultVar} {s:S}:aft P z r rs .ret s=rE P z s r rs:=by simp[aft]
theorem pR {r:V} {t:Tmp}:rE P false ⟨fr,bx,nb⟩ r [.tmp t]=(fr t=r):=rfl
theorem A8 {r:V} {t:Tmp}:rE P true ⟨fr,bx,nb⟩ r [.tmp t]=(imm ⟨fr,bx,nb⟩ (fr t)=some r):=by simp[rE,M6]
theorem RP {r:V} {t:Tmp} {T:TypeId}:rE P false ⟨fr,bx,nb⟩ r [.cell t T]=dG P T ⟨fr,bx,nb⟩ (fr t) (λu=>u=r):=rfl
theorem fi {d e:V} {t u:Tmp} (h1:(fr t).fz=d) (h2:(fr u).fz=e):rE P false ⟨fr,bx,nb⟩ (.tup [d,e]) [.tmp t,.tmp u]:=by
 refine⟨_,rfl,rfl,λi R x hR hx=>?_⟩
 match i with
 |0=>simp only[bQ,ao] at hR hx;subst hR;subst hx;exact h1
 |1=>simp only[cB,bQ,ao] at hR hx;subst hR;subst hx;exact h2
 |n+2=>simp at hR
theorem bI {f:FuncId} {fn:Func} {c:Code} {args:List V} {r:V} (z:Bool) (tr:List Nat) (hm:P.follows .mixedOrders=true) (hf:P.funcs[f]?=some fn) (hb:fn.body=some c) (nA:(fn.name== "runtime.NumGoroutine")=false)
 {rs:List ResultVar} (OV:fn.results.toList=rs) {n:Nat} (hn:fn.ntmps=n) (vJ:cok n tr c=true) (cj:args.length<=n)
 (hr:r.out=true) (oL:r.compT=true)
 (h:hZ P G tr (UY tr) c (aft P z r rs) ⟨frm 0 args,λ_=>[],0⟩):FnOK P G f args r:=by
 subst hn;subst OV;refine aaD z tr hm hf hb nA cj vJ hr oL ?_;rw[JL];exact h
end
end
end
section
variable {P:Program} {G:Gl} {tr:List Nat} {fr:Nat->V} {bx:Nat->List V} {nb k0:Nat} {K:S->Prop} {KV:V->Prop} {Q:VE->S->Prop}
def frs:List (Nat×V)->Nat->V
 |[]=>λ_=>.un
 |(i,v)::r=>up (frs r) i v
theorem aa5:frs []=λ_=>.un:=rfl
theorem Wg {i:Nat} {v:V} {r:List (Nat×V)}:frs ((i,v)::r)=up (frs r) i v:=rfl
def FL:List (Nat×V)->(Nat->V)->Prop
 |[],_=>True
 |(i,v)::r,f=>f i=v/\FL r f
theorem FL.le:∀ {l:List (Nat×V)} {f:Nat->V},FL l f->aji (frs l) f
 |[],_,_=>λ_=>.inl rfl
 |(i,v)::r,f,h=>λt=>by
  by_cases ht:t=i
  .subst ht;right;simp only[frs,cg];exact h.1.symm
  .simp only[frs,cP _ _ ht];exact h.2.le t
def bxs (bl:List (List V)):Nat->List V:=λi=>bl.getD i []
def BL:Nat->List (List V)->(Nat->List V)->Prop
 |_,[],_=>True
 |i,b::r,f=>f i=b/\BL (i+1) r f
theorem BL.get:∀ {bl:List (List V)} {k:Nat} {f:Nat->List V},BL k bl f->∀ i,i<bl.length->bl.getD i []=f (k+i)
 |[],_,_,_,i,hi=>by simp at hi
 |b::r,k,f,h,i,hi=>by
  cases i with
  |zero=>simp[h.1]
  |succ i=>have:=h.2.get i (by simpa using hi);simpa[dM,Nat.add_comm,Nat.add_left_comm] using this
def V.ltPB (m:Nat):V->Bool
 | .bp i _=>decide (i<m)
 | .bm _ i _=>decide (i<m)
 | .ms i _ _ _ _=>decide (i<m)
 | .mr i=>decide (i<m)
 | .yl i=>decide (i<m)
 |_=>true
theorem V.ltPB_ok {m:Nat} {v:V} (h:v.ltPB m=true):v.ltP m:=by cases v<;>simp only[V.ltP]<;>simpa[V.ltPB] using h
def V.ltB (m:Nat):V->Bool
 | .bp i _=>decide (i<m)
 | .bm _ i _=>decide (i<m)
 | .ms i _ _ _ _=>decide (i<m)
 | .clo _ fs cs=>fs.all (V.ltPB m)&&cs.all (V.ltPB m)
 | .mag vs=>vs.all (V.ltPB m)
 | .mr i=>decide (i<m)
 | .it i _ _ _=>decide (i<m)
 | .yl i=>decide (i<m)
 | .lp _ fl=>fl.all λp=>p.2.ltPB m
 |_=>true
theorem V.ltB_ok {m:Nat} {v:V} (h:v.ltB m=true):v.lt m:=by
 cases v<;>simp only[V.lt]<;>simp only[V.ltB] at h
 .simpa using h
 .simp only[aW,aY] at h
  exact⟨λx hx=>V.ltPB_ok (h.1 x hx),λx hx=>V.ltPB_ok (h.2 x hx)⟩
 .simpa using h
 .simp only[aY] at h
  exact λx hx=>V.ltPB_ok (h x hx)
 .simpa using h
 .simpa using h
 .simpa using h
 .simp only[aY] at h
  exact λp hp=>V.ltPB_ok (h p hp)
 .simpa using h
def iV (l:List (Nat×V)) (bl:List (List V)):Bool:=l.all (λp=>p.2.ltB bl.length)&&bl.all λb=>b.all λx=>x.ltB bl.length
theorem Nr {m:Nat}:∀ {l:List (Nat×V)},(∀ p∈l,p.2.lt m)->∀ t,(frs l t).lt m
 |[],_,_=>trivial
 |(i,v)::r,h,t=>by
  by_cases ht:t=i
  .subst ht;simp only[frs,cg];exact h _ (bJ ..)
  .simp only[frs,cP _ _ ht];exact Nr (λp hp=>h p (aT _ hp)) t
def hdS (l:List (Nat×V)) (bl:List (List V)):S:=⟨frs l,bxs bl,bl.length⟩
theorem cm {l:List (Nat×V)} {bl:List (List V)} {k:Nat} (eH:iV l bl=true) (hk:k<=bl.length) (hn:bl.length<=nb) (h1:FL l fr) (h2:BL 0 bl bx):S.Le k (hdS l bl) ⟨fr,bx,nb⟩:=by
 simp only[iV,aW,aY] at eH;refine⟨hk,h1.le,hn,λi hi=>?_,λt=>Nr (λp hp=>V.ltB_ok (eH.1 p hp)) t,λi hi x hx=>?_⟩
 .have:=h2.get i hi;simpa[hdS,bxs] using this
 .simp only[hdS] at hi hx
  have:bxs bl i∈bl:=by simp only[bxs,List.getD,ai hi,cV];exact bR hi
  exact V.ltB_ok (eH.2 _ this x hx)
def FZL (s:S) (m:Nat):List (Nat×V)->(Nat->V)->Prop
 |[],_=>True
 |(i,v)::r,f=>(f i=v∨FzV s m v (f i))/\FZL s m r f
def LZ (s:S) (m:Nat):List V->List V->Prop
 |[],[]=>True
 |x::xs,y::ys=>(x=y∨FzV s m x y)/\LZ s m xs ys
 |_,_=>False
def BZL (s:S) (m:Nat):Nat->List (List V)->(Nat->List V)->Prop
 |_,[],_=>True
 |i,b::r,f=>LZ s m b (f i)/\BZL s m (i+1) r f
theorem LZ.ok {s:S} {m:Nat}:∀ {xs ys:List V},LZ s m xs ys->xs.length=ys.length/\∀ j,xs.getD j .un=ys.getD j .un∨FzV s m (xs.getD j .un) (ys.getD j .un)
 |[],[],_=>⟨rfl,λ_=>.inl rfl⟩
 |x::xs,y::ys,h=>by
  obtain⟨h1,h2⟩:=LZ.ok h.2;refine⟨by simp[h1],λj=>?_⟩;cases j with
  |zero=>simpa using h.1
  |succ j=>simpa using h2 j
 |[],_::_,h=>h.elim
 |_::_,[],h=>h.elim
theorem BZL.get {s:S} {m:Nat}:∀ {bl:List (List V)} {k:Nat} {f:Nat->List V},BZL s m k bl f->∀ i,i<bl.length->LZ s m (bl.getD i []) (f (k+i))
 |[],_,_,_,i,hi=>by simp at hi
 |b::r,k,f,h,i,hi=>by
  cases i with
  |zero=>simpa using h.1
  |succ i=>have:=h.2.get i (by simpa using hi);simpa[dM,Nat.add_comm,Nat.add_left_comm] using this
theorem FZL.ok {s:S} {m:Nat}:∀ {l:List (Nat×V)} {f:Nat->V},FZL s m l f->∀ t,frs l t=.un∨frs l t=f t∨FzV s m (frs l t) (f t)
 |[],_,_,_=>.inl rfl
 |(i,v)::r,f,h,t=>by
  by_cases ht:t=i
  .subst ht
   simp only[frs,cg];rcases h.1 with e | e
   .exact .inr (.inl e.symm)
   .exact .inr (.inr e)
  .simp only[frs,cP _ _ ht];exact h.2.ok t
theorem Cf {k:Nat} {α:Type} {hd:α->S} {m:α->Nat} {Inv:α->Prop} {body:(VE->S->Prop)->S->Prop}
 (hb:∀ x,Inv x->∀ R:VE->S->Prop,(∀ y s',Inv y->m y<m x->S.Le k (hd y) s'->R .normal s')->(∀ i s',Q (.exit i) s'->R (.exit i) s')->(∀ s',Q .ret s'->R .ret s')->body R (hd x)) :
 ∀ n x s,Inv x->m x<n->S.Le k (hd x) s->A4 k body Q n s
 |0,_,_,_,h,_=>absurd h (gf _)
 |n+1,x,s,hx,hm,ko=>⟨hd x,.inr ko,hb x hx _ (λy s' hy bE anC=>Cf hb n y s' hy (by omega) anC) (λ_ _ h=>h) (λ_ h=>h)⟩
theorem bw {α:Type} (hd:α->S) (m:α->Nat) (Inv:α->Prop) {body:Code} (x:α) (hx:Inv x) (ko:S.Le (k0) (hd x) ⟨fr,bx,nb⟩)
 (hb:∀ x,Inv x->∀ R:VE->S->Prop,(∀ y s',Inv y->m y<m x->S.Le (k0) (hd y) s'->R .normal s')->(∀ i s',Q (.exit i) s'->R (.exit i) s')->(∀ s',Q .ret s'->R .ret s')->hZ P G tr k0 body R (hd x)) :
 hZ P G tr k0 (.loop body) Q ⟨fr,bx,nb⟩:=
 ⟨m x+1,Cf hb _ x _ hx (ck _) ko⟩
theorem aa6 {b:Bool}:vun .not (.c (.lit (.bool b))) KV=KV (.c (.lit (.bool (!b)))):=rfl
theorem fN {T e:TypeId} {i:TI} {es:List (List C)} (hT:ti P T=some i) (hk:i.kd=.slice e):iR P T (.c (.sl es)) KV=KV (.c (.lit (.int .i64 es.length))):=by obtain⟨kd,a,b,c,d,f,g⟩:=i;subst hk;simp only[iR,hT]
theorem Ho {T e:TypeId} {i:TI} {b o l c z:Nat} (hT:ti P T=some i) (hk:i.kd=.slice e):iR P T (.ms b o l c z) KV=KV (.c (.lit (.int .i64 l))):=by obtain⟨kd,a,b,c,d,f,g⟩:=i;subst hk;simp only[iR,hT]
theorem Wh {T:TypeId} {i:TI} {b:ByteArray} (hT:ti P T=some i) (hk:i.kd=.str):iR P T (.c (.lit (.string b))) KV=KV (.c (.lit (.int .i64 b.size))):=by obtain⟨kd,a,b,c,d,f,g⟩:=i;subst hk;simp only[iR,hT]
theorem Hq {t:TypeId} {x:V}:e9 P .len [t] [x] KV=iR P t x KV:=rfl
theorem Hr {t u:TypeId} {x y:V}:e9 P .append [t,u] [x,y] KV=if t=u then dR P t x y.fz KV else qA P t u x y.fz KV:=rfl
theorem Wj {T e:TypeId} {i j:TI} {b off len cap sz:Nat} {z:List C} {K2:S->Prop} (hT:ti P T=some i) (hk:i.kd=.slice e) (hE:ti P e=some j) (hs:j.size=sz) (hz:j.zero=some z) (hp:0<sz) (hl:z.length=sz) (hb:b<nb) (hm:cL (bx b)=false)
 (hf:off+len*sz<=(bx b).length) (hK:K2 ⟨fr,up bx b (eP (bx b) off ((List.replicate len z).flatten.map .c)),nb⟩):jv P ⟨fr,bx,nb⟩ K2 [T] [.ms b off len cap sz]:=by
 obtain⟨kd,a,b',c,d,f,g⟩:=i;simp only at hk;subst hk;obtain⟨kd',a',b'',c',d',f',g'⟩:=j;simp only at hs hz;subst hs;subst hz;simp only[jv,hT,hE];exact⟨⟨trivial,hp,hl,hb,hm,hf⟩,hK⟩
theorem dQ {T e:TypeId} {i j:TI} {k:IntKind} {n:Int} {c:List C} {es:List (List C)} (hT:ti P T=some i) (hk:i.kd=.slice e) (hj:ti P e=some j) (hs:j.size≠0) (hn:0<=n)
 (he:es[n.toNat]?=some c) (hc:c.length=j.size) (hK:KV (.c (.rp c 0))):dF P T (.c (.sl es)) (.c (.lit (.int k n))) KV:=by
 obtain⟨kd,a,b,x,d,f,g⟩:=i;simp only at hk;subst hk;simp only[dF,hT,hj,he];exact⟨⟨hn,hs⟩,hc,hK⟩
theorem Wl {T e:TypeId} {i j:TI} {k:IntKind} {n:Int} {b o l c z:Nat} (hT:ti P T=some i) (hk:i.kd=.slice e) (hj:ti P e=some j) (hs:j.size=z) (hz:z≠0) (hn:0<=n) (hl:n<l)
 (hK:KV (.bp b (o+n.toNat*z))):dF P T (.ms b o l c z) (.c (.lit (.int k n))) KV:=by
 obtain⟨kd,a,b,x,d,f,g⟩:=i;simp only at hk;subst hk;simp only[dF,hT,hj];exact⟨⟨hn,hl,hs,hz⟩,hK⟩
theorem afu {T e:TypeId} {i j:TI} {k:IntKind} {n:Int} {m o q:Nat} (hT:ti P T=some i) (hk:i.kd=.arr m e) (hj:ti P e=some j) (hn:0<=n) (hm:n<m)
 (hK:KV (.bp q (o+n.toNat*j.size))):dF P T (.bp q o) (.c (.lit (.int k n))) KV:=by
 obtain⟨kd,a,b,x,d,f,g⟩:=i;simp only at hk;subst hk;simp only[dF,hT,hj];exact⟨⟨hn,hm⟩,hK⟩
theorem RQ {ag:Bool} {sz:Nat} {cs:List C} (ha:ag=true) (h:cs.length=sz):dI ag sz 0 cs KV=KV (.agg cs):=by subst ha;subst h;simp[dI]
theorem tX {T:TypeId} {i:TI} {s:S} {cs:List C} (hT:ti P T=some i) (ha:i.agg=true) (h:cs.length=i.size):dG P T s (.c (.rp cs 0)) KV=KV (.agg cs):=by simp only[dG,hT];exact RQ ha h
theorem o0 {T:TypeId} {i:TI} {f k off sz:Nat} {ag:Bool} {cs:List C} (hT:ti P T=some i) (hf:i.flds[f]?=some (off,sz,ag)) (hs:sz≠0):bq P T (.c (.rp cs k)) f KV=KV (.c (.rp cs (k+off))):=by simp only[bq,hT,hf];simp[hs]
theorem ia {T:TypeId} {i:TI} {f k off sz b:Nat} {ag:Bool} (hT:ti P T=some i) (hf:i.flds[f]?=some (off,sz,ag)) (hs:sz≠0):bq P T (.bp b k) f KV=KV (.bp b (k+off)):=by simp only[bq,hT,hf];simp[hs]
theorem xM {T:TypeId} {i:TI} {s:S} {cs:List C} {o:Nat} (hT:ti P T=some i) (ha:i.agg=false) (hs:i.size=1):dG P T s (.c (.rp cs o)) KV=dI false 1 o cs KV:=by simp only[dG,hT,ha,hs]
theorem aa7 {sz:Nat} {c:C} {cs:List C}:dI false sz 0 (c::cs) KV=KV (.c c):=rfl
def ldA (nb b:Nat) (l:List V) (o n:Nat) (K:V->Prop):Prop:=b<nb/\((((l.drop o).take n).length=n/\((l.drop o).take n).all V.isPO=true)/\K (Bq (((l.drop o).take n).map V.fz)))
def Wm (a:C):V->V
 | .agg cs=>.agg (a::cs)
 | .mag vs=>.mag (.c a::vs)
 |x=>x
theorem Wn:Bq []=.agg []:=rfl
theorem Wp {a:C} {r:List V}:Bq (.c a::r)=Wm a (Bq r):=by unfold Bq;simp only[gb];cases h:r.mapM V.asC<;>simp[V.asC,Wm]
theorem RR {a:C} {cs:List C}:Wm a (.agg cs)=.agg (a::cs):=rfl
theorem Wq {b o n:Nat} {v:V} {l:List V}:ldA nb b (v::l) o n KV=(b<nb/\(((((v::l).drop o).take n).length=n/\(((v::l).drop o).take n).all V.isPO=true)/\KV (Bq ((((v::l).drop o).take n).map V.fz)))):=rfl
theorem aa8 {i o:Nat}:(V.bp i o).isPR=true:=rfl
theorem afv {x:C}:(V.c x).isPO=true:=rfl
theorem aa9 {E:Option (TypeId×Nat)} {es:List (List C)}:(V.ow E es).isPO=true:=rfl
def ldB (nb b:Nat) (l:List V) (o:Nat) (K:V->Prop):Prop:=b<nb/\match l[o]? with
 |some v=>K v.ldv
 |none=>False
theorem wB {T:TypeId} {i:TI} {b o n:Nat} (hT:ti P T=some i) (ha:i.agg=true) (hs:i.size=n):dG P T ⟨fr,bx,nb⟩ (.bp b o) KV=(cL (bx b)=false/\ldA nb b (bx b) o n KV):=by subst hs;simp only[dG,hT,ha,cZ,ldA];exact propext ⟨λ⟨⟨a,b⟩,c⟩=>⟨b,a,c⟩,λ⟨b,a,c⟩=>⟨⟨a,b⟩,c⟩⟩
theorem j9 {T:TypeId} {i:TI} {b o:Nat} (hT:ti P T=some i) (ha:i.agg=false):dG P T ⟨fr,bx,nb⟩ (.bp b o) KV=(cL (bx b)=false/\ldB nb b (bx b) o KV):=by simp only[dG,hT,ha,ldB];exact propext ⟨λ⟨⟨a,b⟩,c⟩=>⟨b,a,c⟩,λ⟨b,a,c⟩=>⟨⟨a,b⟩,c⟩⟩
theorem aju {b:Nat} {v:V} {l:List V}:ldB nb b (v::l) 0 KV=(b<nb/\KV v.ldv):=rfl
theorem ajv {b o:Nat} {v:V} {l:List V}:ldB nb b (v::l) (o+1) KV=ldB nb b l o KV:=by simp[ldB]
theorem aba {b o:Nat} {cs:List C}:ldB nb b (cs.map V.c) o KV=(b<nb/\dI false 1 o cs KV):=by simp only[ldB,dI,bj,aM,df];cases cs[o]?<;>rfl
theorem RS {i:TI} {ks:List EK} {xs ys:List C} {r:Bool} (he:i.eqs=some ks) (ha:i.agg=true) (h:iG ks xs ys=some r) (h1:xs.length=ks.length) (h2:ys.length=ks.length):JJ (some i) .eql xs ys KV=KV (.c (.lit (.bool r))):=by obtain⟨kd,a,b,c,d,f,g⟩:=i;simp only at he ha;subst he;subst ha;simp[JJ,h,h1,h2]
theorem RU {i:TI} {ks:List EK} {xs ys:List C} {r:Bool} (he:i.eqs=some ks) (ha:i.agg=true) (h:iG ks xs ys=some r) (h1:xs.length=ks.length) (h2:ys.length=ks.length):JJ (some i) .neq xs ys KV=KV (.c (.lit (.bool (!r)))):=by obtain⟨kd,a,b,c,d,f,g⟩:=i;simp only at he ha;subst he;subst ha;simp[JJ,h,h1,h2]
theorem pS {T:TypeId} {i:TI} {ks:List EK} {xs ys:List C} {r:Bool} (hT:ti P T=some i) (he:i.eqs=some ks) (ha:i.agg=true) (h:iG ks xs ys=some r) (h1:xs.length=ks.length) (h2:ys.length=ks.length) :
 j5 P .eql T (.agg xs) (.agg ys) KV=KV (.c (.lit (.bool r))):=by rw[JK,hT];exact RS he ha h h1 h2
theorem pT {T:TypeId} {i:TI} {ks:List EK} {xs ys:List C} {r:Bool} (hT:ti P T=some i) (he:i.eqs=some ks) (ha:i.agg=true) (h:iG ks xs ys=some r) (h1:xs.length=ks.length) (h2:ys.length=ks.length) :
 j5 P .neq T (.agg xs) (.agg ys) KV=KV (.c (.lit (.bool (!r)))):=by rw[JK,hT];exact RU he ha h h1 h2
theorem E5 {T:TypeId} {i:TI} {a b:Bool} (hT:ti P T=some i) (hk:i.kd=.bool):j5 P .eql T (.c (.lit (.bool a))) (.c (.lit (.bool b))) KV=KV (.c (.lit (.bool (a==b)))):=by obtain⟨kd,a,b,c,d,f,g⟩:=i;simp only at hk;subst hk;rw[E4,hT];rfl
theorem E6 {T:TypeId} {i:TI} {a b:Bool} (hT:ti P T=some i) (hk:i.kd=.bool):j5 P .neq T (.c (.lit (.bool a))) (.c (.lit (.bool b))) KV=KV (.c (.lit (.bool (!(a==b))))):=by obtain⟨kd,a,b,c,d,f,g⟩:=i;simp only at hk;subst hk;rw[E4,hT];rfl
theorem Ws {a b:ByteArray}:ID .eql a b KV=KV (.c (.lit (.bool (decide (a=b))))):=rfl
theorem Ns {T:TypeId} {i:TI} {k:IntKind} {n:Int} {st:ByteArray} {b:UInt8} (hT:ti P T=some i) (hk:i.kd=.str) (hn:0<=n) (hb:st.data[n.toNat]?=some b) :
 mI P T (.c (.lit (.string st))) (.c (.lit (.int k n))) KV=KV (.c (.lit (.int .u8 b.toNat))):=by
 obtain⟨kd,a,b,c,d,f,g⟩:=i;simp only at hk;subst hk;simp only[mI,hT,hn,hb,iM]
theorem Ci:∀ cs:List C,Bq (cs.map V.c)=.agg cs
 |[]=>rfl
 |c::cs=>by rw[bA,Wp,Ci cs];rfl
theorem abb {b n:Nat} {cs:List C} (h:cs.length=n):ldA nb b (cs.map V.c) 0 n KV=(b<nb/\KV (.agg cs)):=by
 have h1:(cs.map V.c).take n=cs.map V.c:=dY (by simp[h]);have h2:(cs.map V.c).map V.fz=cs.map V.c:=by simp[eW,j3,V.fz]
 have h3:(cs.map V.c).all V.isPO=true:=by simp[List.all_map,j3,V.isPO]
 simp only[ldA,ct,h1,h2,h3,Ci,au,h,iM]
theorem afw {t:Option Tmp} {d:Nat} {x:C} (h:∀ u,t=some u->(fr u).isOw=false):y4 t d (.c x) ⟨fr,bx,nb⟩ K=K ⟨up fr d (.bp nb 0),up bx nb [.c x],nb+1⟩:=by
 cases t with
 |none=>rfl
 |some u=>simp[y4,V.bcells,jx,h u rfl,S.put]
theorem ajw {t:Tmp} {d:Nat} {x:C} (h:fr t=.c x):y4 (some t) d (.c x) ⟨fr,bx,nb⟩ K=K ⟨up fr d (.bp nb 0),up bx nb [.c x],nb+1⟩:=afw (λu hu=>by cases hu;rw[h];rfl)
theorem abc {t:Tmp} {d:Nat} {cs:List C} (h:fr t=.agg cs):y4 (some t) d (.agg cs) ⟨fr,bx,nb⟩ K=K ⟨up fr d (.bp nb 0),up bx nb (cs.map .c),nb+1⟩:=by simp[y4,V.bcells,jx,h,S.put,V.isOw]
theorem afx {t:Tmp} {d:Nat} {i o:Nat} (h:fr t=.bp i o):y4 (some t) d (.bp i o) ⟨fr,bx,nb⟩ K=K ⟨up fr d (.bp nb 0),up bx nb [.bp i o],nb+1⟩:=by simp[y4,V.bcells,jx,h,S.put,V.isOw]
theorem Pn {t:Tmp} {d:Nat} {vs:List V} (h:fr t=.mag vs):y4 (some t) d (.mag vs) ⟨fr,bx,nb⟩ K=K ⟨up fr d (.bp nb 0),up bx nb vs,nb+1⟩:=by simp[y4,V.bcells,jx,h,S.put,V.isOw]
theorem abd {t:Tmp} {d:Nat} {f:Fn} {x y:List V} (h:fr t=.clo f x y):y4 (some t) d (.clo f x y) ⟨fr,bx,nb⟩ K=K ⟨up fr d (.bp nb 0),up bx nb [.clo f x y],nb+1⟩:=by simp[y4,V.bcells,jx,h,S.put,V.isOw]
def stS (n:Nat) (t:Option Tmp) (dO:Option Tmp) (b o:Nat) (v:V) (s:S) (K:S->Prop):Prop:=match v.bcells with
 |some cs=>(b<s.nb/\cs.length=n/\o+n<=(s.bx b).length)/\K ((let s':=s.use t;{ s' with bx:=up s'.bx b (eP (s'.bx b) o cs) }:S).put dO .sk)
 |none=>False
theorem lK {i:TI} {n:Nat} {t dO:Option Tmp} {b o:Nat} {v:V} {s:S} (h:i.size=n):pQ (some i) t dO (.bp b o) v s K=(cL (s.bx b)=false/\stS n t dO b o v s K):=by
 subst h;cases hv:v.bcells<;>simp only[pQ,stS,hv]
 .simp
 .exact propext ⟨λ⟨⟨a,b,c,d⟩,e⟩=>⟨d,⟨a,b,c⟩,e⟩,λ⟨d,⟨a,b,c⟩,e⟩=>⟨⟨a,b,c,d⟩,e⟩⟩
theorem RV {v:V} {l:List V}:cL (v::l)=v.isMk:=rfl
theorem JM:∀ {l:List C},cL (l.map V.c)=false
 |[]=>rfl
 |_::_=>rfl
theorem afy {x:C}:(V.c x).isMk=false:=rfl
theorem abe {i o:Nat}:(V.bp i o).isMk=false:=rfl
theorem abf {i:Nat}:(V.mr i).isMk=false:=rfl
theorem Wu {dO:Option Tmp} {b o:Nat} {x:C}:stS 1 none dO b o (.c x) ⟨fr,bx,nb⟩ K=((b<nb/\o+1<=(bx b).length)/\K ((⟨fr,up bx b (eP (bx b) o [.c x]),nb⟩:S).put dO .sk)):=by simp[stS,V.bcells,VX]
theorem ajx {t:Tmp} {dO:Option Tmp} {b o:Nat} {x:C} (h:fr t=.c x):stS 1 (some t) dO b o (.c x) ⟨fr,bx,nb⟩ K=((b<nb/\o+1<=(bx b).length)/\K ((⟨fr,up bx b (eP (bx b) o [.c x]),nb⟩:S).put dO .sk)):=by simp[stS,V.bcells,jx,h,V.isOw]
theorem afz {t:Tmp} {dO:Option Tmp} {b o:Nat} {E:Option (TypeId×Nat)} {es:List (List C)} (h:fr t=.ow E es):stS 1 (some t) dO b o (.ow E es) ⟨fr,bx,nb⟩ K=
 ((b<nb/\o+1<=(bx b).length)/\K ((⟨up fr t .un,up bx b (eP (bx b) o [.ow E es]),nb⟩:S).put dO .sk)):=by
 simp[stS,V.bcells,jx,h,V.isOw]
theorem abg {n:Nat} {t:Tmp} {dO:Option Tmp} {b o:Nat} {cs:List C} (h:fr t=.agg cs):stS n (some t) dO b o (.agg cs) ⟨fr,bx,nb⟩ K=
 ((b<nb/\cs.length=n/\o+n<=(bx b).length)/\K ((⟨fr,up bx b (eP (bx b) o (cs.map .c)),nb⟩:S).put dO .sk)):=by
 simp[stS,V.bcells,jx,h,V.isOw]
theorem afA {t:Tmp} {dO:Option Tmp} {b o i k:Nat} (h:fr t=.bp i k):stS 1 (some t) dO b o (.bp i k) ⟨fr,bx,nb⟩ K=((b<nb/\o+1<=(bx b).length)/\K ((⟨fr,up bx b (eP (bx b) o [.bp i k]),nb⟩:S).put dO .sk)):=by simp[stS,V.bcells,jx,h,V.isOw]
theorem abh {t:Tmp} {dO:Option Tmp} {b o:Nat} {f:Fn} {x y:List V} (h:fr t=.clo f x y):stS 1 (some t) dO b o (.clo f x y) ⟨fr,bx,nb⟩ K=((b<nb/\o+1<=(bx b).length)/\K ((⟨fr,up bx b (eP (bx b) o [.clo f x y]),nb⟩:S).put dO .sk)):=by simp[stS,V.bcells,jx,h,V.isOw]
theorem abi {n:Nat} {t:Tmp} {dO:Option Tmp} {b o:Nat} {vs:List V} (h:fr t=.mag vs):stS n (some t) dO b o (.mag vs) ⟨fr,bx,nb⟩ K=
 ((b<nb/\vs.length=n/\o+n<=(bx b).length)/\K ((⟨fr,up bx b (eP (bx b) o vs),nb⟩:S).put dO .sk)):=by
 simp[stS,V.bcells,jx,h,V.isOw]
theorem afB {v x:V} {r:List V}:eP (v::r) 0 [x]=x::r:=by simp[eP]
theorem afC {v x:V} {r:List V} {k:Nat}:eP (v::r) (k+1) [x]=v::eP r k [x]:=by simp[eP,Nat.add_right_comm]
def qG {α:Type} (p:α->Bool) (l:List α):Int:=match l.findIdx? p with
 |some i=>i
 |none=>-1
theorem ou {α:Type} {p:α->Bool} {l:List α} {i:Nat} (hi:i<l.length) (hy:p l[i]=true) (gy:∀ j (h:j<l.length),j<i->p l[j]=false):qG p l=i:=by
 have:l.findIdx? p=some i:=by rw[eG];exact⟨hi,hy,λj hj=>by simp[gy j (by omega) hj]⟩
 simp[qG,this]
theorem lL {α:Type} {p:α->Bool} {l:List α} (gy:∀ j (h:j<l.length),j<l.length->p l[j]=false):qG p l=-1:=by
 have:l.findIdx? p=none:=by rw[List.findIdx?_eq_none_iff];intro x hx;obtain⟨j,hj,rfl⟩:=iN.1 hx;exact gy j hj hj
 simp[qG,this]
theorem jT {α:Type} {p:α->Bool} {l:List α}:decide (0<=qG p l)=l.any p:=by
 unfold qG;cases h:l.findIdx? p with
 |some i=>obtain⟨hi,hy,_⟩:=eG.1 h;have:l.any p=true:=eJ.2 ⟨_,bR hi,hy⟩;simp[this]
 |none=>
  have h2:=List.findIdx?_eq_none_iff.1 h;have:l.any p=false:=List.any_eq_false.2 λx hx=>by simp[h2 x hx]
  simp[this]
theorem wrap_i64 (n:Int) (h:-9223372036854775808<=n/\n<=9223372036854775807):IntKind.i64.wrap n=n:=by rw[js];omega
theorem az {s:S} {g:FuncId} {fs cs:List C} {args as:List V} {r:V} (hm:args.mapM (imm s)=some as) (h:FnOK P G g (fs.map .c++as++cs.map .c) r) (hb:args.any V.boxy=true->r.isFlat=true) (hK:KV r) :
 rq P G s (.c (.fn (.func g) fs cs)) args KV:=by
 simp only[rq,hm];exact⟨r,h,hb,hK⟩
end
section
variable {P:Program} {G:Gl} {tr:List Nat} {n:Nat} {I0:Ft} {M:Mx} {w0:World} {I:Ft} {β:Nat->Option Nat} {ob:Loc->Option Nat} {s:S} {a:Act} {w:World}
def obB (ob:Nat->Nat->Option Nat):Loc->Option Nat
 | .t _=>none
 | .b i j=>ob i j
theorem St.initB {ob:Nat->Nat->Option Nat} {vs:Array Value} {args:List V} {b0:List (List V)} {m:Nat} (hI:∀ b o,I b o->b<w.heap.size) (hg:GOK G I w) (hB:BxR (Wr M w) I w β ob b0) (fO:vs.size=args.length)
 (ha:∀ j x,args[j]?=some x->LR (Wr M w) I β w none (vs.getD j undef) x) (hm:m=(vs++Array.replicate (n - vs.size) undef).size) :
 St G m I ⟨M.m,β,[]⟩ w I β (obB ob) ⟨λj=>args.getD j .un,bxs b0,b0.length⟩ { tmps:=vs++Array.replicate (n - vs.size) undef,defers:=[] } w where
 size:=hm.symm
 defers:=rfl
 below:=BelowM.refl _ _
 kept:=λ_ _ _=>rfl
 ilow:=λ_ _ h=>h
 ihigh:=λ_ _ h=>.inl h
 ibnd:=hI
 fr:=λt=>by
  simp only[obB];by_cases ht:t<args.length
  .have e1:args.getD t .un=args[t]:=by simp[List.getD,ht]
   have e2:(vs++Array.replicate (n - vs.size) undef).getD t undef=vs.getD t undef:=(by rw[ak,fe (by omega),<- ak]);rw[e1,e2];exact ha t _ (ai ht)
  .have e1:args.getD t .un=.un:=by simp[List.getD,bG (ec ht)]
   rw[e1];simp only[LR];exact .un _
 bx:=λi hi=>by
  simp only at hi;obtain⟨blk,cur,e1,e2,e3,e4,e5,e7⟩:=hB.bx i _ (ai hi);have e:bxs b0 i=b0[i]:=by simp[bxs,List.getD,hi]
  refine⟨blk,cur,e1,e2,by simp only[e];exact e3,by simp only[e];exact e4,λj=>?_,e7⟩;simp only[e];exact e5 j
 bnone:=λi hi=>hB.bnone i hi
 ext:=λ_ _ h=>h
 bnew:=λ_ _ h=>.inl h
 binj:=hB.binj
 oinj:=λL L' b h h'=>by
  cases L<;>simp only[obB] at h<;>try cases h
  cases L'<;>simp only[obB] at h'<;>try cases h'
  obtain⟨e1,e2⟩:=hB.oinj _ _ _ _ b h h';rw[e1,e2]
 obx:=λL b i h=>by
  cases L<;>simp only[obB] at h<;>try cases h
  exact hB.obx _ _ b i h
 obnd:=λL b h=>by
  cases L<;>simp only[obB] at h<;>try cases h
  exact hB.obnd _ _ b h
 glob:=hg
def xN (P:Program) (k:Nat) (r:V) (b1:List (List V)) (rs:List ResultVar) (e:VE) (s:S):Prop:=
 (match e with | .exit _=>False | _=>True)/\∃ l,S.Le k (hdS l b1) s/\rE P false (hdS l b1) r rs
theorem Po {f:FuncId} {fn:Func} {c:Code} {args:List V} {b0 b1:List (List V)} {r:V} (tr:List Nat) (hm:P.follows .mixedOrders=true) (hf:P.funcs[f]?=some fn) (hb:fn.body=some c)
 (nA:(fn.name== "runtime.NumGoroutine")=false) (hn:args.length<=fn.ntmps) (vJ:cok fn.ntmps tr c=true) (oL:r.compT=true)
 (UP:(∀ x∈args,x.lt b0.length)/\(∀ b∈b0,∀ x∈b,x.lt b0.length)/\b0.length<=b1.length)
 (h:hZ P G tr b0.length c (xN P b0.length r b1 fn.results.toList) ⟨λj=>args.getD j .un,bxs b0,b0.length⟩):FnB P G f args b0 r b1:=by
 refine⟨⟨fn,hf,nA,c,hb⟩,UP,λI M w vs β ob hI hg hB fO ha=>?_⟩;have jK:fn.ntmps=(vs++Array.replicate (fn.ntmps - vs.size) undef).size:=by simp;omega
 have hst:=St.initB (n:=fn.ntmps) hI hg hB fO ha jK;have A0:∀ i b,β i=some b->i<b0.length:=λi b hi=>by
  by_cases h:i<b0.length
  .exact h
  .rw[hB.bnone i (by omega)] at hi;cases hi
 refine pM.1 (callsIn_of_wp_marks (F:=FW none) (n:=0) hf hb trivial (np (l:=none) hm (λi b hi=>A0 i b hi) (.inl rfl) c vJ _ _ (λe s a w' hq dD=>?_) _ _ _ h (.of ⟨_,_,_,hst⟩)));obtain⟨hex,l,ko,c8⟩:=hq;have dD:SX G fn.ntmps tr I ⟨M.m,β,[]⟩ w (hdS l b1) a w':=by obtain⟨I1,M1,w1,rs,tD,lQ,dD⟩:=dD;exact⟨I1,M1,w1,rs,tD,lQ,dD.weaken (by rw[tD.e];exact λi b hi=>A0 i b hi) ko⟩
 have main:LeavesInM (FW none) 0 P fn a.tmps (λe w'=>∃ v' I' β' ob' o',e=.returned v'/\BelowM (GT G) M w w'/\(∀ b o,I b o->I' b o)/\(∀ b o,I' b o->I b o∨(Wr M w b/\b<w'.heap.size))/\
  (∀ b o,I b o->w'.cell? ⟨b,o,none⟩=w.cell? ⟨b,o,none⟩)/\(∀ i,i<b0.length->β' i=β i)/\(∀ i b,b0.length<=i->β' i=some b->Wr M w b)/\BxR (Wr M w) I' w' β' ob' b1/\
  LR (Wr M w) I' β' w' o' v' r/\(∀ b,o'=some b->(b<w'.heap.size/\Wr M w b)/\(∀ i j,ob' i j≠some b)/\∀ i,β' i≠some b)) a.defers .returning w':=by
  refine dD.leaves rfl λw' I' β' ob' cO=>?_;obtain⟨v,o',h1,h2,h3⟩:=wA (P:=P) (fn:=fn) cO oL (Ic:=I') (λ_=>rfl) (λ_ _ h=>h) (λhz=>by cases hz) c8;have w9:∀ i,i<b0.length->β' i=β i:=λi hi=>by obtain⟨blk,_,e1,_⟩:=hB.bx i _ (ai hi);rw[e1];exact cO.ext i blk e1
  refine⟨v,h1,v,I',β',λi j=>if i<b1.length then ob' (.b i j) else none,o',rfl,⟨cO.below.os,cO.below.tape,cO.below.output,cO.below.size,cO.below.block,cO.below.drawn⟩,cO.ilow,λb o Gi=>?_,cO.kept,w9,λi b hi hb=>?_,?_,h2,λb hb=>?_⟩
  .rcases cO.ihigh b o Gi with h4 | h4
   .exact .inl h4
   .exact .inr ⟨h4,cO.ibnd b o Gi⟩
  .rcases cO.bnew i b hb with h4 | h4
   .have:=A0 i b h4;omega
   .exact h4
  .exact {
    bx:=λi cs jf=>by have hi:i<b1.length:=(aj.1 jf).1;obtain⟨blk,cur,e1,e2,e3,e4,e5,e7⟩:=cO.bx i hi;have e:bxs b1 i=cs:=(by simp[bxs,List.getD,jf]);refine⟨blk,cur,e1,e2,by simp only[hdS,e] at e3;exact e3,by simp only[hdS,e] at e4;exact e4,λj=>?_,e7⟩;have:=e5 j;simp only[hdS,e] at this;rw[if_pos hi];exact this
    bnone:=λi hi=>cO.bnone i hi
    binj:=cO.binj
    oinj:=λi j i' j' b h h'=>by
     split at h<;>try cases h
     split at h'<;>try cases h'
     have:=cO.oinj _ _ b h h';simp only[Loc.b.injEq] at this;exact this
    obx:=λi j b k h=>by
     split at h<;>try cases h
     exact cO.obx _ b k h
    obnd:=λi j b h=>by
     split at h<;>try cases h
     exact cO.obnd _ b h
    olen:=λi j hi=>by rw[if_neg (by omega)] }
  .obtain⟨t,ht⟩:=h3 b hb
   refine⟨cO.obnd _ b ht,λi j h=>?_,λi=>cO.obx _ b i ht⟩;simp only at h;split at h<;>try cases h
   have:=cO.oinj _ _ b ht h;cases this
 cases e with
 |normal=>exact main
 |exit i=>exact hex.elim
 |ret=>exact main
theorem abj {f:FuncId} {fn:Func} {c:Code} {args:List V} {b0:List (List V)} {R:V->List (List V)->Prop} (tr:List Nat) (hm:P.follows .mixedOrders=true) (hf:P.funcs[f]?=some fn) (hb:fn.body=some c)
 (nA:(fn.name== "runtime.NumGoroutine")=false) (hn:args.length<=fn.ntmps) (vJ:cok fn.ntmps tr c=true) (oL:∀ r b1,R r b1->r.compT=true)
 (UP:(∀ x∈args,x.lt b0.length)/\(∀ b∈b0,∀ x∈b,x.lt b0.length)/\∀ r b1,R r b1->b0.length<=b1.length)
 (h:hZ P G tr b0.length c (λe s=>∃ r b1,R r b1/\xN P b0.length r b1 fn.results.toList e s) ⟨λj=>args.getD j .un,bxs b0,b0.length⟩):FnE P G f args b0 R:=by
 refine⟨⟨fn,hf,nA,c,hb⟩,UP,λI M w vs β ob hI hg hB fO ha=>?_⟩;have jK:fn.ntmps=(vs++Array.replicate (fn.ntmps - vs.size) undef).size:=by simp;omega
 have hst:=St.initB (n:=fn.ntmps) hI hg hB fO ha jK;have A0:∀ i b,β i=some b->i<b0.length:=λi b hi=>by
  by_cases h:i<b0.length
  .exact h
  .rw[hB.bnone i (by omega)] at hi;cases hi
 refine pM.1 (callsIn_of_wp_marks (F:=FW none) (n:=0) hf hb trivial (np (l:=none) hm (λi b hi=>A0 i b hi) (.inl rfl) c vJ _ _ (λe s a w' hq dD=>?_) _ _ _ h (.of ⟨_,_,_,hst⟩)));obtain⟨r,b1,hR,hex,l,ko,c8⟩:=hq;have dD:SX G fn.ntmps tr I ⟨M.m,β,[]⟩ w (hdS l b1) a w':=by obtain⟨I1,M1,w1,rs,tD,lQ,dD⟩:=dD;exact⟨I1,M1,w1,rs,tD,lQ,dD.weaken (by rw[tD.e];exact λi b hi=>A0 i b hi) ko⟩
 have main:LeavesInM (FW none) 0 P fn a.tmps (λe w'=>∃ r b1,R r b1/\∃ v' I' β' ob' o',e=.returned v'/\BelowM (GT G) M w w'/\(∀ b o,I b o->I' b o)/\(∀ b o,I' b o->I b o∨(Wr M w b/\b<w'.heap.size))/\
  (∀ b o,I b o->w'.cell? ⟨b,o,none⟩=w.cell? ⟨b,o,none⟩)/\(∀ i,i<b0.length->β' i=β i)/\(∀ i b,b0.length<=i->β' i=some b->Wr M w b)/\BxR (Wr M w) I' w' β' ob' b1/\
  LR (Wr M w) I' β' w' o' v' r/\(∀ b,o'=some b->(b<w'.heap.size/\Wr M w b)/\(∀ i j,ob' i j≠some b)/\∀ i,β' i≠some b)) a.defers .returning w':=by
  refine dD.leaves rfl λw' I' β' ob' cO=>?_;obtain⟨v,o',h1,h2,h3⟩:=wA (P:=P) (fn:=fn) cO (oL r b1 hR) (Ic:=I') (λ_=>rfl) (λ_ _ h=>h) (λhz=>by cases hz) c8;have w9:∀ i,i<b0.length->β' i=β i:=λi hi=>by obtain⟨blk,_,e1,_⟩:=hB.bx i _ (ai hi);rw[e1];exact cO.ext i blk e1
  refine⟨v,h1,r,b1,hR,v,I',β',λi j=>if i<b1.length then ob' (.b i j) else none,o',rfl,⟨cO.below.os,cO.below.tape,cO.below.output,cO.below.size,cO.below.block,cO.below.drawn⟩,cO.ilow,λb o Gi=>?_,cO.kept,w9,λi b hi hb=>?_,?_,h2,λb hb=>?_⟩
  .rcases cO.ihigh b o Gi with h4 | h4
   .exact .inl h4
   .exact .inr ⟨h4,cO.ibnd b o Gi⟩
  .rcases cO.bnew i b hb with h4 | h4
   .have:=A0 i b h4;omega
   .exact h4
  .exact {
    bx:=λi cs jf=>by have hi:i<b1.length:=(aj.1 jf).1;obtain⟨blk,cur,e1,e2,e3,e4,e5,e7⟩:=cO.bx i hi;have e:bxs b1 i=cs:=(by simp[bxs,List.getD,jf]);refine⟨blk,cur,e1,e2,by simp only[hdS,e] at e3;exact e3,by simp only[hdS,e] at e4;exact e4,λj=>?_,e7⟩;have:=e5 j;simp only[hdS,e] at this;rw[if_pos hi];exact this
    bnone:=λi hi=>cO.bnone i hi
    binj:=cO.binj
    oinj:=λi j i' j' b h h'=>by
     split at h<;>try cases h
     split at h'<;>try cases h'
     have:=cO.oinj _ _ b h h';simp only[Loc.b.injEq] at this;exact this
    obx:=λi j b k h=>by
     split at h<;>try cases h
     exact cO.obx _ b k h
    obnd:=λi j b h=>by
     split at h<;>try cases h
     exact cO.obnd _ b h
    olen:=λi j hi=>by rw[if_neg (by omega)] }
  .obtain⟨t,ht⟩:=h3 b hb
   refine⟨cO.obnd _ b ht,λi j h=>?_,λi=>cO.obx _ b i ht⟩;simp only at h;split at h<;>try cases h
   have:=cO.oinj _ _ b ht h;cases this
 cases e with
 |normal=>exact main
 |exit i=>exact hex.elim
 |ret=>exact main
end
theorem A9 (x:V):x.renP (λi=>i)=x:=by cases x<;>rfl
theorem Wv (x:V):x.ren (λi=>i)=x:=by
 cases x<;>simp only[V.ren]
 .rw[bT (g:=id) (λx _=>A9 x),bT (g:=id) (λx _=>A9 x)];simp
 .rw[bT (g:=id) (λx _=>A9 x)];simp
 .rw[bT (g:=id) (λp _=>by rw[A9];rfl)];simp
theorem pU (l:List V):l.map (V.ren λi=>i)=l:=by rw[bT (g:=id) (λx _=>Wv x)];simp
theorem jy {α:Type} {f:α->α}:∀ {l:List α},(∀ x∈l,f x=x)->l.map f=l
 |[],_=>rfl
 |x::l,h=>by rw[bA,h x (bJ ..),jy λy hy=>h y (aT _ hy)]
theorem xO {ρ:Nat->Nat} {x:V} (h:x.ltP 0):x.renP ρ=x:=by cases x<;>simp_all[V.renP,V.ltP]
theorem abk {ρ:Nat->Nat} {x:V} (h:x.lt 0):x.ren ρ=x:=by
 cases x<;>simp only[V.ren]<;>simp only[V.lt] at h<;>try omega
 .rw[jy λx hx=>xO (h.1 x hx),jy λx hx=>xO (h.2 x hx)]
 .rw[jy λx hx=>xO (h x hx)]
 .rw[jy λp hp=>by rw[xO (h p hp)]]
theorem y5 (nb:Nat):rho (List.range nb) nb=λi=>i:=by
 funext i;unfold rho;rw[List.length_range];split
 .rename_i h;simp[List.getD,h]
 .omega
theorem abl (nb:Nat):rho [] nb=λi=>nb+i:=by funext i;simp[rho]
theorem tY:∀ (b1:List (List V)) (k:Nat) (f:Nat->List V),fQ (λi=>i) k b1 f=λi=>if k<=i/\i<k+b1.length then b1.getD (i - k) [] else f i
 |[],k,f=>by funext i;simp only[fQ,aG];rw[if_neg (by omega)]
 |b::r,k,f=>by
  funext i;simp only[fQ,tY r,pU,aC,up];by_cases h1:k+1<=i/\i<k+1+r.length
  .rw[if_pos h1,if_pos (by omega)]
   have:i - k=(i - (k+1))+1:=(by omega);rw[this];rfl
  .rw[if_neg h1]
   by_cases h2:i=k
   .subst h2;rw[if_pos rfl,if_pos (by omega)];simp
   .rw[if_neg h2,if_neg (by omega)]
theorem xP:∀ (b0:List (List V)) (k nb:Nat) (f:Nat->List V),(∀ i b,b0[i]?=some b->k+i<nb/\f (k+i)=b)->qV f nb (λi=>i) k b0
 |[],_,_,_,_=>trivial
 |b::r,k,nb,f,h=>by
  refine⟨?_,xP r (k+1) nb f λi c hc=>?_⟩
  .have:=h 0 b rfl
   rw[pU];exact this
  .have:=h (i+1) c (by simpa using hc)
   rw[dM,Nat.add_comm 1 i];exact this
def rF:VE->Bool
 | .exit _=>false
 |_=>true
theorem JO:∀ e:VE,rF e=true->(match e with | .exit _=>False | _=>True)
 | .exit _,h=>by cases h
 | .normal,_=>trivial
 | .ret,_=>trivial
def lC (args:List V) (b0:List (List V)):Bool:=args.all (λv=>v.ltB b0.length)&&b0.all λb=>b.all λv=>v.ltB b0.length
section
variable {P:Program} {G:Gl} {tr:List Nat} {fr:Nat->V} {bx:Nat->List V} {nb:Nat} {K:S->Prop} {KV:V->Prop} {dO:Option Tmp} {T ty:TypeId} {pos:String} {af:Array Edge} {g:Option (Nat×Bool)}
def afD (dO:Option Tmp) (K:S->Prop) (s:S):Prop:=K (s.put dO .sk)
theorem abm:afD dO K ⟨fr,bx,nb⟩=K ((⟨fr,bx,nb⟩:S).put dO .sk):=rfl
def Ww (t:Tmp) (dO:Option Tmp) (s:S) (K:S->Prop) (it:Option V) (v:V):Prop:=K ((match it with | some x=>{ s with fr:=up s.fr t x } | none=>s:S).put dO v)
theorem Nu {t:Tmp} {x v:V}:Ww t dO ⟨fr,bx,nb⟩ K (some x) v=K ((⟨up fr t x,bx,nb⟩:S).put dO v):=rfl
theorem Nv {t:Tmp} {v:V}:Ww t dO ⟨fr,bx,nb⟩ K none v=K ((⟨fr,bx,nb⟩:S).put dO v):=rfl
theorem wC {i:TI} {kt et:TypeId} (hT:ti P T=some i) (hk:i.kd=.map kt et):VStep P G tr ⟨dO,.makeMap T none,ty,pos,af,g⟩ ⟨fr,bx,nb⟩ K=K ((⟨fr,up bx nb [.mk [] 0],nb+1⟩:S).put dO (.mr nb)):=by obtain⟨kd,a,b,c,d,f,e⟩:=i;simp only at hk;subst hk;simp only[VStep,hT]
theorem Ht {m k x:Operand}:VStep P G tr ⟨dO,.mapUpdate T m k x,ty,pos,af,g⟩ ⟨fr,bx,nb⟩ K=iC P T ⟨fr,bx,nb⟩ (ev G ⟨fr,bx,nb⟩ m) (ev G ⟨fr,bx,nb⟩ k) (ev G ⟨fr,bx,nb⟩ x) (afD dO K):=rfl
theorem Ey {m k x:Operand}:VStep P G tr ⟨dO,.entryStore T m k x,ty,pos,af,g⟩ ⟨fr,bx,nb⟩ K=fM ⟨fr,bx,nb⟩ (ev G ⟨fr,bx,nb⟩ m) (ev G ⟨fr,bx,nb⟩ k) (ev G ⟨fr,bx,nb⟩ x) (afD dO K):=rfl
theorem abn {t:Tmp}:VStep P G tr ⟨dO,.next (.tmp t) false,ty,pos,af,g⟩ ⟨fr,bx,nb⟩ K=EH ⟨fr,bx,nb⟩ (fr t) (Ww t dO ⟨fr,bx,nb⟩ K):=rfl
theorem RX {m k:Operand} {ok:Bool}:VStep P G tr ⟨dO,.lookup T m k ok,ty,pos,af,g⟩ ⟨fr,bx,nb⟩ K=fL P T ⟨fr,bx,nb⟩ (ev G ⟨fr,bx,nb⟩ m) (ev G ⟨fr,bx,nb⟩ k) ok (mJ dO ⟨fr,bx,nb⟩ K):=rfl
theorem Wx {x:Operand}:VStep P G tr ⟨dO,.range T x,ty,pos,af,g⟩ ⟨fr,bx,nb⟩ K=oP P T ⟨fr,bx,nb⟩ (ev G ⟨fr,bx,nb⟩ x) (mJ dO ⟨fr,bx,nb⟩ K):=rfl
theorem Wz {x:Operand}:VStep P G tr ⟨dO,.entry x,ty,pos,af,g⟩ ⟨fr,bx,nb⟩ K=oR ⟨fr,bx,nb⟩ (ev G ⟨fr,bx,nb⟩ x) (mJ dO ⟨fr,bx,nb⟩ K):=rfl
theorem ajy {i:Nat}:(V.mr i).fz=.mr i:=rfl
theorem ajz {i:Nat}:(V.yl i).fz=.yl i:=rfl
theorem abo {i:Nat}:(V.mr i).isOw=false:=rfl
theorem afE {x:List C}:(V.agg x).dr=.agg x:=rfl
def ng {α β:Type} (f:α->V) (h:β->V):List (α×β)->List V
 |[]=>[]
 |(a,b)::l=>f a::h b::ng f h l
theorem qH {α β:Type} {f:α->V} {h:β->V}:∀ l m:List (α×β),ng f h (l++m)=ng f h l++ng f h m
 |[],_=>rfl
 |(a,b)::l,m=>by simp[ng,qH l m]
theorem tZ {α β:Type} {ag:Bool} {f:α->V} {h:β->V} {c:α->List C} (hf:∀ a,(f a).kcs ag=some (c a)):∀ l:List (α×β),j6 ag (ng f h l)=some (l.map λp=>c p.1)
 |[]=>rfl
 |(a,b)::l=>by simp[ng,j6,hf,tZ hf l]
theorem rG {α β:Type} {f:α->V} {h:β->V}:∀ (l:List (α×β)) (j:Nat) (p:α×β),l[j]?=some p->(ng f h l).getD (2*j+1) .un=h p.2/\(ng f h l).getD (2*j) .un=f p.1
 |[],j,p,hp=>by simp at hp
 |(a,b)::l,0,p,hp=>by simp at hp;subst hp;exact⟨rfl,rfl⟩
 |(a,b)::l,j+1,p,hp=>by have:=rG (f:=f) (h:=h) l j p (by simpa using hp);rw[show 2*(j+1)=2*j+1+1 by omega];simpa only[ng,fB] using this
theorem xQ {α β:Type} {f:α->V} {h:β->V}:∀ (l:List (α×β)) (j:Nat) (a:α) (b b':β),l[j]?=some (a,b)->(ng f h l).set (2*j+1) (h b')=ng f h (l.set j (a,b'))
 |[],j,a,b,b',hp=>by simp at hp
 |(a,b)::l,0,a',b0,b',hp=>by simp at hp;simp[ng,hp.1]
 |(a,b)::l,j+1,a',b0,b',hp=>by have:=xQ (f:=f) (h:=h) l j a' b0 b' (by simpa using hp);rw[show 2*(j+1)+1=2*j+1+1+1 by omega];simp only[ng,jD,this]
theorem y6 {α:Type} {ks:List EK} {c:α->List C} [DecidableEq α] (hl:∀ a,(c a).length=ks.length) (he:∀ a b,iG ks (c a) (c b)=some (decide (a=b))) (a:α):∀ (l:List α) (i:Nat),
 nG ks (c a) (l.map c) i=some ((l.findIdx? (λb=>decide (a=b))).map (i+·))
 |[],i=>rfl
 |b::l,i=>by
  simp only[bA,nG,hl,cZ,he,List.findIdx?_cons];by_cases h:a=b
  .simp[h]
  .simp only[h,decide_false,aM,df]
   rw[y6 hl he a l (i+1)];cases l.findIdx? (λb=>decide (a=b))<;>simp;omega
end
section
variable {P:Program} {G:Gl} {tr:List Nat} {fr:Nat->V} {bx:Nat->List V} {nb:Nat} {K:S->Prop} {KV:V->Prop} {Q:VE->S->Prop}
theorem Nw (args:List V):frm 0 args=λj=>args.getD j .un:=by have:=JL args;simp only[Ab,S.mk.injEq] at this;exact this.1.symm
theorem WA {b:List V} {r:List (List V)}:bxs (b::r) 0=b:=rfl
theorem WB {b:List V} {r:List (List V)} {n:Nat}:bxs (b::r) (n+1)=bxs r n:=rfl
theorem jM {f:FuncId} {fn:Func} {c:Code} {args:List V} {b0 b1:List (List V)} {r:V} (tr:List Nat) (hm:P.follows .mixedOrders=true) (hf:P.funcs[f]?=some fn) (hb:fn.body=some c) (nA:(fn.name== "runtime.NumGoroutine")=false)
 {rs:List ResultVar} (OV:fn.results.toList=rs) {n:Nat} (hn:fn.ntmps=n) (vJ:cok n tr c=true) (cj:args.length<=n) (oL:r.compT=true) {k:Nat} (hk:UY tr=k) (xd:b0.length=k)
 (dN:lC args b0=true) (ko:b0.length<=b1.length)
 (h:hZ P G tr k c (xN P k r b1 rs) ⟨frm 0 args,bxs b0,k⟩):FnB P G f args b0 r b1:=by
 subst hn;subst OV;subst xd;simp only[lC,aW,aY] at dN;refine Po tr hm hf hb nA cj vJ oL ⟨λx hx=>V.ltB_ok (dN.1 x hx),λb hb x hx=>V.ltB_ok (dN.2 b hb x hx),ko⟩ ?_;rw[Nw] at h;exact h
theorem nK {k:Nat} {r:V} {b1:List (List V)} {rs:List ResultVar} {e:VE} (l:List (Nat×V)) (he:rF e=true) (eH:iV l b1=true) (hk:k<=b1.length) (hn:b1.length<=nb) (h1:FL l fr) (h2:BL 0 b1 bx) (hr:rE P false (hdS l b1) r rs) :
 xN P k r b1 rs e ⟨fr,bx,nb⟩:=⟨JO _ he,l,cm eH hk hn h1 h2,hr⟩
theorem nQ {fr:Nat->V} {bx:Nat->List V} {nb:Nat}:rE P false ⟨fr,bx,nb⟩ (.tup []) []:=⟨[],rfl,rfl,λ_ _ _ h=>by simp at h⟩
theorem gP (m:Nat) (cs:List C):(cs.map V.c).all (λx=>x.ltB m)=true:=by rw[List.all_map,aY];intro x _;rfl
theorem Pq {T:TypeId} {i:TI} {e:TypeId} {es:List (List C)} (hT:ti P T=some i) (hk:i.kd=.slice e) (gY:es≠[]):IE P .eql T (.c (.sl es)) KV=KV (.c (.lit (.bool false))):=by
 obtain⟨kd,a,b,c,d,f,g⟩:=i;subst hk;cases es with
 |nil=>exact absurd rfl gY
 |cons e es=>simp only[IE,hT,EJ]
theorem WC {T:TypeId} {i:TI} {e:TypeId} (hT:ti P T=some i) (hk:i.kd=.slice e):IE P .eql T (.c (.sl [])) KV=(KV (.c (.lit (.bool true)))/\KV (.c (.lit (.bool false)))):=by obtain⟨kd,a,b,c,d,f,g⟩:=i;subst hk;simp only[IE,hT,EJ]
theorem uW {s:S} {f:V} {args all cargs:List V} {g:FuncId} {K:S->V->Prop} {r:V} {b1:List (List V)} (hc:gz f args=some (g,all)) (hf:FnB P G g cargs [] r b1) (eF:all.map V.fz=cargs)
 (hK:K { s with bx:=fQ (λi=>s.nb+i) 0 b1 s.bx,nb:=s.nb+b1.length } (r.ren λi=>s.nb+i)):vcallB P G s f args K:=by
 unfold vcallB kF;simp only[hc];refine⟨[],cargs,[],r,b1,hf,?_,⟨rfl,gG⟩,trivial,?_⟩
 .rw[eF,jy λx hx=>abk (hf.2.1.1 x hx)]
 .rw[abl]
  simpa using hK
theorem uX {s:S} {f:V} {args all cargs:List V} {g:FuncId} {K:S->V->Prop} {r:V} {b0 b1:List (List V)} (hc:gz f args=some (g,all)) (hf:FnB P G g cargs b0 r b1) (eF:all.map V.fz=cargs)
 (hn:b0.length=s.nb) (hb:BL 0 b0 s.bx) (hK:K { s with bx:=λi=>if i<b1.length then b1.getD i [] else s.bx i,nb:=b1.length } r):vcallB P G s f args K:=by
 unfold vcallB kF;simp only[hc];refine⟨List.range s.nb,cargs,b0,r,b1,hf,?_,⟨by simp[hn],kA⟩,?_,?_⟩
 .rw[y5,eF,pU]
 .rw[y5]
  refine xP _ _ _ _ λi b yI=>?_;have hi:=(aj.1 yI).1;have:=hb.get i hi;rw[aF] at this ⊢
  refine⟨by omega,?_⟩;rw[<- this];simp[yI]
 .rw[y5,tY,Wv]
  have ko:=hf.2.1.2.2;have e1:s.nb+(b1.length - b0.length)=b1.length:=by omega
  rw[e1];have e2:(λi=>if 0<=i/\i<0+b1.length then b1.getD (i - 0) [] else s.bx i)=λi=>if i<b1.length then b1.getD i [] else s.bx i:=by funext i;simp
  rw[e2];exact hK
end
section
variable {P:Program} {G:Gl} {tr:List Nat} {fr:Nat->V} {bx:Nat->List V} {nb:Nat} {K:S->Prop} {KV:V->Prop} {Q:VE->S->Prop}
def abp {α:Type} (o:Option α) (K:α->Prop):Prop:=match o with
 |some a=>K a
 |none=>False
def Cj (f:Option (Nat×Nat×Bool)) (ds:List C) (flds:List (Nat×Nat×Bool)) (r:List (Nat×V)) (cs:List C):Option (List C):=match f with
 |some (off,sz,_)=>if ds.length=sz/\off+sz<=cs.length then kT flds r (oZ cs off ds) else none
 |none=>none
def AM (e sz:Nat) (z:List C) (len:Nat) (parts:List (Nat×V)) (K:V->Prop):Prop:=match ml sz parts (List.replicate len z) with
 |some es=>K (.ow (if len=0 then none else some (e,sz)) es)
 |none=>False
theorem sq {T e:TypeId} {i j:TI} {z:List C} {sz len:Nat} {parts:List (Nat×V)} (hT:ti P T=some i) (hk:i.kd=.slice e) (hE:ti P e=some j) (hz:j.zero=some z) (hs:j.size=sz) (hp:0<sz) (hl:z.length=sz) (hn:len*sz<=16777216) :
 cH P T len parts KV=AM e sz z len parts KV:=by
 obtain⟨kd,a,b,c,d,f,g⟩:=i;subst hk;obtain⟨kd',a',b',c',d',f',g'⟩:=j;simp only at hz hs;subst hz;subst hs;simp only[cH,hT,hE,hp,hl,hn,iM];rfl
theorem RY {sz:Nat} {es:List (List C)}:ml sz [] es=some es:=rfl
theorem RZ {sz i:Nat} {ds:List C} {r:List (Nat×V)} {es:List (List C)}:ml sz ((i,.agg ds)::r) es=if ds.length=sz/\i<es.length then ml sz r (es.set i ds) else none:=rfl
theorem abq {sz i:Nat} {x:C} {r:List (Nat×V)} {es:List (List C)}:ml sz ((i,.c x)::r) es=if[x].length=sz/\i<es.length then ml sz r (es.set i [x]) else none:=rfl
theorem abr {e sz len:Nat} {z:List C} {parts:List (Nat×V)}:AM e sz z len parts KV=abp (ml sz parts (List.replicate len z)) (λes=>KV (.ow (if len=0 then none else some (e,sz)) es)):=by unfold AM abp;cases ml sz parts (List.replicate len z)<;>rfl
def vz (flds:List (Nat×Nat×Bool)) (z:List C) (parts:List (Nat×V)) (K:V->Prop):Option (List C)->Prop
 |some cs=>K (.agg cs)
 |none=>abp (lx flds parts (z.map .c)) λvs=>K (.mag vs)
theorem oS {T:TypeId} {i:TI} {z:List C} {flds:List (Nat×Nat×Bool)} {parts:List (Nat×V)} (hT:ti P T=some i) (hk:i.kd=.struct) (hz:i.zero=some z) (hf:i.flds=flds) :
 jt P T parts KV=vz flds z parts KV (kT flds parts z):=by
 obtain⟨kd,a,b,c,d,f,g⟩:=i;simp only at hk hz hf;subst hk;subst hz;subst hf;simp only[jt,hT];unfold vz;cases kT f parts z with
 |some cs=>rfl
 |none=>cases lx f parts (z.map .c)<;>rfl
theorem R7 {z cs:List C} {flds:List (Nat×Nat×Bool)} {parts:List (Nat×V)}:vz flds z parts KV (some cs)=KV (.agg cs):=rfl
theorem R9 {α:Type} {a:α} {K:α->Prop}:abp (some a) K=K a:=rfl
theorem Si {flds:List (Nat×Nat×Bool)} {cs:List C}:kT flds [] cs=some cs:=rfl
theorem abt {flds:List (Nat×Nat×Bool)} {i:Nat} {x:C} {r:List (Nat×V)} {cs:List C}:kT flds ((i,.c x)::r) cs=Cj flds[i]? [x] flds r cs:=by unfold kT Cj;cases flds[i]?<;>rfl
theorem WE {flds:List (Nat×Nat×Bool)} {i:Nat} {E:Option (TypeId×Nat)} {x:List (List C)} {r:List (Nat×V)} {cs:List C}:kT flds ((i,.ow E x)::r) cs=Cj flds[i]? [.sl x] flds r cs:=by unfold kT Cj;cases flds[i]?<;>rfl
theorem Sj {flds:List (Nat×Nat×Bool)} {i:Nat} {ds:List C} {r:List (Nat×V)} {cs:List C}:kT flds ((i,.agg ds)::r) cs=Cj flds[i]? ds flds r cs:=by unfold kT Cj;cases flds[i]?<;>rfl
theorem Nx {off sz:Nat} {ag:Bool} {ds:List C} {flds:List (Nat×Nat×Bool)} {r:List (Nat×V)} {cs:List C}:Cj (some (off,sz,ag)) ds flds r cs=if ds.length=sz/\off+sz<=cs.length then kT flds r (oZ cs off ds) else none:=rfl
theorem Ny {cs ds:List C}:oZ cs 0 ds=ds++cs.drop ds.length:=by simp[oZ]
theorem Nz {c:C} {cs ds:List C} {n:Nat}:oZ (c::cs) (n+1) ds=c::oZ cs n ds:=by simp[oZ,Nat.succ_add]
def wE (f:Option (Nat×Nat×Bool)) (ds:List V) (flds:List (Nat×Nat×Bool)) (r:List (Nat×V)) (cs:List V):Option (List V):=match f with
 |some (off,sz,_)=>if ds.length=sz/\off+sz<=cs.length then lx flds r (AB cs off ds) else none
 |none=>none
def E7 (K:V->Prop):Option (List V)->Prop
 |some vs=>K (.mag vs)
 |none=>False
theorem Hu {T:TypeId} {i:TI} {z:List C} {flds:List (Nat×Nat×Bool)} {parts:List (Nat×V)} (hT:ti P T=some i) (hk:i.kd=.struct) (hz:i.zero=some z) (hf:i.flds=flds) :
 pd P T parts KV=E7 KV (lx flds parts (z.map nI)):=by
 obtain⟨kd,a,b,c,d,f,g⟩:=i;simp only at hk hz hf;subst hk;subst hz;subst hf;simp only[pd,hT];cases lx f parts (z.map nI)<;>rfl
theorem NA {vs:List V}:E7 KV (some vs)=KV (.mag vs):=rfl
theorem Sl {flds:List (Nat×Nat×Bool)} {cs:List V}:lx flds [] cs=some cs:=rfl
theorem abu {flds:List (Nat×Nat×Bool)} {i:Nat} {x:C} {r:List (Nat×V)} {cs:List V}:lx flds ((i,.c x)::r) cs=wE flds[i]? [.c x] flds r cs:=by unfold wE;simp only[lx,V.ps];cases flds[i]?<;>rfl
theorem WG {flds:List (Nat×Nat×Bool)} {i:Nat} {E:Option (TypeId×Nat)} {x:List (List C)} {r:List (Nat×V)} {cs:List V}:lx flds ((i,.ow E x)::r) cs=wE flds[i]? [.c (.sl x)] flds r cs:=by unfold wE;simp only[lx,V.ps];cases flds[i]?<;>rfl
theorem Sm {flds:List (Nat×Nat×Bool)} {i:Nat} {ds:List C} {r:List (Nat×V)} {cs:List V}:lx flds ((i,.agg ds)::r) cs=wE flds[i]? (ds.map .c) flds r cs:=by unfold wE;simp only[lx,V.ps];cases flds[i]?<;>rfl
theorem JP {off sz:Nat} {ag:Bool} {ds:List V} {flds:List (Nat×Nat×Bool)} {r:List (Nat×V)} {cs:List V}:wE (some (off,sz,ag)) ds flds r cs=if ds.length=sz/\off+sz<=cs.length then lx flds r (AB cs off ds) else none:=rfl
theorem Sr {cs ds:List V}:AB cs 0 ds=ds++cs.drop ds.length:=by simp[AB]
theorem Ss {c:V} {cs ds:List V} {n:Nat}:AB (c::cs) (n+1) ds=c::AB cs n ds:=by simp[AB,Nat.succ_add]
theorem Hv {T e:TypeId} {i j:TI} {z:List C} {sz by_:Nat} {E:Option (TypeId×Nat)} {es ys:List (List C)} (hT:ti P T=some i) (hk:i.kd=.slice e) (hE:ti P e=some j) (hz:j.zero=some z) (hs:j.size=sz) (hb:j.bytes=by_) (hp:0<sz) (hl:z.length=sz) :
 dR P T (.ow E es) (.c (.sl ys)) KV=(((E=none∨E=some (e,sz))/\∀ x∈es,x.length=sz)/\((es.length+ys.length)*by_<=140737488355328/\es.length+ys.length<=9223372036854775807/\∀ x∈ys,x.length=sz)/\KV (.ow (if ys.isEmpty then E else some (e,sz)) (es++ys))):=by
 obtain⟨kd,a,b,c,d,f,g⟩:=i;subst hk;obtain⟨kd',a',b',c',d',f',g'⟩:=j;simp only at hz hs hb;subst hz;subst hs;subst hb;simp only[dR,hT,hE,hp,hl,iM]
end
theorem bn {n:Int} {k:Nat} (h:n=(k:Nat)) (hk:k<=9223372036854775807):IntKind.i64.wrap n=(k:Nat):=by subst h;exact wrap_i64 _ (by omega)
section
variable {P:Program} {T e:TypeId} {i j:TI} {K:V->Prop} {blk off len cap k n' sz:Nat} {E:Option (TypeId×Nat)} {es:List (List C)} {s:S}
theorem Ba {a:Option Addr} (hT:ti P T=some i) (hk:i.kd=.slice e) (hK:K (.c (.lit (.int .i64 len)))):iR P T (.c (.ex (.slice a len cap))) K:=by obtain⟨kd,a1,a2,a3,a4,a5,a6⟩:=i;simp only at hk;subst hk;simp only[iR,hT];exact hK
theorem NB {kd:IntKind} {n:Int} (hT:ti P T=some i) (hk:i.kd=.slice e) (hE:ti P e=some j) (hs:j.size=sz) (hz:sz≠0) (hn:n=(k:Nat)) (hl:k<len) (hK:K (.c (.ex (.pointer (some ⟨blk,off+k*sz,none⟩))))) :
 dF P T (.c (.ex (.slice (some ⟨blk,off,none⟩) len cap))) (.c (.lit (.int kd n))) K:=by
 obtain⟨kd',a1,a2,a3,a4,a5,a6⟩:=i;simp only at hk;subst hk;subst hn;subst hs;simp only[dF,hT,hE,cC];exact⟨⟨ay k,by omega,hz⟩,hK⟩
theorem NC {f:Nat} {ag:Bool} (hT:ti P T=some i) (hf:i.flds[f]?=some (off,sz,ag)) (hz:sz≠0) (hK:K (.c (.ex (.pointer (some ⟨blk,k+off,none⟩))))):bq P T (.c (.ex (.pointer (some ⟨blk,k,none⟩)))) f K:=by simp only[bq,hT,hf];exact⟨hz,hK⟩
theorem afF {b o:Nat} {c:C} (hT:ti P T=some i) (kJ:i.agg=false) (hb:b<s.nb) (hm:cL (s.bx b)=false) (hk:(s.bx b)[k]?=some (.hh (some (.slice (some ⟨blk,0,none⟩) len cap)) E es)) (ho:es.flatten[o]?=some c) (hK:K c.ldc) :
 dG P T s (.c (.ex (.pointer (some ⟨blk,o,none⟩)))) K:=by
 simp only[dG,hT];exact .inl ⟨kJ,b,k,len,cap,E,es,c,⟨hb,hm,hk,ho⟩,hK⟩
theorem abv {b o r:Nat} {x:List C} {c:C} {v:V} {t:Option Tmp} {dO:Option Tmp} {K:S->Prop} (hT:ti P T=some i) (hs:i.size=1) (hb:b<s.nb) (hm:cL (s.bx b)=false)
 (hk:(s.bx b)[k]?=some (.hh (some (.slice (some ⟨blk,0,none⟩) len cap)) E (es++[x]))) (ho:es.flatten.length+r=o) (hr:r<x.length) (hc:v.asC=some c)
 (hK:K ((let s':=s.use t;{ s' with bx:=up s'.bx b ((s'.bx b).set k (.hh (some (.slice (some ⟨blk,0,none⟩) len cap)) E (es++[x.set r c]))) }:S).put dO .sk)):pQ (ti P T) t dO (.c (.ex (.pointer (some ⟨blk,o,none⟩)))) v s K:=by
 simp only[pQ,hT];exact .inl ⟨b,k,len,cap,E,es,r,x,c,⟨hs,hb,hm,hk,⟨ho,hr⟩,hc⟩,hK⟩
theorem afG {G:Gl} {t d y:Nat} {v:Value} {y1:List C} {by_:Nat} {z:List C} (hT:ti P T=some i) (hk:i.kd=.slice e) (hE:ti P e=some j) (hs:j.size=sz) (hb:j.bytes=by_) (hz:j.zero=some z) (hp:0<sz) (tH:z.length=sz) (h1:s.fr t=.c (.ex v)) (h2:s.fr d=.gh v E es)
 (h0:t≠d/\y≠t/\y≠d) (hy:(vw s (s.fr y)).fz=.c (.sl [y1])) (hEE:E=none∨E=some (e,sz)) (px:∀ x∈es,x.length=sz) (Gf:y1.length=sz) (hm:(es.length+1)*by_<=140737488355328) (hm2:es.length+1<=9223372036854775807)
 (hK:K (.hh none (some (e,sz)) (es++[y1]))):vr P G s (some d) [T,T] [.tmp t,.tmp y] K:=by
 obtain⟨kd',a1,a2,a3,a4,a5,a6⟩:=i;simp only at hk;subst hk;obtain⟨b0,b1,b2,b3,b4,b5,b6⟩:=j;simp only at hs hb hz;subst hs;subst hb;subst hz;unfold vr;simp only[h1,h2,ev];refine⟨⟨h0.1,trivial,by simp[h0.2.1],by simp[h0.2.2]⟩,?_⟩;rw[hy];simp only[tI,hT,hE];exact⟨trivial,⟨hp,tH,hEE,px⟩,⟨hm,hm2,Gf⟩,hK⟩
theorem afH {fr:Nat->V} {bx:Nat->List V} {nb:Nat} {t:Tmp} {dO:Option Tmp} {b o:Nat} {g:Option Value} {K:S->Prop} (h:fr t=.hh g E es):stS 1 (some t) dO b o (.hh g E es) ⟨fr,bx,nb⟩ K=
 ((b<nb/\o+1<=(bx b).length)/\K ((⟨up fr t .un,up bx b (eP (bx b) o [.hh g E es]),nb⟩:S).put dO .sk)):=by
 simp[stS,V.bcells,jx,h,V.isOw]
