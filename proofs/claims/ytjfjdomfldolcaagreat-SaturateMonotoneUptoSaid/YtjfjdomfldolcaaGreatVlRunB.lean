/- Values without memory: how the conditions are computed: each law fires at a state that is written out, so that what follows stays as it is until its turn comes. -/
import Derived.Test.YtjfjdomfldolcaaGreatVlFn
set_option linter.all false
namespace Go.Vl
open Go Go.RowKit
section
variable {P:Program} {G:Gl} {tr:List Nat} {fr:Nat→V} {bx:Nat→List V} {nb k0:Nat} {K:S→Prop} {KV:V→Prop} {Q:VE→S→Prop}
def Ra (P:Program) (G:Gl) (tr:List Nat) (ops:Array Oper) (r:List Oper) (K:S→Prop) (s:S):Prop:=im P G tr ops r s K
def Xd (P:Program) (G:Gl) (tr:List Nat) (k0:Nat) (b:Code) (Q:VE→S→Prop) (e:VE) (s:S):Prop:=match e with | .normal=>iI P G tr k0 b Q s | e=>Q e s
def Xe (id:Nat) (Q:VE→S→Prop) (e:VE) (s:S):Prop:=match e with | .exit i=>if i=id then Q .normal s else Q (.exit i) s | e=>Q e s
def DV (P:Program) (G:Gl) (tr:List Nat) (k0:Nat) (v:V) (c:Operand) (x y:Code) (Q:VE→S→Prop) (s:S):Prop:=match v with
 | .c (.lit (.bool p))=>(p=true→iI P G tr k0 x Q (refine s c true))∧(p=false→iI P G tr k0 y Q (refine s c false))
 |_=>False
def vgd (P:Program) (G:Gl) (tr:List Nat) (ops:Array Oper) (o:Oper) (r:List Oper) (K:S→Prop) (d:Option Tmp) (v:V) (want:Bool) (s:S):Prop:=match d with
 |some d=>match v with
  | .c (.lit (.bool p))=>(p=want→VStep P G tr o { s with fr:=up s.fr d (.c (.lit (.bool want))) } (Ra P G tr ops r K))∧
   (p=(!want)→im P G tr ops r (({ s with fr:=up s.fr d (.c (.lit (.bool (!want)))) }:S).put o.dst .sk) K)
  | .sk=>im P G tr ops r (s.put o.dst .sk) K
  |_=>False
 |none=>False
def Rb (s:S):Option Tmp→V
 |some d=>s.fr d
 |none=>.un
def fzK (P:Program) (G:Gl) (tr:List Nat) (k0:Nat) (id:Nat) (ops:Array Oper) (Q:VE→S→Prop) (s:S):Prop:=∃ s',S.Fz (k0) s' s∧vtw P G tr id ops s' (Q .normal)
def ahh (P:Program) (G:Gl) (tr:List Nat) (ops:Array Oper) (K:S→Prop) (s:S):Prop:=im P G tr ops ops.toList s K
theorem Xf {ops:Array Oper}:ahh P G tr ops K ⟨fr,bx,nb⟩=im P G tr ops ops.toList ⟨fr,bx,nb⟩ K:=rfl
theorem Xg {i:Nat}:GM tr i=tr.contains (2300000+i):=rfl
theorem Rc {i:Nat}:GM [] i=false:=rfl
theorem lV {i:Nat} {ops:Array Oper} {s:S} (b k q:Nat) {E:Option (TypeId×Nat)} {es:List (List C)} (hi:GM tr i=true) (hb:b<s.nb) (hk:(s.bx b)[k]?=some (.ow E es)) (hq:(ops.toList.any fun o=>o.dst==some q)=true) (h:∀ v,K (s.split b k q v E es)):spl tr i ops s K:=by
 unfold spl
 rw[if_pos hi]
 exact .inl ⟨b,k,q,E,es,⟨hb,hk,hq⟩,h⟩
theorem BD {i:Nat} {ops:Array Oper} {s:S} (b k:Nat) {g:Option Value} {E:Option (TypeId×Nat)} {es:List (List C)} (hi:GM tr i=true) (hb:b<s.nb) (hk:(s.bx b)[k]?=some (.hh g E es)) (h:K (s.cool b k E es)):spl tr i ops s K:=by
 unfold spl
 rw[if_pos hi]
 exact .inr (.inl ⟨b,k,g,E,es,⟨hb,hk⟩,h⟩)
theorem Re {i:Nat} {ops:Array Oper} {s:S} (b k:Nat) {g:Option Value} {E:Option (TypeId×Nat)} {es:List (List C)} (hi:GM tr i=true) (hb:b<s.nb) (hk:(s.bx b)[k]?=some (.hh g E es)) (hm:cy (s.bx b)=false)
 (h:∀ blk cap,K (s.name b k (.slice (some ⟨blk,0,none⟩) es.length cap) E es)):spl tr i ops s K:=by
 unfold spl
 rw[if_pos hi]
 exact .inr (.inr (.inl ⟨b,k,g,E,es,⟨hb,hk,hm⟩,h⟩))
theorem rk {i:Nat} {ops:Array Oper} {s:S} (hi:GM tr i=true) (h:GsK ops K s):spl tr i ops s K:=by
 unfold spl
 rw[if_pos hi]
 exact .inr (.inr (.inr h))
theorem Ky {i:Nat} {ops:Array Oper} {d:Bool}:iI P G tr k0 (.region i ops d) Q ⟨fr,bx,nb⟩=if J7 tr i then vpa P G tr i ops (Q .normal) ⟨fr,bx,nb⟩ else if QD tr i then fzK P G tr k0 i ops Q ⟨fr,bx,nb⟩ else if GM tr i then spl tr i ops ⟨fr,bx,nb⟩ (ahh P G tr ops (Q .normal)) else im P G tr ops ops.toList ⟨fr,bx,nb⟩ (Q .normal):=by
 show(if J7 tr i then _ else if QD tr i then _ else spl tr i ops ⟨fr,bx,nb⟩ _)=_
 congr 1
 congr 1
 unfold spl
 split<;>rfl
theorem Rf {i:Nat}:J7 [] i=false:=rfl
theorem Xh {i:Nat}:J7 tr i=tr.contains (2850000+i):=rfl
theorem Xi {i:Nat}:QD tr i=tr.contains (2600000+i):=rfl
theorem Xj {a b:Code}:iI P G tr k0 (.seq a b) Q ⟨fr,bx,nb⟩=iI P G tr k0 a (Xd P G tr k0 b Q) ⟨fr,bx,nb⟩:=rfl
theorem Ou:iI P G tr k0 .skip Q ⟨fr,bx,nb⟩=Q .normal ⟨fr,bx,nb⟩:=rfl
theorem Xk:iI P G tr k0 .ret Q ⟨fr,bx,nb⟩=Q .ret ⟨fr,bx,nb⟩:=rfl
theorem Rh {i:Nat}:iI P G tr k0 (.exit i) Q ⟨fr,bx,nb⟩=Q (.exit i) ⟨fr,bx,nb⟩:=rfl
theorem Ov {a:Code}:iI P G tr k0 (.scope a) Q ⟨fr,bx,nb⟩=iI P G tr k0 a Q ⟨fr,bx,nb⟩:=rfl
theorem Ow {i:Nat}:iI P G tr k0 (.label i) Q ⟨fr,bx,nb⟩=Q .normal ⟨fr,bx,nb⟩:=rfl
theorem Ox {i:Nat} {a:Code}:iI P G tr k0 (.block i a) Q ⟨fr,bx,nb⟩=iI P G tr k0 a (Xe i Q) ⟨fr,bx,nb⟩:=rfl
theorem Rl {c:Operand} {x y:Code}:iI P G tr k0 (.cond c x y) Q ⟨fr,bx,nb⟩=DV P G tr k0 (ev G ⟨fr,bx,nb⟩ c) c x y Q ⟨fr,bx,nb⟩:=rfl
theorem C9 {c:Operand} {x y:Code}:DV P G tr k0 (.c (.lit (.bool true))) c x y Q ⟨fr,bx,nb⟩=iI P G tr k0 x Q (refine ⟨fr,bx,nb⟩ c true):=by simp[DV]
theorem BE {c:Operand} {x y:Code}:DV P G tr k0 (.c (.lit (.bool false))) c x y Q ⟨fr,bx,nb⟩=iI P G tr k0 y Q (refine ⟨fr,bx,nb⟩ c false):=by simp[DV]
theorem aT {c:Operand} {x y:Code} {p:Bool} {s:S} (h1:p=true→iI P G tr k0 x Q (refine s c true)) (h2:p=false→iI P G tr k0 y Q (refine s c false)) :
 DV P G tr k0 (.c (.lit (.bool p))) c x y Q s:=⟨h1,h2⟩
theorem HC {b:Code} {s:S}:Xd P G tr k0 b Q .normal s=iI P G tr k0 b Q s:=rfl
theorem Rm {b:Code} {s:S}:Xd P G tr k0 b Q .ret s=Q .ret s:=rfl
theorem Oy {b:Code} {s:S} {i:Nat}:Xd P G tr k0 b Q (.exit i) s=Q (.exit i) s:=rfl
theorem HD {id:Nat} {s:S}:Xe id Q .normal s=Q .normal s:=rfl
theorem Rn {id:Nat} {s:S}:Xe id Q .ret s=Q .ret s:=rfl
theorem Oz {id i:Nat} {s:S}:Xe id Q (.exit i) s=if i=id then Q .normal s else Q (.exit i) s:=rfl
theorem Kz {t:Tmp} {p:Bool}:refine ⟨fr,bx,nb⟩ (.tmp t) p=⟨up fr t (.c (.lit (.bool p))),bx,nb⟩:=rfl
theorem Xl {ops:Array Oper}:im P G tr ops [] ⟨fr,bx,nb⟩ K=K ⟨fr,bx,nb⟩:=rfl
theorem ack {ops:Array Oper} {d:Option Tmp} {op:Op} {ty:TypeId} {pos:String} {af:Array Edge} {r:List Oper} :
 im P G tr ops (⟨d,op,ty,pos,af,none⟩::r) ⟨fr,bx,nb⟩ K=VStep P G tr ⟨d,op,ty,pos,af,none⟩ ⟨fr,bx,nb⟩ (Ra P G tr ops r K):=rfl
theorem Xm {ops:Array Oper} {d:Option Tmp} {op:Op} {ty:TypeId} {pos:String} {af:Array Edge} {j:Nat} {w:Bool} {r:List Oper} :
 im P G tr ops (⟨d,op,ty,pos,af,some (j,w)⟩::r) ⟨fr,bx,nb⟩ K=
  vgd P G tr ops ⟨d,op,ty,pos,af,some (j,w)⟩ r K ((ops[j]?).bind (·.dst)) (Rb ⟨fr,bx,nb⟩ ((ops[j]?).bind (·.dst))) w ⟨fr,bx,nb⟩:=by
 simp only[im,nr,vgd]
 cases hd:(ops[j]?).bind (·.dst) with
 |none=>rfl
 |some d=>rfl
theorem Xn {ops:Array Oper} {o:Oper} {r:List Oper} {d:Tmp} {w:Bool}:vgd P G tr ops o r K (some d) (.c (.lit (.bool w))) w ⟨fr,bx,nb⟩=VStep P G tr o ⟨up fr d (.c (.lit (.bool w))),bx,nb⟩ (Ra P G tr ops r K):=by
 simp[vgd]
theorem acm {ops:Array Oper} {o:Oper} {r:List Oper} {d:Tmp}:vgd P G tr ops o r K (some d) (.c (.lit (.bool true))) false ⟨fr,bx,nb⟩=im P G tr ops r ((⟨up fr d (.c (.lit (.bool true))),bx,nb⟩:S).put o.dst .sk) K:=by
 simp[vgd]
theorem acn {ops:Array Oper} {o:Oper} {r:List Oper} {d:Tmp}:vgd P G tr ops o r K (some d) (.c (.lit (.bool false))) true ⟨fr,bx,nb⟩=im P G tr ops r ((⟨up fr d (.c (.lit (.bool false))),bx,nb⟩:S).put o.dst .sk) K:=by
 simp[vgd]
theorem aco {ops:Array Oper} {o:Oper} {r:List Oper} {d:Tmp} {w:Bool}:vgd P G tr ops o r K (some d) .sk w ⟨fr,bx,nb⟩=im P G tr ops r ((⟨fr,bx,nb⟩:S).put o.dst .sk) K:=rfl
theorem fY {ops:Array Oper} {o:Oper} {r:List Oper} {d:Tmp} {w p:Bool} {s:S} (h1:p=w→VStep P G tr o { s with fr:=up s.fr d (.c (.lit (.bool w))) } (Ra P G tr ops r K))
 (h2:p=(!w)→im P G tr ops r (({ s with fr:=up s.fr d (.c (.lit (.bool (!w)))) }:S).put o.dst .sk) K):vgd P G tr ops o r K (some d) (.c (.lit (.bool p))) w s:=⟨h1,h2⟩
theorem HE {d:Tmp}:Rb ⟨fr,bx,nb⟩ (some d)=fr d:=rfl
theorem Xo {ops:Array Oper} {r:List Oper}:Ra P G tr ops r K ⟨fr,bx,nb⟩=im P G tr ops r ⟨fr,bx,nb⟩ K:=rfl
theorem Ro {d:Nat} {v:V}:(⟨fr,bx,nb⟩:S).put (some d) v=⟨up fr d v,bx,nb⟩:=rfl
theorem Rp {v:V}:(⟨fr,bx,nb⟩:S).put none v=⟨fr,bx,nb⟩:=rfl
section
variable {d:Nat} {dO:Option Tmp} {t:Tmp} {ty T:TypeId} {pos:String} {af:Array Edge} {g:Option (Nat×Bool)}
theorem Xp:VStep P G tr ⟨some d,.move (.tmp t),ty,pos,af,g⟩ ⟨fr,bx,nb⟩ K=if tr.contains d then K (((⟨fr,bx,nb⟩:S).use (some t)).put (some d) (fr t)) else K ⟨up fr d (fr t).fz,bx,nb⟩:=by
 simp only[VStep,VYK,Qz,ev]
 split
 ·rename_i h;simp only[S.after,bY,Qz,h,db]
 ·rename_i h;simp only[S.after,bY,Qz,h];rfl
theorem Da {v:Value}:VStep P G tr ⟨some d,.move (.const v),ty,pos,af,g⟩ ⟨fr,bx,nb⟩ K=if tr.contains d then K ⟨up fr d (mI v),bx,nb⟩ else K ⟨up fr d (mI v).fz,bx,nb⟩:=rfl
theorem OA:VStep P G tr ⟨some d,.assign (.tmp t),ty,pos,af,g⟩ ⟨fr,bx,nb⟩ K=K (((⟨fr,bx,nb⟩:S).use (some t)).put (some d) (fr t)):=rfl
theorem Ao {v:Value}:VStep P G tr ⟨some d,.assign (.const v),ty,pos,af,g⟩ ⟨fr,bx,nb⟩ K=K ⟨up fr d (mI v),bx,nb⟩:=rfl
def Rq (c a b:V) (K:V→Prop):Prop:=match c with
 | .c (.lit (.bool p))=>K (if p then a.fz else b.fz)
 |_=>False
def kY (dO:Option Tmp) (s:S) (K:S→Prop) (v:V):Prop:=K (s.put dO v)
theorem Xq {v:V}:kY (some d) ⟨fr,bx,nb⟩ K v=K ⟨up fr d v,bx,nb⟩:=rfl
theorem OC {v:V}:kY none ⟨fr,bx,nb⟩ K v=K ⟨fr,bx,nb⟩:=rfl
theorem Rt {c a b:Operand}:VStep P G tr ⟨dO,.pick c a b,ty,pos,af,g⟩ ⟨fr,bx,nb⟩ K=Rq (ev G ⟨fr,bx,nb⟩ c) (ev G ⟨fr,bx,nb⟩ a) (ev G ⟨fr,bx,nb⟩ b) (kY dO ⟨fr,bx,nb⟩ K):=rfl
theorem KA {a b:V}:Rq (.c (.lit (.bool true))) a b KV=KV a.fz:=rfl
theorem HF {a b:V}:Rq (.c (.lit (.bool false))) a b KV=KV b.fz:=rfl
theorem acp {op:BinOp} {x:Operand} {t:Tmp} {yT:TypeId}:VStep P G tr ⟨dO,.binOp op T x (.tmp t) yT,ty,pos,af,g⟩ ⟨fr,bx,nb⟩ K=lv P op T (ev G ⟨fr,bx,nb⟩ x) (fr t) (kY dO ⟨fr,bx,nb⟩ K):=rfl
theorem Rv {op:BinOp} {x:Operand} {k:IntKind} {m:Int} {yT:TypeId}:VStep P G tr ⟨dO,.binOp op T x (.const (.int k m)) yT,ty,pos,af,g⟩ ⟨fr,bx,nb⟩ K=lv P op T (ev G ⟨fr,bx,nb⟩ x) (.c (.lit (.int k m))) (kY dO ⟨fr,bx,nb⟩ K):=rfl
theorem Rw {op:BinOp} {x:Operand} {b:Bool} {yT:TypeId}:VStep P G tr ⟨dO,.binOp op T x (.const (.bool b)) yT,ty,pos,af,g⟩ ⟨fr,bx,nb⟩ K=lv P op T (ev G ⟨fr,bx,nb⟩ x) (.c (.lit (.bool b))) (kY dO ⟨fr,bx,nb⟩ K):=rfl
theorem Rx {op:BinOp} {x:Operand} {b:ByteArray} {yT:TypeId}:VStep P G tr ⟨dO,.binOp op T x (.const (.string b)) yT,ty,pos,af,g⟩ ⟨fr,bx,nb⟩ K=lv P op T (ev G ⟨fr,bx,nb⟩ x) (.c (.lit (.string b))) (kY dO ⟨fr,bx,nb⟩ K):=rfl
theorem KB {op:BinOp} {x:Operand} {yT:TypeId}:VStep P G tr ⟨dO,.binOp op T x (.const (.slice none 0 0)) yT,ty,pos,af,g⟩ ⟨fr,bx,nb⟩ K=GK P op T (ev G ⟨fr,bx,nb⟩ x) (kY dO ⟨fr,bx,nb⟩ K):=rfl
theorem OD {op:BinOp} {x:Operand} {yT:TypeId}:VStep P G tr ⟨dO,.binOp op T x (.const (.pointer none)) yT,ty,pos,af,g⟩ ⟨fr,bx,nb⟩ K=rF P op T false (ev G ⟨fr,bx,nb⟩ x) (kY dO ⟨fr,bx,nb⟩ K):=rfl
theorem OE {op:BinOp} {x:Operand} {yT:TypeId}:VStep P G tr ⟨dO,.binOp op T x (.const .nilFunc) yT,ty,pos,af,g⟩ ⟨fr,bx,nb⟩ K=rF P op T true (ev G ⟨fr,bx,nb⟩ x) (kY dO ⟨fr,bx,nb⟩ K):=rfl
theorem HG {fn b:Bool} {x:V} (h:Mt fn x=some b) (hT:WM P T fn=true):rF P .eql T fn x KV=KV (.c (.lit (.bool b))):=by simp only[rF,h,hT,jt]
theorem HH {fn b:Bool} {x:V} (h:Mt fn x=some b) (hT:WM P T fn=true):rF P .neq T fn x KV=KV (.c (.lit (.bool (!b)))):=by simp only[rF,h,hT,jt]
theorem ahi {op:UnOp} {x:Operand}:VStep P G tr ⟨dO,.unOp op T x,ty,pos,af,g⟩ ⟨fr,bx,nb⟩ K=vun op (ev G ⟨fr,bx,nb⟩ x) (kY dO ⟨fr,bx,nb⟩ K):=rfl
def zK (dO:Option Tmp) (s:S) (K:S→Prop) (v:V):Prop:=K (s.put dO v)
theorem ahj {v:V}:zK dO ⟨fr,bx,nb⟩ K v=K ((⟨fr,bx,nb⟩:S).put dO v):=rfl
theorem Xr:isZ [] dO=false:=by cases dO<;>rfl
theorem Ry:isZ tr (some d)=tr.contains (2500000+d):=rfl
theorem Rz:isZ tr none=false:=rfl
theorem Xs {x:Operand}:VStep P G tr ⟨dO,.load T x,ty,pos,af,g⟩ ⟨fr,bx,nb⟩ K=
 if isZ tr dO then oJ P T ⟨fr,bx,nb⟩ (ev G ⟨fr,bx,nb⟩ x) (zK dO ⟨fr,bx,nb⟩ K) else oR tr dO (ev G ⟨fr,bx,nb⟩ x)=true∧dh P T ⟨fr,bx,nb⟩ (ev G ⟨fr,bx,nb⟩ x) (kY dO ⟨fr,bx,nb⟩ K):=rfl
theorem OF {t:Option Tmp} {v:V}:oR [] t v=true:=by
 cases t with
 |none=>cases v<;>rfl
 |some t=>
  cases v with
  |c x=>cases x<;>rfl
  |_=>rfl
theorem KC {v:V}:oR tr none v=true:=by cases v<;>rfl
theorem RA {t b k:Nat}:oR tr (some t) (.bp b k)=(!tr.contains (200000+t)||(decide (b<100)&&tr.contains (300000+t*100+b))):=rfl
theorem Xt {t:Nat} {cs:List C} {k:Nat}:oR tr (some t) (.c (.rp cs k))=true:=rfl
theorem RB {t:Nat} {v:Value}:oR tr (some t) (.c (.ex v))=!tr.contains (200000+t):=rfl
theorem acq {t:Tmp}:J5 (.tmp t)=some t:=rfl
theorem FS {x:Operand} {f:Nat}:VStep P G tr ⟨dO,.fieldAddr T x f,ty,pos,af,g⟩ ⟨fr,bx,nb⟩ K=bf P T (ev G ⟨fr,bx,nb⟩ x) f (kY dO ⟨fr,bx,nb⟩ K):=rfl
theorem RE {x:Operand} {f:Nat}:VStep P G tr ⟨dO,.field T x f,ty,pos,af,g⟩ ⟨fr,bx,nb⟩ K=oG P T (ev G ⟨fr,bx,nb⟩ x) f (kY dO ⟨fr,bx,nb⟩ K):=rfl
theorem FT {x i:Operand}:VStep P G tr ⟨dO,.indexAddr T x i,ty,pos,af,g⟩ ⟨fr,bx,nb⟩ K=cE P T (ev G ⟨fr,bx,nb⟩ x).fz (ev G ⟨fr,bx,nb⟩ i) (kY dO ⟨fr,bx,nb⟩ K):=rfl
theorem RF {x i:Operand}:VStep P G tr ⟨dO,.index T x i,ty,pos,af,g⟩ ⟨fr,bx,nb⟩ K=sC P T (ev G ⟨fr,bx,nb⟩ x) (ev G ⟨fr,bx,nb⟩ i) (kY dO ⟨fr,bx,nb⟩ K):=rfl
theorem RG {x:Operand} {lo hi mx:Option Operand}:VStep P G tr ⟨dO,.slice T x lo hi mx,ty,pos,af,g⟩ ⟨fr,bx,nb⟩ K=
 kI P T (ev G ⟨fr,bx,nb⟩ x).fz (lo.map (ev G ⟨fr,bx,nb⟩)) (hi.map (ev G ⟨fr,bx,nb⟩)) (mx.map (ev G ⟨fr,bx,nb⟩)) (kY dO ⟨fr,bx,nb⟩ K):=rfl
theorem KD {x:Operand} {U:TypeId}:VStep P G tr ⟨dO,.convert T U x,ty,pos,af,g⟩ ⟨fr,bx,nb⟩ K=
 if nR tr dO then ET P ⟨fr,bx,nb⟩ dO T U K (ev G ⟨fr,bx,nb⟩ x) else qG P T U (vw ⟨fr,bx,nb⟩ (ev G ⟨fr,bx,nb⟩ x)).fz (kY dO ⟨fr,bx,nb⟩ K):=rfl
theorem acr {x:Operand}:VStep P G tr ⟨dO,.sliceToArrayPointer T x,ty,pos,af,g⟩ ⟨fr,bx,nb⟩ K=GH P T (ev G ⟨fr,bx,nb⟩ x) (kY dO ⟨fr,bx,nb⟩ K):=rfl
def AI (x:V) (K:V→Prop):Prop:=match x with
 | .bp i o=>K (.bp i o)
 | .c (.rp cs k)=>K (.c (.rp cs k))
 | .c (.ex (.pointer (some ad)))=>K (.c (.ex (.pointer (some ad))))
 |_=>False
theorem HI {x:Operand}:VStep P G tr ⟨dO,.nilCheck x,ty,pos,af,g⟩ ⟨fr,bx,nb⟩ K=AI (ev G ⟨fr,bx,nb⟩ x) (kY dO ⟨fr,bx,nb⟩ K):=rfl
theorem OG {i o:Nat}:AI (.bp i o) KV=KV (.bp i o):=rfl
theorem OH {cs:List C} {k:Nat}:AI (.c (.rp cs k)) KV=KV (.c (.rp cs k)):=rfl
theorem RH {parts:Array (Nat×Operand)}:VStep P G tr ⟨dO,.build T parts,ty,pos,af,g⟩ ⟨fr,bx,nb⟩ K=
 if isZ tr dO then kf P T (parts.toList.map fun p=>(p.1,ev G ⟨fr,bx,nb⟩ p.2)) (zK dO ⟨fr,bx,nb⟩ K) else jC P T (parts.toList.map fun p=>(p.1,ev G ⟨fr,bx,nb⟩ p.2)) (kY dO ⟨fr,bx,nb⟩ K):=rfl
theorem Db {len:Nat} {parts:Array (Nat×Operand)}:VStep P G tr ⟨dO,.buildSlice T len parts,ty,pos,af,g⟩ ⟨fr,bx,nb⟩ K=
 if nR tr dO then cR P T len (parts.toList.map fun p=>(p.1,ev G ⟨fr,bx,nb⟩ p.2)) (QA ⟨fr,bx,nb⟩ dO len len K)
 else if J3 tr dO then(xl P T len (parts.toList.map fun p=>(p.1,ev G ⟨fr,bx,nb⟩ p.2)) ⟨fr,bx,nb⟩ dO K∨cR P T len (parts.toList.map fun p=>(p.1,ev G ⟨fr,bx,nb⟩ p.2)) (exK (kY dO ⟨fr,bx,nb⟩ K)))
 else cR P T len (parts.toList.map fun p=>(p.1,ev G ⟨fr,bx,nb⟩ p.2)) (kY dO ⟨fr,bx,nb⟩ K):=rfl
theorem Xu {e:TypeId} {sz n m:Nat} {es:List (List C)}:QA ⟨fr,bx,nb⟩ dO n m K (.ow (some (e,sz)) es)=K ((⟨fr,up bx nb (es.flatten.map .c),nb+1⟩:S).put dO (.ms nb 0 n m sz)):=rfl
theorem OI:nR [] dO=false:=by cases dO<;>rfl
theorem OJ:xi [] dO=false:=rfl
theorem RJ:NW [] dO=false:=rfl
theorem RL:J3 [] dO=false:=by cases dO<;>rfl
theorem OK:J3 tr (some d)=tr.contains (1400000+d):=rfl
theorem OL:J3 tr none=false:=rfl
theorem RN:ER [] dO=false:=rfl
theorem OM:ER tr (some d)=tr.contains (1100000+d):=rfl
theorem ON:ER tr none=tr.contains 1199999:=rfl
theorem ahk {s:S} {t:Tmp}:evX G s (.tmp t)=s.fr t:=rfl
theorem ahl {s:S} {f:FuncId}:evX G s (.func f)=.c (.fn (.func f) [] []):=rfl
theorem Xv {s:S}:evX G s (.const (.slice none 0 0))=.c (.ex (.slice none 0 0)):=rfl
theorem RO:GI [] dO=false:=rfl
theorem OO:GI tr (some d)=tr.contains (1500000+d):=rfl
theorem OP:GI tr none=tr.contains 1599999:=rfl
theorem KE:nR tr (some d)=tr.contains (2000000+d):=rfl
theorem KF:nR tr none=false:=rfl
theorem KG:xi tr (some d)=tr.contains (1000000+d):=rfl
theorem KH:xi tr none=tr.contains 999999:=rfl
theorem OQ {d:Tmp}:NW tr (some d)=tr.contains (1900000+d):=rfl
theorem OR:NW tr none=tr.contains 1999999:=rfl
theorem OS:CP tr (some d)=tr.contains (400000+d):=rfl
theorem OT:CP tr none=tr.contains 399999:=rfl
theorem acs {s:S} {v:V}:lcK tr dO s K ⟨fr,bx,nb⟩ v=(ace tr dO s ⟨fr,bx,nb⟩∧K ((⟨fr,bx,nb⟩:S).put dO v)):=rfl
def mkK (dO:Option Tmp) (s:S) (K:S→Prop) (n m sz:Nat) (z:List C):Prop:=K ({ s with bx:=up s.bx s.nb ((List.replicate m z).flatten.map .c),nb:=s.nb+1 }.put dO (.ms s.nb 0 n m sz))
theorem FU {l c:Operand}:VStep P G tr ⟨dO,.makeSlice T l c,ty,pos,af,g⟩ ⟨fr,bx,nb⟩ K=rE P T (ev G ⟨fr,bx,nb⟩ l) (ev G ⟨fr,bx,nb⟩ c) (mkK dO ⟨fr,bx,nb⟩ K):=rfl
theorem acu {n m sz:Nat} {z:List C}:mkK dO ⟨fr,bx,nb⟩ K n m sz z=K ((⟨fr,up bx nb ((List.replicate m z).flatten.map .c),nb+1⟩:S).put dO (.ms nb 0 n m sz)):=rfl
def Xw (x:V) (i:Nat) (K:V→Prop):Prop:=match x with
 | .tup ds=>match ds[i]? with
  |some d=>K d
  |none=>False
 |_=>False
theorem KI {x:Operand} {i:Nat}:VStep P G tr ⟨dO,.extract x i,ty,pos,af,g⟩ ⟨fr,bx,nb⟩ K=Xw (ev G ⟨fr,bx,nb⟩ x) i (kY dO ⟨fr,bx,nb⟩ K):=rfl
theorem OU {v:V} {ds:List V}:Xw (.tup (v::ds)) 0 KV=KV v:=rfl
theorem RP {v u:V} {ds:List V}:Xw (.tup (v::u::ds)) 1 KV=KV u:=rfl
theorem RQ {v u x:V} {ds:List V}:Xw (.tup (v::u::x::ds)) 2 KV=KV x:=rfl
theorem HJ {f:Fn} {a b:Array Operand}:VStep P G tr ⟨dO,.makeFunc f a b,ty,pos,af,g⟩ ⟨fr,bx,nb⟩ K=
 ((((a.toList.map (ev G ⟨fr,bx,nb⟩)).all V.isPR=true∧(b.toList.map (ev G ⟨fr,bx,nb⟩)).all V.isPR=true))∧kY dO ⟨fr,bx,nb⟩ K (.clo f (a.toList.map (ev G ⟨fr,bx,nb⟩)) (b.toList.map (ev G ⟨fr,bx,nb⟩)))):=rfl
theorem Xx {v:V}:CQ dO K ⟨fr,bx,nb⟩ v=K ((⟨fr,bx,nb⟩:S).put dO v):=rfl
theorem Xy {f:Operand} {args:Array Operand} {ts:Array TypeId}:VStep P G tr ⟨dO,.call ⟨.value f,args,ts⟩,ty,pos,af,g⟩ ⟨fr,bx,nb⟩ K=
 if ER tr dO then we P G ⟨fr,bx,nb⟩ (ev G ⟨fr,bx,nb⟩ f) (args.toList.map (ev G ⟨fr,bx,nb⟩)) (CQ dO K) else
 if GI tr dO then kJ P G ⟨fr,bx,nb⟩ (ev G ⟨fr,bx,nb⟩ f) (args.toList.map (evX G ⟨fr,bx,nb⟩)) (CQ dO K) else
 if xi tr dO then vcallB P G ⟨fr,bx,nb⟩ (ev G ⟨fr,bx,nb⟩ f) (args.toList.map (ev G ⟨fr,bx,nb⟩)) (if CP tr dO then lcK tr dO ⟨fr,bx,nb⟩ K else CQ dO K)
 else if NW tr dO then pB P G ⟨fr,bx,nb⟩ (ev G ⟨fr,bx,nb⟩ f) (args.toList.map (ev G ⟨fr,bx,nb⟩)) (kY dO ⟨fr,bx,nb⟩ K)
 else rD P G ⟨fr,bx,nb⟩ (ev G ⟨fr,bx,nb⟩ f) (args.toList.map (ev G ⟨fr,bx,nb⟩)) (kY dO ⟨fr,bx,nb⟩ K):=rfl
theorem acv {args:Array Operand} {ts:Array TypeId}:VStep P G tr ⟨dO,.call ⟨.builtin .len,args,ts⟩,ty,pos,af,g⟩ ⟨fr,bx,nb⟩ K=
 if J4 tr dO then GL P ⟨fr,bx,nb⟩ (kY dO ⟨fr,bx,nb⟩ K) ts.toList (args.toList.map (ev G ⟨fr,bx,nb⟩)) else eW P .len ts.toList (args.toList.map (ev G ⟨fr,bx,nb⟩)) (kY dO ⟨fr,bx,nb⟩ K):=rfl
theorem RR:J4 [] dO=false:=by cases dO<;>rfl
theorem OV:J4 tr (some d)=tr.contains (1600000+d):=rfl
theorem OW:J4 tr none=false:=rfl
theorem acw {args:Array Operand} {ts:Array TypeId}:VStep P G tr ⟨dO,.call ⟨.builtin .min,args,ts⟩,ty,pos,af,g⟩ ⟨fr,bx,nb⟩ K=
 Ah false (args.toList.map (ev G ⟨fr,bx,nb⟩)) (kY dO ⟨fr,bx,nb⟩ K):=rfl
theorem acx {args:Array Operand} {ts:Array TypeId}:VStep P G tr ⟨dO,.call ⟨.builtin .max,args,ts⟩,ty,pos,af,g⟩ ⟨fr,bx,nb⟩ K=
 Ah true (args.toList.map (ev G ⟨fr,bx,nb⟩)) (kY dO ⟨fr,bx,nb⟩ K):=rfl
def RS (t:Option Tmp) (dO:Option Tmp) (s:S) (K:S→Prop) (v:V):Prop:=K ((s.use t).put dO v)
def RU:List Operand→Option Tmp
 | .tmp t::_=>some t
 |_=>none
theorem OX {args:Array Operand} {T U:TypeId}:VStep P G tr ⟨dO,.call ⟨.builtin .append,args,#[T,U]⟩,ty,pos,af,g⟩ ⟨fr,bx,nb⟩ K=
 if nR tr dO then xj P ⟨fr,bx,nb⟩ dO K [T,U] (args.toList.map fun x=>vw ⟨fr,bx,nb⟩ (ev G ⟨fr,bx,nb⟩ x))
 else if wj tr dO then fF P ⟨fr,bx,nb⟩ (CQ dO K) [T,U] (args.toList.map (ev G ⟨fr,bx,nb⟩))
 else if A2 tr dO then(if wh tr dO then vD P G ⟨fr,bx,nb⟩ dO [T,U] args.toList (RS (RU args.toList) dO ⟨fr,bx,nb⟩ K) else jl P G ⟨fr,bx,nb⟩ dO [T,U] args.toList (RS (RU args.toList) dO ⟨fr,bx,nb⟩ K))
 else eW P .append [T,U] (args.toList.map fun x=>vw ⟨fr,bx,nb⟩ (ev G ⟨fr,bx,nb⟩ x)) (RS (RU args.toList) dO ⟨fr,bx,nb⟩ K):=rfl
theorem cG:A2 tr (some d)=tr.contains (2400000+d):=rfl
theorem OY:wh tr (some d)=tr.contains (2450000+d):=rfl
theorem RV:wh [] dO=false:=by cases dO<;>rfl
theorem KJ:wj [] dO=false:=by cases dO<;>rfl
theorem HK:wj tr (some d)=tr.contains (2700000+d):=rfl
theorem HL:wj tr none=false:=rfl
theorem RX {args:Array Operand} {T:TypeId}:VStep P G tr ⟨dO,.call ⟨.builtin .clear,args,#[T]⟩,ty,pos,af,g⟩ ⟨fr,bx,nb⟩ K=jm P ⟨fr,bx,nb⟩ (fun s'=>K (s'.put dO .un)) [T] (args.toList.map (ev G ⟨fr,bx,nb⟩)):=rfl
theorem Xz {args:Array Operand} {T U:TypeId}:VStep P G tr ⟨dO,.call ⟨.builtin .copy,args,#[T,U]⟩,ty,pos,af,g⟩ ⟨fr,bx,nb⟩ K=nm P ⟨fr,bx,nb⟩ (CQ dO K) [T,U] (args.toList.map (ev G ⟨fr,bx,nb⟩)):=rfl
theorem KL {T:TypeId} {es:List (List C)} {y:V}:xj P ⟨fr,bx,nb⟩ dO K [T,T] [.ow none es,y]=dN P T (.ow none es) y.fz (WL ⟨fr,bx,nb⟩ dO K):=by simp[xj]
theorem XA {e:TypeId} {sz:Nat} {es:List (List C)}:WL ⟨fr,bx,nb⟩ dO K (.ow (some (e,sz)) es)=K ((⟨fr,up bx nb (es.flatten.map .c),nb+1⟩:S).put dO (.ms nb 0 es.length es.length sz)):=rfl
theorem RY {v:V}:RS (some t) (some d) ⟨fr,bx,nb⟩ K v=K (((⟨fr,bx,nb⟩:S).use (some t)).put (some d) v):=rfl
theorem OZ {v:V}:RS none (some d) ⟨fr,bx,nb⟩ K v=K ⟨up fr d v,bx,nb⟩:=rfl
theorem RZ:VStep P G tr ⟨some d,.alloc T,ty,pos,af,g⟩ ⟨fr,bx,nb⟩ K=match ti P T with
 |some { zero:=some z,.. }=>K ⟨up fr d (.bp nb 0),up bx nb (z.map ni),nb+1⟩
 |_=>False:=rfl
def rL (t:Option Tmp) (d:Nat) (v:V) (s:S) (K:S→Prop):Prop:=match v.bcells with
 |some cs=>K ((let s':=s.use t;{ s' with bx:=up s'.bx s'.nb cs,nb:=s'.nb+1 }:S).put (some d) (.bp s.nb 0))
 |none=>False
theorem acy:VStep P G tr ⟨some d,.box T (.tmp t),ty,pos,af,g⟩ ⟨fr,bx,nb⟩ K=rL (some t) d (fr t) ⟨fr,bx,nb⟩ K:=rfl
theorem FV {v:Value}:VStep P G tr ⟨some d,.box T (.const v),ty,pos,af,g⟩ ⟨fr,bx,nb⟩ K=rL none d (mI v) ⟨fr,bx,nb⟩ K:=rfl
def pK (i:Option TI) (t:Option Tmp) (dO:Option Tmp) (p v:V) (s:S) (K:S→Prop):Prop:=match i,p,v.bcells with
 |some i,.bp b k,some cs=>(b<s.nb∧cs.length=i.size∧k+i.size≤(s.bx b).length∧cy (s.bx b)=false)∧
   K ((let s':=s.use t;{ s' with bx:=up s'.bx b (fj (s'.bx b) k cs) }:S).put dO .sk)
 |some i,.c (.ex (.pointer (some ⟨blk,j,none⟩))),_=>(∃ (b k len cap:Nat) (E:Option (TypeId×Nat)) (es:List (List C)) (r:Nat) (e:List C) (c:C),(i.size=1∧b<s.nb∧cy (s.bx b)=false∧(s.bx b)[k]?=some (V.hh (some (.slice (some ⟨blk,0,none⟩) len cap)) E (es++[e]))∧
   (es.flatten.length+r=j∧r<e.length)∧v.asC=some c)∧
   K ((let s':=s.use t;{ s' with bx:=up s'.bx b ((s'.bx b).set k (.hh (some (.slice (some ⟨blk,0,none⟩) len cap)) E (es++[e.set r c]))) }:S).put dO .sk))∨
   acf s.bx s.nb i blk j v (fun bx=>K ((let s':=s.use t;{ s' with bx:=bx }:S).put dO .sk))
 |_,_,_=>False
theorem R3 {p:Operand}:VStep P G tr ⟨dO,.store T p (.tmp t),ty,pos,af,g⟩ ⟨fr,bx,nb⟩ K=(oR tr (J5 p) (ev G ⟨fr,bx,nb⟩ p)=true∧pK (ti P T) (some t) dO (ev G ⟨fr,bx,nb⟩ p) (fr t) ⟨fr,bx,nb⟩ K):=rfl
theorem BF {p:Operand} {v:Value}:VStep P G tr ⟨dO,.store T p (.const v),ty,pos,af,g⟩ ⟨fr,bx,nb⟩ K=(oR tr (J5 p) (ev G ⟨fr,bx,nb⟩ p)=true∧pK (ti P T) none dO (ev G ⟨fr,bx,nb⟩ p) (mI v) ⟨fr,bx,nb⟩ K):=rfl
theorem ic:(⟨fr,bx,nb⟩:S).use (some t)=if(fr t).isOw=true then⟨up fr t .un,bx,nb⟩ else⟨fr,bx,nb⟩:=rfl
theorem HM:(⟨fr,bx,nb⟩:S).use none=⟨fr,bx,nb⟩:=rfl
theorem acz:ev G ⟨fr,bx,nb⟩ (.tmp t)=fr t:=rfl
theorem R4 {v:Value}:ev G ⟨fr,bx,nb⟩ (.const v)=mI v:=rfl
theorem XB {f:FuncId}:ev G ⟨fr,bx,nb⟩ (.func f)=.c (.fn (.func f) [] []):=rfl
theorem KN {k:IntKind} {n:Int}:mI (.int k n)=.c (.lit (.int k n)):=rfl
theorem HN {b:Bool}:mI (.bool b)=.c (.lit (.bool b)):=rfl
theorem Dc {b:ByteArray}:mI (.string b)=.c (.lit (.string b)):=rfl
theorem KO {l:List Value}:mI (.agg l.toArray)=if l.all qF then .agg (l.map constC) else .un:=rfl
theorem HO {k:IntKind} {n:Int}:qF (.int k n)=true:=rfl
theorem FX {b:Bool}:qF (.bool b)=true:=rfl
theorem HQ {b:ByteArray}:qF (.string b)=true:=rfl
theorem HS:qF (.slice none 0 0)=true:=rfl
theorem KP {k:IntKind} {n:Int}:constC (.int k n)=.lit (.int k n):=rfl
theorem HT {b:Bool}:constC (.bool b)=.lit (.bool b):=rfl
theorem KQ {b:ByteArray}:constC (.string b)=.lit (.string b):=rfl
theorem KT:constC (.slice none 0 0)=.sl []:=rfl
theorem KU:mI (.slice none 0 0)=.ow none []:=rfl
theorem aka {s:S} {x:C}:vw s (.c x)=.c x:=rfl
theorem acA {s:S} {E:Option (TypeId×Nat)} {es:List (List C)}:vw s (.ow E es)=.ow E es:=rfl
section
variable {k:IntKind} {a b:Int} {op:BinOp} {T:TypeId} {t:Tmp}
theorem R5:lv P op T (.c (.lit (.int k a))) (.c (.lit (.int k b))) KV=pA op k a b KV:=by
 simp only[lv]
 split<;>rfl
theorem R6 {a b:ByteArray}:lv P op T (.c (.lit (.string a))) (.c (.lit (.string b))) KV=EP op a b KV:=rfl
def acB (i:Option TI) (op:BinOp) (a b:Bool) (K:V→Prop):Prop:=match i with
 |some { kd:=.bool,.. }=>match op with
  | .eql=>K (.c (.lit (.bool (a==b))))
  | .neq=>K (.c (.lit (.bool (!(a==b)))))
  |_=>False
 |_=>False
theorem DW {a b:Bool}:lv P op T (.c (.lit (.bool a))) (.c (.lit (.bool b))) KV=acB (ti P T) op a b KV:=rfl
def HU (i:Option TI) (op:BinOp) (xs ys:List C) (K:V→Prop):Prop:=match i with
 |some { eqs:=some ks,agg:=true,.. }=>match jB ks xs ys with
  |some r=>(xs.length=ks.length∧ys.length=ks.length)∧match op with
   | .eql=>K (.c (.lit (.bool r)))
   | .neq=>K (.c (.lit (.bool (!r))))
   |_=>False
  |none=>False
 |_=>False
theorem HV {xs ys:List C}:lv P op T (.agg xs) (.agg ys) KV=HU (ti P T) op xs ys KV:=rfl
theorem R7:pA .add k a b KV=KV (.c (.lit (.int k (k.wrap (a+b))))):=rfl
theorem R9:pA .sub k a b KV=KV (.c (.lit (.int k (k.wrap (a - b))))):=rfl
theorem Sb:pA .mul k a b KV=KV (.c (.lit (.int k (k.wrap (a*b))))):=rfl
theorem Sc:pA .eql k a b KV=KV (.c (.lit (.bool (decide (a=b))))):=rfl
theorem Se:pA .neq k a b KV=KV (.c (.lit (.bool (!decide (a=b))))):=rfl
theorem Sf:pA .lss k a b KV=KV (.c (.lit (.bool (decide (a<b))))):=rfl
theorem Sg:pA .leq k a b KV=KV (.c (.lit (.bool (decide (a≤b))))):=rfl
theorem Si:pA .gtr k a b KV=KV (.c (.lit (.bool (decide (b<a))))):=rfl
theorem Sj:pA .geq k a b KV=KV (.c (.lit (.bool (decide (b≤a))))):=rfl
theorem ahm {x:C}:(V.c x).ldv=.c x:=rfl
theorem XC {cs:List C}:(V.agg cs).ldv=.agg cs:=rfl
theorem Sk {es:List (List C)}:(V.ow none es).ldv=.ow none es:=rfl
theorem Sl {E:TypeId×Nat} {es:List (List C)}:(V.ow (some E) es).ldv=.c (.sl es):=rfl
theorem acC {i o:Nat}:(V.bp i o).ldv=.bp i o:=rfl
theorem MI {f:Fn} {x y:List V}:(V.clo f x y).ldv=.clo f x y:=rfl
theorem acD {i o l c z:Nat}:(V.ms i o l c z).ldv=.ms i o l c z:=rfl
theorem acE {i:Nat}:(V.mr i).ldv=.mr i:=rfl
theorem acF {i:Nat}:(V.yl i).ldv=.yl i:=rfl
theorem akb {x:C}:(V.c x).fz=.c x:=rfl
theorem acG {cs:List C}:(V.agg cs).fz=.agg cs:=rfl
theorem ahn {E:Option (TypeId×Nat)} {es:List (List C)}:(V.ow E es).fz=.c (.sl es):=rfl
theorem aho {i o:Nat}:(V.bp i o).fz=.bp i o:=rfl
theorem acH {f:Fn} {x y:List V}:(V.clo f x y).fz=.clo f x y:=rfl
theorem ahp {i o l c z:Nat}:(V.ms i o l c z).fz=.ms i o l c z:=rfl
theorem acI {x:List V}:(V.mag x).fz=.mag x:=rfl
theorem XD {i o l c z:Nat}:(V.ms i o l c z).isOw=false:=rfl
theorem Sm {x:List V}:(V.mag x).isOw=false:=rfl
theorem acJ {x:List V}:(V.tup x).fz=.tup x:=rfl
theorem acK {x:C}:(V.c x).isOw=false:=rfl
theorem So {cs:List C}:(V.agg cs).isOw=false:=rfl
theorem XE {E:Option (TypeId×Nat)} {es:List (List C)}:(V.ow E es).isOw=true:=rfl
theorem XG {i o:Nat}:(V.bp i o).isOw=false:=rfl
theorem Sp {f:Fn} {x y:List V}:(V.clo f x y).isOw=false:=rfl
theorem Sq {x:List V}:(V.tup x).isOw=false:=rfl
theorem XH:V.sk.isOw=false:=rfl
def frm:Nat→List V→Nat→V
 |_,[]=>fun _=>.un
 |i,v::r=>up (frm (i+1) r) i v
theorem fS {i:Nat}:frm i []=fun _=>.un:=rfl
theorem fe {i:Nat} {v:V} {r:List V}:frm i (v::r)=up (frm (i+1) r) i v:=rfl
theorem MJ:∀ (l:List V) (i j:Nat),frm i l j=if i≤j then l.getD (j - i) .un else .un
 |[],i,j=>by simp[frm]
 |v::r,i,j=>by
  simp only[frm,ak,MJ r (i+1) j]
  by_cases h:j=i
  ·subst h;simp
  ·rw[if_neg h]
   by_cases h1:i≤j
   ·rw[if_pos h1,if_pos (by omega)]
    have:j - i=(j - (i+1))+1:=by omega
    rw[this];rfl
   ·rw[if_neg h1,if_neg (by omega)]
theorem HW (args:List V):zG args=⟨frm 0 args,fun _=>[],0⟩:=by
 unfold zG
 congr 1
 funext j
 rw[MJ]
 simp
def Sr (P:Program) (z:Bool) (r:V) (rs:List ResultVar) (e:VE) (s:S):Prop:=(match e with | .exit _=>False | _=>True)∧tR P z s r rs
theorem Ss {z:Bool} {r:V} {rs:List ResultVar} {s:S}:Sr P z r rs .ret s=tR P z s r rs:=by simp[Sr]
theorem HY {z:Bool} {r:V} {rs:List ResultVar} {s:S}:Sr P z r rs .normal s=tR P z s r rs:=by simp[Sr]
theorem uw {r:V} {t:Tmp}:tR P false ⟨fr,bx,nb⟩ r [.tmp t]=(fr t=r):=rfl
theorem AK {r:V} {t:Tmp}:tR P true ⟨fr,bx,nb⟩ r [.tmp t]=(imm ⟨fr,bx,nb⟩ (fr t)=some r):=by simp[tR,Kw]
theorem O0 {r:V} {t:Tmp} {T:TypeId}:tR P false ⟨fr,bx,nb⟩ r [.cell t T]=dh P T ⟨fr,bx,nb⟩ (fr t) (fun u=>u=r):=rfl
theorem cL {f:FuncId} {fn:Func} {c:Code} {args:List V} {r:V} (z:Bool) (tr:List Nat) (hm:P.follows .mixedOrders=true) (hf:P.funcs[f]?=some fn) (hb:fn.body=some c) (mY:(fn.name== "runtime.NumGoroutine")=false)
 {rs:List ResultVar} (Mn:fn.results.toList=rs) {n:Nat} (hn:fn.ntmps=n) (vK:cok n tr c=true) (cg:args.length≤n)
 (hr:r.out=true) (oC:r.compT=true)
 (h:iI P G tr (acg tr) c (Sr P z r rs) ⟨frm 0 args,fun _=>[],0⟩):FnOK P G f args r:=by
 subst hn
 subst Mn
 refine Xc z tr hm hf hb mY cg vK hr oC ?_
 rw[HW];exact h
end
end
end
section
variable {P:Program} {G:Gl} {tr:List Nat} {fr:Nat→V} {bx:Nat→List V} {nb k0:Nat} {K:S→Prop} {KV:V→Prop} {Q:VE→S→Prop}
def frs:List (Nat×V)→Nat→V
 |[]=>fun _=>.un
 |(i,v)::r=>up (frs r) i v
theorem XI:frs []=fun _=>.un:=rfl
theorem Su {i:Nat} {v:V} {r:List (Nat×V)}:frs ((i,v)::r)=up (frs r) i v:=rfl
def FL:List (Nat×V)→(Nat→V)→Prop
 |[],_=>True
 |(i,v)::r,f=>f i=v∧FL r f
theorem FL.le:∀ {l:List (Nat×V)} {f:Nat→V},FL l f→ahd (frs l) f
 |[],_,_=>fun _=>.inl rfl
 |(i,v)::r,f,h=>fun t=>by
  by_cases ht:t=i
  ·subst ht;right;simp only[frs,bW];exact h.1.symm
  ·simp only[frs,cY _ _ ht];exact h.2.le t
def bxs (bl:List (List V)):Nat→List V:=fun i=>bl.getD i []
def BL:Nat→List (List V)→(Nat→List V)→Prop
 |_,[],_=>True
 |i,b::r,f=>f i=b∧BL (i+1) r f
theorem BL.get:∀ {bl:List (List V)} {k:Nat} {f:Nat→List V},BL k bl f→∀ i,i<bl.length→bl.getD i []=f (k+i)
 |[],_,_,_,i,hi=>by simp at hi
 |b::r,k,f,h,i,hi=>by
  cases i with
  |zero=>simp[h.1]
  |succ i=>
   have:=h.2.get i (by simpa using hi)
   simpa[dF,lF,Nat.add_left_comm] using this
def V.ltPB (m:Nat):V→Bool
 | .bp i _=>decide (i<m)
 | .bm _ i _=>decide (i<m)
 | .ms i _ _ _ _=>decide (i<m)
 | .mr i=>decide (i<m)
 | .yl i=>decide (i<m)
 |_=>true
theorem V.ltPB_ok {m:Nat} {v:V} (h:v.ltPB m=true):v.ltP m:=by
 cases v<;>simp only[V.ltP]<;>simpa[V.ltPB] using h
def V.ltB (m:Nat):V→Bool
 | .bp i _=>decide (i<m)
 | .bm _ i _=>decide (i<m)
 | .ms i _ _ _ _=>decide (i<m)
 | .clo _ fs cs=>fs.all (V.ltPB m)&&cs.all (V.ltPB m)
 | .mag vs=>vs.all (V.ltPB m)
 | .mr i=>decide (i<m)
 | .it i _ _ _=>decide (i<m)
 | .yl i=>decide (i<m)
 | .lp _ fl=>fl.all fun p=>p.2.ltPB m
 |_=>true
theorem V.ltB_ok {m:Nat} {v:V} (h:v.ltB m=true):v.lt m:=by
 cases v<;>simp only[V.lt]<;>simp only[V.ltB] at h
 ·simpa using h
 ·simp only[aS,ba] at h
  exact⟨fun x hx=>V.ltPB_ok (h.1 x hx),fun x hx=>V.ltPB_ok (h.2 x hx)⟩
 ·simpa using h
 ·simp only[ba] at h
  exact fun x hx=>V.ltPB_ok (h x hx)
 ·simpa using h
 ·simpa using h
 ·simpa using h
 ·simp only[ba] at h
  exact fun p hp=>V.ltPB_ok (h p hp)
 ·simpa using h
def kR (l:List (Nat×V)) (bl:List (List V)):Bool:=l.all (fun p=>p.2.ltB bl.length)&&bl.all fun b=>b.all fun x=>x.ltB bl.length
theorem KX {m:Nat}:∀ {l:List (Nat×V)},(∀ p∈l,p.2.lt m)→∀ t,(frs l t).lt m
 |[],_,_=>trivial
 |(i,v)::r,h,t=>by
  by_cases ht:t=i
  ·subst ht;simp only[frs,bW];exact h _ (a8 ..)
  ·simp only[frs,cY _ _ ht];exact KX (fun p hp=>h p (aD _ hp)) t
def hdS (l:List (Nat×V)) (bl:List (List V)):S:=⟨frs l,bxs bl,bl.length⟩
theorem cD {l:List (Nat×V)} {bl:List (List V)} {k:Nat} (eH:kR l bl=true) (hk:k≤bl.length) (hn:bl.length≤nb) (h1:FL l fr) (h2:BL 0 bl bx):S.Le k (hdS l bl) ⟨fr,bx,nb⟩:=by
 simp only[kR,aS,ba] at eH
 refine⟨hk,h1.le,hn,fun i hi=>?_,fun t=>KX (fun p hp=>V.ltB_ok (eH.1 p hp)) t,fun i hi x hx=>?_⟩
 ·have:=h2.get i hi;simpa[hdS,bxs] using this
 ·simp only[hdS] at hi hx
  have:bxs bl i∈bl:=by
   simp only[bxs,List.getD,ae hi,cx];exact bL hi
  exact V.ltB_ok (eH.2 _ this x hx)
def FZL (s:S) (m:Nat):List (Nat×V)→(Nat→V)→Prop
 |[],_=>True
 |(i,v)::r,f=>(f i=v∨FzV s m v (f i))∧FZL s m r f
def LZ (s:S) (m:Nat):List V→List V→Prop
 |[],[]=>True
 |x::xs,y::ys=>(x=y∨FzV s m x y)∧LZ s m xs ys
 |_,_=>False
def BZL (s:S) (m:Nat):Nat→List (List V)→(Nat→List V)→Prop
 |_,[],_=>True
 |i,b::r,f=>LZ s m b (f i)∧BZL s m (i+1) r f
theorem LZ.ok {s:S} {m:Nat}:∀ {xs ys:List V},LZ s m xs ys→xs.length=ys.length∧∀ j,xs.getD j .un=ys.getD j .un∨FzV s m (xs.getD j .un) (ys.getD j .un)
 |[],[],_=>⟨rfl,fun _=>.inl rfl⟩
 |x::xs,y::ys,h=>by
  obtain⟨h1,h2⟩:=LZ.ok h.2
  refine⟨by simp[h1],fun j=>?_⟩
  cases j with
  |zero=>simpa using h.1
  |succ j=>simpa using h2 j
 |[],_::_,h=>h.elim
 |_::_,[],h=>h.elim
theorem BZL.get {s:S} {m:Nat}:∀ {bl:List (List V)} {k:Nat} {f:Nat→List V},BZL s m k bl f→∀ i,i<bl.length→LZ s m (bl.getD i []) (f (k+i))
 |[],_,_,_,i,hi=>by simp at hi
 |b::r,k,f,h,i,hi=>by
  cases i with
  |zero=>simpa using h.1
  |succ i=>
   have:=h.2.get i (by simpa using hi)
   simpa[dF,lF,Nat.add_left_comm] using this
theorem FZL.ok {s:S} {m:Nat}:∀ {l:List (Nat×V)} {f:Nat→V},FZL s m l f→∀ t,frs l t=.un∨frs l t=f t∨FzV s m (frs l t) (f t)
 |[],_,_,_=>.inl rfl
 |(i,v)::r,f,h,t=>by
  by_cases ht:t=i
  ·subst ht
   simp only[frs,bW]
   rcases h.1 with e | e
   ·exact .inr (.inl e.symm)
   ·exact .inr (.inr e)
  ·simp only[frs,cY _ _ ht];exact h.2.ok t
theorem BG {k:Nat} {α:Type} {hd:α→S} {m:α→Nat} {Inv:α→Prop} {body:(VE→S→Prop)→S→Prop}
 (hb:∀ x,Inv x→∀ R:VE→S→Prop,(∀ y s',Inv y→m y<m x→S.Le k (hd y) s'→R .normal s')→(∀ i s',Q (.exit i) s'→R (.exit i) s')→(∀ s',Q .ret s'→R .ret s')→body R (hd x)) :
 ∀ n x s,Inv x→m x<n→S.Le k (hd x) s→AD k body Q n s
 |0,_,_,_,h,_=>absurd h (fL _)
 |n+1,x,s,hx,hm,jW=>⟨hd x,.inr jW,hb x hx _ (fun y s' hy bK aa4=>BG hb n y s' hy (by omega) aa4) (fun _ _ h=>h) (fun _ h=>h)⟩
theorem bE {α:Type} (hd:α→S) (m:α→Nat) (Inv:α→Prop) {body:Code} (x:α) (hx:Inv x) (jW:S.Le (k0) (hd x) ⟨fr,bx,nb⟩)
 (hb:∀ x,Inv x→∀ R:VE→S→Prop,(∀ y s',Inv y→m y<m x→S.Le (k0) (hd y) s'→R .normal s')→(∀ i s',Q (.exit i) s'→R (.exit i) s')→(∀ s',Q .ret s'→R .ret s')→iI P G tr k0 body R (hd x)) :
 iI P G tr k0 (.loop body) Q ⟨fr,bx,nb⟩:=
 ⟨m x+1,BG hb _ x _ hx (bQ _) jW⟩
theorem XJ {b:Bool}:vun .not (.c (.lit (.bool b))) KV=KV (.c (.lit (.bool (!b)))):=rfl
theorem jw {T e:TypeId} {i:TI} {es:List (List C)} (hT:ti P T=some i) (hk:i.kd=.slice e):hJ P T (.c (.sl es)) KV=KV (.c (.lit (.int .i64 es.length))):=by
 obtain⟨kd,a,b,c,d,f,g⟩:=i;subst hk;simp only[hJ,hT]
theorem pa {T e:TypeId} {i:TI} {E:Option (TypeId×Nat)} {es:List (List C)} (hT:ti P T=some i) (hk:i.kd=.slice e):hJ P T (.ow E es) KV=KV (.c (.lit (.int .i64 es.length))):=by
 obtain⟨kd,a,b,c,d,f,g⟩:=i;subst hk;simp only[hJ,hT]
theorem pb {T e:TypeId} {i:TI} {b o l c z:Nat} (hT:ti P T=some i) (hk:i.kd=.slice e):hJ P T (.ms b o l c z) KV=KV (.c (.lit (.int .i64 l))):=by
 obtain⟨kd,a,b,c,d,f,g⟩:=i;subst hk;simp only[hJ,hT]
theorem FY {t:TypeId} {x:V}:eW P .len [t] [x] KV=hJ P t x KV:=rfl
theorem FZ {t u:TypeId} {x y:V}:eW P .append [t,u] [x,y] KV=if t=u then dN P t x y.fz KV else qH P t u x y.fz KV:=rfl
theorem Sv {T e:TypeId} {i j:TI} {b off len cap sz:Nat} {z:List C} {K2:S→Prop} (hT:ti P T=some i) (hk:i.kd=.slice e) (hE:ti P e=some j) (hs:j.size=sz) (hz:j.zero=some z) (hp:0<sz) (hl:z.length=sz) (hb:b<nb) (hm:cy (bx b)=false)
 (hf:off+len*sz≤(bx b).length) (hK:K2 ⟨fr,up bx b (fj (bx b) off ((List.replicate len z).flatten.map .c)),nb⟩):jm P ⟨fr,bx,nb⟩ K2 [T] [.ms b off len cap sz]:=by
 obtain⟨kd,a,b',c,d,f,g⟩:=i;simp only at hk;subst hk
 obtain⟨kd',a',b'',c',d',f',g'⟩:=j;simp only at hs hz;subst hs;subst hz
 simp only[jm,hT,hE]
 exact⟨⟨trivial,hp,hl,hb,hm,hf⟩,hK⟩
theorem dR {T e:TypeId} {i j:TI} {k:IntKind} {n:Int} {c:List C} {es:List (List C)} (hT:ti P T=some i) (hk:i.kd=.slice e) (hj:ti P e=some j) (hs:j.size≠0) (hn:0≤n)
 (he:es[n.toNat]?=some c) (hc:c.length=j.size) (hK:KV (.c (.rp c 0))):cE P T (.c (.sl es)) (.c (.lit (.int k n))) KV:=by
 obtain⟨kd,a,b,x,d,f,g⟩:=i
 simp only at hk;subst hk
 simp only[cE,hT,hj,he]
 exact⟨⟨hn,hs⟩,hc,hK⟩
theorem Sw {T e:TypeId} {i j:TI} {k:IntKind} {n:Int} {b o l c z:Nat} (hT:ti P T=some i) (hk:i.kd=.slice e) (hj:ti P e=some j) (hs:j.size=z) (hz:z≠0) (hn:0≤n) (hl:n<l)
 (hK:KV (.bp b (o+n.toNat*z))):cE P T (.ms b o l c z) (.c (.lit (.int k n))) KV:=by
 obtain⟨kd,a,b,x,d,f,g⟩:=i
 simp only at hk;subst hk
 simp only[cE,hT,hj]
 exact⟨⟨hn,hl,hs,hz⟩,hK⟩
theorem O1 {ag:Bool} {sz:Nat} {cs:List C} (ha:ag=true) (h:cs.length=sz):dC ag sz 0 cs KV=KV (.agg cs):=by
 subst ha;subst h;simp[dC]
theorem yV {T:TypeId} {i:TI} {s:S} {cs:List C} (hT:ti P T=some i) (ha:i.agg=true) (h:cs.length=i.size):dh P T s (.c (.rp cs 0)) KV=KV (.agg cs):=by
 simp only[dh,hT];exact O1 ha h
theorem jo {T:TypeId} {i:TI} {f k off sz:Nat} {ag:Bool} {cs:List C} (hT:ti P T=some i) (hf:i.flds[f]?=some (off,sz,ag)) (hs:sz≠0):bf P T (.c (.rp cs k)) f KV=KV (.c (.rp cs (k+off))):=by
 simp only[bf,hT,hf];simp[hs]
theorem jq {T:TypeId} {i:TI} {f k off sz b:Nat} {ag:Bool} (hT:ti P T=some i) (hf:i.flds[f]?=some (off,sz,ag)) (hs:sz≠0):bf P T (.bp b k) f KV=KV (.bp b (k+off)):=by
 simp only[bf,hT,hf];simp[hs]
theorem ahq {T:TypeId} {i:TI} {f off sz:Nat} {ag:Bool} {cs:List C} (hT:ti P T=some i) (hf:i.flds[f]?=some (off,sz,ag)):oG P T (.agg cs) f KV=dC ag sz off cs KV:=by
 simp only[oG,hT,hf]
theorem jM {T:TypeId} {i:TI} {s:S} {cs:List C} {o:Nat} (hT:ti P T=some i) (ha:i.agg=false) (hs:i.size=1):dh P T s (.c (.rp cs o)) KV=dC false 1 o cs KV:=by
 simp only[dh,hT,ha,hs]
theorem XK {sz:Nat} {c:C} {cs:List C}:dC false sz 0 (c::cs) KV=KV (.c c):=rfl
theorem XL {sz n:Nat} {c:C} {cs:List C}:dC false sz (n+1) (c::cs) KV=dC false sz n cs KV:=by simp[dC]
def ldA (nb b:Nat) (l:List V) (o n:Nat) (K:V→Prop):Prop:=b<nb∧((((l.drop o).take n).length=n∧((l.drop o).take n).all V.isPO=true)∧K (wa (((l.drop o).take n).map V.fz)))
def ML (a:C):V→V
 | .agg cs=>.agg (a::cs)
 | .mag vs=>.mag (.c a::vs)
 |x=>x
theorem Sx:wa []=.agg []:=rfl
theorem Sy {a:C} {r:List V}:wa (.c a::r)=ML a (wa r):=by
 unfold wa
 simp only[fm]
 cases h:r.mapM V.asC<;>simp[V.asC,ML]
theorem XM {i o l c z:Nat} {r:List V}:wa (.ms i o l c z::r)=.mag (.ms i o l c z::r):=by
 unfold wa;simp[fm,V.asC]
theorem XN {i o:Nat} {r:List V}:wa (.bp i o::r)=.mag (.bp i o::r):=by
 unfold wa;simp[fm,V.asC]
theorem O2 {a:C} {cs:List C}:ML a (.agg cs)=.agg (a::cs):=rfl
theorem O3 {a:C} {vs:List V}:ML a (.mag vs)=.mag (.c a::vs):=rfl
theorem Sz {b o n:Nat} {v:V} {l:List V}:ldA nb b (v::l) o n KV=(b<nb∧(((((v::l).drop o).take n).length=n∧(((v::l).drop o).take n).all V.isPO=true)∧KV (wa ((((v::l).drop o).take n).map V.fz)))):=rfl
theorem XO {i o:Nat}:(V.bp i o).isPR=true:=rfl
theorem acL {x:C}:(V.c x).isPR=true:=rfl
theorem XQ {i o l c z:Nat}:(V.ms i o l c z).isPR=true:=rfl
theorem acM {x:C}:(V.c x).isPO=true:=rfl
theorem XR {E:Option (TypeId×Nat)} {es:List (List C)}:(V.ow E es).isPO=true:=rfl
theorem XT {i o:Nat}:(V.bp i o).isPO=true:=rfl
theorem XU {i o l c z:Nat}:(V.ms i o l c z).isPO=true:=rfl
def ldB (nb b:Nat) (l:List V) (o:Nat) (K:V→Prop):Prop:=b<nb∧match l[o]? with
 |some v=>K v.ldv
 |none=>False
theorem wF {T:TypeId} {i:TI} {b o n:Nat} (hT:ti P T=some i) (ha:i.agg=true) (hs:i.size=n):dh P T ⟨fr,bx,nb⟩ (.bp b o) KV=(cy (bx b)=false∧ldA nb b (bx b) o n KV):=by
 subst hs;simp only[dh,hT,ha,db,ldA];exact propext ⟨fun⟨⟨a,b⟩,c⟩=>⟨b,a,c⟩,fun⟨b,a,c⟩=>⟨⟨a,b⟩,c⟩⟩
theorem kj {T:TypeId} {i:TI} {b o:Nat} (hT:ti P T=some i) (ha:i.agg=false):dh P T ⟨fr,bx,nb⟩ (.bp b o) KV=(cy (bx b)=false∧ldB nb b (bx b) o KV):=by
 simp only[dh,hT,ha,ldB];exact propext ⟨fun⟨⟨a,b⟩,c⟩=>⟨b,a,c⟩,fun⟨b,a,c⟩=>⟨⟨a,b⟩,c⟩⟩
theorem ahr {b:Nat} {v:V} {l:List V}:ldB nb b (v::l) 0 KV=(b<nb∧KV v.ldv):=rfl
theorem ahs {b o:Nat} {v:V} {l:List V}:ldB nb b (v::l) (o+1) KV=ldB nb b l o KV:=by simp[ldB]
theorem XV {b o:Nat} {cs:List C}:ldB nb b (cs.map V.c) o KV=(b<nb∧dC false 1 o cs KV):=by
 simp only[ldB,dC,bb,aY,dm]
 cases cs[o]?<;>rfl
theorem O4 {i:TI} {ks:List EK} {xs ys:List C} {r:Bool} (he:i.eqs=some ks) (ha:i.agg=true) (h:jB ks xs ys=some r) (h1:xs.length=ks.length) (h2:ys.length=ks.length):HU (some i) .eql xs ys KV=KV (.c (.lit (.bool r))):=by
 obtain⟨kd,a,b,c,d,f,g⟩:=i
 simp only at he ha;subst he;subst ha
 simp[HU,h,h1,h2]
theorem O5 {i:TI} {ks:List EK} {xs ys:List C} {r:Bool} (he:i.eqs=some ks) (ha:i.agg=true) (h:jB ks xs ys=some r) (h1:xs.length=ks.length) (h2:ys.length=ks.length):HU (some i) .neq xs ys KV=KV (.c (.lit (.bool (!r)))):=by
 obtain⟨kd,a,b,c,d,f,g⟩:=i
 simp only at he ha;subst he;subst ha
 simp[HU,h,h1,h2]
theorem xJ {T:TypeId} {i:TI} {ks:List EK} {xs ys:List C} {r:Bool} (hT:ti P T=some i) (he:i.eqs=some ks) (ha:i.agg=true) (h:jB ks xs ys=some r) (h1:xs.length=ks.length) (h2:ys.length=ks.length) :
 lv P .eql T (.agg xs) (.agg ys) KV=KV (.c (.lit (.bool r))):=by rw[HV,hT];exact O4 he ha h h1 h2
theorem xK {T:TypeId} {i:TI} {ks:List EK} {xs ys:List C} {r:Bool} (hT:ti P T=some i) (he:i.eqs=some ks) (ha:i.agg=true) (h:jB ks xs ys=some r) (h1:xs.length=ks.length) (h2:ys.length=ks.length) :
 lv P .neq T (.agg xs) (.agg ys) KV=KV (.c (.lit (.bool (!r)))):=by rw[HV,hT];exact O5 he ha h h1 h2
theorem O6 {T:TypeId} {i:TI} {a b:Bool} (hT:ti P T=some i) (hk:i.kd=.bool):lv P .eql T (.c (.lit (.bool a))) (.c (.lit (.bool b))) KV=KV (.c (.lit (.bool (a==b)))):=by
 obtain⟨kd,a,b,c,d,f,g⟩:=i
 simp only at hk;subst hk
 rw[DW,hT];rfl
theorem O7 {T:TypeId} {i:TI} {a b:Bool} (hT:ti P T=some i) (hk:i.kd=.bool):lv P .neq T (.c (.lit (.bool a))) (.c (.lit (.bool b))) KV=KV (.c (.lit (.bool (!(a==b))))):=by
 obtain⟨kd,a,b,c,d,f,g⟩:=i
 simp only at hk;subst hk
 rw[DW,hT];rfl
theorem SA {a b:ByteArray}:EP .eql a b KV=KV (.c (.lit (.bool (decide (a=b))))):=rfl
theorem SB {a b:ByteArray}:EP .neq a b KV=KV (.c (.lit (.bool (!decide (a=b))))):=rfl
theorem xM:∀ cs:List C,wa (cs.map V.c)=.agg cs
 |[]=>rfl
 |c::cs=>by rw[bA,Sy,xM cs];rfl
theorem XW {b n:Nat} {cs:List C} (h:cs.length=n):ldA nb b (cs.map V.c) 0 n KV=(b<nb∧KV (.agg cs)):=by
 have h1:(cs.map V.c).take n=cs.map V.c:=fP (by simp[h])
 have h2:(cs.map V.c).map V.fz=cs.map V.c:=by simp[gG,Function.comp_def,V.fz]
 have h3:(cs.map V.c).all V.isPO=true:=by simp[List.all_map,Function.comp_def,V.isPO]
 simp only[ldA,cd,h1,h2,h3,xM,au,h,jt]
theorem acN {t:Option Tmp} {d:Nat} {x:C} (h:∀ u,t=some u→(fr u).isOw=false):rL t d (.c x) ⟨fr,bx,nb⟩ K=K ⟨up fr d (.bp nb 0),up bx nb [.c x],nb+1⟩:=by
 cases t with
 |none=>rfl
 |some u=>simp[rL,V.bcells,ic,h u rfl,S.put]
theorem aht {t:Tmp} {d:Nat} {x:C} (h:fr t=.c x):rL (some t) d (.c x) ⟨fr,bx,nb⟩ K=K ⟨up fr d (.bp nb 0),up bx nb [.c x],nb+1⟩:=acN (fun u hu=>by cases hu;rw[h];rfl)
theorem SC {d:Nat} {x:C}:rL none d (.c x) ⟨fr,bx,nb⟩ K=K ⟨up fr d (.bp nb 0),up bx nb [.c x],nb+1⟩:=rfl
theorem O8 {d:Nat} {E:Option (TypeId×Nat)} {es:List (List C)}:rL none d (.ow E es) ⟨fr,bx,nb⟩ K=K ⟨up fr d (.bp nb 0),up bx nb [.ow E es],nb+1⟩:=rfl
theorem XX {t:Tmp} {d:Nat} {cs:List C} (h:fr t=.agg cs):rL (some t) d (.agg cs) ⟨fr,bx,nb⟩ K=K ⟨up fr d (.bp nb 0),up bx nb (cs.map .c),nb+1⟩:=by
 simp[rL,V.bcells,ic,h,S.put,V.isOw]
theorem acO {t:Tmp} {d:Nat} {E:Option (TypeId×Nat)} {es:List (List C)} (h:fr t=.ow E es):rL (some t) d (.ow E es) ⟨fr,bx,nb⟩ K=K ⟨up (up fr t .un) d (.bp nb 0),up bx nb [.ow E es],nb+1⟩:=by
 simp[rL,V.bcells,ic,h,S.put,V.isOw]
theorem acP {t:Tmp} {d:Nat} {i o:Nat} (h:fr t=.bp i o):rL (some t) d (.bp i o) ⟨fr,bx,nb⟩ K=K ⟨up fr d (.bp nb 0),up bx nb [.bp i o],nb+1⟩:=by
 simp[rL,V.bcells,ic,h,S.put,V.isOw]
theorem acQ {t:Tmp} {d:Nat} {i o l c z:Nat} (h:fr t=.ms i o l c z):rL (some t) d (.ms i o l c z) ⟨fr,bx,nb⟩ K=K ⟨up fr d (.bp nb 0),up bx nb [.ms i o l c z],nb+1⟩:=by
 simp[rL,V.bcells,ic,h,S.put,V.isOw]
theorem MM {t:Tmp} {d:Nat} {vs:List V} (h:fr t=.mag vs):rL (some t) d (.mag vs) ⟨fr,bx,nb⟩ K=K ⟨up fr d (.bp nb 0),up bx nb vs,nb+1⟩:=by
 simp[rL,V.bcells,ic,h,S.put,V.isOw]
theorem XY {t:Tmp} {d:Nat} {f:Fn} {x y:List V} (h:fr t=.clo f x y):rL (some t) d (.clo f x y) ⟨fr,bx,nb⟩ K=K ⟨up fr d (.bp nb 0),up bx nb [.clo f x y],nb+1⟩:=by
 simp[rL,V.bcells,ic,h,S.put,V.isOw]
def stS (n:Nat) (t:Option Tmp) (dO:Option Tmp) (b o:Nat) (v:V) (s:S) (K:S→Prop):Prop:=match v.bcells with
 |some cs=>(b<s.nb∧cs.length=n∧o+n≤(s.bx b).length)∧K ((let s':=s.use t;{ s' with bx:=up s'.bx b (fj (s'.bx b) o cs) }:S).put dO .sk)
 |none=>False
theorem kZ {i:TI} {n:Nat} {t dO:Option Tmp} {b o:Nat} {v:V} {s:S} (h:i.size=n):pK (some i) t dO (.bp b o) v s K=(cy (s.bx b)=false∧stS n t dO b o v s K):=by
 subst h;cases hv:v.bcells<;>simp only[pK,stS,hv]
 ·simp
 ·exact propext ⟨fun⟨⟨a,b,c,d⟩,e⟩=>⟨d,⟨a,b,c⟩,e⟩,fun⟨d,⟨a,b,c⟩,e⟩=>⟨⟨a,b,c,d⟩,e⟩⟩
theorem O9 {v:V} {l:List V}:cy (v::l)=v.isMk:=rfl
theorem SD:cy []=false:=rfl
theorem HZ:∀ {l:List C},cy (l.map V.c)=false
 |[]=>rfl
 |_::_=>rfl
theorem acR {x:C}:(V.c x).isMk=false:=rfl
theorem XZ {E:Option (TypeId×Nat)} {es:List (List C)}:(V.ow E es).isMk=false:=rfl
theorem X0 {i o:Nat}:(V.bp i o).isMk=false:=rfl
theorem X1 {i o l c z:Nat}:(V.ms i o l c z).isMk=false:=rfl
theorem SG {f:Fn} {x y:List V}:(V.clo f x y).isMk=false:=rfl
theorem X2 {i:Nat}:(V.mr i).isMk=false:=rfl
theorem X3 {i:Nat}:(V.yl i).isMk=false:=rfl
theorem X4 {bs:List Nat} {cl:Nat}:(V.mk bs cl).isMk=true:=rfl
theorem SH {dO:Option Tmp} {b o:Nat} {x:C}:stS 1 none dO b o (.c x) ⟨fr,bx,nb⟩ K=((b<nb∧o+1≤(bx b).length)∧K ((⟨fr,up bx b (fj (bx b) o [.c x]),nb⟩:S).put dO .sk)):=by
 simp[stS,V.bcells,HM]
theorem ahu {t:Tmp} {dO:Option Tmp} {b o:Nat} {x:C} (h:fr t=.c x):stS 1 (some t) dO b o (.c x) ⟨fr,bx,nb⟩ K=((b<nb∧o+1≤(bx b).length)∧K ((⟨fr,up bx b (fj (bx b) o [.c x]),nb⟩:S).put dO .sk)):=by
 simp[stS,V.bcells,ic,h,V.isOw]
theorem KY {t:Tmp} {dO:Option Tmp} {b o:Nat} {E:Option (TypeId×Nat)} {es:List (List C)} (h:fr t=.ow E es):stS 1 (some t) dO b o (.ow E es) ⟨fr,bx,nb⟩ K=
 ((b<nb∧o+1≤(bx b).length)∧K ((⟨up fr t .un,up bx b (fj (bx b) o [.ow E es]),nb⟩:S).put dO .sk)):=by
 simp[stS,V.bcells,ic,h,V.isOw]
theorem X5 {n:Nat} {t:Tmp} {dO:Option Tmp} {b o:Nat} {cs:List C} (h:fr t=.agg cs):stS n (some t) dO b o (.agg cs) ⟨fr,bx,nb⟩ K=
 ((b<nb∧cs.length=n∧o+n≤(bx b).length)∧K ((⟨fr,up bx b (fj (bx b) o (cs.map .c)),nb⟩:S).put dO .sk)):=by
 simp[stS,V.bcells,ic,h,V.isOw]
theorem acS {t:Tmp} {dO:Option Tmp} {b o i k:Nat} (h:fr t=.bp i k):stS 1 (some t) dO b o (.bp i k) ⟨fr,bx,nb⟩ K=((b<nb∧o+1≤(bx b).length)∧K ((⟨fr,up bx b (fj (bx b) o [.bp i k]),nb⟩:S).put dO .sk)):=by
 simp[stS,V.bcells,ic,h,V.isOw]
theorem X6 {t:Tmp} {dO:Option Tmp} {b o:Nat} {f:Fn} {x y:List V} (h:fr t=.clo f x y):stS 1 (some t) dO b o (.clo f x y) ⟨fr,bx,nb⟩ K=((b<nb∧o+1≤(bx b).length)∧K ((⟨fr,up bx b (fj (bx b) o [.clo f x y]),nb⟩:S).put dO .sk)):=by
 simp[stS,V.bcells,ic,h,V.isOw]
theorem acT {t:Tmp} {dO:Option Tmp} {b o i k l c z:Nat} (h:fr t=.ms i k l c z):stS 1 (some t) dO b o (.ms i k l c z) ⟨fr,bx,nb⟩ K=((b<nb∧o+1≤(bx b).length)∧K ((⟨fr,up bx b (fj (bx b) o [.ms i k l c z]),nb⟩:S).put dO .sk)):=by
 simp[stS,V.bcells,ic,h,V.isOw]
theorem X7 {n:Nat} {t:Tmp} {dO:Option Tmp} {b o:Nat} {vs:List V} (h:fr t=.mag vs):stS n (some t) dO b o (.mag vs) ⟨fr,bx,nb⟩ K=
 ((b<nb∧vs.length=n∧o+n≤(bx b).length)∧K ((⟨fr,up bx b (fj (bx b) o vs),nb⟩:S).put dO .sk)):=by
 simp[stS,V.bcells,ic,h,V.isOw]
theorem acU {v x:V} {r:List V}:fj (v::r) 0 [x]=x::r:=by simp[fj]
theorem acV {v x:V} {r:List V} {k:Nat}:fj (v::r) (k+1) [x]=v::fj r k [x]:=by simp[fj,Nat.add_right_comm]
def zI {α:Type} (p:α→Bool) (l:List α):Int:=match l.findIdx? p with
 |some i=>i
 |none=>-1
theorem H0 {α:Type} {p:α→Bool} {l:List α} {i:Nat} (hi:i<l.length) (hy:p l[i]=true) (mH:∀ j (h:j<l.length),j<i→p l[j]=false):zI p l=i:=by
 have:l.findIdx? p=some i:=by
  rw[eG]
  exact⟨hi,hy,fun j hj=>by simp[mH j (by omega) hj]⟩
 simp[zI,this]
theorem BH {α:Type} {p:α→Bool} {l:List α} (mH:∀ j (h:j<l.length),j<l.length→p l[j]=false):zI p l=-1:=by
 have:l.findIdx? p=none:=by
  rw[List.findIdx?_eq_none_iff]
  intro x hx
  obtain⟨j,hj,rfl⟩:=iF.1 hx
  exact mH j hj hj
 simp[zI,this]
theorem xN {α:Type} {p:α→Bool} {l:List α}:decide (0≤zI p l)=l.any p:=by
 unfold zI
 cases h:l.findIdx? p with
 |some i=>
  obtain⟨hi,hy,_⟩:=eG.1 h
  have:l.any p=true:=dU.2 ⟨_,bL hi,hy⟩
  simp[this]
 |none=>
  have h2:=List.findIdx?_eq_none_iff.1 h
  have:l.any p=false:=List.any_eq_false.2 fun x hx=>by simp[h2 x hx]
  simp[this]
theorem wrap_i64 (n:Int) (h:-9223372036854775808≤n∧n≤9223372036854775807):IntKind.i64.wrap n=n:=by rw[IntKind.wrap_i64];omega
theorem aB {s:S} {g:FuncId} {fs cs:List C} {args as:List V} {r:V} (hm:args.mapM (imm s)=some as) (h:FnOK P G g (fs.map .c++as++cs.map .c) r) (hb:args.any V.boxy=true→r.isFlat=true) (hK:KV r) :
 rD P G s (.c (.fn (.func g) fs cs)) args KV:=by
 simp only[rD,hm]
 exact⟨r,h,hb,hK⟩
end
section
variable {P:Program} {G:Gl} {tr:List Nat} {n:Nat} {I0:Ft} {M:Mx} {w0:World} {I:Ft} {β:Nat→Option Nat} {ob:Loc→Option Nat} {s:S} {a:Act} {w:World}
def obB (ob:Nat→Nat→Option Nat):Loc→Option Nat
 | .t _=>none
 | .b i j=>ob i j
theorem St.initB {ob:Nat→Nat→Option Nat} {vs:Array Value} {args:List V} {b0:List (List V)} {m:Nat} (hI:∀ b o,I b o→b<w.heap.size) (hg:GOK G I w) (hB:BxR (Wr M w) I w β ob b0) (fW:vs.size=args.length)
 (ha:∀ j x,args[j]?=some x→LR (Wr M w) I β w none (vs.getD j undef) x) (hm:m=(vs++Array.replicate (n - vs.size) undef).size) :
 St G m I ⟨M.m,β,[]⟩ w I β (obB ob) ⟨fun j=>args.getD j .un,bxs b0,b0.length⟩ { tmps:=vs++Array.replicate (n - vs.size) undef,defers:=[] } w where
 size:=hm.symm
 defers:=rfl
 below:=BelowM.refl _ _
 kept:=fun _ _ _=>rfl
 ilow:=fun _ _ h=>h
 ihigh:=fun _ _ h=>.inl h
 ibnd:=hI
 fr:=fun t=>by
  simp only[obB]
  by_cases ht:t<args.length
  ·have e1:args.getD t .un=args[t]:=by simp[List.getD,ht]
   have e2:(vs++Array.replicate (n - vs.size) undef).getD t undef=vs.getD t undef:=by
    rw[aj,eB (by omega),← aj]
   rw[e1,e2]
   exact ha t _ (ae ht)
  ·have e1:args.getD t .un=.un:=by simp[List.getD,bw (en ht)]
   rw[e1];simp only[LR];exact .un _
 bx:=fun i hi=>by
  simp only at hi
  obtain⟨blk,cur,e1,e2,e3,e4,e5,e7⟩:=hB.bx i _ (ae hi)
  have e:bxs b0 i=b0[i]:=by simp[bxs,List.getD,hi]
  refine⟨blk,cur,e1,e2,by simp only[e];exact e3,by simp only[e];exact e4,fun j=>?_,e7⟩
  simp only[e];exact e5 j
 bnone:=fun i hi=>hB.bnone i hi
 ext:=fun _ _ h=>h
 bnew:=fun _ _ h=>.inl h
 binj:=hB.binj
 oinj:=fun L L' b h h'=>by
  cases L<;>simp only[obB] at h<;>try cases h
  cases L'<;>simp only[obB] at h'<;>try cases h'
  obtain⟨e1,e2⟩:=hB.oinj _ _ _ _ b h h'
  rw[e1,e2]
 obx:=fun L b i h=>by
  cases L<;>simp only[obB] at h<;>try cases h
  exact hB.obx _ _ b i h
 obnd:=fun L b h=>by
  cases L<;>simp only[obB] at h<;>try cases h
  exact hB.obnd _ _ b h
 glob:=hg
def Ap (P:Program) (k:Nat) (r:V) (b1:List (List V)) (rs:List ResultVar) (e:VE) (s:S):Prop:=
 (match e with | .exit _=>False | _=>True)∧∃ l,S.Le k (hdS l b1) s∧tR P false (hdS l b1) r rs
theorem MN {f:FuncId} {fn:Func} {c:Code} {args:List V} {b0 b1:List (List V)} {r:V} (tr:List Nat) (hm:P.follows .mixedOrders=true) (hf:P.funcs[f]?=some fn) (hb:fn.body=some c)
 (mY:(fn.name== "runtime.NumGoroutine")=false) (hn:args.length≤fn.ntmps) (vK:cok fn.ntmps tr c=true) (oC:r.compT=true)
 (WJ:(∀ x∈args,x.lt b0.length)∧(∀ b∈b0,∀ x∈b,x.lt b0.length)∧b0.length≤b1.length)
 (h:iI P G tr b0.length c (Ap P b0.length r b1 fn.results.toList) ⟨fun j=>args.getD j .un,bxs b0,b0.length⟩):FnB P G f args b0 r b1:=by
 refine⟨⟨fn,hf,mY,c,hb⟩,WJ,fun I M w vs β ob hI hg hB fW ha=>?_⟩
 have jA:fn.ntmps=(vs++Array.replicate (fn.ntmps - vs.size) undef).size:=by simp;omega
 have aR:=St.initB (n:=fn.ntmps) hI hg hB fW ha jA
 have AA:∀ i b,β i=some b→i<b0.length:=fun i b hi=>by
  by_cases h:i<b0.length
  ·exact h
  ·rw[hB.bnone i (by omega)] at hi;cases hi
 refine pG.1 (callsIn_of_wp_marks (F:=FW none) (n:=0) hf hb trivial (mO (l:=none) hm (fun i b hi=>AA i b hi) (.inl rfl) c vK _ _ (fun e s a w' hq dE=>?_) _ _ _ h (.of ⟨_,_,_,aR⟩)))
 obtain⟨hex,l,jW,eP⟩:=hq
 have dE:SX G fn.ntmps tr I ⟨M.m,β,[]⟩ w (hdS l b1) a w':=by
  obtain⟨I1,M1,w1,rs,ua,ll,dE⟩:=dE
  exact⟨I1,M1,w1,rs,ua,ll,dE.weaken (by rw[ua.e];exact fun i b hi=>AA i b hi) jW⟩
 have main:LeavesInM (FW none) 0 P fn a.tmps (fun e w'=>∃ v' I' β' ob' o',e=.returned v'∧BelowM (GT G) M w w'∧(∀ b o,I b o→I' b o)∧(∀ b o,I' b o→I b o∨(Wr M w b∧b<w'.heap.size))∧
  (∀ b o,I b o→w'.cell? ⟨b,o,none⟩=w.cell? ⟨b,o,none⟩)∧(∀ i,i<b0.length→β' i=β i)∧(∀ i b,b0.length≤i→β' i=some b→Wr M w b)∧BxR (Wr M w) I' w' β' ob' b1∧
  LR (Wr M w) I' β' w' o' v' r∧(∀ b,o'=some b→(b<w'.heap.size∧Wr M w b)∧(∀ i j,ob' i j≠some b)∧∀ i,β' i≠some b)) a.defers .returning w':=by
  refine dE.leaves rfl fun w' I' β' ob' cK=>?_
  obtain⟨v,o',h1,h2,h3⟩:=wE (P:=P) (fn:=fn) cK oC (Ic:=I') (fun _=>rfl) (fun _ _ h=>h) (fun hz=>by cases hz) eP
  have xb:∀ i,i<b0.length→β' i=β i:=fun i hi=>by
   obtain⟨blk,_,e1,_⟩:=hB.bx i _ (ae hi)
   rw[e1];exact cK.ext i blk e1
  refine⟨v,h1,v,I',β',fun i j=>if i<b1.length then ob' (.b i j) else none,o',rfl,⟨cK.below.os,cK.below.tape,cK.below.output,cK.below.size,cK.below.block,cK.below.drawn⟩,cK.ilow,fun b o EN=>?_,cK.kept,xb,fun i b hi hb=>?_,?_,h2,fun b hb=>?_⟩
  ·rcases cK.ihigh b o EN with h4 | h4
   ·exact .inl h4
   ·exact .inr ⟨h4,cK.ibnd b o EN⟩
  ·rcases cK.bnew i b hb with h4 | h4
   ·have:=AA i b h4;omega
   ·exact h4
  ·exact {
    bx:=fun i cs jc=>by
     have hi:i<b1.length:=(ah.1 jc).1
     obtain⟨blk,cur,e1,e2,e3,e4,e5,e7⟩:=cK.bx i hi
     have e:bxs b1 i=cs:=by simp[bxs,List.getD,jc]
     refine⟨blk,cur,e1,e2,by simp only[hdS,e] at e3;exact e3,by simp only[hdS,e] at e4;exact e4,fun j=>?_,e7⟩
     have:=e5 j
     simp only[hdS,e] at this
     rw[if_pos hi];exact this
    bnone:=fun i hi=>cK.bnone i hi
    binj:=cK.binj
    oinj:=fun i j i' j' b h h'=>by
     split at h<;>try cases h
     split at h'<;>try cases h'
     have:=cK.oinj _ _ b h h'
     simp only[Loc.b.injEq] at this;exact this
    obx:=fun i j b k h=>by
     split at h<;>try cases h
     exact cK.obx _ b k h
    obnd:=fun i j b h=>by
     split at h<;>try cases h
     exact cK.obnd _ b h
    olen:=fun i j hi=>by rw[if_neg (by omega)] }
  ·obtain⟨t,ht⟩:=h3 b hb
   refine⟨cK.obnd _ b ht,fun i j h=>?_,fun i=>cK.obx _ b i ht⟩
   simp only at h
   split at h<;>try cases h
   have:=cK.oinj _ _ b ht h
   cases this
 cases e with
 |normal=>exact main
 |exit i=>exact hex.elim
 |ret=>exact main
theorem X8 {f:FuncId} {fn:Func} {c:Code} {args:List V} {b0:List (List V)} {R:V→List (List V)→Prop} (tr:List Nat) (hm:P.follows .mixedOrders=true) (hf:P.funcs[f]?=some fn) (hb:fn.body=some c)
 (mY:(fn.name== "runtime.NumGoroutine")=false) (hn:args.length≤fn.ntmps) (vK:cok fn.ntmps tr c=true) (oC:∀ r b1,R r b1→r.compT=true)
 (WJ:(∀ x∈args,x.lt b0.length)∧(∀ b∈b0,∀ x∈b,x.lt b0.length)∧∀ r b1,R r b1→b0.length≤b1.length)
 (h:iI P G tr b0.length c (fun e s=>∃ r b1,R r b1∧Ap P b0.length r b1 fn.results.toList e s) ⟨fun j=>args.getD j .un,bxs b0,b0.length⟩):FnE P G f args b0 R:=by
 refine⟨⟨fn,hf,mY,c,hb⟩,WJ,fun I M w vs β ob hI hg hB fW ha=>?_⟩
 have jA:fn.ntmps=(vs++Array.replicate (fn.ntmps - vs.size) undef).size:=by simp;omega
 have aR:=St.initB (n:=fn.ntmps) hI hg hB fW ha jA
 have AA:∀ i b,β i=some b→i<b0.length:=fun i b hi=>by
  by_cases h:i<b0.length
  ·exact h
  ·rw[hB.bnone i (by omega)] at hi;cases hi
 refine pG.1 (callsIn_of_wp_marks (F:=FW none) (n:=0) hf hb trivial (mO (l:=none) hm (fun i b hi=>AA i b hi) (.inl rfl) c vK _ _ (fun e s a w' hq dE=>?_) _ _ _ h (.of ⟨_,_,_,aR⟩)))
 obtain⟨r,b1,hR,hex,l,jW,eP⟩:=hq
 have dE:SX G fn.ntmps tr I ⟨M.m,β,[]⟩ w (hdS l b1) a w':=by
  obtain⟨I1,M1,w1,rs,ua,ll,dE⟩:=dE
  exact⟨I1,M1,w1,rs,ua,ll,dE.weaken (by rw[ua.e];exact fun i b hi=>AA i b hi) jW⟩
 have main:LeavesInM (FW none) 0 P fn a.tmps (fun e w'=>∃ r b1,R r b1∧∃ v' I' β' ob' o',e=.returned v'∧BelowM (GT G) M w w'∧(∀ b o,I b o→I' b o)∧(∀ b o,I' b o→I b o∨(Wr M w b∧b<w'.heap.size))∧
  (∀ b o,I b o→w'.cell? ⟨b,o,none⟩=w.cell? ⟨b,o,none⟩)∧(∀ i,i<b0.length→β' i=β i)∧(∀ i b,b0.length≤i→β' i=some b→Wr M w b)∧BxR (Wr M w) I' w' β' ob' b1∧
  LR (Wr M w) I' β' w' o' v' r∧(∀ b,o'=some b→(b<w'.heap.size∧Wr M w b)∧(∀ i j,ob' i j≠some b)∧∀ i,β' i≠some b)) a.defers .returning w':=by
  refine dE.leaves rfl fun w' I' β' ob' cK=>?_
  obtain⟨v,o',h1,h2,h3⟩:=wE (P:=P) (fn:=fn) cK (oC r b1 hR) (Ic:=I') (fun _=>rfl) (fun _ _ h=>h) (fun hz=>by cases hz) eP
  have xb:∀ i,i<b0.length→β' i=β i:=fun i hi=>by
   obtain⟨blk,_,e1,_⟩:=hB.bx i _ (ae hi)
   rw[e1];exact cK.ext i blk e1
  refine⟨v,h1,r,b1,hR,v,I',β',fun i j=>if i<b1.length then ob' (.b i j) else none,o',rfl,⟨cK.below.os,cK.below.tape,cK.below.output,cK.below.size,cK.below.block,cK.below.drawn⟩,cK.ilow,fun b o EN=>?_,cK.kept,xb,fun i b hi hb=>?_,?_,h2,fun b hb=>?_⟩
  ·rcases cK.ihigh b o EN with h4 | h4
   ·exact .inl h4
   ·exact .inr ⟨h4,cK.ibnd b o EN⟩
  ·rcases cK.bnew i b hb with h4 | h4
   ·have:=AA i b h4;omega
   ·exact h4
  ·exact {
    bx:=fun i cs jc=>by
     have hi:i<b1.length:=(ah.1 jc).1
     obtain⟨blk,cur,e1,e2,e3,e4,e5,e7⟩:=cK.bx i hi
     have e:bxs b1 i=cs:=by simp[bxs,List.getD,jc]
     refine⟨blk,cur,e1,e2,by simp only[hdS,e] at e3;exact e3,by simp only[hdS,e] at e4;exact e4,fun j=>?_,e7⟩
     have:=e5 j
     simp only[hdS,e] at this
     rw[if_pos hi];exact this
    bnone:=fun i hi=>cK.bnone i hi
    binj:=cK.binj
    oinj:=fun i j i' j' b h h'=>by
     split at h<;>try cases h
     split at h'<;>try cases h'
     have:=cK.oinj _ _ b h h'
     simp only[Loc.b.injEq] at this;exact this
    obx:=fun i j b k h=>by
     split at h<;>try cases h
     exact cK.obx _ b k h
    obnd:=fun i j b h=>by
     split at h<;>try cases h
     exact cK.obnd _ b h
    olen:=fun i j hi=>by rw[if_neg (by omega)] }
  ·obtain⟨t,ht⟩:=h3 b hb
   refine⟨cK.obnd _ b ht,fun i j h=>?_,fun i=>cK.obx _ b i ht⟩
   simp only at h
   split at h<;>try cases h
   have:=cK.oinj _ _ b ht h
   cases this
 cases e with
 |normal=>exact main
 |exit i=>exact hex.elim
 |ret=>exact main
end
theorem MO:∀ (bl:List (List V)) (k:Nat) (f:Nat→List V),(∀ i b,bl[i]?=some b→f (k+i)=b)→BL k bl f
 |[],_,_,_=>trivial
 |b::r,k,f,h=>⟨by simpa using h 0 b rfl,MO r (k+1) f fun i c hc=>by have:=h (i+1) c (by simpa using hc);rw[dF,lF 1 i];exact this⟩
theorem AL (x:V):x.renP (fun i=>i)=x:=by cases x<;>rfl
theorem SI (x:V):x.ren (fun i=>i)=x:=by
 cases x<;>simp only[V.ren]
 ·rw[bT (g:=id) (fun x _=>AL x),bT (g:=id) (fun x _=>AL x)];simp
 ·rw[bT (g:=id) (fun x _=>AL x)];simp
 ·rw[bT (g:=id) (fun p _=>by rw[AL];rfl)];simp
theorem pL (l:List V):l.map (V.ren fun i=>i)=l:=by
 rw[bT (g:=id) (fun x _=>SI x)];simp
theorem iP {α:Type} {f:α→α}:∀ {l:List α},(∀ x∈l,f x=x)→l.map f=l
 |[],_=>rfl
 |x::l,h=>by rw[bA,h x (a8 ..),iP fun y hy=>h y (aD _ hy)]
theorem xO {ρ:Nat→Nat} {x:V} (h:x.ltP 0):x.renP ρ=x:=by cases x<;>simp_all[V.renP,V.ltP]
theorem X9 {ρ:Nat→Nat} {x:V} (h:x.lt 0):x.ren ρ=x:=by
 cases x<;>simp only[V.ren]<;>simp only[V.lt] at h<;>try omega
 ·rw[iP fun x hx=>xO (h.1 x hx),iP fun x hx=>xO (h.2 x hx)]
 ·rw[iP fun x hx=>xO (h x hx)]
 ·rw[iP fun p hp=>by rw[xO (h p hp)]]
theorem yW (nb:Nat):rho (List.range nb) nb=fun i=>i:=by
 funext i
 unfold rho
 rw[List.length_range]
 split
 ·rename_i h;simp[List.getD,h]
 ·omega
theorem Ya (nb:Nat):rho [] nb=fun i=>nb+i:=by
 funext i;simp[rho]
theorem rM:∀ (b1:List (List V)) (k:Nat) (f:Nat→List V),gz (fun i=>i) k b1 f=fun i=>if k≤i∧i<k+b1.length then b1.getD (i - k) [] else f i
 |[],k,f=>by funext i;simp only[gz,aU];rw[if_neg (by omega)]
 |b::r,k,f=>by
  funext i
  simp only[gz,rM r,pL,aZ,up]
  by_cases h1:k+1≤i∧i<k+1+r.length
  ·rw[if_pos h1,if_pos (by omega)]
   have:i - k=(i - (k+1))+1:=by omega
   rw[this];rfl
  ·rw[if_neg h1]
   by_cases h2:i=k
   ·subst h2;rw[if_pos rfl,if_pos (by omega)];simp
   ·rw[if_neg h2,if_neg (by omega)]
theorem vg:∀ (b0:List (List V)) (k nb:Nat) (f:Nat→List V),(∀ i b,b0[i]?=some b→k+i<nb∧f (k+i)=b)→rb f nb (fun i=>i) k b0
 |[],_,_,_,_=>trivial
 |b::r,k,nb,f,h=>by
  refine⟨?_,vg r (k+1) nb f fun i c hc=>?_⟩
  ·have:=h 0 b rfl
   rw[pL];exact this
  ·have:=h (i+1) c (by simpa using hc)
   rw[dF,lF 1 i];exact this
def ux:VE→Bool
 | .exit _=>false
 |_=>true
theorem H2:∀ e:VE,ux e=true→(match e with | .exit _=>False | _=>True)
 | .exit _,h=>by cases h
 | .normal,_=>trivial
 | .ret,_=>trivial
def nO (args:List V) (b0:List (List V)):Bool:=args.all (fun v=>v.ltB b0.length)&&b0.all fun b=>b.all fun v=>v.ltB b0.length
section
variable {P:Program} {G:Gl} {tr:List Nat} {fr:Nat→V} {bx:Nat→List V} {nb:Nat} {K:S→Prop} {KV:V→Prop} {dO:Option Tmp} {T ty:TypeId} {pos:String} {af:Array Edge} {g:Option (Nat×Bool)}
def Yb (dO:Option Tmp) (K:S→Prop) (s:S):Prop:=K (s.put dO .sk)
theorem Yc:Yb dO K ⟨fr,bx,nb⟩=K ((⟨fr,bx,nb⟩:S).put dO .sk):=rfl
def SJ (t:Tmp) (dO:Option Tmp) (s:S) (K:S→Prop) (it:Option V) (v:V):Prop:=K ((match it with | some x=>{ s with fr:=up s.fr t x } | none=>s:S).put dO v)
theorem KZ {t:Tmp} {x v:V}:SJ t dO ⟨fr,bx,nb⟩ K (some x) v=K ((⟨up fr t x,bx,nb⟩:S).put dO v):=rfl
theorem K1 {t:Tmp} {v:V}:SJ t dO ⟨fr,bx,nb⟩ K none v=K ((⟨fr,bx,nb⟩:S).put dO v):=rfl
theorem BI {i:TI} {kt et:TypeId} (hT:ti P T=some i) (hk:i.kd=.map kt et):VStep P G tr ⟨dO,.makeMap T none,ty,pos,af,g⟩ ⟨fr,bx,nb⟩ K=K ((⟨fr,up bx nb [.mk [] 0],nb+1⟩:S).put dO (.mr nb)):=by
 obtain⟨kd,a,b,c,d,f,e⟩:=i
 simp only at hk;subst hk
 simp only[VStep,hT]
theorem F2 {m k x:Operand}:VStep P G tr ⟨dO,.mapUpdate T m k x,ty,pos,af,g⟩ ⟨fr,bx,nb⟩ K=iJ P T ⟨fr,bx,nb⟩ (ev G ⟨fr,bx,nb⟩ m) (ev G ⟨fr,bx,nb⟩ k) (ev G ⟨fr,bx,nb⟩ x) (Yb dO K):=rfl
theorem Pa {m k x:Operand}:VStep P G tr ⟨dO,.insert T m k x,ty,pos,af,g⟩ ⟨fr,bx,nb⟩ K=iJ P T ⟨fr,bx,nb⟩ (ev G ⟨fr,bx,nb⟩ m) (ev G ⟨fr,bx,nb⟩ k) (ev G ⟨fr,bx,nb⟩ x) (Yb dO K):=rfl
theorem H3 {m k:Operand}:VStep P G tr ⟨dO,.mapEntry T m k,ty,pos,af,g⟩ ⟨fr,bx,nb⟩ K=fV P T ⟨fr,bx,nb⟩ (ev G ⟨fr,bx,nb⟩ m) (ev G ⟨fr,bx,nb⟩ k) (CQ dO K):=rfl
theorem Dd {m k x:Operand}:VStep P G tr ⟨dO,.entryStore T m k x,ty,pos,af,g⟩ ⟨fr,bx,nb⟩ K=fN ⟨fr,bx,nb⟩ (ev G ⟨fr,bx,nb⟩ m) (ev G ⟨fr,bx,nb⟩ k) (ev G ⟨fr,bx,nb⟩ x) (Yb dO K):=rfl
theorem Yd {t:Tmp}:VStep P G tr ⟨dO,.next (.tmp t) false,ty,pos,af,g⟩ ⟨fr,bx,nb⟩ K=Dq ⟨fr,bx,nb⟩ (fr t) (SJ t dO ⟨fr,bx,nb⟩ K):=rfl
theorem Pb {m k:Operand} {ok:Bool}:VStep P G tr ⟨dO,.lookup T m k ok,ty,pos,af,g⟩ ⟨fr,bx,nb⟩ K=fM P T ⟨fr,bx,nb⟩ (ev G ⟨fr,bx,nb⟩ m) (ev G ⟨fr,bx,nb⟩ k) ok (kY dO ⟨fr,bx,nb⟩ K):=rfl
theorem SK {x:Operand}:VStep P G tr ⟨dO,.range T x,ty,pos,af,g⟩ ⟨fr,bx,nb⟩ K=oH P T ⟨fr,bx,nb⟩ (ev G ⟨fr,bx,nb⟩ x) (kY dO ⟨fr,bx,nb⟩ K):=rfl
theorem SL {x:Operand}:VStep P G tr ⟨dO,.entry x,ty,pos,af,g⟩ ⟨fr,bx,nb⟩ K=oI ⟨fr,bx,nb⟩ (ev G ⟨fr,bx,nb⟩ x) (kY dO ⟨fr,bx,nb⟩ K):=rfl
theorem ahv {i:Nat}:(V.mr i).fz=.mr i:=rfl
theorem ahw {i:Nat}:(V.yl i).fz=.yl i:=rfl
theorem Ye {i:Nat}:(V.mr i).isOw=false:=rfl
theorem Yf {i:Nat}:(V.yl i).isOw=false:=rfl
theorem Yg {i a b:Nat} {l:List Nat}:(V.it i a b l).isOw=true:=rfl
theorem Yh {i:Nat}:(V.mr i).isPO=true:=rfl
theorem Yi {i:Nat}:(V.yl i).isPO=true:=rfl
theorem Yj {i:Nat}:(V.mr i).isPR=true:=rfl
theorem Yk {i:Nat}:(V.yl i).isPR=true:=rfl
theorem akc {x:C}:(V.c x).dr=.c x:=rfl
theorem acW {x:List C}:(V.agg x).dr=.agg x:=rfl
def qD {α β:Type} (f:α→V) (h:β→V):List (α×β)→List V
 |[]=>[]
 |(a,b)::l=>f a::h b::qD f h l
theorem uy {α β:Type} {f:α→V} {h:β→V}:∀ l m:List (α×β),qD f h (l++m)=qD f h l++qD f h m
 |[],_=>rfl
 |(a,b)::l,m=>by simp[qD,uy l m]
theorem zJ {α β:Type} {ag:Bool} {f:α→V} {h:β→V} {c:α→List C} (hf:∀ a,(f a).kcs ag=some (c a)):∀ l:List (α×β),jQ ag (qD f h l)=some (l.map fun p=>c p.1)
 |[]=>rfl
 |(a,b)::l=>by simp[qD,jQ,hf,zJ hf l]
theorem rN {α β:Type} {f:α→V} {h:β→V}:∀ (l:List (α×β)) (j:Nat) (p:α×β),l[j]?=some p→(qD f h l).getD (2*j+1) .un=h p.2∧(qD f h l).getD (2*j) .un=f p.1
 |[],j,p,hp=>by simp at hp
 |(a,b)::l,0,p,hp=>by simp at hp;subst hp;exact⟨rfl,rfl⟩
 |(a,b)::l,j+1,p,hp=>by
  have:=rN (f:=f) (h:=h) l j p (by simpa using hp)
  rw[show 2*(j+1)=2*j+1+1 by omega]
  simpa only[qD,fy] using this
theorem BJ {α β:Type} {f:α→V} {h:β→V}:∀ (l:List (α×β)) (j:Nat) (a:α) (b b':β),l[j]?=some (a,b)→(qD f h l).set (2*j+1) (h b')=qD f h (l.set j (a,b'))
 |[],j,a,b,b',hp=>by simp at hp
 |(a,b)::l,0,a',b0,b',hp=>by simp at hp;simp[qD,hp.1]
 |(a,b)::l,j+1,a',b0,b',hp=>by
  have:=BJ (f:=f) (h:=h) l j a' b0 b' (by simpa using hp)
  rw[show 2*(j+1)+1=2*j+1+1+1 by omega]
  simp only[qD,ju,this]
theorem DX {α:Type} {ks:List EK} {c:α→List C} [DecidableEq α] (hl:∀ a,(c a).length=ks.length) (he:∀ a b,jB ks (c a) (c b)=some (decide (a=b))) (a:α):∀ (l:List α) (i:Nat),
 ng ks (c a) (l.map c) i=some ((l.findIdx? (fun b=>decide (a=b))).map (i+·))
 |[],i=>rfl
 |b::l,i=>by
  simp only[bA,ng,hl,db,he,List.findIdx?_cons]
  by_cases h:a=b
  ·simp[h]
  ·simp only[h,decide_false,aY,dm]
   rw[DX hl he a l (i+1)]
   cases l.findIdx? (fun b=>decide (a=b))<;>simp;omega
end
section
variable {P:Program} {G:Gl} {tr:List Nat} {fr:Nat→V} {bx:Nat→List V} {nb:Nat} {K:S→Prop} {KV:V→Prop} {Q:VE→S→Prop}
theorem K3 (args:List V):frm 0 args=fun j=>args.getD j .un:=by
 have:=HW args
 simp only[zG,S.mk.injEq] at this
 exact this.1.symm
theorem SN {b:List V} {r:List (List V)}:bxs (b::r) 0=b:=rfl
theorem SO {b:List V} {r:List (List V)} {n:Nat}:bxs (b::r) (n+1)=bxs r n:=rfl
theorem Yl {n:Nat}:bxs [] n=[]:=by simp[bxs]
theorem lW {f:FuncId} {fn:Func} {c:Code} {args:List V} {b0 b1:List (List V)} {r:V} (tr:List Nat) (hm:P.follows .mixedOrders=true) (hf:P.funcs[f]?=some fn) (hb:fn.body=some c) (mY:(fn.name== "runtime.NumGoroutine")=false)
 {rs:List ResultVar} (Mn:fn.results.toList=rs) {n:Nat} (hn:fn.ntmps=n) (vK:cok n tr c=true) (cg:args.length≤n) (oC:r.compT=true) {k:Nat} (hk:acg tr=k) (xd:b0.length=k)
 (dD:nO args b0=true) (jW:b0.length≤b1.length)
 (h:iI P G tr k c (Ap P k r b1 rs) ⟨frm 0 args,bxs b0,k⟩):FnB P G f args b0 r b1:=by
 subst hn
 subst Mn
 subst xd
 simp only[nO,aS,ba] at dD
 refine MN tr hm hf hb mY cg vK oC ⟨fun x hx=>V.ltB_ok (dD.1 x hx),fun b hb x hx=>V.ltB_ok (dD.2 b hb x hx),jW⟩ ?_
 rw[K3] at h;exact h
theorem tJ {k:Nat} {r:V} {b1:List (List V)} {rs:List ResultVar} {e:VE} (l:List (Nat×V)) (he:ux e=true) (eH:kR l b1=true) (hk:k≤b1.length) (hn:b1.length≤nb) (h1:FL l fr) (h2:BL 0 b1 bx) (hr:tR P false (hdS l b1) r rs) :
 Ap P k r b1 rs e ⟨fr,bx,nb⟩:=⟨H2 _ he,l,cD eH hk hn h1 h2,hr⟩
theorem pw {fr:Nat→V} {bx:Nat→List V} {nb:Nat}:tR P false ⟨fr,bx,nb⟩ (.tup []) []:=⟨[],rfl,rfl,fun _ _ _ h=>by simp at h⟩
theorem vh (m:Nat) (cs:List C):(cs.map V.c).all (fun x=>x.ltB m)=true:=by
 rw[List.all_map,ba];intro x _;rfl
theorem MP {T:TypeId} {i:TI} {e:TypeId} {es:List (List C)} (hT:ti P T=some i) (hk:i.kd=.slice e) (gW:es≠[]):GK P .eql T (.c (.sl es)) KV=KV (.c (.lit (.bool false))):=by
 obtain⟨kd,a,b,c,d,f,g⟩:=i;subst hk
 cases es with
 |nil=>exact absurd rfl gW
 |cons e es=>simp only[GK,hT,Ds]
theorem SQ {T:TypeId} {i:TI} {e:TypeId} (hT:ti P T=some i) (hk:i.kd=.slice e):GK P .eql T (.c (.sl [])) KV=(KV (.c (.lit (.bool true)))∧KV (.c (.lit (.bool false)))):=by
 obtain⟨kd,a,b,c,d,f,g⟩:=i;subst hk
 simp only[GK,hT,Ds]
theorem rO {s:S} {f:V} {args all cargs:List V} {g:FuncId} {K:S→V→Prop} {r:V} {b1:List (List V)} (hc:gv f args=some (g,all)) (hf:FnB P G g cargs [] r b1) (eF:all.map V.fz=cargs)
 (hK:K { s with bx:=gz (fun i=>s.nb+i) 0 b1 s.bx,nb:=s.nb+b1.length } (r.ren fun i=>s.nb+i)):vcallB P G s f args K:=by
 unfold vcallB ke
 simp only[hc]
 refine⟨[],cargs,[],r,b1,hf,?_,⟨rfl,fH⟩,trivial,?_⟩
 ·rw[eF,iP fun x hx=>X9 (hf.2.1.1 x hx)]
 ·rw[Ya]
  simpa using hK
theorem Pd {s:S} {f:V} {args all cargs:List V} {g:FuncId} {K:S→V→Prop} {r:V} {b0 b1:List (List V)} (hc:gv f args=some (g,all)) (hf:FnB P G g cargs b0 r b1) (eF:all.map V.fz=cargs)
 (hn:b0.length=s.nb) (hb:BL 0 b0 s.bx) (hK:K { s with bx:=fun i=>if i<b1.length then b1.getD i [] else s.bx i,nb:=b1.length } r):vcallB P G s f args K:=by
 unfold vcallB ke
 simp only[hc]
 refine⟨List.range s.nb,cargs,b0,r,b1,hf,?_,⟨by simp[hn],jh⟩,?_,?_⟩
 ·rw[yW,eF,pL]
 ·rw[yW]
  refine vg _ _ _ _ fun i b yC=>?_
  have hi:=(ah.1 yC).1
  have:=hb.get i hi
  rw[aX] at this ⊢
  refine⟨by omega,?_⟩
  rw[← this]
  simp[yC]
 ·rw[yW,rM,SI]
  have jW:=hf.2.1.2.2
  have e1:s.nb+(b1.length - b0.length)=b1.length:=by omega
  rw[e1]
  have e2:(fun i=>if 0≤i∧i<0+b1.length then b1.getD (i - 0) [] else s.bx i)=fun i=>if i<b1.length then b1.getD i [] else s.bx i:=by
   funext i;simp
  rw[e2];exact hK
end
section
variable {P:Program} {G:Gl} {tr:List Nat} {fr:Nat→V} {bx:Nat→List V} {nb:Nat} {K:S→Prop} {KV:V→Prop} {Q:VE→S→Prop}
def Ym {α:Type} (o:Option α) (K:α→Prop):Prop:=match o with
 |some a=>K a
 |none=>False
def BK (f:Option (Nat×Nat×Bool)) (ds:List C) (flds:List (Nat×Nat×Bool)) (r:List (Nat×V)) (cs:List C):Option (List C):=match f with
 |some (off,sz,_)=>if ds.length=sz∧off+sz≤cs.length then j9 flds r (oP cs off ds) else none
 |none=>none
def De (e sz:Nat) (z:List C) (len:Nat) (parts:List (Nat×V)) (K:V→Prop):Prop:=match jY sz parts (List.replicate len z) with
 |some es=>K (.ow (if len=0 then none else some (e,sz)) es)
 |none=>False
theorem wG {T e:TypeId} {i j:TI} {z:List C} {sz len:Nat} {parts:List (Nat×V)} (hT:ti P T=some i) (hk:i.kd=.slice e) (hE:ti P e=some j) (hz:j.zero=some z) (hs:j.size=sz) (hp:0<sz) (hl:z.length=sz) (hn:len*sz≤16777216) :
 cR P T len parts KV=De e sz z len parts KV:=by
 obtain⟨kd,a,b,c,d,f,g⟩:=i;subst hk
 obtain⟨kd',a',b',c',d',f',g'⟩:=j;simp only at hz hs;subst hz;subst hs
 simp only[cR,hT,hE,hp,hl,hn,jt];rfl
theorem Pe {sz:Nat} {es:List (List C)}:jY sz [] es=some es:=rfl
theorem Pf {sz i:Nat} {ds:List C} {r:List (Nat×V)} {es:List (List C)}:jY sz ((i,.agg ds)::r) es=if ds.length=sz∧i<es.length then jY sz r (es.set i ds) else none:=rfl
theorem Yn {sz i:Nat} {x:C} {r:List (Nat×V)} {es:List (List C)}:jY sz ((i,.c x)::r) es=if[x].length=sz∧i<es.length then jY sz r (es.set i [x]) else none:=rfl
theorem SR {sz i:Nat} {E:Option (TypeId×Nat)} {x:List (List C)} {r:List (Nat×V)} {es:List (List C)}:jY sz ((i,.ow E x)::r) es=if[C.sl x].length=sz∧i<es.length then jY sz r (es.set i [.sl x]) else none:=rfl
theorem Yo {e sz len:Nat} {z:List C} {parts:List (Nat×V)}:De e sz z len parts KV=Ym (jY sz parts (List.replicate len z)) (fun es=>KV (.ow (if len=0 then none else some (e,sz)) es)):=by
 unfold De Ym;cases jY sz parts (List.replicate len z)<;>rfl
def xP (flds:List (Nat×Nat×Bool)) (z:List C) (parts:List (Nat×V)) (K:V→Prop):Option (List C)→Prop
 |some cs=>K (.agg cs)
 |none=>Ym (jk flds parts (z.map .c)) fun vs=>K (.mag vs)
theorem ny {T:TypeId} {i:TI} {z:List C} {flds:List (Nat×Nat×Bool)} {parts:List (Nat×V)} (hT:ti P T=some i) (hk:i.kd=.struct) (hz:i.zero=some z) (hf:i.flds=flds) :
 jC P T parts KV=xP flds z parts KV (j9 flds parts z):=by
 obtain⟨kd,a,b,c,d,f,g⟩:=i;simp only at hk hz hf;subst hk;subst hz;subst hf
 simp only[jC,hT];unfold xP
 cases j9 f parts z with
 |some cs=>rfl
 |none=>cases jk f parts (z.map .c)<;>rfl
theorem Pg {z cs:List C} {flds:List (Nat×Nat×Bool)} {parts:List (Nat×V)}:xP flds z parts KV (some cs)=KV (.agg cs):=rfl
theorem Ph {α:Type} {a:α} {K:α→Prop}:Ym (some a) K=K a:=rfl
theorem Pi {flds:List (Nat×Nat×Bool)} {cs:List C}:j9 flds [] cs=some cs:=rfl
theorem Yp {flds:List (Nat×Nat×Bool)} {i:Nat} {x:C} {r:List (Nat×V)} {cs:List C}:j9 flds ((i,.c x)::r) cs=BK flds[i]? [x] flds r cs:=by
 unfold j9 BK;cases flds[i]?<;>rfl
theorem SS {flds:List (Nat×Nat×Bool)} {i:Nat} {E:Option (TypeId×Nat)} {x:List (List C)} {r:List (Nat×V)} {cs:List C}:j9 flds ((i,.ow E x)::r) cs=BK flds[i]? [.sl x] flds r cs:=by
 unfold j9 BK;cases flds[i]?<;>rfl
theorem Pj {flds:List (Nat×Nat×Bool)} {i:Nat} {ds:List C} {r:List (Nat×V)} {cs:List C}:j9 flds ((i,.agg ds)::r) cs=BK flds[i]? ds flds r cs:=by
 unfold j9 BK;cases flds[i]?<;>rfl
theorem K4 {off sz:Nat} {ag:Bool} {ds:List C} {flds:List (Nat×Nat×Bool)} {r:List (Nat×V)} {cs:List C}:BK (some (off,sz,ag)) ds flds r cs=if ds.length=sz∧off+sz≤cs.length then j9 flds r (oP cs off ds) else none:=rfl
theorem K5 {cs ds:List C}:oP cs 0 ds=ds++cs.drop ds.length:=by simp[oP]
theorem K6 {c:C} {cs ds:List C} {n:Nat}:oP (c::cs) (n+1) ds=c::oP cs n ds:=by simp[oP,Nat.succ_add]
def ldZ (nb b:Nat) (l:List V) (o:Nat) (K:V→Prop):Prop:=b<nb∧match l[o]? with
 |some (.ow none es)=>K (.ow none es)
 |_=>False
theorem yX {T:TypeId} {i:TI} {b o:Nat} (hT:ti P T=some i) (ha:i.agg=false):oJ P T ⟨fr,bx,nb⟩ (.bp b o) KV=(cy (bx b)=false∧ldZ nb b (bx b) o KV):=by
 simp only[oJ,hT,ha,ldZ];exact propext ⟨fun⟨⟨a,_,b⟩,c⟩=>⟨b,a,c⟩,fun⟨b,a,c⟩=>⟨⟨a,trivial,b⟩,c⟩⟩
theorem ahx {b:Nat} {es:List (List C)} {l:List V}:ldZ nb b (.ow none es::l) 0 KV=(b<nb∧KV (.ow none es)):=rfl
theorem ahy {b o:Nat} {v:V} {l:List V}:ldZ nb b (v::l) (o+1) KV=ldZ nb b l o KV:=by simp[ldZ]
def sM (f:Option (Nat×Nat×Bool)) (ds:List V) (flds:List (Nat×Nat×Bool)) (r:List (Nat×V)) (cs:List V):Option (List V):=match f with
 |some (off,sz,_)=>if ds.length=sz∧off+sz≤cs.length then jk flds r (Ag cs off ds) else none
 |none=>none
def tK (K:V→Prop):Option (List V)→Prop
 |some vs=>K (.mag vs)
 |none=>False
theorem pd {T:TypeId} {i:TI} {z:List C} {flds:List (Nat×Nat×Bool)} {parts:List (Nat×V)} (hT:ti P T=some i) (hk:i.kd=.struct) (hz:i.zero=some z) (hf:i.flds=flds) :
 kf P T parts KV=tK KV (jk flds parts (z.map ni)):=by
 obtain⟨kd,a,b,c,d,f,g⟩:=i;simp only at hk hz hf;subst hk;subst hz;subst hf
 simp only[kf,hT]
 cases jk f parts (z.map ni)<;>rfl
theorem K7 {vs:List V}:tK KV (some vs)=KV (.mag vs):=rfl
theorem Pk {flds:List (Nat×Nat×Bool)} {cs:List V}:jk flds [] cs=some cs:=rfl
theorem Yq {flds:List (Nat×Nat×Bool)} {i:Nat} {x:C} {r:List (Nat×V)} {cs:List V}:jk flds ((i,.c x)::r) cs=sM flds[i]? [.c x] flds r cs:=by
 unfold sM;simp only[jk,V.ps];cases flds[i]?<;>rfl
theorem SU {flds:List (Nat×Nat×Bool)} {i:Nat} {E:Option (TypeId×Nat)} {x:List (List C)} {r:List (Nat×V)} {cs:List V}:jk flds ((i,.ow E x)::r) cs=sM flds[i]? [.c (.sl x)] flds r cs:=by
 unfold sM;simp only[jk,V.ps];cases flds[i]?<;>rfl
theorem Pl {flds:List (Nat×Nat×Bool)} {i:Nat} {ds:List C} {r:List (Nat×V)} {cs:List V}:jk flds ((i,.agg ds)::r) cs=sM flds[i]? (ds.map .c) flds r cs:=by
 unfold sM;simp only[jk,V.ps];cases flds[i]?<;>rfl
theorem SV {flds:List (Nat×Nat×Bool)} {i b o l c z:Nat} {r:List (Nat×V)} {cs:List V}:jk flds ((i,.ms b o l c z)::r) cs=sM flds[i]? [.ms b o l c z] flds r cs:=by
 unfold sM;simp only[jk,V.ps];cases flds[i]?<;>rfl
theorem H4 {off sz:Nat} {ag:Bool} {ds:List V} {flds:List (Nat×Nat×Bool)} {r:List (Nat×V)} {cs:List V}:sM (some (off,sz,ag)) ds flds r cs=if ds.length=sz∧off+sz≤cs.length then jk flds r (Ag cs off ds) else none:=rfl
theorem Pm {cs ds:List V}:Ag cs 0 ds=ds++cs.drop ds.length:=by simp[Ag]
theorem Pn {c:V} {cs ds:List V} {n:Nat}:Ag (c::cs) (n+1) ds=c::Ag cs n ds:=by simp[Ag,Nat.succ_add]
theorem yY {T e:TypeId} {i j:TI} {z:List C} {sz by_:Nat} {E:Option (TypeId×Nat)} {es ys:List (List C)} (hT:ti P T=some i) (hk:i.kd=.slice e) (hE:ti P e=some j) (hz:j.zero=some z) (hs:j.size=sz) (hb:j.bytes=by_) (hp:0<sz) (hl:z.length=sz) :
 dN P T (.ow E es) (.c (.sl ys)) KV=(((E=none∨E=some (e,sz))∧∀ x∈es,x.length=sz)∧((es.length+ys.length)*by_≤140737488355328∧es.length+ys.length≤9223372036854775807∧∀ x∈ys,x.length=sz)∧KV (.ow (if ys.isEmpty then E else some (e,sz)) (es++ys))):=by
 obtain⟨kd,a,b,c,d,f,g⟩:=i;subst hk
 obtain⟨kd',a',b',c',d',f',g'⟩:=j;simp only at hz hs hb;subst hz;subst hs;subst hb
 simp only[dN,hT,hE,hp,hl,jt]
end
theorem bG {n:Int} {k:Nat} (h:n=(k:Nat)) (hk:k≤9223372036854775807):IntKind.i64.wrap n=(k:Nat):=by
 subst h;exact wrap_i64 _ (by omega)
section
variable {P:Program} {T e:TypeId} {i j:TI} {K:V→Prop} {blk off len cap k n' sz:Nat} {E:Option (TypeId×Nat)} {es:List (List C)} {s:S}
theorem AM {a:Option Addr} (hT:ti P T=some i) (hk:i.kd=.slice e) (hK:K (.c (.lit (.int .i64 len)))):hJ P T (.c (.ex (.slice a len cap))) K:=by
 obtain⟨kd,a1,a2,a3,a4,a5,a6⟩:=i;simp only at hk;subst hk
 simp only[hJ,hT];exact hK
theorem K8 {kd:IntKind} {n:Int} (hT:ti P T=some i) (hk:i.kd=.slice e) (hE:ti P e=some j) (hs:j.size=sz) (hz:sz≠0) (hn:n=(k:Nat)) (hl:k<len) (hK:K (.c (.ex (.pointer (some ⟨blk,off+k*sz,none⟩))))) :
 cE P T (.c (.ex (.slice (some ⟨blk,off,none⟩) len cap))) (.c (.lit (.int kd n))) K:=by
 obtain⟨kd',a1,a2,a3,a4,a5,a6⟩:=i;simp only at hk;subst hk
 subst hn;subst hs
 simp only[cE,hT,hE,c7]
 exact⟨⟨aA k,by omega,hz⟩,hK⟩
theorem K9 {f:Nat} {ag:Bool} (hT:ti P T=some i) (hf:i.flds[f]?=some (off,sz,ag)) (hz:sz≠0) (hK:K (.c (.ex (.pointer (some ⟨blk,k+off,none⟩))))):bf P T (.c (.ex (.pointer (some ⟨blk,k,none⟩)))) f K:=by
 simp only[bf,hT,hf]
 exact⟨hz,hK⟩
theorem acX {b o:Nat} {c:C} (hT:ti P T=some i) (kT:i.agg=false) (hb:b<s.nb) (hm:cy (s.bx b)=false) (hk:(s.bx b)[k]?=some (.hh (some (.slice (some ⟨blk,0,none⟩) len cap)) E es)) (ho:es.flatten[o]?=some c) (hK:K c.ldc) :
 dh P T s (.c (.ex (.pointer (some ⟨blk,o,none⟩)))) K:=by
 simp only[dh,hT]
 exact .inl ⟨kT,b,k,len,cap,E,es,c,⟨hb,hm,hk,ho⟩,hK⟩
theorem Yr {b o r:Nat} {x:List C} {c:C} {v:V} {t:Option Tmp} {dO:Option Tmp} {K:S→Prop} (hT:ti P T=some i) (hs:i.size=1) (hb:b<s.nb) (hm:cy (s.bx b)=false)
 (hk:(s.bx b)[k]?=some (.hh (some (.slice (some ⟨blk,0,none⟩) len cap)) E (es++[x]))) (ho:es.flatten.length+r=o) (hr:r<x.length) (hc:v.asC=some c)
 (hK:K ((let s':=s.use t;{ s' with bx:=up s'.bx b ((s'.bx b).set k (.hh (some (.slice (some ⟨blk,0,none⟩) len cap)) E (es++[x.set r c]))) }:S).put dO .sk)):pK (ti P T) t dO (.c (.ex (.pointer (some ⟨blk,o,none⟩)))) v s K:=by
 simp only[pK,hT]
 exact .inl ⟨b,k,len,cap,E,es,r,x,c,⟨hs,hb,hm,hk,⟨ho,hr⟩,hc⟩,hK⟩
theorem acY {G:Gl} {t d y:Nat} {v:Value} {y1:List C} {by_:Nat} {z:List C} (hT:ti P T=some i) (hk:i.kd=.slice e) (hE:ti P e=some j) (hs:j.size=sz) (hb:j.bytes=by_) (hz:j.zero=some z) (hp:0<sz) (uc:z.length=sz) (h1:s.fr t=.c (.ex v)) (h2:s.fr d=.gh v E es)
 (h0:t≠d∧y≠t∧y≠d) (hy:(vw s (s.fr y)).fz=.c (.sl [y1])) (hEE:E=none∨E=some (e,sz)) (pg:∀ x∈es,x.length=sz) (EJ:y1.length=sz) (hm:(es.length+1)*by_≤140737488355328) (hm2:es.length+1≤9223372036854775807)
 (hK:K (.hh none (some (e,sz)) (es++[y1]))):vD P G s (some d) [T,T] [.tmp t,.tmp y] K:=by
 obtain⟨kd',a1,a2,a3,a4,a5,a6⟩:=i;simp only at hk;subst hk
 obtain⟨b0,b1,b2,b3,b4,b5,b6⟩:=j;simp only at hs hb hz;subst hs;subst hb;subst hz
 unfold vD
 simp only[h1,h2,ev]
 refine⟨⟨h0.1,trivial,by simp[h0.2.1],by simp[h0.2.2]⟩,?_⟩
 rw[hy]
 simp only[ud,hT,hE]
 exact⟨trivial,⟨hp,uc,hEE,pg⟩,⟨hm,hm2,EJ⟩,hK⟩
theorem acZ {fr:Nat→V} {bx:Nat→List V} {nb:Nat} {t:Tmp} {dO:Option Tmp} {b o:Nat} {g:Option Value} {K:S→Prop} (h:fr t=.hh g E es):stS 1 (some t) dO b o (.hh g E es) ⟨fr,bx,nb⟩ K=
 ((b<nb∧o+1≤(bx b).length)∧K ((⟨up fr t .un,up bx b (fj (bx b) o [.hh g E es]),nb⟩:S).put dO .sk)):=by
 simp[stS,V.bcells,ic,h,V.isOw]
