/- Values without memory: how the conditions are computed: each law fires at a state that is written out, so that what follows stays as it is until its turn comes. -/
import Derived.Test.YtegbpjodbjhjeaaGreatDoorVlFn
set_option linter.all false
namespace Go.Vl
open Go Go.RowKit
section
variable {P:Program} {G:Gl} {tr:List Nat} {fr:Nat→V} {bx:Nat→List V} {nb k0:Nat} {K:S→Prop} {KV:V→Prop} {Q:VE→S→Prop}
def Q2 (P:Program) (G:Gl) (tr:List Nat) (ops:Array Oper) (r:List Oper) (K:S→Prop) (s:S):Prop:=eW P G tr ops r s K
def Wj (P:Program) (G:Gl) (tr:List Nat) (k0:Nat) (b:Code) (Q:VE→S→Prop) (e:VE) (s:S):Prop:=match e with | .normal=>gR P G tr k0 b Q s | e=>Q e s
def Wk (id:Nat) (Q:VE→S→Prop) (e:VE) (s:S):Prop:=match e with | .exit i=>if i=id then Q .normal s else Q (.exit i) s | e=>Q e s
def CS (P:Program) (G:Gl) (tr:List Nat) (k0:Nat) (v:V) (c:Operand) (x y:Code) (Q:VE→S→Prop) (s:S):Prop:=match v with
 | .c (.lit (.bool p))=>(p=true→gR P G tr k0 x Q (refine s c true))∧(p=false→gR P G tr k0 y Q (refine s c false))
 |_=>False
def vgd (P:Program) (G:Gl) (tr:List Nat) (ops:Array Oper) (o:Oper) (r:List Oper) (K:S→Prop) (d:Option Tmp) (v:V) (want:Bool) (s:S):Prop:=match d with
 |some d=>match v with
  | .c (.lit (.bool p))=>(p=want→VStep P G tr o { s with fr:=up s.fr d (.c (.lit (.bool want))) } (Q2 P G tr ops r K))∧
   (p=(!want)→eW P G tr ops r (({ s with fr:=up s.fr d (.c (.lit (.bool (!want)))) }:S).put o.dst .sk) K)
  | .sk=>eW P G tr ops r (s.put o.dst .sk) K
  |_=>False
 |none=>False
def Q3 (s:S):Option Tmp→V
 |some d=>s.fr d
 |none=>.un
def fzK (P:Program) (G:Gl) (tr:List Nat) (k0:Nat) (id:Nat) (ops:Array Oper) (Q:VE→S→Prop) (s:S):Prop:=∃ s',S.Fz (k0) s' s∧vtw P G tr id ops s' (Q .normal)
def ad2 (P:Program) (G:Gl) (tr:List Nat) (ops:Array Oper) (K:S→Prop) (s:S):Prop:=eW P G tr ops ops.toList s K
theorem Wl {ops:Array Oper}:ad2 P G tr ops K ⟨fr,bx,nb⟩=eW P G tr ops ops.toList ⟨fr,bx,nb⟩ K:=rfl
theorem Wm {i:Nat}:NC tr i=tr.contains (2300000+i):=rfl
theorem JX {i:Nat} {ops:Array Oper} {s:S} (hi:NC tr i=true) (h:GsK ops K s):spl tr i ops s K:=by
 unfold spl
 rw[if_pos hi]
 exact .inr (.inr (.inr h))
theorem JY {i:Nat} {ops:Array Oper} {d:Bool}:gR P G tr k0 (.region i ops d) Q ⟨fr,bx,nb⟩=if ND tr i then vpa P G tr i ops (Q .normal) ⟨fr,bx,nb⟩ else if QA tr i then fzK P G tr k0 i ops Q ⟨fr,bx,nb⟩ else if NC tr i then spl tr i ops ⟨fr,bx,nb⟩ (ad2 P G tr ops (Q .normal)) else eW P G tr ops ops.toList ⟨fr,bx,nb⟩ (Q .normal):=by
 show(if ND tr i then _ else if QA tr i then _ else spl tr i ops ⟨fr,bx,nb⟩ _)=_
 congr 1
 congr 1
 unfold spl
 split<;>rfl
theorem Wn {i:Nat}:ND tr i=tr.contains (2850000+i):=rfl
theorem Wo {i:Nat}:QA tr i=tr.contains (2600000+i):=rfl
theorem Wp {a b:Code}:gR P G tr k0 (.seq a b) Q ⟨fr,bx,nb⟩=gR P G tr k0 a (Wj P G tr k0 b Q) ⟨fr,bx,nb⟩:=rfl
theorem N4:gR P G tr k0 .skip Q ⟨fr,bx,nb⟩=Q .normal ⟨fr,bx,nb⟩:=rfl
theorem Wq:gR P G tr k0 .ret Q ⟨fr,bx,nb⟩=Q .ret ⟨fr,bx,nb⟩:=rfl
theorem Q4 {i:Nat}:gR P G tr k0 (.exit i) Q ⟨fr,bx,nb⟩=Q (.exit i) ⟨fr,bx,nb⟩:=rfl
theorem N5 {i:Nat} {a:Code}:gR P G tr k0 (.block i a) Q ⟨fr,bx,nb⟩=gR P G tr k0 a (Wk i Q) ⟨fr,bx,nb⟩:=rfl
theorem Q5 {c:Operand} {x y:Code}:gR P G tr k0 (.cond c x y) Q ⟨fr,bx,nb⟩=CS P G tr k0 (ev G ⟨fr,bx,nb⟩ c) c x y Q ⟨fr,bx,nb⟩:=rfl
theorem Cd {c:Operand} {x y:Code}:CS P G tr k0 (.c (.lit (.bool true))) c x y Q ⟨fr,bx,nb⟩=gR P G tr k0 x Q (refine ⟨fr,bx,nb⟩ c true):=by simp[CS]
theorem AL {c:Operand} {x y:Code}:CS P G tr k0 (.c (.lit (.bool false))) c x y Q ⟨fr,bx,nb⟩=gR P G tr k0 y Q (refine ⟨fr,bx,nb⟩ c false):=by simp[CS]
theorem aL {c:Operand} {x y:Code} {p:Bool} {s:S} (h1:p=true→gR P G tr k0 x Q (refine s c true)) (h2:p=false→gR P G tr k0 y Q (refine s c false)) :
 CS P G tr k0 (.c (.lit (.bool p))) c x y Q s:=⟨h1,h2⟩
theorem Hh {b:Code} {s:S}:Wj P G tr k0 b Q .normal s=gR P G tr k0 b Q s:=rfl
theorem Q6 {b:Code} {s:S}:Wj P G tr k0 b Q .ret s=Q .ret s:=rfl
theorem N6 {b:Code} {s:S} {i:Nat}:Wj P G tr k0 b Q (.exit i) s=Q (.exit i) s:=rfl
theorem Hi {id:Nat} {s:S}:Wk id Q .normal s=Q .normal s:=rfl
theorem Q7 {id:Nat} {s:S}:Wk id Q .ret s=Q .ret s:=rfl
theorem N7 {id i:Nat} {s:S}:Wk id Q (.exit i) s=if i=id then Q .normal s else Q (.exit i) s:=rfl
theorem JZ {t:Tmp} {p:Bool}:refine ⟨fr,bx,nb⟩ (.tmp t) p=⟨up fr t (.c (.lit (.bool p))),bx,nb⟩:=rfl
theorem Ws {ops:Array Oper}:eW P G tr ops [] ⟨fr,bx,nb⟩ K=K ⟨fr,bx,nb⟩:=rfl
theorem aat {ops:Array Oper} {d:Option Tmp} {op:Op} {ty:TypeId} {pos:String} {af:Array Edge} {r:List Oper} :
 eW P G tr ops (⟨d,op,ty,pos,af,none⟩::r) ⟨fr,bx,nb⟩ K=VStep P G tr ⟨d,op,ty,pos,af,none⟩ ⟨fr,bx,nb⟩ (Q2 P G tr ops r K):=rfl
theorem Wt {ops:Array Oper} {d:Option Tmp} {op:Op} {ty:TypeId} {pos:String} {af:Array Edge} {j:Nat} {w:Bool} {r:List Oper} :
 eW P G tr ops (⟨d,op,ty,pos,af,some (j,w)⟩::r) ⟨fr,bx,nb⟩ K=
  vgd P G tr ops ⟨d,op,ty,pos,af,some (j,w)⟩ r K ((ops[j]?).bind (·.dst)) (Q3 ⟨fr,bx,nb⟩ ((ops[j]?).bind (·.dst))) w ⟨fr,bx,nb⟩:=by
 simp only[eW,nl,vgd]
 cases hd:(ops[j]?).bind (·.dst) with
 |none=>rfl
 |some d=>rfl
theorem Wu {ops:Array Oper} {o:Oper} {r:List Oper} {d:Tmp} {w:Bool}:vgd P G tr ops o r K (some d) (.c (.lit (.bool w))) w ⟨fr,bx,nb⟩=VStep P G tr o ⟨up fr d (.c (.lit (.bool w))),bx,nb⟩ (Q2 P G tr ops r K):=by
 simp[vgd]
theorem aau {ops:Array Oper} {o:Oper} {r:List Oper} {d:Tmp}:vgd P G tr ops o r K (some d) (.c (.lit (.bool true))) false ⟨fr,bx,nb⟩=eW P G tr ops r ((⟨up fr d (.c (.lit (.bool true))),bx,nb⟩:S).put o.dst .sk) K:=by
 simp[vgd]
theorem aav {ops:Array Oper} {o:Oper} {r:List Oper} {d:Tmp}:vgd P G tr ops o r K (some d) (.c (.lit (.bool false))) true ⟨fr,bx,nb⟩=eW P G tr ops r ((⟨up fr d (.c (.lit (.bool false))),bx,nb⟩:S).put o.dst .sk) K:=by
 simp[vgd]
theorem aaw {ops:Array Oper} {o:Oper} {r:List Oper} {d:Tmp} {w:Bool}:vgd P G tr ops o r K (some d) .sk w ⟨fr,bx,nb⟩=eW P G tr ops r ((⟨fr,bx,nb⟩:S).put o.dst .sk) K:=rfl
theorem iK {ops:Array Oper} {o:Oper} {r:List Oper} {d:Tmp} {w p:Bool} {s:S} (h1:p=w→VStep P G tr o { s with fr:=up s.fr d (.c (.lit (.bool w))) } (Q2 P G tr ops r K))
 (h2:p=(!w)→eW P G tr ops r (({ s with fr:=up s.fr d (.c (.lit (.bool (!w)))) }:S).put o.dst .sk) K):vgd P G tr ops o r K (some d) (.c (.lit (.bool p))) w s:=⟨h1,h2⟩
theorem Hj {d:Tmp}:Q3 ⟨fr,bx,nb⟩ (some d)=fr d:=rfl
theorem Wv {ops:Array Oper} {r:List Oper}:Q2 P G tr ops r K ⟨fr,bx,nb⟩=eW P G tr ops r ⟨fr,bx,nb⟩ K:=rfl
theorem Q8 {d:Nat} {v:V}:(⟨fr,bx,nb⟩:S).put (some d) v=⟨up fr d v,bx,nb⟩:=rfl
theorem Q9 {v:V}:(⟨fr,bx,nb⟩:S).put none v=⟨fr,bx,nb⟩:=rfl
section
variable {d:Nat} {dO:Option Tmp} {t:Tmp} {ty T:TypeId} {pos:String} {af:Array Edge} {g:Option (Nat×Bool)}
theorem Ww:VStep P G tr ⟨some d,.move (.tmp t),ty,pos,af,g⟩ ⟨fr,bx,nb⟩ K=if tr.contains d then K (((⟨fr,bx,nb⟩:S).use (some t)).put (some d) (fr t)) else K ⟨up fr d (fr t).fz,bx,nb⟩:=by
 simp only[VStep,VYK,Qs,ev]
 split
 ·rename_i h;simp only[S.after,bV,Qs,h,cL]
 ·rename_i h;simp only[S.after,bV,Qs,h];rfl
theorem Ce {v:Value}:VStep P G tr ⟨some d,.move (.const v),ty,pos,af,g⟩ ⟨fr,bx,nb⟩ K=if tr.contains d then K ⟨up fr d (mJ v),bx,nb⟩ else K ⟨up fr d (mJ v).fz,bx,nb⟩:=rfl
theorem N8:VStep P G tr ⟨some d,.assign (.tmp t),ty,pos,af,g⟩ ⟨fr,bx,nb⟩ K=K (((⟨fr,bx,nb⟩:S).use (some t)).put (some d) (fr t)):=rfl
theorem zo {v:Value}:VStep P G tr ⟨some d,.assign (.const v),ty,pos,af,g⟩ ⟨fr,bx,nb⟩ K=K ⟨up fr d (mJ v),bx,nb⟩:=rfl
def Ra (c a b:V) (K:V→Prop):Prop:=match c with
 | .c (.lit (.bool p))=>K (if p then a.fz else b.fz)
 |_=>False
def m6 (dO:Option Tmp) (s:S) (K:S→Prop) (v:V):Prop:=K (s.put dO v)
theorem Wx {v:V}:m6 (some d) ⟨fr,bx,nb⟩ K v=K ⟨up fr d v,bx,nb⟩:=rfl
theorem Rb {c a b:Operand}:VStep P G tr ⟨dO,.pick c a b,ty,pos,af,g⟩ ⟨fr,bx,nb⟩ K=Ra (ev G ⟨fr,bx,nb⟩ c) (ev G ⟨fr,bx,nb⟩ a) (ev G ⟨fr,bx,nb⟩ b) (m6 dO ⟨fr,bx,nb⟩ K):=rfl
theorem J0 {a b:V}:Ra (.c (.lit (.bool true))) a b KV=KV a.fz:=rfl
theorem Hk {a b:V}:Ra (.c (.lit (.bool false))) a b KV=KV b.fz:=rfl
theorem aax {op:BinOp} {x:Operand} {t:Tmp} {yT:TypeId}:VStep P G tr ⟨dO,.binOp op T x (.tmp t) yT,ty,pos,af,g⟩ ⟨fr,bx,nb⟩ K=m5 P op T (ev G ⟨fr,bx,nb⟩ x) (fr t) (m6 dO ⟨fr,bx,nb⟩ K):=rfl
theorem Rc {op:BinOp} {x:Operand} {k:IntKind} {m:Int} {yT:TypeId}:VStep P G tr ⟨dO,.binOp op T x (.const (.int k m)) yT,ty,pos,af,g⟩ ⟨fr,bx,nb⟩ K=m5 P op T (ev G ⟨fr,bx,nb⟩ x) (.c (.lit (.int k m))) (m6 dO ⟨fr,bx,nb⟩ K):=rfl
theorem Re {op:BinOp} {x:Operand} {b:Bool} {yT:TypeId}:VStep P G tr ⟨dO,.binOp op T x (.const (.bool b)) yT,ty,pos,af,g⟩ ⟨fr,bx,nb⟩ K=m5 P op T (ev G ⟨fr,bx,nb⟩ x) (.c (.lit (.bool b))) (m6 dO ⟨fr,bx,nb⟩ K):=rfl
theorem Rf {op:BinOp} {x:Operand} {b:ByteArray} {yT:TypeId}:VStep P G tr ⟨dO,.binOp op T x (.const (.string b)) yT,ty,pos,af,g⟩ ⟨fr,bx,nb⟩ K=m5 P op T (ev G ⟨fr,bx,nb⟩ x) (.c (.lit (.string b))) (m6 dO ⟨fr,bx,nb⟩ K):=rfl
theorem J1 {op:BinOp} {x:Operand} {yT:TypeId}:VStep P G tr ⟨dO,.binOp op T x (.const (.slice none 0 0)) yT,ty,pos,af,g⟩ ⟨fr,bx,nb⟩ K=V1 P op T (ev G ⟨fr,bx,nb⟩ x) (m6 dO ⟨fr,bx,nb⟩ K):=rfl
theorem ad3 {op:UnOp} {x:Operand}:VStep P G tr ⟨dO,.unOp op T x,ty,pos,af,g⟩ ⟨fr,bx,nb⟩ K=vun op (ev G ⟨fr,bx,nb⟩ x) (m6 dO ⟨fr,bx,nb⟩ K):=rfl
def zK (dO:Option Tmp) (s:S) (K:S→Prop) (v:V):Prop:=K (s.put dO v)
theorem Rh:isZ tr (some d)=tr.contains (2500000+d):=rfl
theorem Wy {x:Operand}:VStep P G tr ⟨dO,.load T x,ty,pos,af,g⟩ ⟨fr,bx,nb⟩ K=
 if isZ tr dO then D6 P T ⟨fr,bx,nb⟩ (ev G ⟨fr,bx,nb⟩ x) (zK dO ⟨fr,bx,nb⟩ K) else qb tr dO (ev G ⟨fr,bx,nb⟩ x)=true∧dH P T ⟨fr,bx,nb⟩ (ev G ⟨fr,bx,nb⟩ x) (m6 dO ⟨fr,bx,nb⟩ K):=rfl
theorem Ri {t b k:Nat}:qb tr (some t) (.bp b k)=(!tr.contains (200000+t)||(decide (b<100)&&tr.contains (300000+t*100+b))):=rfl
theorem Wz {t:Nat} {cs:List C} {k:Nat}:qb tr (some t) (.c (.rp cs k))=true:=rfl
theorem Rj {t:Nat} {v:Value}:qb tr (some t) (.c (.ex v))=!tr.contains (200000+t):=rfl
theorem aay {t:Tmp}:Jx (.tmp t)=some t:=rfl
theorem EN {x:Operand} {f:Nat}:VStep P G tr ⟨dO,.fieldAddr T x f,ty,pos,af,g⟩ ⟨fr,bx,nb⟩ K=bn P T (ev G ⟨fr,bx,nb⟩ x) f (m6 dO ⟨fr,bx,nb⟩ K):=rfl
theorem Rk {x:Operand} {f:Nat}:VStep P G tr ⟨dO,.field T x f,ty,pos,af,g⟩ ⟨fr,bx,nb⟩ K=rf P T (ev G ⟨fr,bx,nb⟩ x) f (m6 dO ⟨fr,bx,nb⟩ K):=rfl
theorem EO {x i:Operand}:VStep P G tr ⟨dO,.indexAddr T x i,ty,pos,af,g⟩ ⟨fr,bx,nb⟩ K=cA P T (ev G ⟨fr,bx,nb⟩ x).fz (ev G ⟨fr,bx,nb⟩ i) (m6 dO ⟨fr,bx,nb⟩ K):=rfl
theorem Rl {x i:Operand}:VStep P G tr ⟨dO,.index T x i,ty,pos,af,g⟩ ⟨fr,bx,nb⟩ K=nj P T (ev G ⟨fr,bx,nb⟩ x) (ev G ⟨fr,bx,nb⟩ i) (m6 dO ⟨fr,bx,nb⟩ K):=rfl
theorem Rm {x:Operand} {lo hi mx:Option Operand}:VStep P G tr ⟨dO,.slice T x lo hi mx,ty,pos,af,g⟩ ⟨fr,bx,nb⟩ K=
 gY P T (ev G ⟨fr,bx,nb⟩ x).fz (lo.map (ev G ⟨fr,bx,nb⟩)) (hi.map (ev G ⟨fr,bx,nb⟩)) (mx.map (ev G ⟨fr,bx,nb⟩)) (m6 dO ⟨fr,bx,nb⟩ K):=rfl
theorem J2 {x:Operand} {U:TypeId}:VStep P G tr ⟨dO,.convert T U x,ty,pos,af,g⟩ ⟨fr,bx,nb⟩ K=
 if nI tr dO then D4 P ⟨fr,bx,nb⟩ dO T U K (ev G ⟨fr,bx,nb⟩ x) else oD P T U (vw ⟨fr,bx,nb⟩ (ev G ⟨fr,bx,nb⟩ x)).fz (m6 dO ⟨fr,bx,nb⟩ K):=rfl
def L8 (x:V) (K:V→Prop):Prop:=match x with
 | .bp i o=>K (.bp i o)
 | .c (.rp cs k)=>K (.c (.rp cs k))
 |_=>False
theorem Hl {x:Operand}:VStep P G tr ⟨dO,.nilCheck x,ty,pos,af,g⟩ ⟨fr,bx,nb⟩ K=L8 (ev G ⟨fr,bx,nb⟩ x) (m6 dO ⟨fr,bx,nb⟩ K):=rfl
theorem N9 {i o:Nat}:L8 (.bp i o) KV=KV (.bp i o):=rfl
theorem Rn {parts:Array (Nat×Operand)}:VStep P G tr ⟨dO,.build T parts,ty,pos,af,g⟩ ⟨fr,bx,nb⟩ K=
 if isZ tr dO then zG P T (parts.toList.map fun p=>(p.1,ev G ⟨fr,bx,nb⟩ p.2)) (zK dO ⟨fr,bx,nb⟩ K) else gZ P T (parts.toList.map fun p=>(p.1,ev G ⟨fr,bx,nb⟩ p.2)) (m6 dO ⟨fr,bx,nb⟩ K):=rfl
theorem Cf {len:Nat} {parts:Array (Nat×Operand)}:VStep P G tr ⟨dO,.buildSlice T len parts,ty,pos,af,g⟩ ⟨fr,bx,nb⟩ K=
 if nI tr dO then cG P T len (parts.toList.map fun p=>(p.1,ev G ⟨fr,bx,nb⟩ p.2)) (Qt ⟨fr,bx,nb⟩ dO len len K)
 else if Qx tr dO then(D5 P T len (parts.toList.map fun p=>(p.1,ev G ⟨fr,bx,nb⟩ p.2)) ⟨fr,bx,nb⟩ dO K∨cG P T len (parts.toList.map fun p=>(p.1,ev G ⟨fr,bx,nb⟩ p.2)) (exK (m6 dO ⟨fr,bx,nb⟩ K)))
 else cG P T len (parts.toList.map fun p=>(p.1,ev G ⟨fr,bx,nb⟩ p.2)) (m6 dO ⟨fr,bx,nb⟩ K):=rfl
theorem WA {e:TypeId} {sz n m:Nat} {es:List (List C)}:Qt ⟨fr,bx,nb⟩ dO n m K (.ow (some (e,sz)) es)=K ((⟨fr,up bx nb (es.flatten.map .c),nb+1⟩:S).put dO (.ms nb 0 n m sz)):=rfl
theorem Oa:nI [] dO=false:=by cases dO<;>rfl
theorem Ob:wb [] dO=false:=rfl
theorem Ro:Nz [] dO=false:=rfl
theorem Oc:Qx tr (some d)=tr.contains (1400000+d):=rfl
theorem Od:Jv tr (some d)=tr.contains (1100000+d):=rfl
theorem ad4 {s:S} {t:Tmp}:evX G s (.tmp t)=s.fr t:=rfl
theorem WB {s:S}:evX G s (.const (.slice none 0 0))=.c (.ex (.slice none 0 0)):=rfl
theorem Oe:Qr tr (some d)=tr.contains (1500000+d):=rfl
theorem J3:nI tr (some d)=tr.contains (2000000+d):=rfl
theorem J4:nI tr none=false:=rfl
theorem J5:wb tr (some d)=tr.contains (1000000+d):=rfl
theorem J6:wb tr none=tr.contains 999999:=rfl
theorem Of {d:Tmp}:Nz tr (some d)=tr.contains (1900000+d):=rfl
theorem Og:Nz tr none=tr.contains 1999999:=rfl
theorem Oh:BY tr (some d)=tr.contains (400000+d):=rfl
theorem Oi:BY tr none=tr.contains 399999:=rfl
theorem aaz {s:S} {v:V}:lcK tr dO s K ⟨fr,bx,nb⟩ v=(aap tr dO s ⟨fr,bx,nb⟩∧K ((⟨fr,bx,nb⟩:S).put dO v)):=rfl
def mkK (dO:Option Tmp) (s:S) (K:S→Prop) (n m sz:Nat) (z:List C):Prop:=K ({ s with bx:=up s.bx s.nb ((List.replicate m z).flatten.map .c),nb:=s.nb+1 }.put dO (.ms s.nb 0 n m sz))
theorem EP {l c:Operand}:VStep P G tr ⟨dO,.makeSlice T l c,ty,pos,af,g⟩ ⟨fr,bx,nb⟩ K=qG P T (ev G ⟨fr,bx,nb⟩ l) (ev G ⟨fr,bx,nb⟩ c) (mkK dO ⟨fr,bx,nb⟩ K):=rfl
theorem aaA {n m sz:Nat} {z:List C}:mkK dO ⟨fr,bx,nb⟩ K n m sz z=K ((⟨fr,up bx nb ((List.replicate m z).flatten.map .c),nb+1⟩:S).put dO (.ms nb 0 n m sz)):=rfl
def WC (x:V) (i:Nat) (K:V→Prop):Prop:=match x with
 | .tup ds=>match ds[i]? with
  |some d=>K d
  |none=>False
 |_=>False
theorem J7 {x:Operand} {i:Nat}:VStep P G tr ⟨dO,.extract x i,ty,pos,af,g⟩ ⟨fr,bx,nb⟩ K=WC (ev G ⟨fr,bx,nb⟩ x) i (m6 dO ⟨fr,bx,nb⟩ K):=rfl
theorem Oj {v:V} {ds:List V}:WC (.tup (v::ds)) 0 KV=KV v:=rfl
theorem Rp {v u:V} {ds:List V}:WC (.tup (v::u::ds)) 1 KV=KV u:=rfl
theorem Rq {v u x:V} {ds:List V}:WC (.tup (v::u::x::ds)) 2 KV=KV x:=rfl
theorem Hm {f:Fn} {a b:Array Operand}:VStep P G tr ⟨dO,.makeFunc f a b,ty,pos,af,g⟩ ⟨fr,bx,nb⟩ K=
 ((((a.toList.map (ev G ⟨fr,bx,nb⟩)).all V.isPR=true∧(b.toList.map (ev G ⟨fr,bx,nb⟩)).all V.isPR=true))∧m6 dO ⟨fr,bx,nb⟩ K (.clo f (a.toList.map (ev G ⟨fr,bx,nb⟩)) (b.toList.map (ev G ⟨fr,bx,nb⟩)))):=rfl
theorem WE {v:V}:Gq dO K ⟨fr,bx,nb⟩ v=K ((⟨fr,bx,nb⟩:S).put dO v):=rfl
theorem WG {f:Operand} {args:Array Operand} {ts:Array TypeId}:VStep P G tr ⟨dO,.call ⟨.value f,args,ts⟩,ty,pos,af,g⟩ ⟨fr,bx,nb⟩ K=
 if Jv tr dO then xK P G ⟨fr,bx,nb⟩ (ev G ⟨fr,bx,nb⟩ f) (args.toList.map (ev G ⟨fr,bx,nb⟩)) (Gq dO K) else
 if Qr tr dO then og P G ⟨fr,bx,nb⟩ (ev G ⟨fr,bx,nb⟩ f) (args.toList.map (evX G ⟨fr,bx,nb⟩)) (Gq dO K) else
 if wb tr dO then vcallB P G ⟨fr,bx,nb⟩ (ev G ⟨fr,bx,nb⟩ f) (args.toList.map (ev G ⟨fr,bx,nb⟩)) (if BY tr dO then lcK tr dO ⟨fr,bx,nb⟩ K else Gq dO K)
 else if Nz tr dO then l6 P G ⟨fr,bx,nb⟩ (ev G ⟨fr,bx,nb⟩ f) (args.toList.map (ev G ⟨fr,bx,nb⟩)) (m6 dO ⟨fr,bx,nb⟩ K)
 else qF P G ⟨fr,bx,nb⟩ (ev G ⟨fr,bx,nb⟩ f) (args.toList.map (ev G ⟨fr,bx,nb⟩)) (m6 dO ⟨fr,bx,nb⟩ K):=rfl
theorem aaB {args:Array Operand} {ts:Array TypeId}:VStep P G tr ⟨dO,.call ⟨.builtin .len,args,ts⟩,ty,pos,af,g⟩ ⟨fr,bx,nb⟩ K=
 if Qy tr dO then Gp P ⟨fr,bx,nb⟩ (m6 dO ⟨fr,bx,nb⟩ K) ts.toList (args.toList.map (ev G ⟨fr,bx,nb⟩)) else eP P .len ts.toList (args.toList.map (ev G ⟨fr,bx,nb⟩)) (m6 dO ⟨fr,bx,nb⟩ K):=rfl
theorem Ol:Qy tr (some d)=tr.contains (1600000+d):=rfl
def WH (t:Option Tmp) (dO:Option Tmp) (s:S) (K:S→Prop) (v:V):Prop:=K ((s.use t).put dO v)
def Om:List Operand→Option Tmp
 | .tmp t::_=>some t
 |_=>none
theorem On {args:Array Operand} {T U:TypeId}:VStep P G tr ⟨dO,.call ⟨.builtin .append,args,#[T,U]⟩,ty,pos,af,g⟩ ⟨fr,bx,nb⟩ K=
 if nI tr dO then wd P ⟨fr,bx,nb⟩ dO K [T,U] (args.toList.map fun x=>vw ⟨fr,bx,nb⟩ (ev G ⟨fr,bx,nb⟩ x))
 else if Ad tr dO then eV P ⟨fr,bx,nb⟩ (Gq dO K) [T,U] (args.toList.map (ev G ⟨fr,bx,nb⟩))
 else if Ab tr dO then(if xM tr dO then wa P G ⟨fr,bx,nb⟩ dO [T,U] args.toList (WH (Om args.toList) dO ⟨fr,bx,nb⟩ K) else jO P G ⟨fr,bx,nb⟩ dO [T,U] args.toList (WH (Om args.toList) dO ⟨fr,bx,nb⟩ K))
 else eP P .append [T,U] (args.toList.map fun x=>vw ⟨fr,bx,nb⟩ (ev G ⟨fr,bx,nb⟩ x)) (WH (Om args.toList) dO ⟨fr,bx,nb⟩ K):=rfl
theorem ye:Ab tr (some d)=tr.contains (2400000+d):=rfl
theorem Oo:xM tr (some d)=tr.contains (2450000+d):=rfl
theorem Hn:Ad tr (some d)=tr.contains (2700000+d):=rfl
theorem Rr {args:Array Operand} {T:TypeId}:VStep P G tr ⟨dO,.call ⟨.builtin .clear,args,#[T]⟩,ty,pos,af,g⟩ ⟨fr,bx,nb⟩ K=iJ P ⟨fr,bx,nb⟩ (fun s'=>K (s'.put dO .un)) [T] (args.toList.map (ev G ⟨fr,bx,nb⟩)):=rfl
theorem J8 {T:TypeId} {es:List (List C)} {y:V}:wd P ⟨fr,bx,nb⟩ dO K [T,T] [.ow none es,y]=ee P T (.ow none es) y.fz (V0 ⟨fr,bx,nb⟩ dO K):=by simp[wd]
theorem WI {e:TypeId} {sz:Nat} {es:List (List C)}:V0 ⟨fr,bx,nb⟩ dO K (.ow (some (e,sz)) es)=K ((⟨fr,up bx nb (es.flatten.map .c),nb+1⟩:S).put dO (.ms nb 0 es.length es.length sz)):=rfl
theorem Rs {v:V}:WH (some t) (some d) ⟨fr,bx,nb⟩ K v=K (((⟨fr,bx,nb⟩:S).use (some t)).put (some d) v):=rfl
theorem Rt:VStep P G tr ⟨some d,.alloc T,ty,pos,af,g⟩ ⟨fr,bx,nb⟩ K=match ti P T with
 |some { zero:=some z,.. }=>K ⟨up fr d (.bp nb 0),up bx nb (z.map nH),nb+1⟩
 |_=>False:=rfl
def boxK (t:Option Tmp) (d:Nat) (v:V) (s:S) (K:S→Prop):Prop:=match v.bcells with
 |some cs=>K ((let s':=s.use t;{ s' with bx:=up s'.bx s'.nb cs,nb:=s'.nb+1 }:S).put (some d) (.bp s.nb 0))
 |none=>False
theorem aaC:VStep P G tr ⟨some d,.box T (.tmp t),ty,pos,af,g⟩ ⟨fr,bx,nb⟩ K=boxK (some t) d (fr t) ⟨fr,bx,nb⟩ K:=rfl
def oR (i:Option TI) (t:Option Tmp) (dO:Option Tmp) (p v:V) (s:S) (K:S→Prop):Prop:=match i,p,v.bcells with
 |some i,.bp b k,some cs=>(b<s.nb∧cs.length=i.size∧k+i.size≤(s.bx b).length∧dc (s.bx b)=false)∧
   K ((let s':=s.use t;{ s' with bx:=up s'.bx b (eU (s'.bx b) k cs) }:S).put dO .sk)
 |some i,.c (.ex (.pointer (some ⟨blk,j,none⟩))),_=>(∃ (b k len cap:Nat) (E:Option (TypeId×Nat)) (es:List (List C)) (r:Nat) (e:List C) (c:C),(i.size=1∧b<s.nb∧dc (s.bx b)=false∧(s.bx b)[k]?=some (V.hh (some (.slice (some ⟨blk,0,none⟩) len cap)) E (es++[e]))∧
   (es.flatten.length+r=j∧r<e.length)∧v.asC=some c)∧
   K ((let s':=s.use t;{ s' with bx:=up s'.bx b ((s'.bx b).set k (.hh (some (.slice (some ⟨blk,0,none⟩) len cap)) E (es++[e.set r c]))) }:S).put dO .sk))∨
   aaq s.bx s.nb i blk j v (fun bx=>K ((let s':=s.use t;{ s' with bx:=bx }:S).put dO .sk))
 |_,_,_=>False
theorem Rv {p:Operand}:VStep P G tr ⟨dO,.store T p (.tmp t),ty,pos,af,g⟩ ⟨fr,bx,nb⟩ K=(qb tr (Jx p) (ev G ⟨fr,bx,nb⟩ p)=true∧oR (ti P T) (some t) dO (ev G ⟨fr,bx,nb⟩ p) (fr t) ⟨fr,bx,nb⟩ K):=rfl
theorem AM {p:Operand} {v:Value}:VStep P G tr ⟨dO,.store T p (.const v),ty,pos,af,g⟩ ⟨fr,bx,nb⟩ K=(qb tr (Jx p) (ev G ⟨fr,bx,nb⟩ p)=true∧oR (ti P T) none dO (ev G ⟨fr,bx,nb⟩ p) (mJ v) ⟨fr,bx,nb⟩ K):=rfl
theorem mO:(⟨fr,bx,nb⟩:S).use (some t)=if(fr t).isOw=true then⟨up fr t .un,bx,nb⟩ else⟨fr,bx,nb⟩:=rfl
theorem Ho:(⟨fr,bx,nb⟩:S).use none=⟨fr,bx,nb⟩:=rfl
theorem aaD:ev G ⟨fr,bx,nb⟩ (.tmp t)=fr t:=rfl
theorem Rw {v:Value}:ev G ⟨fr,bx,nb⟩ (.const v)=mJ v:=rfl
theorem WJ {f:FuncId}:ev G ⟨fr,bx,nb⟩ (.func f)=.c (.fn (.func f) [] []):=rfl
theorem J9 {k:IntKind} {n:Int}:mJ (.int k n)=.c (.lit (.int k n)):=rfl
theorem Hp {b:Bool}:mJ (.bool b)=.c (.lit (.bool b)):=rfl
theorem Cg {b:ByteArray}:mJ (.string b)=.c (.lit (.string b)):=rfl
theorem Ka {l:List Value}:mJ (.agg l.toArray)=if l.all t6 then .agg (l.map constC) else .un:=rfl
theorem Hq {k:IntKind} {n:Int}:t6 (.int k n)=true:=rfl
theorem Hr:t6 (.slice none 0 0)=true:=rfl
theorem Kc {k:IntKind} {n:Int}:constC (.int k n)=.lit (.int k n):=rfl
theorem Kd:constC (.slice none 0 0)=.sl []:=rfl
theorem Ke:mJ (.slice none 0 0)=.ow none []:=rfl
theorem agO {s:S} {x:C}:vw s (.c x)=.c x:=rfl
theorem aaE {s:S} {E:Option (TypeId×Nat)} {es:List (List C)}:vw s (.ow E es)=.ow E es:=rfl
section
variable {k:IntKind} {a b:Int} {op:BinOp} {T:TypeId} {t:Tmp}
theorem Rx:m5 P op T (.c (.lit (.int k a))) (.c (.lit (.int k b))) KV=qD op k a b KV:=by
 simp only[m5]
 split<;>rfl
theorem Ry {a b:ByteArray}:m5 P op T (.c (.lit (.string a))) (.c (.lit (.string b))) KV=zZ op a b KV:=rfl
def aaF (i:Option TI) (op:BinOp) (a b:Bool) (K:V→Prop):Prop:=match i with
 |some { kd:=.bool,.. }=>match op with
  | .eql=>K (.c (.lit (.bool (a==b))))
  | .neq=>K (.c (.lit (.bool (!(a==b)))))
  |_=>False
 |_=>False
theorem Oq {a b:Bool}:m5 P op T (.c (.lit (.bool a))) (.c (.lit (.bool b))) KV=aaF (ti P T) op a b KV:=rfl
def Ht (i:Option TI) (op:BinOp) (xs ys:List C) (K:V→Prop):Prop:=match i with
 |some { eqs:=some ks,agg:=true,.. }=>match jM ks xs ys with
  |some r=>(xs.length=ks.length∧ys.length=ks.length)∧match op with
   | .eql=>K (.c (.lit (.bool r)))
   | .neq=>K (.c (.lit (.bool (!r))))
   |_=>False
  |none=>False
 |_=>False
theorem Hu {xs ys:List C}:m5 P op T (.agg xs) (.agg ys) KV=Ht (ti P T) op xs ys KV:=rfl
theorem Rz:qD .add k a b KV=KV (.c (.lit (.int k (k.wrap (a+b))))):=rfl
theorem RA:qD .sub k a b KV=KV (.c (.lit (.int k (k.wrap (a - b))))):=rfl
theorem RB:qD .eql k a b KV=KV (.c (.lit (.bool (decide (a=b))))):=rfl
theorem RE:qD .neq k a b KV=KV (.c (.lit (.bool (!decide (a=b))))):=rfl
theorem RF:qD .lss k a b KV=KV (.c (.lit (.bool (decide (a<b))))):=rfl
theorem RG:qD .leq k a b KV=KV (.c (.lit (.bool (decide (a≤b))))):=rfl
theorem RH:qD .gtr k a b KV=KV (.c (.lit (.bool (decide (b<a))))):=rfl
theorem RI:qD .geq k a b KV=KV (.c (.lit (.bool (decide (b≤a))))):=rfl
theorem ad5 {x:C}:(V.c x).ldv=.c x:=rfl
theorem WL {cs:List C}:(V.agg cs).ldv=.agg cs:=rfl
theorem RJ {es:List (List C)}:(V.ow none es).ldv=.ow none es:=rfl
theorem RL {E:TypeId×Nat} {es:List (List C)}:(V.ow (some E) es).ldv=.c (.sl es):=rfl
theorem aaG {i o:Nat}:(V.bp i o).ldv=.bp i o:=rfl
theorem WM {f:Fn} {x y:List V}:(V.clo f x y).ldv=.clo f x y:=rfl
theorem aaH {i o l c z:Nat}:(V.ms i o l c z).ldv=.ms i o l c z:=rfl
theorem aaI {i:Nat}:(V.mr i).ldv=.mr i:=rfl
theorem agP {x:C}:(V.c x).fz=.c x:=rfl
theorem ad6 {E:Option (TypeId×Nat)} {es:List (List C)}:(V.ow E es).fz=.c (.sl es):=rfl
theorem ad7 {i o:Nat}:(V.bp i o).fz=.bp i o:=rfl
theorem aaJ {f:Fn} {x y:List V}:(V.clo f x y).fz=.clo f x y:=rfl
theorem ad8 {i o l c z:Nat}:(V.ms i o l c z).fz=.ms i o l c z:=rfl
theorem WN {i o l c z:Nat}:(V.ms i o l c z).isOw=false:=rfl
theorem aaK {x:List V}:(V.tup x).fz=.tup x:=rfl
theorem aaL {x:C}:(V.c x).isOw=false:=rfl
theorem RN {cs:List C}:(V.agg cs).isOw=false:=rfl
theorem WO {E:Option (TypeId×Nat)} {es:List (List C)}:(V.ow E es).isOw=true:=rfl
theorem WP {i o:Nat}:(V.bp i o).isOw=false:=rfl
theorem RO {f:Fn} {x y:List V}:(V.clo f x y).isOw=false:=rfl
def frm:Nat→List V→Nat→V
 |_,[]=>fun _=>.un
 |i,v::r=>up (frm (i+1) r) i v
theorem WQ {i:Nat}:frm i []=fun _=>.un:=rfl
theorem RP {i:Nat} {v:V} {r:List V}:frm i (v::r)=up (frm (i+1) r) i v:=rfl
theorem L9:∀ (l:List V) (i j:Nat),frm i l j=if i≤j then l.getD (j - i) .un else .un
 |[],i,j=>by simp[frm]
 |v::r,i,j=>by
  simp only[frm,au,L9 r (i+1) j]
  by_cases h:j=i
  ·subst h;simp
  ·rw[if_neg h]
   by_cases h1:i≤j
   ·rw[if_pos h1,if_pos (by omega)]
    have:j - i=(j - (i+1))+1:=by omega
    rw[this];rfl
   ·rw[if_neg h1,if_neg (by omega)]
theorem Hv (args:List V):yW args=⟨frm 0 args,fun _=>[],0⟩:=by
 unfold yW
 congr 1
 funext j
 rw[L9]
 simp
def RQ (P:Program) (z:Bool) (r:V) (rs:List ResultVar) (e:VE) (s:S):Prop:=(match e with | .exit _=>False | _=>True)∧qt P z s r rs
theorem RR {z:Bool} {r:V} {rs:List ResultVar} {s:S}:RQ P z r rs .ret s=qt P z s r rs:=by simp[RQ]
theorem Hw {z:Bool} {r:V} {rs:List ResultVar} {s:S}:RQ P z r rs .normal s=qt P z s r rs:=by simp[RQ]
theorem gx {r:V} {t:Tmp}:qt P false ⟨fr,bx,nb⟩ r [.tmp t]=(fr t=r):=rfl
theorem Ma {r:V} {t:Tmp}:qt P true ⟨fr,bx,nb⟩ r [.tmp t]=(imm ⟨fr,bx,nb⟩ (fr t)=some r):=by simp[qt,JV]
theorem fh {r:V} {t:Tmp} {T:TypeId}:qt P false ⟨fr,bx,nb⟩ r [.cell t T]=dH P T ⟨fr,bx,nb⟩ (fr t) (fun u=>u=r):=rfl
theorem lW {d e:V} {t u:Tmp} (h1:(fr t).fz=d) (h2:(fr u).fz=e):qt P false ⟨fr,bx,nb⟩ (.tup [d,e]) [.tmp t,.tmp u]:=by
 refine⟨_,rfl,rfl,fun i R x hR hx=>?_⟩
 match i with
 |0=>simp only[bJ,ao] at hR hx;subst hR;subst hx;exact h1
 |1=>simp only[cK,bJ,ao] at hR hx;subst hR;subst hx;exact h2
 |n+2=>simp at hR
theorem bE {f:FuncId} {fn:Func} {c:Code} {args:List V} {r:V} (z:Bool) (tr:List Nat) (hm:P.follows .mixedOrders=true) (hf:P.funcs[f]?=some fn) (hb:fn.body=some c) (gQ:(fn.name== "runtime.NumGoroutine")=false)
 {rs:List ResultVar} (xI:fn.results.toList=rs) {n:Nat} (hn:fn.ntmps=n) (pQ:cok n tr c=true) (cu:args.length≤n)
 (hr:r.out=true) (iU:r.compT=true)
 (h:gR P G tr (ol tr) c (RQ P z r rs) ⟨frm 0 args,fun _=>[],0⟩):FnOK P G f args r:=by
 subst hn
 subst xI
 refine Wh z tr hm hf hb gQ cu pQ hr iU ?_
 rw[Hv];exact h
end
end
end
section
variable {P:Program} {G:Gl} {tr:List Nat} {fr:Nat→V} {bx:Nat→List V} {nb k0:Nat} {K:S→Prop} {KV:V→Prop} {Q:VE→S→Prop}
def frs:List (Nat×V)→Nat→V
 |[]=>fun _=>.un
 |(i,v)::r=>up (frs r) i v
theorem WR:frs []=fun _=>.un:=rfl
theorem RS {i:Nat} {v:V} {r:List (Nat×V)}:frs ((i,v)::r)=up (frs r) i v:=rfl
def FL:List (Nat×V)→(Nat→V)→Prop
 |[],_=>True
 |(i,v)::r,f=>f i=v∧FL r f
theorem FL.le:∀ {l:List (Nat×V)} {f:Nat→V},FL l f→adX (frs l) f
 |[],_,_=>fun _=>.inl rfl
 |(i,v)::r,f,h=>fun t=>by
  by_cases ht:t=i
  ·subst ht;right;simp only[frs,cx];exact h.1.symm
  ·simp only[frs,dj _ _ ht];exact h.2.le t
def bxs (bl:List (List V)):Nat→List V:=fun i=>bl.getD i []
def BL:Nat→List (List V)→(Nat→List V)→Prop
 |_,[],_=>True
 |i,b::r,f=>f i=b∧BL (i+1) r f
theorem BL.get:∀ {bl:List (List V)} {k:Nat} {f:Nat→List V},BL k bl f→∀ i,i<bl.length→bl.getD i []=f (k+i)
 |[],_,_,_,i,hi=>by simp at hi
 |b::r,k,f,h,i,hi=>by
  cases i with
  |zero=>simp[h.1]
  |succ i=>
   have:=h.2.get i (by simpa using hi)
   simpa[dn,lE,Nat.add_left_comm] using this
def V.ltPB (m:Nat):V→Bool
 | .bp i _=>decide (i<m)
 | .bm _ i _=>decide (i<m)
 | .ms i _ _ _ _=>decide (i<m)
 | .mr i=>decide (i<m)
 | .yl i=>decide (i<m)
 |_=>true
theorem V.ltPB_ok {m:Nat} {v:V} (h:v.ltPB m=true):v.ltP m:=by
 cases v<;>simp only[V.ltP]<;>simpa[V.ltPB] using h
def V.ltB (m:Nat):V→Bool
 | .bp i _=>decide (i<m)
 | .bm _ i _=>decide (i<m)
 | .ms i _ _ _ _=>decide (i<m)
 | .clo _ fs cs=>fs.all (V.ltPB m)&&cs.all (V.ltPB m)
 | .mag vs=>vs.all (V.ltPB m)
 | .mr i=>decide (i<m)
 | .it i _ _ _=>decide (i<m)
 | .yl i=>decide (i<m)
 | .lp _ fl=>fl.all fun p=>p.2.ltPB m
 |_=>true
theorem V.ltB_ok {m:Nat} {v:V} (h:v.ltB m=true):v.lt m:=by
 cases v<;>simp only[V.lt]<;>simp only[V.ltB] at h
 ·simpa using h
 ·simp only[aI,aU] at h
  exact⟨fun x hx=>V.ltPB_ok (h.1 x hx),fun x hx=>V.ltPB_ok (h.2 x hx)⟩
 ·simpa using h
 ·simp only[aU] at h
  exact fun x hx=>V.ltPB_ok (h x hx)
 ·simpa using h
 ·simpa using h
 ·simpa using h
 ·simp only[aU] at h
  exact fun p hp=>V.ltPB_ok (h p hp)
 ·simpa using h
def eQ (l:List (Nat×V)) (bl:List (List V)):Bool:=l.all (fun p=>p.2.ltB bl.length)&&bl.all fun b=>b.all fun x=>x.ltB bl.length
theorem EQ {m:Nat}:∀ {l:List (Nat×V)},(∀ p∈l,p.2.lt m)→∀ t,(frs l t).lt m
 |[],_,_=>trivial
 |(i,v)::r,h,t=>by
  by_cases ht:t=i
  ·subst ht;simp only[frs,cx];exact h _ (aW ..)
  ·simp only[frs,dj _ _ ht];exact EQ (fun p hp=>h p (aR _ hp)) t
def hdS (l:List (Nat×V)) (bl:List (List V)):S:=⟨frs l,bxs bl,bl.length⟩
theorem bT {l:List (Nat×V)} {bl:List (List V)} {k:Nat} (dC:eQ l bl=true) (hk:k≤bl.length) (hn:bl.length≤nb) (h1:FL l fr) (h2:BL 0 bl bx):S.Le k (hdS l bl) ⟨fr,bx,nb⟩:=by
 simp only[eQ,aI,aU] at dC
 refine⟨hk,h1.le,hn,fun i hi=>?_,fun t=>EQ (fun p hp=>V.ltB_ok (dC.1 p hp)) t,fun i hi x hx=>?_⟩
 ·have:=h2.get i hi;simpa[hdS,bxs] using this
 ·simp only[hdS] at hi hx
  have:bxs bl i∈bl:=by
   simp only[bxs,List.getD,aj hi,bU];exact aF hi
  exact V.ltB_ok (dC.2 _ this x hx)
def FZL (s:S) (m:Nat):List (Nat×V)→(Nat→V)→Prop
 |[],_=>True
 |(i,v)::r,f=>(f i=v∨FzV s m v (f i))∧FZL s m r f
def LZ (s:S) (m:Nat):List V→List V→Prop
 |[],[]=>True
 |x::xs,y::ys=>(x=y∨FzV s m x y)∧LZ s m xs ys
 |_,_=>False
def BZL (s:S) (m:Nat):Nat→List (List V)→(Nat→List V)→Prop
 |_,[],_=>True
 |i,b::r,f=>LZ s m b (f i)∧BZL s m (i+1) r f
theorem LZ.ok {s:S} {m:Nat}:∀ {xs ys:List V},LZ s m xs ys→xs.length=ys.length∧∀ j,xs.getD j .un=ys.getD j .un∨FzV s m (xs.getD j .un) (ys.getD j .un)
 |[],[],_=>⟨rfl,fun _=>.inl rfl⟩
 |x::xs,y::ys,h=>by
  obtain⟨h1,h2⟩:=LZ.ok h.2
  refine⟨by simp[h1],fun j=>?_⟩
  cases j with
  |zero=>simpa using h.1
  |succ j=>simpa using h2 j
 |[],_::_,h=>h.elim
 |_::_,[],h=>h.elim
theorem BZL.get {s:S} {m:Nat}:∀ {bl:List (List V)} {k:Nat} {f:Nat→List V},BZL s m k bl f→∀ i,i<bl.length→LZ s m (bl.getD i []) (f (k+i))
 |[],_,_,_,i,hi=>by simp at hi
 |b::r,k,f,h,i,hi=>by
  cases i with
  |zero=>simpa using h.1
  |succ i=>
   have:=h.2.get i (by simpa using hi)
   simpa[dn,lE,Nat.add_left_comm] using this
theorem FZL.ok {s:S} {m:Nat}:∀ {l:List (Nat×V)} {f:Nat→V},FZL s m l f→∀ t,frs l t=.un∨frs l t=f t∨FzV s m (frs l t) (f t)
 |[],_,_,_=>.inl rfl
 |(i,v)::r,f,h,t=>by
  by_cases ht:t=i
  ·subst ht
   simp only[frs,cx]
   rcases h.1 with e | e
   ·exact .inr (.inl e.symm)
   ·exact .inr (.inr e)
  ·simp only[frs,dj _ _ ht];exact h.2.ok t
theorem Zm {i:Nat} {ops:Array Oper} {l:List (Nat×V)} {bl:List (List V)} (dC:eQ l bl=true) (hk:k0≤bl.length) (hn:bl.length≤nb) (h1:FZL ⟨fr,bx,nb⟩ bl.length l fr) (h2:BZL ⟨fr,bx,nb⟩ bl.length 0 bl bx)
 (h:eW P G tr ops ops.toList (hdS l bl) (Q .normal)) (hw:NA tr i=false:=by rfl):fzK P G tr k0 i ops Q ⟨fr,bx,nb⟩:=by
 simp only[eQ,aI,aU] at dC
 refine⟨hdS l bl,⟨hk,h1.ok,hn,fun i hi=>?_,fun i hi=>?_,fun t=>EQ (fun p hp=>V.ltB_ok (dC.1 p hp)) t,fun i hi x hx=>?_⟩,by unfold vtw;rw[if_neg (by rw[hw];decide)];exact h⟩
 ·have:=(h2.get i hi).ok.1;simpa[hdS,bxs] using this
 ·have:=(h2.get i hi).ok.2;simpa[hdS,bxs] using this
 ·simp only[hdS] at hi hx
  have:bxs bl i∈bl:=by
   simp only[bxs,List.getD,aj hi,bU];exact aF hi
  exact V.ltB_ok (dC.2 _ this x hx)
theorem AN {k:Nat} {α:Type} {hd:α→S} {m:α→Nat} {Inv:α→Prop} {body:(VE→S→Prop)→S→Prop}
 (hb:∀ x,Inv x→∀ R:VE→S→Prop,(∀ y s',Inv y→m y<m x→S.Le k (hd y) s'→R .normal s')→(∀ i s',Q (.exit i) s'→R (.exit i) s')→(∀ s',Q .ret s'→R .ret s')→body R (hd x)) :
 ∀ n x s,Inv x→m x<n→S.Le k (hd x) s→t7 k body Q n s
 |0,_,_,_,h,_=>absurd h (Nat.not_lt_zero _)
 |n+1,x,s,hx,hm,fy=>⟨hd x,.inr fy,hb x hx _ (fun y s' hy bB aio=>AN hb n y s' hy (by omega) aio) (fun _ _ h=>h) (fun _ h=>h)⟩
theorem ck {α:Type} (hd:α→S) (m:α→Nat) (Inv:α→Prop) {body:Code} (x:α) (hx:Inv x) (fy:S.Le (k0) (hd x) ⟨fr,bx,nb⟩)
 (hb:∀ x,Inv x→∀ R:VE→S→Prop,(∀ y s',Inv y→m y<m x→S.Le (k0) (hd y) s'→R .normal s')→(∀ i s',Q (.exit i) s'→R (.exit i) s')→(∀ s',Q .ret s'→R .ret s')→gR P G tr k0 body R (hd x)) :
 gR P G tr k0 (.loop body) Q ⟨fr,bx,nb⟩:=
 ⟨m x+1,AN hb _ x _ hx (bz _) fy⟩
theorem WS {b:Bool}:vun .not (.c (.lit (.bool b))) KV=KV (.c (.lit (.bool (!b)))):=rfl
theorem nC {T e:TypeId} {i:TI} {es:List (List C)} (hT:ti P T=some i) (hk:i.kd=.slice e):lT P T (.c (.sl es)) KV=KV (.c (.lit (.int .i64 es.length))):=by
 obtain⟨kd,a,b,c,d,f,g⟩:=i;subst hk;simp only[lT,hT]
theorem Mb {T e:TypeId} {i:TI} {b o l c z:Nat} (hT:ti P T=some i) (hk:i.kd=.slice e):lT P T (.ms b o l c z) KV=KV (.c (.lit (.int .i64 l))):=by
 obtain⟨kd,a,b,c,d,f,g⟩:=i;subst hk;simp only[lT,hT]
theorem RU {T:TypeId} {i:TI} {b:ByteArray} (hT:ti P T=some i) (hk:i.kd=.str):lT P T (.c (.lit (.string b))) KV=KV (.c (.lit (.int .i64 b.size))):=by
 obtain⟨kd,a,b,c,d,f,g⟩:=i;subst hk;simp only[lT,hT]
theorem ER {t:TypeId} {x:V}:eP P .len [t] [x] KV=lT P t x KV:=rfl
theorem ES {t u:TypeId} {x y:V}:eP P .append [t,u] [x,y] KV=if t=u then ee P t x y.fz KV else qa P t u x y.fz KV:=rfl
theorem RV {T e:TypeId} {i j:TI} {b off len cap sz:Nat} {z:List C} {K2:S→Prop} (hT:ti P T=some i) (hk:i.kd=.slice e) (hE:ti P e=some j) (hs:j.size=sz) (hz:j.zero=some z) (hp:0<sz) (hl:z.length=sz) (hb:b<nb) (hm:dc (bx b)=false)
 (hf:off+len*sz≤(bx b).length) (hK:K2 ⟨fr,up bx b (eU (bx b) off ((List.replicate len z).flatten.map .c)),nb⟩):iJ P ⟨fr,bx,nb⟩ K2 [T] [.ms b off len cap sz]:=by
 obtain⟨kd,a,b',c,d,f,g⟩:=i;simp only at hk;subst hk
 obtain⟨kd',a',b'',c',d',f',g'⟩:=j;simp only at hs hz;subst hs;subst hz
 simp only[iJ,hT,hE]
 exact⟨⟨trivial,hp,hl,hb,hm,hf⟩,hK⟩
theorem df {T e:TypeId} {i j:TI} {k:IntKind} {n:Int} {c:List C} {es:List (List C)} (hT:ti P T=some i) (hk:i.kd=.slice e) (hj:ti P e=some j) (hs:j.size≠0) (hn:0≤n)
 (he:es[n.toNat]?=some c) (hc:c.length=j.size) (hK:KV (.c (.rp c 0))):cA P T (.c (.sl es)) (.c (.lit (.int k n))) KV:=by
 obtain⟨kd,a,b,x,d,f,g⟩:=i
 simp only at hk;subst hk
 simp only[cA,hT,hj,he]
 exact⟨⟨hn,hs⟩,hc,hK⟩
theorem Zn {T e:TypeId} {i j:TI} {k:IntKind} {n:Int} {b o l c z:Nat} (hT:ti P T=some i) (hk:i.kd=.slice e) (hj:ti P e=some j) (hs:j.size=z) (hz:z≠0) (hn:0≤n) (hl:n<l)
 (hK:KV (.bp b (o+n.toNat*z))):cA P T (.ms b o l c z) (.c (.lit (.int k n))) KV:=by
 obtain⟨kd,a,b,x,d,f,g⟩:=i
 simp only at hk;subst hk
 simp only[cA,hT,hj]
 exact⟨⟨hn,hl,hs,hz⟩,hK⟩
theorem lL {T e:TypeId} {i j:TI} {k:IntKind} {n:Int} {m o q:Nat} (hT:ti P T=some i) (hk:i.kd=.arr m e) (hj:ti P e=some j) (hn:0≤n) (hm:n<m)
 (hK:KV (.bp q (o+n.toNat*j.size))):cA P T (.bp q o) (.c (.lit (.int k n))) KV:=by
 obtain⟨kd,a,b,x,d,f,g⟩:=i
 simp only at hk;subst hk
 simp only[cA,hT,hj]
 exact⟨⟨hn,hm⟩,hK⟩
theorem Ot {ag:Bool} {sz:Nat} {cs:List C} (ha:ag=true) (h:cs.length=sz):eA ag sz 0 cs KV=KV (.agg cs):=by
 subst ha;subst h;simp[eA]
theorem sS {T:TypeId} {i:TI} {s:S} {cs:List C} (hT:ti P T=some i) (ha:i.agg=true) (h:cs.length=i.size):dH P T s (.c (.rp cs 0)) KV=KV (.agg cs):=by
 simp only[dH,hT];exact Ot ha h
theorem sU {T:TypeId} {i:TI} {f k off sz:Nat} {ag:Bool} {cs:List C} (hT:ti P T=some i) (hf:i.flds[f]?=some (off,sz,ag)) (hs:sz≠0):bn P T (.c (.rp cs k)) f KV=KV (.c (.rp cs (k+off))):=by
 simp only[bn,hT,hf];simp[hs]
theorem fH {T:TypeId} {i:TI} {f k off sz b:Nat} {ag:Bool} (hT:ti P T=some i) (hf:i.flds[f]?=some (off,sz,ag)) (hs:sz≠0):bn P T (.bp b k) f KV=KV (.bp b (k+off)):=by
 simp only[bn,hT,hf];simp[hs]
theorem zJ {T:TypeId} {i:TI} {s:S} {cs:List C} {o:Nat} (hT:ti P T=some i) (ha:i.agg=false) (hs:i.size=1):dH P T s (.c (.rp cs o)) KV=eA false 1 o cs KV:=by
 simp only[dH,hT,ha,hs]
theorem WT {sz:Nat} {c:C} {cs:List C}:eA false sz 0 (c::cs) KV=KV (.c c):=rfl
def ldA (nb b:Nat) (l:List V) (o n:Nat) (K:V→Prop):Prop:=b<nb∧((((l.drop o).take n).length=n∧((l.drop o).take n).all V.isPO=true)∧K (D2 (((l.drop o).take n).map V.fz)))
def Zo (a:C):V→V
 | .agg cs=>.agg (a::cs)
 | .mag vs=>.mag (.c a::vs)
 |x=>x
theorem aaM {a:C} {r:List V}:D2 (.c a::r)=Zo a (D2 r):=by
 unfold D2
 simp only[fE]
 cases h:r.mapM V.asC<;>simp[V.asC,Zo]
theorem WU {i o:Nat}:(V.bp i o).isPR=true:=rfl
def ldB (nb b:Nat) (l:List V) (o:Nat) (K:V→Prop):Prop:=b<nb∧match l[o]? with
 |some v=>K v.ldv
 |none=>False
theorem pt {T:TypeId} {i:TI} {b o n:Nat} (hT:ti P T=some i) (ha:i.agg=true) (hs:i.size=n):dH P T ⟨fr,bx,nb⟩ (.bp b o) KV=(dc (bx b)=false∧ldA nb b (bx b) o n KV):=by
 subst hs;simp only[dH,hT,ha,cL,ldA];exact propext ⟨fun⟨⟨a,b⟩,c⟩=>⟨b,a,c⟩,fun⟨b,a,c⟩=>⟨⟨a,b⟩,c⟩⟩
theorem gz {T:TypeId} {i:TI} {b o:Nat} (hT:ti P T=some i) (ha:i.agg=false):dH P T ⟨fr,bx,nb⟩ (.bp b o) KV=(dc (bx b)=false∧ldB nb b (bx b) o KV):=by
 simp only[dH,hT,ha,ldB];exact propext ⟨fun⟨⟨a,b⟩,c⟩=>⟨b,a,c⟩,fun⟨b,a,c⟩=>⟨⟨a,b⟩,c⟩⟩
theorem ad9 {b:Nat} {v:V} {l:List V}:ldB nb b (v::l) 0 KV=(b<nb∧KV v.ldv):=rfl
theorem aea {b o:Nat} {v:V} {l:List V}:ldB nb b (v::l) (o+1) KV=ldB nb b l o KV:=by simp[ldB]
theorem WV {b o:Nat} {cs:List C}:ldB nb b (cs.map V.c) o KV=(b<nb∧eA false 1 o cs KV):=by
 simp only[ldB,eA,bb,aM,dy]
 cases cs[o]?<;>rfl
theorem Ov {i:TI} {ks:List EK} {xs ys:List C} {r:Bool} (he:i.eqs=some ks) (ha:i.agg=true) (h:jM ks xs ys=some r) (h1:xs.length=ks.length) (h2:ys.length=ks.length):Ht (some i) .eql xs ys KV=KV (.c (.lit (.bool r))):=by
 obtain⟨kd,a,b,c,d,f,g⟩:=i
 simp only at he ha;subst he;subst ha
 simp[Ht,h,h1,h2]
theorem Ow {i:TI} {ks:List EK} {xs ys:List C} {r:Bool} (he:i.eqs=some ks) (ha:i.agg=true) (h:jM ks xs ys=some r) (h1:xs.length=ks.length) (h2:ys.length=ks.length):Ht (some i) .neq xs ys KV=KV (.c (.lit (.bool (!r)))):=by
 obtain⟨kd,a,b,c,d,f,g⟩:=i
 simp only at he ha;subst he;subst ha
 simp[Ht,h,h1,h2]
theorem Hx {T:TypeId} {i:TI} {ks:List EK} {xs ys:List C} {r:Bool} (hT:ti P T=some i) (he:i.eqs=some ks) (ha:i.agg=true) (h:jM ks xs ys=some r) (h1:xs.length=ks.length) (h2:ys.length=ks.length) :
 m5 P .eql T (.agg xs) (.agg ys) KV=KV (.c (.lit (.bool r))):=by rw[Hu,hT];exact Ov he ha h h1 h2
theorem RX {T:TypeId} {i:TI} {ks:List EK} {xs ys:List C} {r:Bool} (hT:ti P T=some i) (he:i.eqs=some ks) (ha:i.agg=true) (h:jM ks xs ys=some r) (h1:xs.length=ks.length) (h2:ys.length=ks.length) :
 m5 P .neq T (.agg xs) (.agg ys) KV=KV (.c (.lit (.bool (!r)))):=by rw[Hu,hT];exact Ow he ha h h1 h2
theorem Ox {T:TypeId} {i:TI} {a b:Bool} (hT:ti P T=some i) (hk:i.kd=.bool):m5 P .neq T (.c (.lit (.bool a))) (.c (.lit (.bool b))) KV=KV (.c (.lit (.bool (!(a==b))))):=by
 obtain⟨kd,a,b,c,d,f,g⟩:=i
 simp only at hk;subst hk
 rw[Oq,hT];rfl
theorem RY {a b:ByteArray}:zZ .eql a b KV=KV (.c (.lit (.bool (decide (a=b))))):=rfl
theorem Kf {T:TypeId} {i:TI} {k:IntKind} {n:Int} {st:ByteArray} {b:UInt8} (hT:ti P T=some i) (hk:i.kd=.str) (hn:0≤n) (hb:st.data[n.toNat]?=some b) :
 nj P T (.c (.lit (.string st))) (.c (.lit (.int k n))) KV=KV (.c (.lit (.int .u8 b.toNat))):=by
 obtain⟨kd,a,b,c,d,f,g⟩:=i
 simp only at hk;subst hk
 simp only[nj,hT,hn,hb,fZ]
theorem AO:∀ cs:List C,D2 (cs.map V.c)=.agg cs
 |[]=>rfl
 |c::cs=>by rw[aO,aaM,AO cs];rfl
theorem WW {b n:Nat} {cs:List C} (h:cs.length=n):ldA nb b (cs.map V.c) 0 n KV=(b<nb∧KV (.agg cs)):=by
 have h1:(cs.map V.c).take n=cs.map V.c:=dS (by simp[h])
 have h2:(cs.map V.c).map V.fz=cs.map V.c:=by simp[gV,Function.comp_def,V.fz]
 have h3:(cs.map V.c).all V.isPO=true:=by simp[List.all_map,Function.comp_def,V.isPO]
 simp only[ldA,ep,h1,h2,h3,AO,am,h,fZ]
theorem aaN {t:Option Tmp} {d:Nat} {x:C} (h:∀ u,t=some u→(fr u).isOw=false):boxK t d (.c x) ⟨fr,bx,nb⟩ K=K ⟨up fr d (.bp nb 0),up bx nb [.c x],nb+1⟩:=by
 cases t with
 |none=>rfl
 |some u=>simp[boxK,V.bcells,mO,h u rfl,S.put]
theorem aeb {t:Tmp} {d:Nat} {x:C} (h:fr t=.c x):boxK (some t) d (.c x) ⟨fr,bx,nb⟩ K=K ⟨up fr d (.bp nb 0),up bx nb [.c x],nb+1⟩:=aaN (fun u hu=>by cases hu;rw[h];rfl)
theorem WX {t:Tmp} {d:Nat} {cs:List C} (h:fr t=.agg cs):boxK (some t) d (.agg cs) ⟨fr,bx,nb⟩ K=K ⟨up fr d (.bp nb 0),up bx nb (cs.map .c),nb+1⟩:=by
 simp[boxK,V.bcells,mO,h,S.put,V.isOw]
def stS (n:Nat) (t:Option Tmp) (dO:Option Tmp) (b o:Nat) (v:V) (s:S) (K:S→Prop):Prop:=match v.bcells with
 |some cs=>(b<s.nb∧cs.length=n∧o+n≤(s.bx b).length)∧K ((let s':=s.use t;{ s' with bx:=up s'.bx b (eU (s'.bx b) o cs) }:S).put dO .sk)
 |none=>False
theorem kJ {i:TI} {n:Nat} {t dO:Option Tmp} {b o:Nat} {v:V} {s:S} (h:i.size=n):oR (some i) t dO (.bp b o) v s K=(dc (s.bx b)=false∧stS n t dO b o v s K):=by
 subst h;cases hv:v.bcells<;>simp only[oR,stS,hv]
 ·simp
 ·exact propext ⟨fun⟨⟨a,b,c,d⟩,e⟩=>⟨d,⟨a,b,c⟩,e⟩,fun⟨d,⟨a,b,c⟩,e⟩=>⟨⟨a,b,c,d⟩,e⟩⟩
theorem Oy {v:V} {l:List V}:dc (v::l)=v.isMk:=rfl
theorem Hy:∀ {l:List C},dc (l.map V.c)=false
 |[]=>rfl
 |_::_=>rfl
theorem aaO {x:C}:(V.c x).isMk=false:=rfl
theorem WY {E:Option (TypeId×Nat)} {es:List (List C)}:(V.ow E es).isMk=false:=rfl
theorem WZ {i o l c z:Nat}:(V.ms i o l c z).isMk=false:=rfl
theorem W0 {i:Nat}:(V.mr i).isMk=false:=rfl
theorem RZ {dO:Option Tmp} {b o:Nat} {x:C}:stS 1 none dO b o (.c x) ⟨fr,bx,nb⟩ K=((b<nb∧o+1≤(bx b).length)∧K ((⟨fr,up bx b (eU (bx b) o [.c x]),nb⟩:S).put dO .sk)):=by
 simp[stS,V.bcells,Ho]
theorem aec {t:Tmp} {dO:Option Tmp} {b o:Nat} {x:C} (h:fr t=.c x):stS 1 (some t) dO b o (.c x) ⟨fr,bx,nb⟩ K=((b<nb∧o+1≤(bx b).length)∧K ((⟨fr,up bx b (eU (bx b) o [.c x]),nb⟩:S).put dO .sk)):=by
 simp[stS,V.bcells,mO,h,V.isOw]
theorem aaP {t:Tmp} {dO:Option Tmp} {b o:Nat} {E:Option (TypeId×Nat)} {es:List (List C)} (h:fr t=.ow E es):stS 1 (some t) dO b o (.ow E es) ⟨fr,bx,nb⟩ K=
 ((b<nb∧o+1≤(bx b).length)∧K ((⟨up fr t .un,up bx b (eU (bx b) o [.ow E es]),nb⟩:S).put dO .sk)):=by
 simp[stS,V.bcells,mO,h,V.isOw]
theorem W1 {n:Nat} {t:Tmp} {dO:Option Tmp} {b o:Nat} {cs:List C} (h:fr t=.agg cs):stS n (some t) dO b o (.agg cs) ⟨fr,bx,nb⟩ K=
 ((b<nb∧cs.length=n∧o+n≤(bx b).length)∧K ((⟨fr,up bx b (eU (bx b) o (cs.map .c)),nb⟩:S).put dO .sk)):=by
 simp[stS,V.bcells,mO,h,V.isOw]
theorem W2 {n:Nat} {t:Tmp} {dO:Option Tmp} {b o:Nat} {vs:List V} (h:fr t=.mag vs):stS n (some t) dO b o (.mag vs) ⟨fr,bx,nb⟩ K=
 ((b<nb∧vs.length=n∧o+n≤(bx b).length)∧K ((⟨fr,up bx b (eU (bx b) o vs),nb⟩:S).put dO .sk)):=by
 simp[stS,V.bcells,mO,h,V.isOw]
theorem aaQ {v x:V} {r:List V}:eU (v::r) 0 [x]=x::r:=by simp[eU]
def mP {α:Type} (p:α→Bool) (l:List α):Int:=match l.findIdx? p with
 |some i=>i
 |none=>-1
theorem nS {α:Type} {p:α→Bool} {l:List α} {i:Nat} (hi:i<l.length) (hy:p l[i]=true) (fm:∀ j (h:j<l.length),j<i→p l[j]=false):mP p l=i:=by
 have:l.findIdx? p=some i:=by
  rw[bW]
  exact⟨hi,hy,fun j hj=>by simp[fm j (by omega) hj]⟩
 simp[mP,this]
theorem kY {α:Type} {p:α→Bool} {l:List α} (fm:∀ j (h:j<l.length),j<l.length→p l[j]=false):mP p l=-1:=by
 have:l.findIdx? p=none:=by
  rw[dN]
  intro x hx
  obtain⟨j,hj,rfl⟩:=ir.1 hx
  exact fm j hj hj
 simp[mP,this]
theorem kw {α:Type} {p:α→Bool} {l:List α}:decide (0≤mP p l)=l.any p:=by
 unfold mP
 cases h:l.findIdx? p with
 |some i=>
  obtain⟨hi,hy,_⟩:=bW.1 h
  have:l.any p=true:=dt.2 ⟨_,aF hi,hy⟩
  simp[this]
 |none=>
  have h2:=dN.1 h
  have:l.any p=false:=kS.2 fun x hx=>by simp[h2 x hx]
  simp[this]
theorem wrap_i64 (n:Int) (h:-9223372036854775808≤n∧n≤9223372036854775807):IntKind.i64.wrap n=n:=by rw[IntKind.wrap_i64];omega
theorem ay {s:S} {g:FuncId} {fs cs:List C} {args as:List V} {r:V} (hm:args.mapM (imm s)=some as) (h:FnOK P G g (fs.map .c++as++cs.map .c) r) (hb:args.any V.boxy=true→r.isFlat=true) (hK:KV r) :
 qF P G s (.c (.fn (.func g) fs cs)) args KV:=by
 simp only[qF,hm]
 exact⟨r,h,hb,hK⟩
end
section
variable {P:Program} {G:Gl} {tr:List Nat} {n:Nat} {I0:Ft} {M:Mx} {w0:World} {I:Ft} {β:Nat→Option Nat} {ob:Loc→Option Nat} {s:S} {a:Act} {w:World}
def obB (ob:Nat→Nat→Option Nat):Loc→Option Nat
 | .t _=>none
 | .b i j=>ob i j
theorem St.initB {ob:Nat→Nat→Option Nat} {vs:Array Value} {args:List V} {b0:List (List V)} {m:Nat} (hI:∀ b o,I b o→b<w.heap.size) (hg:GOK G I w) (hB:BxR (Wr M w) I w β ob b0) (dZ:vs.size=args.length)
 (ha:∀ j x,args[j]?=some x→LR (Wr M w) I β w none (vs.getD j undef) x) (hm:m=(vs++Array.replicate (n - vs.size) undef).size) :
 St G m I ⟨M.m,β,[]⟩ w I β (obB ob) ⟨fun j=>args.getD j .un,bxs b0,b0.length⟩ { tmps:=vs++Array.replicate (n - vs.size) undef,defers:=[] } w where
 size:=hm.symm
 defers:=rfl
 below:=BelowM.refl _ _
 kept:=fun _ _ _=>rfl
 ilow:=fun _ _ h=>h
 ihigh:=fun _ _ h=>.inl h
 ibnd:=hI
 fr:=fun t=>by
  simp only[obB]
  by_cases ht:t<args.length
  ·have e1:args.getD t .un=args[t]:=by simp[List.getD,ht]
   have e2:(vs++Array.replicate (n - vs.size) undef).getD t undef=vs.getD t undef:=by
    rw[ap,dG (by omega),← ap]
   rw[e1,e2]
   exact ha t _ (aj ht)
  ·have e1:args.getD t .un=.un:=by simp[List.getD,co (dX ht)]
   rw[e1];simp only[LR];exact .un _
 bx:=fun i hi=>by
  simp only at hi
  obtain⟨blk,cur,e1,e2,e3,e4,e5,e7⟩:=hB.bx i _ (aj hi)
  have e:bxs b0 i=b0[i]:=by simp[bxs,List.getD,hi]
  refine⟨blk,cur,e1,e2,by simp only[e];exact e3,by simp only[e];exact e4,fun j=>?_,e7⟩
  simp only[e];exact e5 j
 bnone:=fun i hi=>hB.bnone i hi
 ext:=fun _ _ h=>h
 bnew:=fun _ _ h=>.inl h
 binj:=hB.binj
 oinj:=fun L L' b h h'=>by
  cases L<;>simp only[obB] at h<;>try cases h
  cases L'<;>simp only[obB] at h'<;>try cases h'
  obtain⟨e1,e2⟩:=hB.oinj _ _ _ _ b h h'
  rw[e1,e2]
 obx:=fun L b i h=>by
  cases L<;>simp only[obB] at h<;>try cases h
  exact hB.obx _ _ b i h
 obnd:=fun L b h=>by
  cases L<;>simp only[obB] at h<;>try cases h
  exact hB.obnd _ _ b h
 glob:=hg
def vt (P:Program) (k:Nat) (r:V) (b1:List (List V)) (rs:List ResultVar) (e:VE) (s:S):Prop:=
 (match e with | .exit _=>False | _=>True)∧∃ l,S.Le k (hdS l b1) s∧qt P false (hdS l b1) r rs
theorem Mc {f:FuncId} {fn:Func} {c:Code} {args:List V} {b0 b1:List (List V)} {r:V} (tr:List Nat) (hm:P.follows .mixedOrders=true) (hf:P.funcs[f]?=some fn) (hb:fn.body=some c)
 (gQ:(fn.name== "runtime.NumGoroutine")=false) (hn:args.length≤fn.ntmps) (pQ:cok fn.ntmps tr c=true) (iU:r.compT=true)
 (VJ:(∀ x∈args,x.lt b0.length)∧(∀ b∈b0,∀ x∈b,x.lt b0.length)∧b0.length≤b1.length)
 (h:gR P G tr b0.length c (vt P b0.length r b1 fn.results.toList) ⟨fun j=>args.getD j .un,bxs b0,b0.length⟩):FnB P G f args b0 r b1:=by
 refine⟨⟨fn,hf,gQ,c,hb⟩,VJ,fun I M w vs β ob hI hg hB dZ ha=>?_⟩
 have gP:fn.ntmps=(vs++Array.replicate (fn.ntmps - vs.size) undef).size:=by simp;omega
 have hst:=St.initB (n:=fn.ntmps) hI hg hB dZ ha gP
 have pS:∀ i b,β i=some b→i<b0.length:=fun i b hi=>by
  by_cases h:i<b0.length
  ·exact h
  ·rw[hB.bnone i (by omega)] at hi;cases hi
 refine pj.1 (callsIn_of_wp_marks (F:=FW none) (n:=0) hf hb trivial (lw (l:=none) hm (fun i b hi=>pS i b hi) (.inl rfl) c pQ _ _ (fun e s a w' hq cE=>?_) _ _ _ h (.of ⟨_,_,_,hst⟩)))
 obtain⟨Qe,l,fy,cX⟩:=hq
 have cE:SX G fn.ntmps tr I ⟨M.m,β,[]⟩ w (hdS l b1) a w':=by
  obtain⟨I1,M1,w1,rs,sD,li,cE⟩:=cE
  exact⟨I1,M1,w1,rs,sD,li,cE.weaken (by rw[sD.e];exact fun i b hi=>pS i b hi) fy⟩
 have main:LeavesInM (FW none) 0 P fn a.tmps (fun e w'=>∃ v' I' β' ob' o',e=.returned v'∧BelowM (GT G) M w w'∧(∀ b o,I b o→I' b o)∧(∀ b o,I' b o→I b o∨(Wr M w b∧b<w'.heap.size))∧
  (∀ b o,I b o→w'.cell? ⟨b,o,none⟩=w.cell? ⟨b,o,none⟩)∧(∀ i,i<b0.length→β' i=β i)∧(∀ i b,b0.length≤i→β' i=some b→Wr M w b)∧BxR (Wr M w) I' w' β' ob' b1∧
  LR (Wr M w) I' β' w' o' v' r∧(∀ b,o'=some b→(b<w'.heap.size∧Wr M w b)∧(∀ i j,ob' i j≠some b)∧∀ i,β' i≠some b)) a.defers .returning w':=by
  refine cE.leaves rfl fun w' I' β' ob' bL=>?_
  obtain⟨v,o',h1,h2,h3⟩:=pq (P:=P) (fn:=fn) bL iU (Ic:=I') (fun _=>rfl) (fun _ _ h=>h) (fun hz=>by cases hz) cX
  have qC:∀ i,i<b0.length→β' i=β i:=fun i hi=>by
   obtain⟨blk,_,e1,_⟩:=hB.bx i _ (aj hi)
   rw[e1];exact bL.ext i blk e1
  refine⟨v,h1,v,I',β',fun i j=>if i<b1.length then ob' (.b i j) else none,o',rfl,⟨bL.below.os,bL.below.tape,bL.below.output,bL.below.size,bL.below.block,bL.below.drawn⟩,bL.ilow,fun b o xG=>?_,bL.kept,qC,fun i b hi hb=>?_,?_,h2,fun b hb=>?_⟩
  ·rcases bL.ihigh b o xG with h4 | h4
   ·exact .inl h4
   ·exact .inr ⟨h4,bL.ibnd b o xG⟩
  ·rcases bL.bnew i b hb with h4 | h4
   ·have:=pS i b h4;omega
   ·exact h4
  ·exact {
    bx:=fun i cs iR=>by
     have hi:i<b1.length:=(ak.1 iR).1
     obtain⟨blk,cur,e1,e2,e3,e4,e5,e7⟩:=bL.bx i hi
     have e:bxs b1 i=cs:=by simp[bxs,List.getD,iR]
     refine⟨blk,cur,e1,e2,by simp only[hdS,e] at e3;exact e3,by simp only[hdS,e] at e4;exact e4,fun j=>?_,e7⟩
     have:=e5 j
     simp only[hdS,e] at this
     rw[if_pos hi];exact this
    bnone:=fun i hi=>bL.bnone i hi
    binj:=bL.binj
    oinj:=fun i j i' j' b h h'=>by
     split at h<;>try cases h
     split at h'<;>try cases h'
     have:=bL.oinj _ _ b h h'
     simp only[Loc.b.injEq] at this;exact this
    obx:=fun i j b k h=>by
     split at h<;>try cases h
     exact bL.obx _ b k h
    obnd:=fun i j b h=>by
     split at h<;>try cases h
     exact bL.obnd _ b h
    olen:=fun i j hi=>by rw[if_neg (by omega)] }
  ·obtain⟨t,ht⟩:=h3 b hb
   refine⟨bL.obnd _ b ht,fun i j h=>?_,fun i=>bL.obx _ b i ht⟩
   simp only at h
   split at h<;>try cases h
   have:=bL.oinj _ _ b ht h
   cases this
 cases e with
 |normal=>exact main
 |exit i=>exact Qe.elim
 |ret=>exact main
theorem W3 {f:FuncId} {fn:Func} {c:Code} {args:List V} {b0:List (List V)} {R:V→List (List V)→Prop} (tr:List Nat) (hm:P.follows .mixedOrders=true) (hf:P.funcs[f]?=some fn) (hb:fn.body=some c)
 (gQ:(fn.name== "runtime.NumGoroutine")=false) (hn:args.length≤fn.ntmps) (pQ:cok fn.ntmps tr c=true) (iU:∀ r b1,R r b1→r.compT=true)
 (VJ:(∀ x∈args,x.lt b0.length)∧(∀ b∈b0,∀ x∈b,x.lt b0.length)∧∀ r b1,R r b1→b0.length≤b1.length)
 (h:gR P G tr b0.length c (fun e s=>∃ r b1,R r b1∧vt P b0.length r b1 fn.results.toList e s) ⟨fun j=>args.getD j .un,bxs b0,b0.length⟩):FnE P G f args b0 R:=by
 refine⟨⟨fn,hf,gQ,c,hb⟩,VJ,fun I M w vs β ob hI hg hB dZ ha=>?_⟩
 have gP:fn.ntmps=(vs++Array.replicate (fn.ntmps - vs.size) undef).size:=by simp;omega
 have hst:=St.initB (n:=fn.ntmps) hI hg hB dZ ha gP
 have pS:∀ i b,β i=some b→i<b0.length:=fun i b hi=>by
  by_cases h:i<b0.length
  ·exact h
  ·rw[hB.bnone i (by omega)] at hi;cases hi
 refine pj.1 (callsIn_of_wp_marks (F:=FW none) (n:=0) hf hb trivial (lw (l:=none) hm (fun i b hi=>pS i b hi) (.inl rfl) c pQ _ _ (fun e s a w' hq cE=>?_) _ _ _ h (.of ⟨_,_,_,hst⟩)))
 obtain⟨r,b1,hR,Qe,l,fy,cX⟩:=hq
 have cE:SX G fn.ntmps tr I ⟨M.m,β,[]⟩ w (hdS l b1) a w':=by
  obtain⟨I1,M1,w1,rs,sD,li,cE⟩:=cE
  exact⟨I1,M1,w1,rs,sD,li,cE.weaken (by rw[sD.e];exact fun i b hi=>pS i b hi) fy⟩
 have main:LeavesInM (FW none) 0 P fn a.tmps (fun e w'=>∃ r b1,R r b1∧∃ v' I' β' ob' o',e=.returned v'∧BelowM (GT G) M w w'∧(∀ b o,I b o→I' b o)∧(∀ b o,I' b o→I b o∨(Wr M w b∧b<w'.heap.size))∧
  (∀ b o,I b o→w'.cell? ⟨b,o,none⟩=w.cell? ⟨b,o,none⟩)∧(∀ i,i<b0.length→β' i=β i)∧(∀ i b,b0.length≤i→β' i=some b→Wr M w b)∧BxR (Wr M w) I' w' β' ob' b1∧
  LR (Wr M w) I' β' w' o' v' r∧(∀ b,o'=some b→(b<w'.heap.size∧Wr M w b)∧(∀ i j,ob' i j≠some b)∧∀ i,β' i≠some b)) a.defers .returning w':=by
  refine cE.leaves rfl fun w' I' β' ob' bL=>?_
  obtain⟨v,o',h1,h2,h3⟩:=pq (P:=P) (fn:=fn) bL (iU r b1 hR) (Ic:=I') (fun _=>rfl) (fun _ _ h=>h) (fun hz=>by cases hz) cX
  have qC:∀ i,i<b0.length→β' i=β i:=fun i hi=>by
   obtain⟨blk,_,e1,_⟩:=hB.bx i _ (aj hi)
   rw[e1];exact bL.ext i blk e1
  refine⟨v,h1,r,b1,hR,v,I',β',fun i j=>if i<b1.length then ob' (.b i j) else none,o',rfl,⟨bL.below.os,bL.below.tape,bL.below.output,bL.below.size,bL.below.block,bL.below.drawn⟩,bL.ilow,fun b o xG=>?_,bL.kept,qC,fun i b hi hb=>?_,?_,h2,fun b hb=>?_⟩
  ·rcases bL.ihigh b o xG with h4 | h4
   ·exact .inl h4
   ·exact .inr ⟨h4,bL.ibnd b o xG⟩
  ·rcases bL.bnew i b hb with h4 | h4
   ·have:=pS i b h4;omega
   ·exact h4
  ·exact {
    bx:=fun i cs iR=>by
     have hi:i<b1.length:=(ak.1 iR).1
     obtain⟨blk,cur,e1,e2,e3,e4,e5,e7⟩:=bL.bx i hi
     have e:bxs b1 i=cs:=by simp[bxs,List.getD,iR]
     refine⟨blk,cur,e1,e2,by simp only[hdS,e] at e3;exact e3,by simp only[hdS,e] at e4;exact e4,fun j=>?_,e7⟩
     have:=e5 j
     simp only[hdS,e] at this
     rw[if_pos hi];exact this
    bnone:=fun i hi=>bL.bnone i hi
    binj:=bL.binj
    oinj:=fun i j i' j' b h h'=>by
     split at h<;>try cases h
     split at h'<;>try cases h'
     have:=bL.oinj _ _ b h h'
     simp only[Loc.b.injEq] at this;exact this
    obx:=fun i j b k h=>by
     split at h<;>try cases h
     exact bL.obx _ b k h
    obnd:=fun i j b h=>by
     split at h<;>try cases h
     exact bL.obnd _ b h
    olen:=fun i j hi=>by rw[if_neg (by omega)] }
  ·obtain⟨t,ht⟩:=h3 b hb
   refine⟨bL.obnd _ b ht,fun i j h=>?_,fun i=>bL.obx _ b i ht⟩
   simp only at h
   split at h<;>try cases h
   have:=bL.oinj _ _ b ht h
   cases this
 cases e with
 |normal=>exact main
 |exit i=>exact Qe.elim
 |ret=>exact main
end
theorem ET:∀ (bl:List (List V)) (k:Nat) (f:Nat→List V),(∀ i b,bl[i]?=some b→f (k+i)=b)→BL k bl f
 |[],_,_,_=>trivial
 |b::r,k,f,h=>⟨by simpa using h 0 b rfl,ET r (k+1) f fun i c hc=>by have:=h (i+1) c (by simpa using hc);rw[dn,lE 1 i];exact this⟩
theorem zL (x:V):x.renP (fun i=>i)=x:=by cases x<;>rfl
theorem EU (x:V):x.ren (fun i=>i)=x:=by
 cases x<;>simp only[V.ren]
 ·rw[cz (g:=id) (fun x _=>zL x),cz (g:=id) (fun x _=>zL x)];simp
 ·rw[cz (g:=id) (fun x _=>zL x)];simp
 ·rw[cz (g:=id) (fun p _=>by rw[zL];rfl)];simp
theorem pu (l:List V):l.map (V.ren fun i=>i)=l:=by
 rw[cz (g:=id) (fun x _=>EU x)];simp
theorem iT {α:Type} {f:α→α}:∀ {l:List α},(∀ x∈l,f x=x)→l.map f=l
 |[],_=>rfl
 |x::l,h=>by rw[aO,h x (aW ..),iT fun y hy=>h y (aR _ hy)]
theorem wH {ρ:Nat→Nat} {x:V} (h:x.ltP 0):x.renP ρ=x:=by cases x<;>simp_all[V.renP,V.ltP]
theorem W4 {ρ:Nat→Nat} {x:V} (h:x.lt 0):x.ren ρ=x:=by
 cases x<;>simp only[V.ren]<;>simp only[V.lt] at h<;>try omega
 ·rw[iT fun x hx=>wH (h.1 x hx),iT fun x hx=>wH (h.2 x hx)]
 ·rw[iT fun x hx=>wH (h x hx)]
 ·rw[iT fun p hp=>by rw[wH (h p hp)]]
theorem yf (nb:Nat):rho (List.range nb) nb=fun i=>i:=by
 funext i
 unfold rho
 rw[jL]
 split
 ·rename_i h;simp[List.getD,h]
 ·omega
theorem W5 (nb:Nat):rho [] nb=fun i=>nb+i:=by
 funext i;simp[rho]
theorem qL:∀ (b1:List (List V)) (k:Nat) (f:Nat→List V),fu (fun i=>i) k b1 f=fun i=>if k≤i∧i<k+b1.length then b1.getD (i - k) [] else f i
 |[],k,f=>by funext i;simp only[fu,aH];rw[if_neg (by omega)]
 |b::r,k,f=>by
  funext i
  simp only[fu,qL r,pu,aC,up]
  by_cases h1:k+1≤i∧i<k+1+r.length
  ·rw[if_pos h1,if_pos (by omega)]
   have:i - k=(i - (k+1))+1:=by omega
   rw[this];rfl
  ·rw[if_neg h1]
   by_cases h2:i=k
   ·subst h2;rw[if_pos rfl,if_pos (by omega)];simp
   ·rw[if_neg h2,if_neg (by omega)]
theorem ug:∀ (b0:List (List V)) (k nb:Nat) (f:Nat→List V),(∀ i b,b0[i]?=some b→k+i<nb∧f (k+i)=b)→pV f nb (fun i=>i) k b0
 |[],_,_,_,_=>trivial
 |b::r,k,nb,f,h=>by
  refine⟨?_,ug r (k+1) nb f fun i c hc=>?_⟩
  ·have:=h 0 b rfl
   rw[pu];exact this
  ·have:=h (i+1) c (by simpa using hc)
   rw[dn,lE 1 i];exact this
def CU:VE→Bool
 | .exit _=>false
 |_=>true
theorem Hz:∀ e:VE,CU e=true→(match e with | .exit _=>False | _=>True)
 | .exit _,h=>by cases h
 | .normal,_=>trivial
 | .ret,_=>trivial
def eN (args:List V) (b0:List (List V)):Bool:=args.all (fun v=>v.ltB b0.length)&&b0.all fun b=>b.all fun v=>v.ltB b0.length
section
variable {P:Program} {G:Gl} {tr:List Nat} {fr:Nat→V} {bx:Nat→List V} {nb:Nat} {K:S→Prop} {KV:V→Prop} {dO:Option Tmp} {T ty:TypeId} {pos:String} {af:Array Edge} {g:Option (Nat×Bool)}
def aaR (dO:Option Tmp) (K:S→Prop) (s:S):Prop:=K (s.put dO .sk)
theorem W6:aaR dO K ⟨fr,bx,nb⟩=K ((⟨fr,bx,nb⟩:S).put dO .sk):=rfl
def R1 (t:Tmp) (dO:Option Tmp) (s:S) (K:S→Prop) (it:Option V) (v:V):Prop:=K ((match it with | some x=>{ s with fr:=up s.fr t x } | none=>s:S).put dO v)
theorem Kg {t:Tmp} {x v:V}:R1 t dO ⟨fr,bx,nb⟩ K (some x) v=K ((⟨up fr t x,bx,nb⟩:S).put dO v):=rfl
theorem Kh {t:Tmp} {v:V}:R1 t dO ⟨fr,bx,nb⟩ K none v=K ((⟨fr,bx,nb⟩:S).put dO v):=rfl
theorem AP {i:TI} {kt et:TypeId} (hT:ti P T=some i) (hk:i.kd=.map kt et):VStep P G tr ⟨dO,.makeMap T none,ty,pos,af,g⟩ ⟨fr,bx,nb⟩ K=K ((⟨fr,up bx nb [.mk [] 0],nb+1⟩:S).put dO (.mr nb)):=by
 obtain⟨kd,a,b,c,d,f,e⟩:=i
 simp only at hk;subst hk
 simp only[VStep,hT]
theorem EV {m k x:Operand}:VStep P G tr ⟨dO,.mapUpdate T m k x,ty,pos,af,g⟩ ⟨fr,bx,nb⟩ K=ix P T ⟨fr,bx,nb⟩ (ev G ⟨fr,bx,nb⟩ m) (ev G ⟨fr,bx,nb⟩ k) (ev G ⟨fr,bx,nb⟩ x) (aaR dO K):=rfl
theorem Oz {m k x:Operand}:VStep P G tr ⟨dO,.insert T m k x,ty,pos,af,g⟩ ⟨fr,bx,nb⟩ K=ix P T ⟨fr,bx,nb⟩ (ev G ⟨fr,bx,nb⟩ m) (ev G ⟨fr,bx,nb⟩ k) (ev G ⟨fr,bx,nb⟩ x) (aaR dO K):=rfl
theorem W7 {t:Tmp}:VStep P G tr ⟨dO,.next (.tmp t) false,ty,pos,af,g⟩ ⟨fr,bx,nb⟩ K=Aa ⟨fr,bx,nb⟩ (fr t) (R1 t dO ⟨fr,bx,nb⟩ K):=rfl
theorem OA {m k:Operand} {ok:Bool}:VStep P G tr ⟨dO,.lookup T m k ok,ty,pos,af,g⟩ ⟨fr,bx,nb⟩ K=fG P T ⟨fr,bx,nb⟩ (ev G ⟨fr,bx,nb⟩ m) (ev G ⟨fr,bx,nb⟩ k) ok (m6 dO ⟨fr,bx,nb⟩ K):=rfl
theorem R7 {x:Operand}:VStep P G tr ⟨dO,.range T x,ty,pos,af,g⟩ ⟨fr,bx,nb⟩ K=oh P T ⟨fr,bx,nb⟩ (ev G ⟨fr,bx,nb⟩ x) (m6 dO ⟨fr,bx,nb⟩ K):=rfl
theorem R9 {x:Operand}:VStep P G tr ⟨dO,.entry x,ty,pos,af,g⟩ ⟨fr,bx,nb⟩ K=nk ⟨fr,bx,nb⟩ (ev G ⟨fr,bx,nb⟩ x) (m6 dO ⟨fr,bx,nb⟩ K):=rfl
theorem aed {i:Nat}:(V.mr i).fz=.mr i:=rfl
theorem aee {i:Nat}:(V.yl i).fz=.yl i:=rfl
theorem W8 {i:Nat}:(V.mr i).isOw=false:=rfl
def qu {α β:Type} (f:α→V) (h:β→V):List (α×β)→List V
 |[]=>[]
 |(a,b)::l=>f a::h b::qu f h l
theorem yY {α β:Type} {f:α→V} {h:β→V}:∀ l m:List (α×β),qu f h (l++m)=qu f h l++qu f h m
 |[],_=>rfl
 |(a,b)::l,m=>by simp[qu,yY l m]
theorem yZ {α β:Type} {ag:Bool} {f:α→V} {h:β→V} {c:α→List C} (hf:∀ a,(f a).kcs ag=some (c a)):∀ l:List (α×β),jN ag (qu f h l)=some (l.map fun p=>c p.1)
 |[]=>rfl
 |(a,b)::l=>by simp[qu,jN,hf,yZ hf l]
theorem sV {α β:Type} {f:α→V} {h:β→V}:∀ (l:List (α×β)) (j:Nat) (p:α×β),l[j]?=some p→(qu f h l).getD (2*j+1) .un=h p.2∧(qu f h l).getD (2*j) .un=f p.1
 |[],j,p,hp=>by simp at hp
 |(a,b)::l,0,p,hp=>by simp at hp;subst hp;exact⟨rfl,rfl⟩
 |(a,b)::l,j+1,p,hp=>by
  have:=sV (f:=f) (h:=h) l j p (by simpa using hp)
  rw[show 2*(j+1)=2*j+1+1 by omega]
  simpa only[qu,dQ] using this
theorem HA {α β:Type} {f:α→V} {h:β→V}:∀ (l:List (α×β)) (j:Nat) (a:α) (b b':β),l[j]?=some (a,b)→(qu f h l).set (2*j+1) (h b')=qu f h (l.set j (a,b'))
 |[],j,a,b,b',hp=>by simp at hp
 |(a,b)::l,0,a',b0,b',hp=>by simp at hp;simp[qu,hp.1]
 |(a,b)::l,j+1,a',b0,b',hp=>by
  have:=HA (f:=f) (h:=h) l j a' b0 b' (by simpa using hp)
  rw[show 2*(j+1)+1=2*j+1+1+1 by omega]
  simp only[qu,List.set_cons_succ,this]
theorem CV {α:Type} {ks:List EK} {c:α→List C} [DecidableEq α] (hl:∀ a,(c a).length=ks.length) (he:∀ a b,jM ks (c a) (c b)=some (decide (a=b))) (a:α):∀ (l:List α) (i:Nat),
 nc ks (c a) (l.map c) i=some ((l.findIdx? (fun b=>decide (a=b))).map (i+·))
 |[],i=>rfl
 |b::l,i=>by
  simp only[aO,nc,hl,cL,he,List.findIdx?_cons]
  by_cases h:a=b
  ·simp[h]
  ·simp only[h,bK,aM,dy]
   rw[CV hl he a l (i+1)]
   cases l.findIdx? (fun b=>decide (a=b))<;>simp;omega
end
section
variable {P:Program} {G:Gl} {tr:List Nat} {fr:Nat→V} {bx:Nat→List V} {nb:Nat} {K:S→Prop} {KV:V→Prop} {Q:VE→S→Prop}
theorem yg (args:List V):frm 0 args=fun j=>args.getD j .un:=by
 have:=Hv args
 simp only[yW,S.mk.injEq] at this
 exact this.1.symm
theorem Sa {b:List V} {r:List (List V)}:bxs (b::r) 0=b:=rfl
theorem Sb {b:List V} {r:List (List V)} {n:Nat}:bxs (b::r) (n+1)=bxs r n:=rfl
theorem nq {f:FuncId} {fn:Func} {c:Code} {args:List V} {b0 b1:List (List V)} {r:V} (tr:List Nat) (hm:P.follows .mixedOrders=true) (hf:P.funcs[f]?=some fn) (hb:fn.body=some c) (gQ:(fn.name== "runtime.NumGoroutine")=false)
 {rs:List ResultVar} (xI:fn.results.toList=rs) {n:Nat} (hn:fn.ntmps=n) (pQ:cok n tr c=true) (cu:args.length≤n) (iU:r.compT=true) {k:Nat} (hk:ol tr=k) (tY:b0.length=k)
 (cD:eN args b0=true) (fy:b0.length≤b1.length)
 (h:gR P G tr k c (vt P k r b1 rs) ⟨frm 0 args,bxs b0,k⟩):FnB P G f args b0 r b1:=by
 subst hn
 subst xI
 subst tY
 simp only[eN,aI,aU] at cD
 refine Mc tr hm hf hb gQ cu pQ iU ⟨fun x hx=>V.ltB_ok (cD.1 x hx),fun b hb x hx=>V.ltB_ok (cD.2 b hb x hx),fy⟩ ?_
 rw[yg] at h;exact h
theorem dP {k:Nat} {r:V} {b1:List (List V)} {rs:List ResultVar} {e:VE} (l:List (Nat×V)) (he:CU e=true) (dC:eQ l b1=true) (hk:k≤b1.length) (hn:b1.length≤nb) (h1:FL l fr) (h2:BL 0 b1 bx) (hr:qt P false (hdS l b1) r rs) :
 vt P k r b1 rs e ⟨fr,bx,nb⟩:=⟨Hz _ he,l,bT dC hk hn h1 h2,hr⟩
theorem dx {fr:Nat→V} {bx:Nat→List V} {nb:Nat}:qt P false ⟨fr,bx,nb⟩ (.tup []) []:=⟨[],rfl,rfl,fun _ _ _ h=>by simp at h⟩
theorem eM (m:Nat) (cs:List C):(cs.map V.c).all (fun x=>x.ltB m)=true:=by
 rw[List.all_map,aU];intro x _;rfl
theorem yh {s:S} {f:V} {args all cargs:List V} {g:FuncId} {K:S→V→Prop} {r:V} {b1:List (List V)} (hc:eI f args=some (g,all)) (hf:FnB P G g cargs [] r b1) (dh:all.map V.fz=cargs)
 (hK:K { s with bx:=fu (fun i=>s.nb+i) 0 b1 s.bx,nb:=s.nb+b1.length } (r.ren fun i=>s.nb+i)):vcallB P G s f args K:=by
 unfold vcallB j4
 simp only[hc]
 refine⟨[],cargs,[],r,b1,hf,?_,⟨rfl,ip⟩,trivial,?_⟩
 ·rw[dh,iT fun x hx=>W4 (hf.2.1.1 x hx)]
 ·rw[W5]
  simpa using hK
theorem OB {s:S} {f:V} {args all cargs:List V} {g:FuncId} {K:S→V→Prop} {r:V} {b0 b1:List (List V)} (hc:eI f args=some (g,all)) (hf:FnB P G g cargs b0 r b1) (dh:all.map V.fz=cargs)
 (hn:b0.length=s.nb) (hb:BL 0 b0 s.bx) (hK:K { s with bx:=fun i=>if i<b1.length then b1.getD i [] else s.bx i,nb:=b1.length } r):vcallB P G s f args K:=by
 unfold vcallB j4
 simp only[hc]
 refine⟨List.range s.nb,cargs,b0,r,b1,hf,?_,⟨by simp[hn],ke⟩,?_,?_⟩
 ·rw[yf,dh,pu]
 ·rw[yf]
  refine ug _ _ _ _ fun i b BU=>?_
  have hi:=(ak.1 BU).1
  have:=hb.get i hi
  rw[ah] at this ⊢
  refine⟨by omega,?_⟩
  rw[← this]
  simp[BU]
 ·rw[yf,qL,EU]
  have fy:=hf.2.1.2.2
  have e1:s.nb+(b1.length - b0.length)=b1.length:=by omega
  rw[e1]
  have e2:(fun i=>if 0≤i∧i<0+b1.length then b1.getD (i - 0) [] else s.bx i)=fun i=>if i<b1.length then b1.getD i [] else s.bx i:=by
   funext i;simp
  rw[e2];exact hK
end
section
variable {P:Program} {G:Gl} {tr:List Nat} {fr:Nat→V} {bx:Nat→List V} {nb:Nat} {K:S→Prop} {KV:V→Prop} {Q:VE→S→Prop}
def W9 {α:Type} (o:Option α) (K:α→Prop):Prop:=match o with
 |some a=>K a
 |none=>False
def AQ (f:Option (Nat×Nat×Bool)) (ds:List C) (flds:List (Nat×Nat×Bool)) (r:List (Nat×V)) (cs:List C):Option (List C):=match f with
 |some (off,sz,_)=>if ds.length=sz∧off+sz≤cs.length then jx flds r (oC cs off ds) else none
 |none=>none
def zp (e sz:Nat) (z:List C) (len:Nat) (parts:List (Nat×V)) (K:V→Prop):Prop:=match qE sz parts (List.replicate len z) with
 |some es=>K (.ow (if len=0 then none else some (e,sz)) es)
 |none=>False
theorem rA {T e:TypeId} {i j:TI} {z:List C} {sz len:Nat} {parts:List (Nat×V)} (hT:ti P T=some i) (hk:i.kd=.slice e) (hE:ti P e=some j) (hz:j.zero=some z) (hs:j.size=sz) (hp:0<sz) (hl:z.length=sz) (hn:len*sz≤16777216) :
 cG P T len parts KV=zp e sz z len parts KV:=by
 obtain⟨kd,a,b,c,d,f,g⟩:=i;subst hk
 obtain⟨kd',a',b',c',d',f',g'⟩:=j;simp only at hz hs;subst hz;subst hs
 simp only[cG,hT,hE,hp,hl,hn,fZ];rfl
theorem OC {sz:Nat} {es:List (List C)}:qE sz [] es=some es:=rfl
theorem OD {sz i:Nat} {ds:List C} {r:List (Nat×V)} {es:List (List C)}:qE sz ((i,.agg ds)::r) es=if ds.length=sz∧i<es.length then qE sz r (es.set i ds) else none:=rfl
theorem Xa {sz i:Nat} {x:C} {r:List (Nat×V)} {es:List (List C)}:qE sz ((i,.c x)::r) es=if[x].length=sz∧i<es.length then qE sz r (es.set i [x]) else none:=rfl
theorem Xb {e sz len:Nat} {z:List C} {parts:List (Nat×V)}:zp e sz z len parts KV=W9 (qE sz parts (List.replicate len z)) (fun es=>KV (.ow (if len=0 then none else some (e,sz)) es)):=by
 unfold zp W9;cases qE sz parts (List.replicate len z)<;>rfl
def vu (flds:List (Nat×Nat×Bool)) (z:List C) (parts:List (Nat×V)) (K:V→Prop):Option (List C)→Prop
 |some cs=>K (.agg cs)
 |none=>W9 (uS flds parts (z.map .c)) fun vs=>K (.mag vs)
theorem nr {T:TypeId} {i:TI} {z:List C} {flds:List (Nat×Nat×Bool)} {parts:List (Nat×V)} (hT:ti P T=some i) (hk:i.kd=.struct) (hz:i.zero=some z) (hf:i.flds=flds) :
 gZ P T parts KV=vu flds z parts KV (jx flds parts z):=by
 obtain⟨kd,a,b,c,d,f,g⟩:=i;simp only at hk hz hf;subst hk;subst hz;subst hf
 simp only[gZ,hT];unfold vu
 cases jx f parts z with
 |some cs=>rfl
 |none=>cases uS f parts (z.map .c)<;>rfl
theorem OE {z cs:List C} {flds:List (Nat×Nat×Bool)} {parts:List (Nat×V)}:vu flds z parts KV (some cs)=KV (.agg cs):=rfl
theorem OF {α:Type} {a:α} {K:α→Prop}:W9 (some a) K=K a:=rfl
theorem OG {flds:List (Nat×Nat×Bool)} {cs:List C}:jx flds [] cs=some cs:=rfl
theorem Xc {flds:List (Nat×Nat×Bool)} {i:Nat} {x:C} {r:List (Nat×V)} {cs:List C}:jx flds ((i,.c x)::r) cs=AQ flds[i]? [x] flds r cs:=by
 unfold jx AQ;cases flds[i]?<;>rfl
theorem Sc {flds:List (Nat×Nat×Bool)} {i:Nat} {E:Option (TypeId×Nat)} {x:List (List C)} {r:List (Nat×V)} {cs:List C}:jx flds ((i,.ow E x)::r) cs=AQ flds[i]? [.sl x] flds r cs:=by
 unfold jx AQ;cases flds[i]?<;>rfl
theorem OH {flds:List (Nat×Nat×Bool)} {i:Nat} {ds:List C} {r:List (Nat×V)} {cs:List C}:jx flds ((i,.agg ds)::r) cs=AQ flds[i]? ds flds r cs:=by
 unfold jx AQ;cases flds[i]?<;>rfl
theorem Ki {off sz:Nat} {ag:Bool} {ds:List C} {flds:List (Nat×Nat×Bool)} {r:List (Nat×V)} {cs:List C}:AQ (some (off,sz,ag)) ds flds r cs=if ds.length=sz∧off+sz≤cs.length then jx flds r (oC cs off ds) else none:=rfl
theorem Kj {cs ds:List C}:oC cs 0 ds=ds++cs.drop ds.length:=by simp[oC]
theorem Kk {c:C} {cs ds:List C} {n:Nat}:oC (c::cs) (n+1) ds=c::oC cs n ds:=by simp[oC,Nat.succ_add]
theorem Se {T e:TypeId} {i j:TI} {z:List C} {sz by_:Nat} {E:Option (TypeId×Nat)} {es ys:List (List C)} (hT:ti P T=some i) (hk:i.kd=.slice e) (hE:ti P e=some j) (hz:j.zero=some z) (hs:j.size=sz) (hb:j.bytes=by_) (hp:0<sz) (hl:z.length=sz) :
 ee P T (.ow E es) (.c (.sl ys)) KV=(((E=none∨E=some (e,sz))∧∀ x∈es,x.length=sz)∧((es.length+ys.length)*by_≤140737488355328∧es.length+ys.length≤9223372036854775807∧∀ x∈ys,x.length=sz)∧KV (.ow (if ys.isEmpty then E else some (e,sz)) (es++ys))):=by
 obtain⟨kd,a,b,c,d,f,g⟩:=i;subst hk
 obtain⟨kd',a',b',c',d',f',g'⟩:=j;simp only at hz hs hb;subst hz;subst hs;subst hb
 simp only[ee,hT,hE,hp,hl,fZ]
end
theorem ei {n:Int} {k:Nat} (h:n=(k:Nat)) (hk:k≤9223372036854775807):IntKind.i64.wrap n=(k:Nat):=by
 subst h;exact wrap_i64 _ (by omega)
section
variable {P:Program} {T e:TypeId} {i j:TI} {K:V→Prop} {blk off len cap k n' sz:Nat} {E:Option (TypeId×Nat)} {es:List (List C)} {s:S}
theorem nD {a:Option Addr} (hT:ti P T=some i) (hk:i.kd=.slice e) (hK:K (.c (.lit (.int .i64 len)))):lT P T (.c (.ex (.slice a len cap))) K:=by
 obtain⟨kd,a1,a2,a3,a4,a5,a6⟩:=i;simp only at hk;subst hk
 simp only[lT,hT];exact hK
theorem AS {kd:IntKind} {n:Int} (hT:ti P T=some i) (hk:i.kd=.slice e) (hE:ti P e=some j) (hs:j.size=sz) (hz:sz≠0) (hn:n=(k:Nat)) (hl:k<len) (hK:K (.c (.ex (.pointer (some ⟨blk,off+k*sz,none⟩))))) :
 cA P T (.c (.ex (.slice (some ⟨blk,off,none⟩) len cap))) (.c (.lit (.int kd n))) K:=by
 obtain⟨kd',a1,a2,a3,a4,a5,a6⟩:=i;simp only at hk;subst hk
 subst hn;subst hs
 simp only[cA,hT,hE,iE]
 exact⟨⟨aD k,by omega,hz⟩,hK⟩
theorem aaS {f:Nat} {ag:Bool} (hT:ti P T=some i) (hf:i.flds[f]?=some (off,sz,ag)) (hz:sz≠0) (hK:K (.c (.ex (.pointer (some ⟨blk,k+off,none⟩))))):bn P T (.c (.ex (.pointer (some ⟨blk,k,none⟩)))) f K:=by
 simp only[bn,hT,hf]
 exact⟨hz,hK⟩
