/- The engine of layer 17: emit. -/
import Derived.Test.YtloppcgcepgbnaaGreatDoorVlE0
set_option maxHeartbeats 2000000
set_option linter.all false
namespace Go.Proofs.YtloppcgcepgbnaaGreatDoor
open Go Go.Vl
variable {G:Gl}
set_option maxRecDepth 4000
def vR (o:Option Fa) (x:In):Bool:=match o with
 |none=>true
 |some f=>x.pre.any fun y=>decide (f=y)
def emL (o:Option Fa) (x:In):List In:=if vR o x=true then[x] else[]
theorem ai1 {o:Option Fa} {x:In} (h:vR o x=false):emL o x=[]:=by simp[emL,h]
theorem adL {o:Option Fa} {x:In} (h:vR o x=true):emL o x=[x]:=by simp[emL,h]
theorem dm {τ:Type} {Y:Ys τ} {s:τ} {L:List In} {ls:List (List V)} {f:FuncId} {fn:Func} {c:Code} {args:List V} (tr:List Nat) (hm:Tryz.prog.follows .mixedOrders=true) (hf:Tryz.prog.funcs[f]?=some fn) (hb:fn.body=some c) (np:(fn.name== "runtime.NumGoroutine")=false)
 {rs:List ResultVar} (OL:fn.results.toList=rs) {nt:Nat} (hn:fn.ntmps=nt) (vG:cok nt tr c=true) (cn:args.length≤nt) {m:Nat} (dQ:ls.length=m) (hl:ltL (kx Y.k m) ls) (ha:∀ x∈args,x.lt (kx Y.k m))
 (h:gZ Tryz.prog G tr (kx Y.k m) c (ND Tryz.prog (kx Y.k m) (Y.out s L ls) rs) ⟨frm 0 args,bxs (Y.yb s++ls),kx Y.k m⟩):FnR G Y f args s L ls:=
 G5 (k:=Y.k) tr hm hf hb np OL hn vG cn (fun r b1 h=>by
  obtain⟨t,b,_,rfl,rfl⟩:=h
  exact⟨rfl,by rw[aj,aj,Y.len,Y.len]⟩) (Y.len s) (Y.lt s) dQ hl ha h
theorem ft {τ:Type} {Y:Ys τ} {s s':τ} {L:List In} {b:Bool} (hR:Y.run s L s' b) {ls rest:List (List V)} {m n:Nat} {fr:Nat→V} {e:VE} {t:Nat} (he:tR e=true) (hm:ls.length=m) (hn:(ls++rest).length=n) (dQ:ltL (kx Y.k m) ls) (h:fr t=bo b) :
 ND Tryz.prog (kx Y.k m) (Y.out s L ls) [.tmp t] e ⟨fr,bxs (Y.yb s'++(ls++rest)),kx Y.k n⟩:=
 ⟨_,_,⟨s',b,hR,rfl,rfl⟩,WR [(t,bo b)] he (Y.len s') (Y.lt s') hm hn dQ (by simp[V.lt]) (by simp[FL,h]) (by simp[hdS,frs,rm,up])⟩
theorem ib {τ:Type} {Y:Ys τ} {s s':τ} {L:List In} {b:Bool} (hR:Y.run s L s' b) {ls:List (List V)} {m:Nat} {fr:Nat→V} {e:VE} {t:Nat} (he:tR e=true) (hm:ls.length=m) (dQ:ltL (kx Y.k m) ls) (h:fr t=bo b) :
 ND Tryz.prog (kx Y.k m) (Y.out s L ls) [.tmp t] e ⟨fr,bxs (Y.yb s'++ls),kx Y.k m⟩:=by
 have:=ft hR (rest:=[]) (n:=m) (fr:=fr) (e:=e) he hm (by simpa using hm) dQ h
 simpa using this
theorem nI {τ:Type} {Y:Ys τ} {s:τ} {L:List In} {g:FuncId} {ls rest:List (List V)} {f:V} {args all cargs:List V} {n:Nat} {fr:Nat→V} {K:S→V→Prop} (hc:gu f args=some (g,all)) (hf:FnR G Y g cargs s L ls) (en:all.map V.fz=cargs) (hn:(ls++rest).length=n)
 (hK:∀ t b,Y.run s L t b→K ⟨fr,bxs (Y.yb t++(ls++rest)),kx Y.k n⟩ (bo b)):kZ Tryz.prog G ⟨fr,bxs (Y.yb s++(ls++rest)),kx Y.k n⟩ f args K:=
 EJ hc hf en (Y.len s) hn fun r b1 h=>by
  obtain⟨t,b,hR,rfl,rfl⟩:=h
  exact⟨Y.yb t,rfl,Y.len t,Y.lt t,fun _=>rfl,hK t b hR⟩
theorem dt {τ:Type} {Y:Ys τ} {s:τ} {L:List In} {g:FuncId} {ls:List (List V)} {f:V} {args all cargs:List V} {n:Nat} {fr:Nat→V} {K:S→V→Prop} (hc:gu f args=some (g,all)) (hf:FnR G Y g cargs s L ls) (en:all.map V.fz=cargs) (hn:ls.length=n)
 (hK:∀ t b,Y.run s L t b→K ⟨fr,bxs (Y.yb t++ls),kx Y.k n⟩ (bo b)):kZ Tryz.prog G ⟨fr,bxs (Y.yb s++ls),kx Y.k n⟩ f args K:=by
 have:=nI (rest:=[]) (n:=n) (fr:=fr) (K:=K) hc hf en (by simpa using hn) (fun t b h=>by simpa using hK t b h)
 simpa using this
def afQ:=jj @pkA (jj @ptA (jj @pkE @pkN))
def x8:=jj @pkA (jj @ptA @pkE)
theorem J4 {τ:Type} (Y:Ys τ) (s:τ) (p:Pol) (o:Option Fa) (x:In) (hm:x.pre.length≤9223372036854775807) (hF:Fut G Y s (emL o x)) :
 FnR G Y 142 [.bp (kx Y.k 0) 0,i64 x.rule,.c (fsC x.pre),.c (fsC x.con)] s (emL o x) [eng p o]:=by
 have dQ:ltL (kx Y.k 1) [eng p o]:=NU (wN Y.pos)
 refine dm (m:=1) (rs:=[.tmp 8]) [1100033] mixed Tryz.func142 rfl rfl rfl rfl (by kernel_rfl) (by simp) rfl dQ (fun x hx=>?_) ?_
 ·simp only[aQ,aY,cN] at hx
  rcases hx with rfl | rfl | rfl | rfl<;>first | trivial | simp[V.lt,kx]
 have yes:vR o x=true→∀ (K:S→V→Prop) (fr:Nat→V),(∀ t b,Y.run s (emL o x) t b→K ⟨fr,bxs (Y.yb t++[eng p o]),kx Y.k 1⟩ (bo b))→vZ Tryz.prog G ⟨fr,bxs (Y.yb s++[eng p o]),kx Y.k 1⟩ (.yl 0) [.agg (inC x)] K:=fun hw K fr hK=>by
  rw[adL hw] at hF hK
  refine NF hF.1 rfl Y.pos (Y.len _) fun r Y' h=>?_
  obtain⟨t,b,hs,rfl,rfl⟩:=h
  exact⟨Y.len t,Y.lt t,fun _=>rfl,hK t b (adK hs)⟩
 have e1:∀ K,sh [(0,1,false),(1,1,false),(2,1,false)] [.lit (.int .i64 0),.sl [],.sl []] [(0,i64 x.rule),(1,.c (fsC x.pre)),(2,.c (fsC x.con))] K (some [cI x.rule,fsC x.pre,fsC x.con])=K (.agg (inC x)):=fun _=>rfl
 cases o with
 |none=>
  simp only[afQ,seval,bk0 (Y.len _),Ci]
  refine yes rfl _ _ fun t b hR=>?_
  simp only[pkA,seval,bk0 (Y.len _)]
  exact ib hR rfl rfl dQ (by simp[])
 |some f=>
  simp only[afQ,seval,bk0 (Y.len _),Ci]
  refine aN rfl (Hi x.pre f hm) (fun _=>rfl) ?_
  simp only[pkA,seval,bk0 (Y.len _)]
  refine aS (fun h=>?_) (fun h=>?_)
  ·have hw:vR (some f) x=false:=by simpa[vR] using h
   simp only[pkA,seval,bk0 (Y.len _)]
   exact ib (by rw[ai1 hw];exact .nil s) rfl rfl dQ (by simp[])
  ·have hw:vR (some f) x=true:=by simpa[vR] using h
   simp only[x8,seval,bk0 (Y.len _)]
   refine yes hw _ _ fun t b hR=>?_
   simp only[pkA,seval,bk0 (Y.len _)]
   exact ib hR rfl rfl dQ (by simp[])
structure Do1 (G:Gl) {τ:Type} (Y:Ys τ) (ls:List (List V)) (f:V) (R:Nat→Prop) (D:Nat→List In) where
 g:FuncId
 caps:List V
 eq:f=.clo (.func g) [] caps
 lt:∀ x∈caps,x.ltP (kx Y.k ls.length)
 fz:caps.map V.fz=caps
 ok:∀ s t,R t→Fut G Y s (D t)→FnR G Y g (i64 (t:Int)::caps) s (D t) ls
theorem AY {τ:Type} {Y:Ys τ} {s:τ} {ls:List (List V)}:(Y.yb s++ls).length=kx Y.k ls.length:=by rw[aj,Y.len];rfl
section
variable {τ:Type} {Y:Ys τ} {s:τ} {ls rest:List (List V)} {m n:Nat} {l:List (Nat×V)} {fr:Nat→V}
theorem J5 (hm:ls.length=m) (dQ:ltL (kx Y.k m) ls) (hl:∀ q∈l,q.2.lt (kx Y.k m)) (h1:FL l fr):S.Le (kx Y.k m) (hdS l (Y.yb s++ls)) ⟨fr,bxs (Y.yb s++ls),kx Y.k m⟩:=by
 have:=acd (rest:=[]) (Y:=Y.yb s) (ls:=ls) (n:=m) (j:=m) (Y.len s) (Y.lt s) hm (by simpa using hm) dQ hl h1 (ar _)
 simpa using this
theorem ai2 (hm:ls.length=m) (hn:(ls++rest).length=n) (dQ:ltL (kx Y.k m) ls) (hl:∀ q∈l,q.2.lt (kx Y.k m)) (h1:FL l fr):S.Le (kx Y.k m) (hdS l (Y.yb s++ls)) ⟨fr,bxs (Y.yb s++(ls++rest)),kx Y.k n⟩:=
 acd (Y:=Y.yb s) (j:=m) (Y.len s) (Y.lt s) hm hn dQ hl h1 (ar _)
end
theorem uh {P:Nat×V→Prop}:∀ q∈([]:List (Nat×V)),P q:=fun _ h=>by cases h
theorem eM {P:Nat×V→Prop} {a:Nat×V} {l:List (Nat×V)} (h:P a) (h2:∀ q∈l,P q):∀ q∈a::l,P q:=fun q hq=>by
 rcases aQ.1 hq with rfl | hq
 ·exact h
 ·exact h2 q hq
def rE (p:Pol) (o:Option Fa) (flag:Int) (D:Nat→List In) (t:Nat):List In:=if(uf p t flag&&pP o [(t:Int)])=true then D t else[]
def kp (p:Pol) (o:Option Fa) (flag:Int) (D:Nat→List In) (i:Nat):List In:=(List.range' i (p.types.length - i)).flatMap (rE p o flag D)
theorem NV {p:Pol} {o:Option Fa} {flag:Int} {D:Nat→List In} {i:Nat} (h:i<p.types.length):kp p o flag D i=rE p o flag D i++kp p o flag D (i+1):=by
 unfold kp
 have:p.types.length - i=(p.types.length - (i+1))+1:=by omega
 rw[this,ir,iL]
theorem Tn {p:Pol} {o:Option Fa} {flag:Int} {D:Nat→List In}:kp p o flag D p.types.length=[]:=by simp[kp]
theorem nJ {τ:Type} (Y:Ys τ) (p:Pol) (hp:p.types.length≤9223372036854775806) (o:Option Fa) (flag:Int) (more:List (List V)) (Af:ltL (kx Y.k (eng p o::more).length) more) (f:V) (D:Nat→List In) (hD:Do1 G Y (eng p o::more) f (fun t=>t<p.types.length) D) (s:τ)
 (hF:Fut G Y s (kp p o flag D 0)) :
 FnR G Y 140 [.bp (kx Y.k 0) 0,i64 flag,f] s (kp p o flag D 0) (eng p o::more):=by
 obtain⟨g,caps,rfl,kf,LL,eK⟩:=hD
 generalize hm:(eng p o::more).length=m at Af kf
 have OE:0<m:=by rw[← hm];simp
 have dQ:ltL (kx Y.k m) (eng p o::more):=fun b hb x hx=>by
  rcases aQ.1 hb with rfl | hb
  ·exact(wN Y.pos x hx).mono (by simp[kx])
  ·exact Af b hb x hx
 have Dp:(V.clo (.func g) [] caps).lt (kx Y.k m):=⟨fun x hx=>(by cases hx),kf⟩
 have rR:(V.bp (kx Y.k 0) 0).lt (kx Y.k m):=by simp only[V.lt,kM];exact OE
 refine dm (m:=m) (rs:=[.tmp 6]) [1000026,1500031] mixed Tryz.func140 rfl rfl rfl rfl (by kernel_rfl) (by simp) hm dQ (fun x hx=>?_) ?_
 ·simp only[aQ,aY,cN] at hx
  rcases hx with rfl | rfl | rfl
  ·exact rR
  ·trivial
  ·exact Dp
 have cn:∀ s,(Y.yb s++(eng p o::more)).length=kx Y.k m:=fun s=>by rw[AY,hm]
 have h0:(0<m)=True:=by simp[OE]
 simp only[x8,seval,bk0 (Y.len _),h0]
 refine cx (fun x:Nat×τ=>hdS [(0,.bp (kx Y.k 0) 0),(1,i64 flag),(2,.clo (.func g) [] caps),(11,i64 p.types.length),(12,i64 x.1)] (Y.yb x.2++(eng p o::more))) (fun x=>p.types.length - x.1)
  (fun x=>x.1≤p.types.length∧Fut G Y x.2 (kp p o flag D x.1)∧∀ u b,Y.run x.2 (kp p o flag D x.1) u b→Y.run s (kp p o flag D 0) u b) (0,s) ⟨au _,hF,fun _ _ h=>h⟩ ?_ ?_
 ·exact J5 hm dQ (eM rR (eM trivial (eM Dp (eM trivial (eM trivial uh))))) (by simp[FL,ao])
 rintro⟨i,s'⟩ ⟨hi,AI,vW⟩ R cE cC dV
 simp only at hi AI vW
 simp only[pkA,seval,bk0 (Y.len _),cn]
 refine aS (fun bV=>?_) (fun jA=>?_)
 ·have bV:i<p.types.length:=by simpa using bV
  rw[NV bV] at AI vW
  have hw:=cd (n:=(i:Int)+1) (k:=i+1) (by omega) (by omega)
  have next:∀ (fr:Nat→V) (s2:τ),fr 0=.bp (kx Y.k 0) 0→fr 1=i64 flag→fr 2=.clo (.func g) [] caps→fr 11=i64 p.types.length→fr 12=i64 ((i+1:Nat):Int)→Fut G Y s2 (kp p o flag D (i+1))→(∀ u b,Y.run s2 (kp p o flag D (i+1)) u b→Y.run s (kp p o flag D 0) u b)→
   R .normal ⟨fr,bxs (Y.yb s2++(eng p o::more)),kx Y.k m⟩:=fun fr s2 h1 h2 h3 h4 h5 h6 h7=>
   cE (i+1,s2) _ ⟨bV,h6,h7⟩ (by simp only;omega) (J5 hm dQ (eM rR (eM trivial (eM Dp (eM trivial (eM trivial uh))))) (by simp[FL,h1,h2,h3,h4,h5]))
  have skip:rE p o flag D i=[]→Fut G Y s' (kp p o flag D (i+1))∧∀ u b,Y.run s' (kp p o flag D (i+1)) u b→Y.run s (kp p o flag D 0) u b:=fun h=>by
   rw[h] at AI vW;exact⟨AI,vW⟩
  simp only[x8,seval,bk0 (Y.len _),h0]
  refine aN rfl (Ye p i flag (by omega)) (fun _=>rfl) ?_
  simp only[pkA,seval,bk0 (Y.len _)]
  refine fA (fun hh=>?_) (fun hh=>?_)
  ·simp only[pkA,ptA,seval,bk0 (Y.len _)]
   refine EF (ls:=[eng p o]) (rest:=more) rfl (J3 Y s' p o [(i:Int)] (by simp)) rfl (Y.len _) (Y.len _) (Y.lt _) hm (fun _=>rfl) ?_
   simp only[pkA,seval,bk0 (Y.len _)]
   refine fA (fun ha=>?_) (fun ha=>?_)
   ·have hT:rE p o flag D i=D i:=by simp[rE,hh,ha]
    rw[hT] at AI vW
    simp only[pkA,seval,bk0 (Y.len _)]
    refine dt rfl (eK s' i bV AI.app.1) (by simp[V.fz,LL]) hm fun t b hR=>?_
    cases b with
    |false=>
     simp only[pkA,seval,bk0 (Y.len _)]
     refine dV _ ?_
     simp only[pkA,bk0 (Y.len _)]
     exact ib (vW _ _ (AX hR)) rfl hm dQ (by simp[])
    |true=>
     simp only[pkA,seval,bk0 (Y.len _)]
     exact next _ _ (by simp[ao]) (by simp[ao]) (by simp[ao]) (by simp[ao]) (by simp[hw]) (AI.app.2 _ hR) (fun u b h=>vW u b (AW hR h))
   ·have hT:rE p o flag D i=[]:=by simp[rE,ha]
    simp only[pkA,seval,bk0 (Y.len _)]
    exact next _ _ (by simp[ao]) (by simp[ao]) (by simp[ao]) (by simp[ao]) (by simp[hw]) (skip hT).1 (skip hT).2
  ·have hT:rE p o flag D i=[]:=by simp[rE,hh]
   simp only[pkA,seval,bk0 (Y.len _)]
   exact next _ _ (by simp[ao]) (by simp[ao]) (by simp[ao]) (by simp[ao]) (by simp[hw]) (skip hT).1 (skip hT).2
 ·have:i=p.types.length:=by simp at jA;omega
  subst this
  rw[Tn] at vW
  simp only[pkA,bk0 (Y.len _)]
  refine cC _ _ ?_
  simp only[pkA,seval,bk0 (Y.len _)]
  exact ib (vW _ _ (.nil s')) rfl hm dQ (by simp[])
def gr (n:Nat) (D:Nat→List In) (v:Nat):List In:=(List.range' v (n+1 - v)).flatMap D
theorem J6 {n:Nat} {D:Nat→List In} {v:Nat} (h:v≤n):gr n D v=D v++gr n D (v+1):=by
 unfold gr
 have:n+1 - v=(n+1 - (v+1))+1:=by omega
 rw[this,ir,iL]
theorem NW {n:Nat} {D:Nat→List In} {v:Nat} (h:n<v):gr n D v=[]:=by
 have:n+1 - v=0:=by omega
 simp[gr,this]
theorem jz {τ:Type} (Y:Ys τ) (p:Pol) (hp:p.types.length≤9223372036854775806) (o:Option Fa) (first:Nat) (hfi:first≤1) (more:List (List V)) (Af:ltL (kx Y.k (eng p o::more).length) more) (f:V) (D:Nat→List In) (hD:Do1 G Y (eng p o::more) f (fun t=>first≤t∧t≤p.types.length) D) (s:τ)
 (hF:Fut G Y s (gr p.types.length D first)) :
 FnR G Y 147 [.bp (kx Y.k 0) 0,i64 (first:Int),f] s (gr p.types.length D first) (eng p o::more):=by
 obtain⟨g,caps,rfl,kf,LL,eK⟩:=hD
 generalize hm:(eng p o::more).length=m at Af kf
 have OE:0<m:=by rw[← hm];simp
 have dQ:ltL (kx Y.k m) (eng p o::more):=fun b hb x hx=>by
  rcases aQ.1 hb with rfl | hb
  ·exact(wN Y.pos x hx).mono (by simp[kx])
  ·exact Af b hb x hx
 have Dp:(V.clo (.func g) [] caps).lt (kx Y.k m):=⟨fun x hx=>(by cases hx),kf⟩
 have rR:(V.bp (kx Y.k 0) 0).lt (kx Y.k m):=by simp only[V.lt,kM];exact OE
 refine dm (m:=m) (rs:=[.tmp 6]) [1500019] mixed Tryz.func147 rfl rfl rfl rfl (by kernel_rfl) (by simp) hm dQ (fun x hx=>?_) ?_
 ·simp only[aQ,aY,cN] at hx
  rcases hx with rfl | rfl | rfl
  ·exact rR
  ·trivial
  ·exact Dp
 have cn:∀ s,(Y.yb s++(eng p o::more)).length=kx Y.k m:=fun s=>by rw[AY,hm]
 have h0:(0<m)=True:=by simp[OE]
 simp only[pkA,seval,bk0 (Y.len _)]
 refine cx (fun x:Nat×τ=>hdS [(0,.bp (kx Y.k 0) 0),(2,.clo (.func g) [] caps),(7,i64 x.1)] (Y.yb x.2++(eng p o::more))) (fun x=>p.types.length+1 - x.1)
  (fun x=>(first≤x.1∧x.1≤p.types.length+1)∧Fut G Y x.2 (gr p.types.length D x.1)∧∀ u b,Y.run x.2 (gr p.types.length D x.1) u b→Y.run s (gr p.types.length D first) u b) (first,s) ⟨⟨ar _,by omega⟩,hF,fun _ _ h=>h⟩ ?_ ?_
 ·exact J5 hm dQ (eM rR (eM Dp (eM trivial uh))) (by simp[FL,ao])
 rintro⟨i,s'⟩ ⟨⟨kU,hi⟩,AI,vW⟩ R cE cC dV
 simp only at hi AI vW kU
 simp only[x8,seval,bk0 (Y.len _),h0,cn]
 refine aS (fun bV=>?_) (fun jA=>?_)
 ·have bV:i≤p.types.length:=by simp at bV;omega
  rw[J6 bV] at vW AI
  have hw:=cd (n:=(i:Int)+1) (k:=i+1) (by omega) (by omega)
  simp only[pkA,seval,bk0 (Y.len _)]
  refine dt rfl (eK s' i ⟨kU,bV⟩ AI.app.1) (by simp[V.fz,LL]) hm fun t b hR=>?_
  cases b with
  |false=>
   simp only[pkA,seval,bk0 (Y.len _)]
   refine dV _ ?_
   simp only[pkA,bk0 (Y.len _)]
   exact ib (vW _ _ (AX hR)) rfl hm dQ (by simp[])
  |true=>
   simp only[pkA,seval,bk0 (Y.len _)]
   exact cE (i+1,_) _ ⟨⟨by omega,by omega⟩,AI.app.2 _ hR,fun u b h=>vW u b (AW hR h)⟩ (by simp only;omega) (J5 hm dQ (eM rR (eM Dp (eM trivial uh))) (by simp[FL,ao,hw]))
 ·have:p.types.length<i:=by simp at jA;omega
  rw[NW this] at vW
  simp only[pkA,bk0 (Y.len _)]
  refine cC _ _ ?_
  simp only[pkA,seval,bk0 (Y.len _)]
  exact ib (vW _ _ (.nil s')) rfl hm dQ (by simp[])
theorem NY {τ:Type} {Y:Ys τ} {s:τ} {p:Pol} {o:Option Fa} {l:List Int} {rest:List (List V)} {f:V} {args all:List V} {n:Nat} {fr:Nat→V} {K:S→V→Prop} (hc:gu f args=some (183,all))
 (en:all.map V.fz=[.bp (kx Y.k 0) 0,.c (.sl (l.map fun y=>[cI y]))]) (hm:l.length≤9223372036854775807) (hn:rest.length+1=n) (hK:K ⟨fr,bxs (Y.yb s++eng p o::rest),kx Y.k n⟩ (bo (pP o l))):vcallB Tryz.prog G ⟨fr,bxs (Y.yb s++eng p o::rest),kx Y.k n⟩ f args K:=
 EF (ls:=[eng p o]) (rest:=rest) hc (J3 Y s p o l hm) en (Y.len _) (Y.len _) (Y.lt _) hn (fun _=>rfl) hK
theorem NZ {τ:Type} {Y:Ys τ} {s:τ} {L:List In} {g:FuncId} {E c:List V} {more:List (List V)} {f:V} {args all cargs:List V} {m:Nat} {fr:Nat→V} {K:S→V→Prop} (hc:gu f args=some (g,all)) (hf:FnR G Y g cargs s L (E::more)) (en:all.map V.fz=cargs)
 (hn:(E::more).length=m) (hK:∀ t b,Y.run s L t b→K ⟨fr,bxs (Y.yb t++E::(more++[c])),kx Y.k (m+1)⟩ (bo b)):kZ Tryz.prog G ⟨fr,bxs (Y.yb s++E::(more++[c])),kx Y.k (m+1)⟩ f args K:=
 nI (ls:=E::more) (rest:=[c]) hc hf en (by rw[aj,hn];rfl) hK
structure Do2 (G:Gl) {τ:Type} (Y:Ys τ) (ls:List (List V)) (f:V) (R:Nat→Nat→Prop) (D:Nat→Nat→List In) where
 g:FuncId
 caps:List V
 eq:f=.clo (.func g) [] caps
 lt:∀ x∈caps,x.ltP (kx Y.k ls.length)
 fz:caps.map V.fz=caps
 ok:∀ s a b,R a b→Fut G Y s (D a b)→FnR G Y g (i64 (a:Int)::i64 (b:Int)::caps) s (D a b) ls
theorem adM {a b:Int} {K:V→Prop}:A6 false [i64 a,i64 b] K=K (i64 (min a b)):=by
 have:(if b<a then b else a)=min a b:=by split<;>omega
 rw[← this];rfl
theorem adN {a b:Int} {K:V→Prop}:A6 true [i64 a,i64 b] K=K (i64 (max a b)):=by
 have:(if a<b then b else a)=max a b:=by split<;>omega
 rw[← this];rfl
def DZ (p:Pol) (kind:Int) (r:Ru):Bool:=decide (r.kind=kind)&&(decide (0≤min r.a r.b)&&decide (max r.a r.b<p.types.length))
def rF (p:Pol) (o:Option Fa) (kind:Int) (D:Nat→Nat→List In) (r:Ru):List In:=if(DZ p kind r&&pP o [r.a,r.b])=true then D r.a.toNat r.b.toNat else[]
def ka (p:Pol) (o:Option Fa) (kind:Int) (D:Nat→Nat→List In) (i:Nat):List In:=(p.rules.drop i).flatMap (rF p o kind D)
theorem N1 {p:Pol} {o:Option Fa} {kind:Int} {D:Nat→Nat→List In} {i:Nat} (h:i<p.rules.length):ka p o kind D i=rF p o kind D p.rules[i]++ka p o kind D (i+1):=by
 unfold ka
 rw[dD h,iL]
theorem To {p:Pol} {o:Option Fa} {kind:Int} {D:Nat→Nat→List In}:ka p o kind D p.rules.length=[]:=by simp[ka]
section
variable {r:Ru} {n k j:Nat} {K:V→Prop}
theorem aoE:ldB (kx k n) (kx k j) ((ruC r).map .c) 0 K=(j<n∧K (i64 r.kind)):=by unfold ldB;rw[kM];rfl
theorem aoF:ldB (kx k n) (kx k j) ((ruC r).map .c) 1 K=(j<n∧K (i64 r.a)):=by unfold ldB;rw[kM];rfl
theorem aoG:ldB (kx k n) (kx k j) ((ruC r).map .c) 2 K=(j<n∧K (i64 r.b)):=by unfold ldB;rw[kM];rfl
theorem mru:bY ((ruC r).map V.c)=false:=rfl
theorem sru {a b c:C}:eS [V.c a,.c b,.c c] 0 ((ruC r).map .c)=(ruC r).map .c:=rfl
def pkR:=jj @aoE (jj @aoF (jj @aoG (jj @mru @sru)))
end
theorem pQ {τ:Type} (Y:Ys τ) (p:Pol) (hp:p.types.length≤9223372036854775806) (hr:p.rules.length≤9223372036854775806) (o:Option Fa) (kind:Int) (more:List (List V)) (Af:ltL (kx Y.k (eng p o::more).length) more) (f:V) (D:Nat→Nat→List In) (hD:Do2 G Y (eng p o::more) f (fun a b=>a<p.types.length∧b<p.types.length) D) (s:τ)
 (hF:Fut G Y s (ka p o kind D 0)) :
 FnR G Y 145 [.bp (kx Y.k 0) 0,i64 kind,f] s (ka p o kind D 0) (eng p o::more):=by
 obtain⟨g,caps,rfl,kf,LL,eK⟩:=hD
 generalize hm:(eng p o::more).length=m at Af kf
 have OE:0<m:=by rw[← hm];simp
 have dQ:ltL (kx Y.k m) (eng p o::more):=fun b hb x hx=>by
  rcases aQ.1 hb with rfl | hb
  ·exact(wN Y.pos x hx).mono (by simp[kx])
  ·exact Af b hb x hx
 have Dp:(V.clo (.func g) [] caps).lt (kx Y.k m):=⟨fun x hx=>(by cases hx),kf⟩
 have rR:(V.bp (kx Y.k 0) 0).lt (kx Y.k m):=by simp only[V.lt,kM];exact OE
 refine dm (m:=m) (rs:=[.tmp 6]) [1000052,1500060] mixed Tryz.func145 rfl rfl rfl rfl (by kernel_rfl) (by simp) hm dQ (fun x hx=>?_) ?_
 ·simp only[aQ,aY,cN] at hx
  rcases hx with rfl | rfl | rfl
  ·exact rR
  ·trivial
  ·exact Dp
 have cn:∀ s,(Y.yb s++(eng p o::more)).length=kx Y.k m:=fun s=>by rw[AY,hm]
 have h0:(0<m)=True:=by simp[OE]
 have h1:(0<m+1)=True:=by simp
 have h2:(m<m+1)=True:=by simp
 have n1:∀ (s:τ) (x:List V),up (bxs (Y.yb s++(eng p o::more))) (kx Y.k m) x=bxs (Y.yb s++(eng p o::(more++[x]))):=fun s x=>ag5 (Y.len s) hm
 have n2:∀ (s:τ) (x:List V),bxs (Y.yb s++(eng p o::(more++[x]))) (kx Y.k m)=x:=fun s x=>ag6 (Y.len s) hm
 have n3:∀ (s:τ) (c x:List V),up (bxs (Y.yb s++(eng p o::(more++[c])))) (kx Y.k m) x=bxs (Y.yb s++(eng p o::(more++[x]))):=fun s c x=>ag7 (Y.len s) hm
 simp only[x8,seval,bk0 (Y.len _),h0]
 refine cx (fun x:Nat×τ=>hdS [(0,.bp (kx Y.k 0) 0),(1,i64 kind),(2,.clo (.func g) [] caps),(14,.c (.sl (p.rules.map ruC))),(15,i64 p.rules.length),(16,i64 x.1)] (Y.yb x.2++(eng p o::more))) (fun x=>p.rules.length - x.1)
  (fun x=>x.1≤p.rules.length∧Fut G Y x.2 (ka p o kind D x.1)∧∀ u b,Y.run x.2 (ka p o kind D x.1) u b→Y.run s (ka p o kind D 0) u b) (0,s) ⟨au _,hF,fun _ _ h=>h⟩ ?_ ?_
 ·exact J5 hm dQ (eM rR (eM trivial (eM Dp (eM trivial (eM trivial (eM trivial uh)))))) (by simp[FL,ao])
 rintro⟨i,s'⟩ ⟨hi,AI,vW⟩ R cE cC dV
 simp only at hi AI vW
 simp only[pkA,seval,bk0 (Y.len _),cn]
 refine aS (fun bV=>?_) (fun jA=>?_)
 ·have bV:i<p.rules.length:=by simpa using bV
  rw[N1 bV] at AI vW
  have hw:=cd (n:=(i:Int)+1) (k:=i+1) (by omega) (by omega)
  have next:∀ (fr:Nat→V) (s2:τ) (c:List V),fr 0=.bp (kx Y.k 0) 0→fr 1=i64 kind→fr 2=.clo (.func g) [] caps→fr 14=.c (.sl (p.rules.map ruC))→fr 15=i64 p.rules.length→fr 16=i64 ((i+1:Nat):Int)→Fut G Y s2 (ka p o kind D (i+1))→(∀ u b,Y.run s2 (ka p o kind D (i+1)) u b→Y.run s (ka p o kind D 0) u b)→
   R .normal ⟨fr,bxs (Y.yb s2++(eng p o::(more++[c]))),kx Y.k (m+1)⟩:=fun fr s2 c h1 h2 h3 h4 h5 h6 h7 h8=>
   cE (i+1,s2) _ ⟨bV,h7,h8⟩ (by simp only;omega) (ai2 (rest:=[c]) hm (by rw[aj,hm];rfl) dQ (eM rR (eM trivial (eM Dp (eM trivial (eM trivial (eM trivial uh)))))) (by simp[FL,h1,h2,h3,h4,h5,h6]))
  have skip:rF p o kind D p.rules[i]=[]→Fut G Y s' (ka p o kind D (i+1))∧∀ u b,Y.run s' (ka p o kind D (i+1)) u b→Y.run s (ka p o kind D 0) u b:=fun h=>by
   rw[h] at AI vW;exact⟨AI,vW⟩
  simp only[pkA,seval,bk0 (Y.len _)]
  refine fE mY rfl iR (by decide) (aJ i) (c:=ruC p.rules[i]) (by simp[bV]) rfl ?_
  generalize p.rules[i]=r at *
  have hl3:∀ a b c:C,[V.c a,.c b,.c c].length=3:=fun _ _ _=>rfl
  simp only[hl3,pkA,ptA,pkE,pkR,seval,bk0 (Y.len _),aou (Y.len _),h2,n1,n2,n3,kM,fg]
  have no:DZ p kind r=false→rF p o kind D r=[]:=fun h=>by simp[rF,h]
  refine fA (fun hk=>?_) (fun hk=>?_)
  ·simp only[adM,x8,seval,bk0 (Y.len _),h2,n2,kM]
   refine fA (fun afv=>?_) (fun afv=>?_)
   ·simp only[adN,x8,seval,bk0 (Y.len _),h1,h2,n2,kM]
    have his:DZ p kind r=decide (max r.a r.b<(p.types.length:Int)):=by simp[DZ,hk,afv]
    refine fA (fun Df=>?_) (fun Df=>?_)
    ·have his:DZ p kind r=true:=by rw[his];exact Df
     simp only[x8,seval,bk0 (Y.len _),h2,n2,kM]
     refine NY (l:=[r.a,r.b]) rfl rfl (by simp) (by simp at hm ⊢;omega) ?_
     simp only[pkA,seval,bk0 (Y.len _)]
     refine fA (fun ha=>?_) (fun ha=>?_)
     ·have hT:rF p o kind D r=D r.a.toNat r.b.toNat:=by simp[rF,his,ha]
      rw[hT] at AI vW
      have hlo:0≤min r.a r.b:=by simpa using afv
      have Uu:max r.a r.b<(p.types.length:Int):=by simpa using Df
      have ea:((r.a.toNat:Nat):Int)=r.a:=by omega
      have eb:((r.b.toNat:Nat):Int)=r.b:=by omega
      have hc:=eK s' r.a.toNat r.b.toNat ⟨by omega,by omega⟩ AI.app.1
      rw[ea,eb] at hc
      simp only[x8,seval,bk0 (Y.len _),h2,n2,kM]
      refine NZ rfl hc (by simp[V.fz,LL]) hm fun t b hR=>?_
      cases b with
      |false=>
       simp only[pkA,seval,bk0 (Y.len _)]
       refine dV _ ?_
       simp only[pkA,bk0 (Y.len _)]
       exact ft (rest:=[(ruC r).map .c]) (vW _ _ (AX hR)) rfl hm (by rw[aj,hm];rfl) dQ (by simp[])
      |true=>
       simp only[pkA,seval,bk0 (Y.len _)]
       exact next _ _ _ (by simp[ao]) (by simp[ao]) (by simp[ao]) (by simp[ao]) (by simp[ao]) (by simp[hw]) (AI.app.2 _ hR) (fun u b h=>vW u b (AW hR h))
     ·have hT:rF p o kind D r=[]:=by simp[rF,ha]
      simp only[pkA,seval,bk0 (Y.len _)]
      exact next _ _ _ (by simp[ao]) (by simp[ao]) (by simp[ao]) (by simp[ao]) (by simp[ao]) (by simp[hw]) (skip hT).1 (skip hT).2
    ·have hT:=no (by rw[his];exact Df)
     simp only[pkA,seval,bk0 (Y.len _)]
     exact next _ _ _ (by simp[ao]) (by simp[ao]) (by simp[ao]) (by simp[ao]) (by simp[ao]) (by simp[hw]) (skip hT).1 (skip hT).2
   ·have hT:=no (by simp[DZ,afv])
    simp only[pkA,seval,bk0 (Y.len _)]
    exact next _ _ _ (by simp[ao]) (by simp[ao]) (by simp[ao]) (by simp[ao]) (by simp[ao]) (by simp[hw]) (skip hT).1 (skip hT).2
  ·have hT:=no (by simp[DZ];simp at hk;intro h;exact absurd h hk)
   simp only[pkA,seval,bk0 (Y.len _)]
   exact next _ _ _ (by simp[ao]) (by simp[ao]) (by simp[ao]) (by simp[ao]) (by simp[ao]) (by simp[hw]) (skip hT).1 (skip hT).2
 ·have:i=p.rules.length:=by simp at jA;omega
  subst this
  rw[To] at vW
  simp only[pkA,bk0 (Y.len _)]
  refine cC _ _ ?_
  simp only[pkA,seval,bk0 (Y.len _)]
  exact ib (vW _ _ (.nil s')) rfl hm dQ (by simp[])
