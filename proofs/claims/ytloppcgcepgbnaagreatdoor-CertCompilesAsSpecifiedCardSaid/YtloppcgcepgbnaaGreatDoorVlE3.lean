/- The engine of layer 17: emit. -/
import Derived.Test.YtloppcgcepgbnaaGreatDoorVlE0
set_option maxHeartbeats 2000000
set_option linter.all false
namespace Go.Proofs.YtloppcgcepgbnaaGreatDoor
open Go Go.Vl
variable {G:Gl}
set_option maxRecDepth 4000
def v8 (o:Option Fa) (x:In):Bool:=match o with
 |none=>true
 |some f=>x.pre.any λy=>decide (f=y)
def emL (o:Option Fa) (x:In):List In:=if v8 o x=true then[x] else[]
theorem ajH {o:Option Fa} {x:In} (h:v8 o x=false):emL o x=[]:=by simp[emL,h]
theorem aew {o:Option Fa} {x:In} (h:v8 o x=true):emL o x=[x]:=by simp[emL,h]
theorem dy {τ:Type} {Y:Ys τ} {s:τ} {L:List In} {ls:List (List V)} {f:FuncId} {fn:Func} {c:Code} {args:List V} (tr:List Nat) (hm:Tryz.prog.follows .mixedOrders=true) (hf:Tryz.prog.funcs[f]?=some fn) (hb:fn.body=some c) (nC:(fn.name== "runtime.NumGoroutine")=false)
 {rs:List ResultVar} (PE:fn.results.toList=rs) {nt:Nat} (hn:fn.ntmps=nt) (vQ:cok nt tr c=true) (cm:args.length<=nt) {m:Nat} (dU:ls.length=m) (hl:ltL (kx Y.k m) ls) (ha:∀ x∈args,x.lt (kx Y.k m))
 (h:ia Tryz.prog G tr (kx Y.k m) c (N8 Tryz.prog (kx Y.k m) (Y.out s L ls) rs) ⟨frm 0 args,bxs (Y.yb s++ls),kx Y.k m⟩):FnR G Y f args s L ls:=
 HK (k:=Y.k) tr hm hf hb nC PE hn vQ cm (λr b1 h=>by obtain⟨t,b,_,rfl,rfl⟩:=h;exact⟨rfl,by rw[ae,ae,Y.len,Y.len]⟩) (Y.len s) (Y.lt s) dU hl ha h
theorem fC {τ:Type} {Y:Ys τ} {s s':τ} {L:List In} {b:Bool} (hR:Y.run s L s' b) {ls rest:List (List V)} {m n:Nat} {fr:Nat->V} {e:VE} {t:Nat} (he:rV e=true) (hm:ls.length=m) (hn:(ls++rest).length=n) (dU:ltL (kx Y.k m) ls) (h:fr t=bo b) :
 N8 Tryz.prog (kx Y.k m) (Y.out s L ls) [.tmp t] e ⟨fr,bxs (Y.yb s'++(ls++rest)),kx Y.k n⟩:=
 ⟨_,_,⟨s',b,hR,rfl,rfl⟩,XB [(t,bo b)] he (Y.len s') (Y.lt s') hm hn dU (by simp[V.lt]) (by simp[FL,h]) (by simp[hdS,frs,pZ,up])⟩
theorem ij {τ:Type} {Y:Ys τ} {s s':τ} {L:List In} {b:Bool} (hR:Y.run s L s' b) {ls:List (List V)} {m:Nat} {fr:Nat->V} {e:VE} {t:Nat} (he:rV e=true) (hm:ls.length=m) (dU:ltL (kx Y.k m) ls) (h:fr t=bo b) :
 N8 Tryz.prog (kx Y.k m) (Y.out s L ls) [.tmp t] e ⟨fr,bxs (Y.yb s'++ls),kx Y.k m⟩:=by
 have:=fC hR (rest:=[]) (n:=m) (fr:=fr) (e:=e) he hm (by simpa using hm) dU h;simpa using this
theorem oa {τ:Type} {Y:Ys τ} {s:τ} {L:List In} {g:FuncId} {ls rest:List (List V)} {f:V} {args all cargs:List V} {n:Nat} {fr:Nat->V} {K:S->V->Prop} (hc:gx f args=some (g,all)) (hf:FnR G Y g cargs s L ls) (eE:all.map V.fz=cargs) (hn:(ls++rest).length=n)
 (hK:∀ t b,Y.run s L t b->K ⟨fr,bxs (Y.yb t++(ls++rest)),kx Y.k n⟩ (bo b)):ll Tryz.prog G ⟨fr,bxs (Y.yb s++(ls++rest)),kx Y.k n⟩ f args K:=
 Ff hc hf eE (Y.len s) hn λr b1 h=>by obtain⟨t,b,hR,rfl,rfl⟩:=h;exact⟨Y.yb t,rfl,Y.len t,Y.lt t,λ_=>rfl,hK t b hR⟩
theorem dB {τ:Type} {Y:Ys τ} {s:τ} {L:List In} {g:FuncId} {ls:List (List V)} {f:V} {args all cargs:List V} {n:Nat} {fr:Nat->V} {K:S->V->Prop} (hc:gx f args=some (g,all)) (hf:FnR G Y g cargs s L ls) (eE:all.map V.fz=cargs) (hn:ls.length=n)
 (hK:∀ t b,Y.run s L t b->K ⟨fr,bxs (Y.yb t++ls),kx Y.k n⟩ (bo b)):ll Tryz.prog G ⟨fr,bxs (Y.yb s++ls),kx Y.k n⟩ f args K:=by
 have:=oa (rest:=[]) (n:=n) (fr:=fr) (K:=K) hc hf eE (by simpa using hn) (λt b h=>by simpa using hK t b h);simpa using this
def agp:=jj @pkA (jj @ptA (jj @pkE @pkN))
def yt:=jj @pkA (jj @ptA @pkE)
theorem KT {τ:Type} (Y:Ys τ) (s:τ) (p:Pol) (o:Option Fa) (x:In) (hm:x.pre.length<=9223372036854775807) (hF:Fut G Y s (emL o x)) :
 FnR G Y 142 [.bp (kx Y.k 0) 0,i64 x.rule,.c (fsC x.pre),.c (fsC x.con)] s (emL o x) [eng p o]:=by
 have dU:ltL (kx Y.k 1) [eng p o]:=Ot (wW Y.pos);refine dy (m:=1) (rs:=[.tmp 8]) [1100033] mixed Tryz.func142 rfl rfl rfl rfl (by kernel_rfl) (by simp) rfl dU (λx hx=>?_) ?_
 .simp only[aN,bf,cR] at hx
  rcases hx with rfl | rfl | rfl | rfl<;>first | trivial | simp[V.lt,kx]
 have yes:v8 o x=true->∀ (K:S->V->Prop) (fr:Nat->V),(∀ t b,Y.run s (emL o x) t b->K ⟨fr,bxs (Y.yb t++[eng p o]),kx Y.k 1⟩ (bo b))->wx Tryz.prog G ⟨fr,bxs (Y.yb s++[eng p o]),kx Y.k 1⟩ (.yl 0) [.agg (inC x)] K:=λhw K fr hK=>by rw[aew hw] at hF hK;refine N9 hF.1 rfl Y.pos (Y.len _) λr Y' h=>?_;obtain⟨t,b,hs,rfl,rfl⟩:=h;exact⟨Y.len t,Y.lt t,λ_=>rfl,hK t b (aev hs)⟩
 have e1:∀ K,sN [(0,1,false),(1,1,false),(2,1,false)] [.lit (.int .i64 0),.sl [],.sl []] [(0,i64 x.rule),(1,.c (fsC x.pre)),(2,.c (fsC x.con))] K (some [cI x.rule,fsC x.pre,fsC x.con])=K (.agg (inC x)):=λ_=>rfl;cases o with
 |none=>simp only[agp,seval,bk0 (Y.len _),C0];refine yes rfl _ _ λt b hR=>?_;simp only[pkA,seval,bk0 (Y.len _)];exact ij hR rfl rfl dU (by simp[])
 |some f=>
  simp only[agp,seval,bk0 (Y.len _),C0];refine aC rfl (HY x.pre f hm) (λ_=>rfl) ?_;simp only[pkA,seval,bk0 (Y.len _)];refine aD (λh=>?_) (λh=>?_)
  .have hw:v8 (some f) x=false:=by simpa[v8] using h
   simp only[pkA,seval,bk0 (Y.len _)];exact ij (by rw[ajH hw];exact .nil s) rfl rfl dU (by simp[])
  .have hw:v8 (some f) x=true:=by simpa[v8] using h
   simp only[yt,seval,bk0 (Y.len _)];refine yes hw _ _ λt b hR=>?_;simp only[pkA,seval,bk0 (Y.len _)];exact ij hR rfl rfl dU (by simp[])
structure Do1 (G:Gl) {τ:Type} (Y:Ys τ) (ls:List (List V)) (f:V) (R:Nat->Prop) (D:Nat->List In) where
 g:FuncId
 caps:List V
 eq:f=.clo (.func g) [] caps
 lt:∀ x∈caps,x.ltP (kx Y.k ls.length)
 fz:caps.map V.fz=caps
 ok:∀ s t,R t->Fut G Y s (D t)->FnR G Y g (i64 (t:Int)::caps) s (D t) ls
theorem Bj {τ:Type} {Y:Ys τ} {s:τ} {ls:List (List V)}:(Y.yb s++ls).length=kx Y.k ls.length:=by rw[ae,Y.len];rfl
section
variable {τ:Type} {Y:Ys τ} {s:τ} {ls rest:List (List V)} {m n:Nat} {l:List (Nat×V)} {fr:Nat->V}
theorem KU (hm:ls.length=m) (dU:ltL (kx Y.k m) ls) (hl:∀ q∈l,q.2.lt (kx Y.k m)) (h1:FL l fr):S.Le (kx Y.k m) (hdS l (Y.yb s++ls)) ⟨fr,bxs (Y.yb s++ls),kx Y.k m⟩:=by have:=acZ (rest:=[]) (Y:=Y.yb s) (ls:=ls) (n:=m) (j:=m) (Y.len s) (Y.lt s) hm (by simpa using hm) dU hl h1 (ab _);simpa using this
theorem ajI (hm:ls.length=m) (hn:(ls++rest).length=n) (dU:ltL (kx Y.k m) ls) (hl:∀ q∈l,q.2.lt (kx Y.k m)) (h1:FL l fr):S.Le (kx Y.k m) (hdS l (Y.yb s++ls)) ⟨fr,bxs (Y.yb s++(ls++rest)),kx Y.k n⟩:=
 acZ (Y:=Y.yb s) (j:=m) (Y.len s) (Y.lt s) hm hn dU hl h1 (ab _)
end
theorem uE {P:Nat×V->Prop}:∀ q∈([]:List (Nat×V)),P q:=λ_ h=>by cases h
theorem eP {P:Nat×V->Prop} {a:Nat×V} {l:List (Nat×V)} (h:P a) (h2:∀ q∈l,P q):∀ q∈a::l,P q:=λq hq=>by
 rcases aN.1 hq with rfl | hq
 .exact h
 .exact h2 q hq
def qf (p:Pol) (o:Option Fa) (flag:Int) (D:Nat->List In) (t:Nat):List In:=if(sV p t flag&&n0 o [(t:Int)])=true then D t else[]
def jq (p:Pol) (o:Option Fa) (flag:Int) (D:Nat->List In) (i:Nat):List In:=(List.range' i (p.types.length - i)).flatMap (qf p o flag D)
theorem C2 {p:Pol} {o:Option Fa} {flag:Int} {D:Nat->List In} {i:Nat} (h:i<p.types.length):jq p o flag D i=qf p o flag D i++jq p o flag D (i+1):=by
 unfold jq;have:p.types.length - i=(p.types.length - (i+1))+1:=by omega
 rw[this,iw,fX]
theorem FG {p:Pol} {o:Option Fa} {flag:Int} {D:Nat->List In}:jq p o flag D p.types.length=[]:=by simp[jq]
theorem oc {τ:Type} (Y:Ys τ) (p:Pol) (hp:p.types.length<=9223372036854775806) (o:Option Fa) (flag:Int) (more:List (List V)) (AA:ltL (kx Y.k (eng p o::more).length) more) (f:V) (D:Nat->List In) (hD:Do1 G Y (eng p o::more) f (λt=>t<p.types.length) D) (s:τ)
 (hF:Fut G Y s (jq p o flag D 0)) :
 FnR G Y 140 [.bp (kx Y.k 0) 0,i64 flag,f] s (jq p o flag D 0) (eng p o::more):=by
 obtain⟨g,caps,rfl,j8,MG,eG⟩:=hD;generalize hm:(eng p o::more).length=m at AA j8;have Po:0<m:=by rw[<- hm];simp
 have dU:ltL (kx Y.k m) (eng p o::more):=λb hb x hx=>by
  rcases aN.1 hb with rfl | hb
  .exact(wW Y.pos x hx).mono (by simp[kx])
  .exact AA b hb x hx
 have D8:(V.clo (.func g) [] caps).lt (kx Y.k m):=⟨λx hx=>(by cases hx),j8⟩;have tM:(V.bp (kx Y.k 0) 0).lt (kx Y.k m):=by simp only[V.lt,kU];exact Po
 refine dy (m:=m) (rs:=[.tmp 6]) [1000026,1500031] mixed Tryz.func140 rfl rfl rfl rfl (by kernel_rfl) (by simp) hm dU (λx hx=>?_) ?_
 .simp only[aN,bf,cR] at hx
  rcases hx with rfl | rfl | rfl
  .exact tM
  .trivial
  .exact D8
 have cm:∀ s,(Y.yb s++(eng p o::more)).length=kx Y.k m:=λs=>by rw[Bj,hm]
 have h0:(0<m)=True:=by simp[Po]
 simp only[yt,seval,bk0 (Y.len _),h0];refine bz (λx:Nat×τ=>hdS [(0,.bp (kx Y.k 0) 0),(1,i64 flag),(2,.clo (.func g) [] caps),(11,i64 p.types.length),(12,i64 x.1)] (Y.yb x.2++(eng p o::more))) (λx=>p.types.length - x.1)
  (λx=>x.1<=p.types.length/\Fut G Y x.2 (jq p o flag D x.1)/\∀ u b,Y.run x.2 (jq p o flag D x.1) u b->Y.run s (jq p o flag D 0) u b) (0,s) ⟨ar _,hF,λ_ _ h=>h⟩ ?_ ?_
 .exact KU hm dU (eP tM (eP trivial (eP D8 (eP trivial (eP trivial uE))))) (by simp[FL,aj])
 rintro⟨i,s'⟩ ⟨hi,A3,wm⟩ R bL bQ dq;simp only at hi A3 wm;simp only[pkA,seval,bk0 (Y.len _),cm];refine aD (λbF=>?_) (λfO=>?_)
 .have bF:i<p.types.length:=by simpa using bF
  rw[C2 bF] at A3 wm;have hw:=br (n:=(i:Int)+1) (k:=i+1) (by omega) (by omega);have next:∀ (fr:Nat->V) (s2:τ),fr 0=.bp (kx Y.k 0) 0->fr 1=i64 flag->fr 2=.clo (.func g) [] caps->fr 11=i64 p.types.length->fr 12=i64 ((i+1:Nat):Int)->Fut G Y s2 (jq p o flag D (i+1))->(∀ u b,Y.run s2 (jq p o flag D (i+1)) u b->Y.run s (jq p o flag D 0) u b)->
   R .normal ⟨fr,bxs (Y.yb s2++(eng p o::more)),kx Y.k m⟩:=λfr s2 h1 h2 h3 h4 h5 h6 h7=>
   bL (i+1,s2) _ ⟨bF,h6,h7⟩ (by simp only;omega) (KU hm dU (eP tM (eP trivial (eP D8 (eP trivial (eP trivial uE))))) (by simp[FL,h1,h2,h3,h4,h5]))
  have skip:qf p o flag D i=[]->Fut G Y s' (jq p o flag D (i+1))/\∀ u b,Y.run s' (jq p o flag D (i+1)) u b->Y.run s (jq p o flag D 0) u b:=λh=>by rw[h] at A3 wm;exact⟨A3,wm⟩
  simp only[yt,seval,bk0 (Y.len _),h0];refine aC rfl (Y4 p i flag (by omega)) (λ_=>rfl) ?_;simp only[pkA,seval,bk0 (Y.len _)];refine fy (λhh=>?_) (λhh=>?_)
  .simp only[pkA,ptA,seval,bk0 (Y.len _)]
   refine E9 (ls:=[eng p o]) (rest:=more) rfl (KQ Y s' p o [(i:Int)] (by simp)) rfl (Y.len _) (Y.len _) (Y.lt _) hm (λ_=>rfl) ?_;simp only[pkA,seval,bk0 (Y.len _)];refine fy (λha=>?_) (λha=>?_)
   .have hT:qf p o flag D i=D i:=by simp[qf,hh,ha]
    rw[hT] at A3 wm;simp only[pkA,seval,bk0 (Y.len _)];refine dB rfl (eG s' i bF A3.app.1) (by simp[V.fz,MG]) hm λt b hR=>?_;cases b with
    |false=>simp only[pkA,seval,bk0 (Y.len _)];refine dq _ ?_;simp only[pkA,bk0 (Y.len _)];exact ij (wm _ _ (Bi hR)) rfl hm dU (by simp[])
    |true=>
     simp only[pkA,seval,bk0 (Y.len _)];exact next _ _ (by simp[aj]) (by simp[aj]) (by simp[aj]) (by simp[aj]) (by simp[hw]) (A3.app.2 _ hR) (λu b h=>wm u b (Bh hR h))
   .have hT:qf p o flag D i=[]:=by simp[qf,ha]
    simp only[pkA,seval,bk0 (Y.len _)];exact next _ _ (by simp[aj]) (by simp[aj]) (by simp[aj]) (by simp[aj]) (by simp[hw]) (skip hT).1 (skip hT).2
  .have hT:qf p o flag D i=[]:=by simp[qf,hh]
   simp only[pkA,seval,bk0 (Y.len _)];exact next _ _ (by simp[aj]) (by simp[aj]) (by simp[aj]) (by simp[aj]) (by simp[hw]) (skip hT).1 (skip hT).2
 .have:i=p.types.length:=by simp at fO;omega
  subst this;rw[FG] at wm;simp only[pkA,bk0 (Y.len _)];refine bQ _ _ ?_;simp only[pkA,seval,bk0 (Y.len _)];exact ij (wm _ _ (.nil s')) rfl hm dU (by simp[])
def b8 (n:Nat) (D:Nat->List In) (v:Nat):List In:=(List.range' v (n+1 - v)).flatMap D
theorem fw {n:Nat} {D:Nat->List In} {v:Nat} (h:v<=n):b8 n D v=D v++b8 n D (v+1):=by
 unfold b8;have:n+1 - v=(n+1 - (v+1))+1:=by omega
 rw[this,iw,fX]
theorem gA {n:Nat} {D:Nat->List In} {v:Nat} (h:n<v):b8 n D v=[]:=by
 have:n+1 - v=0:=by omega
 simp[b8,this]
theorem jB {τ:Type} (Y:Ys τ) (p:Pol) (hp:p.types.length<=9223372036854775806) (o:Option Fa) (first:Nat) (hfi:first<=1) (more:List (List V)) (AA:ltL (kx Y.k (eng p o::more).length) more) (f:V) (D:Nat->List In) (hD:Do1 G Y (eng p o::more) f (λt=>first<=t/\t<=p.types.length) D) (s:τ)
 (hF:Fut G Y s (b8 p.types.length D first)) :
 FnR G Y 147 [.bp (kx Y.k 0) 0,i64 (first:Int),f] s (b8 p.types.length D first) (eng p o::more):=by
 obtain⟨g,caps,rfl,j8,MG,eG⟩:=hD;generalize hm:(eng p o::more).length=m at AA j8;have Po:0<m:=by rw[<- hm];simp
 have dU:ltL (kx Y.k m) (eng p o::more):=λb hb x hx=>by
  rcases aN.1 hb with rfl | hb
  .exact(wW Y.pos x hx).mono (by simp[kx])
  .exact AA b hb x hx
 have D8:(V.clo (.func g) [] caps).lt (kx Y.k m):=⟨λx hx=>(by cases hx),j8⟩;have tM:(V.bp (kx Y.k 0) 0).lt (kx Y.k m):=by simp only[V.lt,kU];exact Po
 refine dy (m:=m) (rs:=[.tmp 6]) [1500019] mixed Tryz.func147 rfl rfl rfl rfl (by kernel_rfl) (by simp) hm dU (λx hx=>?_) ?_
 .simp only[aN,bf,cR] at hx
  rcases hx with rfl | rfl | rfl
  .exact tM
  .trivial
  .exact D8
 have cm:∀ s,(Y.yb s++(eng p o::more)).length=kx Y.k m:=λs=>by rw[Bj,hm]
 have h0:(0<m)=True:=by simp[Po]
 simp only[pkA,seval,bk0 (Y.len _)];refine bz (λx:Nat×τ=>hdS [(0,.bp (kx Y.k 0) 0),(2,.clo (.func g) [] caps),(7,i64 x.1)] (Y.yb x.2++(eng p o::more))) (λx=>p.types.length+1 - x.1)
  (λx=>(first<=x.1/\x.1<=p.types.length+1)/\Fut G Y x.2 (b8 p.types.length D x.1)/\∀ u b,Y.run x.2 (b8 p.types.length D x.1) u b->Y.run s (b8 p.types.length D first) u b) (first,s) ⟨⟨ab _,by omega⟩,hF,λ_ _ h=>h⟩ ?_ ?_
 .exact KU hm dU (eP tM (eP D8 (eP trivial uE))) (by simp[FL,aj])
 rintro⟨i,s'⟩ ⟨⟨lG,hi⟩,A3,wm⟩ R bL bQ dq;simp only at hi A3 wm lG;simp only[yt,seval,bk0 (Y.len _),h0,cm];refine aD (λbF=>?_) (λfO=>?_)
 .have bF:i<=p.types.length:=by simp at bF;omega
  rw[fw bF] at wm A3;have hw:=br (n:=(i:Int)+1) (k:=i+1) (by omega) (by omega);simp only[pkA,seval,bk0 (Y.len _)];refine dB rfl (eG s' i ⟨lG,bF⟩ A3.app.1) (by simp[V.fz,MG]) hm λt b hR=>?_;cases b with
  |false=>simp only[pkA,seval,bk0 (Y.len _)];refine dq _ ?_;simp only[pkA,bk0 (Y.len _)];exact ij (wm _ _ (Bi hR)) rfl hm dU (by simp[])
  |true=>simp only[pkA,seval,bk0 (Y.len _)];exact bL (i+1,_) _ ⟨⟨by omega,by omega⟩,A3.app.2 _ hR,λu b h=>wm u b (Bh hR h)⟩ (by simp only;omega) (KU hm dU (eP tM (eP D8 (eP trivial uE))) (by simp[FL,aj,hw]))
 .have:p.types.length<i:=by simp at fO;omega
  rw[gA this] at wm;simp only[pkA,bk0 (Y.len _)];refine bQ _ _ ?_;simp only[pkA,seval,bk0 (Y.len _)];exact ij (wm _ _ (.nil s')) rfl hm dU (by simp[])
theorem Ou {τ:Type} {Y:Ys τ} {s:τ} {p:Pol} {o:Option Fa} {l:List Int} {rest:List (List V)} {f:V} {args all:List V} {n:Nat} {fr:Nat->V} {K:S->V->Prop} (hc:gx f args=some (183,all))
 (eE:all.map V.fz=[.bp (kx Y.k 0) 0,.c (.sl (l.map λy=>[cI y]))]) (hm:l.length<=9223372036854775807) (hn:rest.length+1=n) (hK:K ⟨fr,bxs (Y.yb s++eng p o::rest),kx Y.k n⟩ (bo (n0 o l))):vcallB Tryz.prog G ⟨fr,bxs (Y.yb s++eng p o::rest),kx Y.k n⟩ f args K:=
 E9 (ls:=[eng p o]) (rest:=rest) hc (KQ Y s p o l hm) eE (Y.len _) (Y.len _) (Y.lt _) hn (λ_=>rfl) hK
theorem Ov {τ:Type} {Y:Ys τ} {s:τ} {L:List In} {g:FuncId} {E c:List V} {more:List (List V)} {f:V} {args all cargs:List V} {m:Nat} {fr:Nat->V} {K:S->V->Prop} (hc:gx f args=some (g,all)) (hf:FnR G Y g cargs s L (E::more)) (eE:all.map V.fz=cargs)
 (hn:(E::more).length=m) (hK:∀ t b,Y.run s L t b->K ⟨fr,bxs (Y.yb t++E::(more++[c])),kx Y.k (m+1)⟩ (bo b)):ll Tryz.prog G ⟨fr,bxs (Y.yb s++E::(more++[c])),kx Y.k (m+1)⟩ f args K:=
 oa (ls:=E::more) (rest:=[c]) hc hf eE (by rw[ae,hn];rfl) hK
structure Do2 (G:Gl) {τ:Type} (Y:Ys τ) (ls:List (List V)) (f:V) (R:Nat->Nat->Prop) (D:Nat->Nat->List In) where
 g:FuncId
 caps:List V
 eq:f=.clo (.func g) [] caps
 lt:∀ x∈caps,x.ltP (kx Y.k ls.length)
 fz:caps.map V.fz=caps
 ok:∀ s a b,R a b->Fut G Y s (D a b)->FnR G Y g (i64 (a:Int)::i64 (b:Int)::caps) s (D a b) ls
theorem aex {a b:Int} {K:V->Prop}:Bv false [i64 a,i64 b] K=K (i64 (min a b)):=by
 have:(if b<a then b else a)=min a b:=by split<;>omega
 rw[<- this];rfl
theorem aey {a b:Int} {K:V->Prop}:Bv true [i64 a,i64 b] K=K (i64 (max a b)):=by
 have:(if a<b then b else a)=max a b:=by split<;>omega
 rw[<- this];rfl
def AQ (p:Pol) (kind:Int) (r:Ru):Bool:=decide (r.kind=kind)&&(decide (0<=min r.a r.b)&&decide (max r.a r.b<p.types.length))
def qV (p:Pol) (o:Option Fa) (kind:Int) (D:Nat->Nat->List In) (r:Ru):List In:=if(AQ p kind r&&n0 o [r.a,r.b])=true then D r.a.toNat r.b.toNat else[]
def jG (p:Pol) (o:Option Fa) (kind:Int) (D:Nat->Nat->List In) (i:Nat):List In:=(p.rules.drop i).flatMap (qV p o kind D)
theorem Ox {p:Pol} {o:Option Fa} {kind:Int} {D:Nat->Nat->List In} {i:Nat} (h:i<p.rules.length):jG p o kind D i=qV p o kind D p.rules[i]++jG p o kind D (i+1):=by unfold jG;rw[dn h,fX]
theorem Ui {p:Pol} {o:Option Fa} {kind:Int} {D:Nat->Nat->List In}:jG p o kind D p.rules.length=[]:=by simp[jG]
section
variable {r:Ru} {n k j:Nat} {K:V->Prop}
theorem apt:ldB (kx k n) (kx k j) ((ruC r).map .c) 0 K=(j<n/\K (i64 r.kind)):=by unfold ldB;rw[kU];rfl
theorem apu:ldB (kx k n) (kx k j) ((ruC r).map .c) 1 K=(j<n/\K (i64 r.a)):=by unfold ldB;rw[kU];rfl
theorem apv:ldB (kx k n) (kx k j) ((ruC r).map .c) 2 K=(j<n/\K (i64 r.b)):=by unfold ldB;rw[kU];rfl
theorem mru:ck ((ruC r).map V.c)=false:=rfl
theorem sru {a b c:C}:eQ [V.c a,.c b,.c c] 0 ((ruC r).map .c)=(ruC r).map .c:=rfl
def pkR:=jj @apt (jj @apu (jj @apv (jj @mru @sru)))
end
theorem qg {τ:Type} (Y:Ys τ) (p:Pol) (hp:p.types.length<=9223372036854775806) (hr:p.rules.length<=9223372036854775806) (o:Option Fa) (kind:Int) (more:List (List V)) (AA:ltL (kx Y.k (eng p o::more).length) more) (f:V) (D:Nat->Nat->List In) (hD:Do2 G Y (eng p o::more) f (λa b=>a<p.types.length/\b<p.types.length) D) (s:τ)
 (hF:Fut G Y s (jG p o kind D 0)) :
 FnR G Y 145 [.bp (kx Y.k 0) 0,i64 kind,f] s (jG p o kind D 0) (eng p o::more):=by
 obtain⟨g,caps,rfl,j8,MG,eG⟩:=hD;generalize hm:(eng p o::more).length=m at AA j8;have Po:0<m:=by rw[<- hm];simp
 have dU:ltL (kx Y.k m) (eng p o::more):=λb hb x hx=>by
  rcases aN.1 hb with rfl | hb
  .exact(wW Y.pos x hx).mono (by simp[kx])
  .exact AA b hb x hx
 have D8:(V.clo (.func g) [] caps).lt (kx Y.k m):=⟨λx hx=>(by cases hx),j8⟩;have tM:(V.bp (kx Y.k 0) 0).lt (kx Y.k m):=by simp only[V.lt,kU];exact Po
 refine dy (m:=m) (rs:=[.tmp 6]) [1000052,1500060] mixed Tryz.func145 rfl rfl rfl rfl (by kernel_rfl) (by simp) hm dU (λx hx=>?_) ?_
 .simp only[aN,bf,cR] at hx
  rcases hx with rfl | rfl | rfl
  .exact tM
  .trivial
  .exact D8
 have cm:∀ s,(Y.yb s++(eng p o::more)).length=kx Y.k m:=λs=>by rw[Bj,hm]
 have h0:(0<m)=True:=by simp[Po]
 have h1:(0<m+1)=True:=by simp
 have h2:(m<m+1)=True:=by simp
 have n1:∀ (s:τ) (x:List V),up (bxs (Y.yb s++(eng p o::more))) (kx Y.k m) x=bxs (Y.yb s++(eng p o::(more++[x]))):=λs x=>ahP (Y.len s) hm;have n2:∀ (s:τ) (x:List V),bxs (Y.yb s++(eng p o::(more++[x]))) (kx Y.k m)=x:=λs x=>ahQ (Y.len s) hm;have n3:∀ (s:τ) (c x:List V),up (bxs (Y.yb s++(eng p o::(more++[c])))) (kx Y.k m) x=bxs (Y.yb s++(eng p o::(more++[x]))):=λs c x=>ahR (Y.len s) hm;simp only[yt,seval,bk0 (Y.len _),h0];refine bz (λx:Nat×τ=>hdS [(0,.bp (kx Y.k 0) 0),(1,i64 kind),(2,.clo (.func g) [] caps),(14,.c (.sl (p.rules.map ruC))),(15,i64 p.rules.length),(16,i64 x.1)] (Y.yb x.2++(eng p o::more))) (λx=>p.rules.length - x.1)
  (λx=>x.1<=p.rules.length/\Fut G Y x.2 (jG p o kind D x.1)/\∀ u b,Y.run x.2 (jG p o kind D x.1) u b->Y.run s (jG p o kind D 0) u b) (0,s) ⟨ar _,hF,λ_ _ h=>h⟩ ?_ ?_
 .exact KU hm dU (eP tM (eP trivial (eP D8 (eP trivial (eP trivial (eP trivial uE)))))) (by simp[FL,aj])
 rintro⟨i,s'⟩ ⟨hi,A3,wm⟩ R bL bQ dq;simp only at hi A3 wm;simp only[pkA,seval,bk0 (Y.len _),cm];refine aD (λbF=>?_) (λfO=>?_)
 .have bF:i<p.rules.length:=by simpa using bF
  rw[Ox bF] at A3 wm;have hw:=br (n:=(i:Int)+1) (k:=i+1) (by omega) (by omega);have next:∀ (fr:Nat->V) (s2:τ) (c:List V),fr 0=.bp (kx Y.k 0) 0->fr 1=i64 kind->fr 2=.clo (.func g) [] caps->fr 14=.c (.sl (p.rules.map ruC))->fr 15=i64 p.rules.length->fr 16=i64 ((i+1:Nat):Int)->Fut G Y s2 (jG p o kind D (i+1))->(∀ u b,Y.run s2 (jG p o kind D (i+1)) u b->Y.run s (jG p o kind D 0) u b)->
   R .normal ⟨fr,bxs (Y.yb s2++(eng p o::(more++[c]))),kx Y.k (m+1)⟩:=λfr s2 c h1 h2 h3 h4 h5 h6 h7 h8=>
   bL (i+1,s2) _ ⟨bF,h7,h8⟩ (by simp only;omega) (ajI (rest:=[c]) hm (by rw[ae,hm];rfl) dU (eP tM (eP trivial (eP D8 (eP trivial (eP trivial (eP trivial uE)))))) (by simp[FL,h1,h2,h3,h4,h5,h6]))
  have skip:qV p o kind D p.rules[i]=[]->Fut G Y s' (jG p o kind D (i+1))/\∀ u b,Y.run s' (jG p o kind D (i+1)) u b->Y.run s (jG p o kind D 0) u b:=λh=>by rw[h] at A3 wm;exact⟨A3,wm⟩
  simp only[pkA,seval,bk0 (Y.len _)];refine dP kV rfl fQ (by decide) (ay i) (c:=ruC p.rules[i]) (by simp[bF]) rfl ?_;generalize p.rules[i]=r at *;have hl3:∀ a b c:C,[V.c a,.c b,.c c].length=3:=λ_ _ _=>rfl;simp only[hl3,pkA,ptA,pkE,pkR,seval,bk0 (Y.len _),api (Y.len _),h2,n1,n2,n3,kU,fp];have no:AQ p kind r=false->qV p o kind D r=[]:=λh=>by simp[qV,h]
  refine fy (λhk=>?_) (λhk=>?_)
  .simp only[aex,yt,seval,bk0 (Y.len _),h2,n2,kU]
   refine fy (λaf5=>?_) (λaf5=>?_)
   .simp only[aey,yt,seval,bk0 (Y.len _),h1,h2,n2,kU]
    have his:AQ p kind r=decide (max r.a r.b<(p.types.length:Int)):=(by simp[AQ,hk,af5]);refine fy (λDZ=>?_) (λDZ=>?_)
    .have his:AQ p kind r=true:=by rw[his];exact DZ
     simp only[yt,seval,bk0 (Y.len _),h2,n2,kU];refine Ou (l:=[r.a,r.b]) rfl rfl (by simp) (by simp at hm ⊢;omega) ?_;simp only[pkA,seval,bk0 (Y.len _)];refine fy (λha=>?_) (λha=>?_)
     .have hT:qV p o kind D r=D r.a.toNat r.b.toNat:=by simp[qV,his,ha]
      rw[hT] at A3 wm;have hlo:0<=min r.a r.b:=(by simpa using af5);have Vf:max r.a r.b<(p.types.length:Int):=(by simpa using DZ);have ea:((r.a.toNat:Nat):Int)=r.a:=(by omega);have eb:((r.b.toNat:Nat):Int)=r.b:=(by omega);have hc:=eG s' r.a.toNat r.b.toNat ⟨by omega,by omega⟩ A3.app.1;rw[ea,eb] at hc;simp only[yt,seval,bk0 (Y.len _),h2,n2,kU];refine Ov rfl hc (by simp[V.fz,MG]) hm λt b hR=>?_;cases b with
      |false=>simp only[pkA,seval,bk0 (Y.len _)];refine dq _ ?_;simp only[pkA,bk0 (Y.len _)];exact fC (rest:=[(ruC r).map .c]) (wm _ _ (Bi hR)) rfl hm (by rw[ae,hm];rfl) dU (by simp[])
      |true=>
       simp only[pkA,seval,bk0 (Y.len _)];exact next _ _ _ (by simp[aj]) (by simp[aj]) (by simp[aj]) (by simp[aj]) (by simp[aj]) (by simp[hw]) (A3.app.2 _ hR) (λu b h=>wm u b (Bh hR h))
     .have hT:qV p o kind D r=[]:=by simp[qV,ha]
      simp only[pkA,seval,bk0 (Y.len _)];exact next _ _ _ (by simp[aj]) (by simp[aj]) (by simp[aj]) (by simp[aj]) (by simp[aj]) (by simp[hw]) (skip hT).1 (skip hT).2
    .have hT:=no (by rw[his];exact DZ)
     simp only[pkA,seval,bk0 (Y.len _)];exact next _ _ _ (by simp[aj]) (by simp[aj]) (by simp[aj]) (by simp[aj]) (by simp[aj]) (by simp[hw]) (skip hT).1 (skip hT).2
   .have hT:=no (by simp[AQ,af5])
    simp only[pkA,seval,bk0 (Y.len _)];exact next _ _ _ (by simp[aj]) (by simp[aj]) (by simp[aj]) (by simp[aj]) (by simp[aj]) (by simp[hw]) (skip hT).1 (skip hT).2
  .have hT:=no (by simp[AQ];simp at hk;intro h;exact absurd h hk)
   simp only[pkA,seval,bk0 (Y.len _)];exact next _ _ _ (by simp[aj]) (by simp[aj]) (by simp[aj]) (by simp[aj]) (by simp[aj]) (by simp[hw]) (skip hT).1 (skip hT).2
 .have:i=p.rules.length:=by simp at fO;omega
  subst this;rw[Ui] at wm;simp only[pkA,bk0 (Y.len _)];refine bQ _ _ ?_;simp only[pkA,seval,bk0 (Y.len _)];exact ij (wm _ _ (.nil s')) rfl hm dU (by simp[])
