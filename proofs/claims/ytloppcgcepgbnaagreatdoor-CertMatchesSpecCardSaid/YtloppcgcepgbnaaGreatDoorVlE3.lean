/- The engine of layer 17: emit. -/
import Derived.Test.YtloppcgcepgbnaaGreatDoorVlE0
set_option maxHeartbeats 2000000
set_option linter.all false
namespace Go.Proofs.YtloppcgcepgbnaaGreatDoor
open Go Go.Vl
variable {G:Gl}
set_option maxRecDepth 4000
def vT (o:Option Fa) (x:In):Bool:=match o with
 |none=>true
 |some f=>x.pre.any λy=>decide (f=y)
def emL (o:Option Fa) (x:In):List In:=if vT o x=true then[x] else[]
theorem ahc {o:Option Fa} {x:In} (h:vT o x=false):emL o x=[]:=by simp[emL,h]
theorem acq {o:Option Fa} {x:In} (h:vT o x=true):emL o x=[x]:=by simp[emL,h]
theorem dw {τ:Type} {Y:Ys τ} {s:τ} {L:List In} {ls:List (List V)} {f:FuncId} {fn:Func} {c:Code} {args:List V} (tr:List Nat) (hm:Tryz.prog.follows .mixedOrders=true) (hf:Tryz.prog.funcs[f]?=some fn) (hb:fn.body=some c) (nA:(fn.name== "runtime.NumGoroutine")=false)
 {rs:List ResultVar} (OV:fn.results.toList=rs) {nt:Nat} (hn:fn.ntmps=nt) (vJ:cok nt tr c=true) (cj:args.length<=nt) {m:Nat} (dU:ls.length=m) (hl:ltL (kx Y.k m) ls) (ha:∀ x∈args,x.lt (kx Y.k m))
 (h:hZ Tryz.prog G tr (kx Y.k m) c (wH Tryz.prog (kx Y.k m) (Y.out s L ls) rs) ⟨frm 0 args,bxs (Y.yb s++ls),kx Y.k m⟩):FnR G Y f args s L ls:=
 HC (k:=Y.k) tr hm hf hb nA OV hn vJ cj (λr b1 h=>by obtain⟨t,b,_,rfl,rfl⟩:=h;exact⟨rfl,by rw[ae,ae,Y.len,Y.len]⟩) (Y.len s) (Y.lt s) dU hl ha h
theorem fE {τ:Type} {Y:Ys τ} {s s':τ} {L:List In} {b:Bool} (hR:Y.run s L s' b) {ls rest:List (List V)} {m n:Nat} {fr:Nat->V} {e:VE} {t:Nat} (he:rF e=true) (hm:ls.length=m) (hn:(ls++rest).length=n) (dU:ltL (kx Y.k m) ls) (h:fr t=bo b) :
 wH Tryz.prog (kx Y.k m) (Y.out s L ls) [.tmp t] e ⟨fr,bxs (Y.yb s'++(ls++rest)),kx Y.k n⟩:=
 ⟨_,_,⟨s',b,hR,rfl,rfl⟩,WL [(t,bo b)] he (Y.len s') (Y.lt s') hm hn dU (by simp[V.lt]) (by simp[FL,h]) (by simp[hdS,frs,pR,up])⟩
theorem ig {τ:Type} {Y:Ys τ} {s s':τ} {L:List In} {b:Bool} (hR:Y.run s L s' b) {ls:List (List V)} {m:Nat} {fr:Nat->V} {e:VE} {t:Nat} (he:rF e=true) (hm:ls.length=m) (dU:ltL (kx Y.k m) ls) (h:fr t=bo b) :
 wH Tryz.prog (kx Y.k m) (Y.out s L ls) [.tmp t] e ⟨fr,bxs (Y.yb s'++ls),kx Y.k m⟩:=by
 have:=fE hR (rest:=[]) (n:=m) (fr:=fr) (e:=e) he hm (by simpa using hm) dU h;simpa using this
theorem nW {τ:Type} {Y:Ys τ} {s:τ} {L:List In} {g:FuncId} {ls rest:List (List V)} {f:V} {args all cargs:List V} {n:Nat} {fr:Nat->V} {K:S->V->Prop} (hc:gz f args=some (g,all)) (hf:FnR G Y g cargs s L ls) (eF:all.map V.fz=cargs) (hn:(ls++rest).length=n)
 (hK:∀ t b,Y.run s L t b->K ⟨fr,bxs (Y.yb t++(ls++rest)),kx Y.k n⟩ (bo b)):lj Tryz.prog G ⟨fr,bxs (Y.yb s++(ls++rest)),kx Y.k n⟩ f args K:=
 Fe hc hf eF (Y.len s) hn λr b1 h=>by obtain⟨t,b,hR,rfl,rfl⟩:=h;exact⟨Y.yb t,rfl,Y.len t,Y.lt t,λ_=>rfl,hK t b hR⟩
theorem dz {τ:Type} {Y:Ys τ} {s:τ} {L:List In} {g:FuncId} {ls:List (List V)} {f:V} {args all cargs:List V} {n:Nat} {fr:Nat->V} {K:S->V->Prop} (hc:gz f args=some (g,all)) (hf:FnR G Y g cargs s L ls) (eF:all.map V.fz=cargs) (hn:ls.length=n)
 (hK:∀ t b,Y.run s L t b->K ⟨fr,bxs (Y.yb t++ls),kx Y.k n⟩ (bo b)):lj Tryz.prog G ⟨fr,bxs (Y.yb s++ls),kx Y.k n⟩ f args K:=by
 have:=nW (rest:=[]) (n:=n) (fr:=fr) (K:=K) hc hf eF (by simpa using hn) (λt b h=>by simpa using hK t b h);simpa using this
def aek:=jj @pkA (jj @ptA (jj @pkE @pkN))
def yh:=jj @pkA (jj @ptA @pkE)
theorem Ky {τ:Type} (Y:Ys τ) (s:τ) (p:Pol) (o:Option Fa) (x:In) (hm:x.pre.length<=9223372036854775807) (hF:Fut G Y s (emL o x)) :
 FnR G Y 142 [.bp (kx Y.k 0) 0,i64 x.rule,.c (fsC x.pre),.c (fsC x.con)] s (emL o x) [eng p o]:=by
 have dU:ltL (kx Y.k 1) [eng p o]:=NU (wN Y.pos);refine dw (m:=1) (rs:=[.tmp 8]) [1100033] mixed Tryz.func142 rfl rfl rfl rfl (by kernel_rfl) (by simp) rfl dU (λx hx=>?_) ?_
 .simp only[aP,aZ,cR] at hx
  rcases hx with rfl | rfl | rfl | rfl<;>first | trivial | simp[V.lt,kx]
 have yes:vT o x=true->∀ (K:S->V->Prop) (fr:Nat->V),(∀ t b,Y.run s (emL o x) t b->K ⟨fr,bxs (Y.yb t++[eng p o]),kx Y.k 1⟩ (bo b))->v8 Tryz.prog G ⟨fr,bxs (Y.yb s++[eng p o]),kx Y.k 1⟩ (.yl 0) [.agg (inC x)] K:=λhw K fr hK=>by rw[acq hw] at hF hK;refine NJ hF.1 rfl Y.pos (Y.len _) λr Y' h=>?_;obtain⟨t,b,hs,rfl,rfl⟩:=h;exact⟨Y.len t,Y.lt t,λ_=>rfl,hK t b (acp hs)⟩
 have e1:∀ K,vz [(0,1,false),(1,1,false),(2,1,false)] [.lit (.int .i64 0),.sl [],.sl []] [(0,i64 x.rule),(1,.c (fsC x.pre)),(2,.c (fsC x.con))] K (some [cI x.rule,fsC x.pre,fsC x.con])=K (.agg (inC x)):=λ_=>rfl;cases o with
 |none=>simp only[aek,seval,bk0 (Y.len _),CZ];refine yes rfl _ _ λt b hR=>?_;simp only[pkA,seval,bk0 (Y.len _)];exact ig hR rfl rfl dU (by simp[])
 |some f=>
  simp only[aek,seval,bk0 (Y.len _),CZ];refine az rfl (HN x.pre f hm) (λ_=>rfl) ?_;simp only[pkA,seval,bk0 (Y.len _)];refine aD (λh=>?_) (λh=>?_)
  .have hw:vT (some f) x=false:=by simpa[vT] using h
   simp only[pkA,seval,bk0 (Y.len _)];exact ig (by rw[ahc hw];exact .nil s) rfl rfl dU (by simp[])
  .have hw:vT (some f) x=true:=by simpa[vT] using h
   simp only[yh,seval,bk0 (Y.len _)];refine yes hw _ _ λt b hR=>?_;simp only[pkA,seval,bk0 (Y.len _)];exact ig hR rfl rfl dU (by simp[])
structure Do1 (G:Gl) {τ:Type} (Y:Ys τ) (ls:List (List V)) (f:V) (R:Nat->Prop) (D:Nat->List In) where
 g:FuncId
 caps:List V
 eq:f=.clo (.func g) [] caps
 lt:∀ x∈caps,x.ltP (kx Y.k ls.length)
 fz:caps.map V.fz=caps
 ok:∀ s t,R t->Fut G Y s (D t)->FnR G Y g (i64 (t:Int)::caps) s (D t) ls
theorem Bh {τ:Type} {Y:Ys τ} {s:τ} {ls:List (List V)}:(Y.yb s++ls).length=kx Y.k ls.length:=by rw[ae,Y.len];rfl
section
variable {τ:Type} {Y:Ys τ} {s:τ} {ls rest:List (List V)} {m n:Nat} {l:List (Nat×V)} {fr:Nat->V}
theorem Kz (hm:ls.length=m) (dU:ltL (kx Y.k m) ls) (hl:∀ q∈l,q.2.lt (kx Y.k m)) (h1:FL l fr):S.Le (kx Y.k m) (hdS l (Y.yb s++ls)) ⟨fr,bxs (Y.yb s++ls),kx Y.k m⟩:=by have:=abw (rest:=[]) (Y:=Y.yb s) (ls:=ls) (n:=m) (j:=m) (Y.len s) (Y.lt s) hm (by simpa using hm) dU hl h1 (ab _);simpa using this
theorem ahd (hm:ls.length=m) (hn:(ls++rest).length=n) (dU:ltL (kx Y.k m) ls) (hl:∀ q∈l,q.2.lt (kx Y.k m)) (h1:FL l fr):S.Le (kx Y.k m) (hdS l (Y.yb s++ls)) ⟨fr,bxs (Y.yb s++(ls++rest)),kx Y.k n⟩:=
 abw (Y:=Y.yb s) (j:=m) (Y.len s) (Y.lt s) hm hn dU hl h1 (ab _)
end
theorem uk {P:Nat×V->Prop}:∀ q∈([]:List (Nat×V)),P q:=λ_ h=>by cases h
theorem eR {P:Nat×V->Prop} {a:Nat×V} {l:List (Nat×V)} (h:P a) (h2:∀ q∈l,P q):∀ q∈a::l,P q:=λq hq=>by
 rcases aP.1 hq with rfl | hq
 .exact h
 .exact h2 q hq
def pY (p:Pol) (o:Option Fa) (flag:Int) (D:Nat->List In) (t:Nat):List In:=if(sy p t flag&&nU o [(t:Int)])=true then D t else[]
def jo (p:Pol) (o:Option Fa) (flag:Int) (D:Nat->List In) (i:Nat):List In:=(List.range' i (p.types.length - i)).flatMap (pY p o flag D)
theorem C0 {p:Pol} {o:Option Fa} {flag:Int} {D:Nat->List In} {i:Nat} (h:i<p.types.length):jo p o flag D i=pY p o flag D i++jo p o flag D (i+1):=by
 unfold jo;have:p.types.length - i=(p.types.length - (i+1))+1:=by omega
 rw[this,iu,fZ]
theorem FA {p:Pol} {o:Option Fa} {flag:Int} {D:Nat->List In}:jo p o flag D p.types.length=[]:=by simp[jo]
theorem nX {τ:Type} (Y:Ys τ) (p:Pol) (hp:p.types.length<=9223372036854775806) (o:Option Fa) (flag:Int) (more:List (List V)) (Ax:ltL (kx Y.k (eng p o::more).length) more) (f:V) (D:Nat->List In) (hD:Do1 G Y (eng p o::more) f (λt=>t<p.types.length) D) (s:τ)
 (hF:Fut G Y s (jo p o flag D 0)) :
 FnR G Y 140 [.bp (kx Y.k 0) 0,i64 flag,f] s (jo p o flag D 0) (eng p o::more):=by
 obtain⟨g,caps,rfl,j4,Iz,eH⟩:=hD;generalize hm:(eng p o::more).length=m at Ax j4;have ON:0<m:=by rw[<- hm];simp
 have dU:ltL (kx Y.k m) (eng p o::more):=λb hb x hx=>by
  rcases aP.1 hb with rfl | hb
  .exact(wN Y.pos x hx).mono (by simp[kx])
  .exact Ax b hb x hx
 have D8:(V.clo (.func g) [] caps).lt (kx Y.k m):=⟨λx hx=>(by cases hx),j4⟩;have tj:(V.bp (kx Y.k 0) 0).lt (kx Y.k m):=by simp only[V.lt,l0];exact ON
 refine dw (m:=m) (rs:=[.tmp 6]) [1000026,1500031] mixed Tryz.func140 rfl rfl rfl rfl (by kernel_rfl) (by simp) hm dU (λx hx=>?_) ?_
 .simp only[aP,aZ,cR] at hx
  rcases hx with rfl | rfl | rfl
  .exact tj
  .trivial
  .exact D8
 have cj:∀ s,(Y.yb s++(eng p o::more)).length=kx Y.k m:=λs=>by rw[Bh,hm]
 have h0:(0<m)=True:=by simp[ON]
 simp only[yh,seval,bk0 (Y.len _),h0];refine bw (λx:Nat×τ=>hdS [(0,.bp (kx Y.k 0) 0),(1,i64 flag),(2,.clo (.func g) [] caps),(11,i64 p.types.length),(12,i64 x.1)] (Y.yb x.2++(eng p o::more))) (λx=>p.types.length - x.1)
  (λx=>x.1<=p.types.length/\Fut G Y x.2 (jo p o flag D x.1)/\∀ u b,Y.run x.2 (jo p o flag D x.1) u b->Y.run s (jo p o flag D 0) u b) (0,s) ⟨ar _,hF,λ_ _ h=>h⟩ ?_ ?_
 .exact Kz hm dU (eR tj (eR trivial (eR D8 (eR trivial (eR trivial uk))))) (by simp[FL,ah])
 rintro⟨i,s'⟩ ⟨hi,A1,vZ⟩ R bL bO c8;simp only at hi A1 vZ;simp only[pkA,seval,bk0 (Y.len _),cj];refine aD (λbE=>?_) (λfH=>?_)
 .have bE:i<p.types.length:=by simpa using bE
  rw[C0 bE] at A1 vZ;have hw:=bn (n:=(i:Int)+1) (k:=i+1) (by omega) (by omega);have next:∀ (fr:Nat->V) (s2:τ),fr 0=.bp (kx Y.k 0) 0->fr 1=i64 flag->fr 2=.clo (.func g) [] caps->fr 11=i64 p.types.length->fr 12=i64 ((i+1:Nat):Int)->Fut G Y s2 (jo p o flag D (i+1))->(∀ u b,Y.run s2 (jo p o flag D (i+1)) u b->Y.run s (jo p o flag D 0) u b)->
   R .normal ⟨fr,bxs (Y.yb s2++(eng p o::more)),kx Y.k m⟩:=λfr s2 h1 h2 h3 h4 h5 h6 h7=>
   bL (i+1,s2) _ ⟨bE,h6,h7⟩ (by simp only;omega) (Kz hm dU (eR tj (eR trivial (eR D8 (eR trivial (eR trivial uk))))) (by simp[FL,h1,h2,h3,h4,h5]))
  have skip:pY p o flag D i=[]->Fut G Y s' (jo p o flag D (i+1))/\∀ u b,Y.run s' (jo p o flag D (i+1)) u b->Y.run s (jo p o flag D 0) u b:=λh=>by rw[h] at A1 vZ;exact⟨A1,vZ⟩
  simp only[yh,seval,bk0 (Y.len _),h0];refine az rfl (XQ p i flag (by omega)) (λ_=>rfl) ?_;simp only[pkA,seval,bk0 (Y.len _)];refine eT (λhh=>?_) (λhh=>?_)
  .simp only[pkA,ptA,seval,bk0 (Y.len _)]
   refine E8 (ls:=[eng p o]) (rest:=more) rfl (Kx Y s' p o [(i:Int)] (by simp)) rfl (Y.len _) (Y.len _) (Y.lt _) hm (λ_=>rfl) ?_;simp only[pkA,seval,bk0 (Y.len _)];refine eT (λha=>?_) (λha=>?_)
   .have hT:pY p o flag D i=D i:=by simp[pY,hh,ha]
    rw[hT] at A1 vZ;simp only[pkA,seval,bk0 (Y.len _)];refine dz rfl (eH s' i bE A1.app.1) (by simp[V.fz,Iz]) hm λt b hR=>?_;cases b with
    |false=>simp only[pkA,seval,bk0 (Y.len _)];refine c8 _ ?_;simp only[pkA,bk0 (Y.len _)];exact ig (vZ _ _ (Bg hR)) rfl hm dU (by simp[])
    |true=>
     simp only[pkA,seval,bk0 (Y.len _)];exact next _ _ (by simp[ah]) (by simp[ah]) (by simp[ah]) (by simp[ah]) (by simp[hw]) (A1.app.2 _ hR) (λu b h=>vZ u b (Bf hR h))
   .have hT:pY p o flag D i=[]:=by simp[pY,ha]
    simp only[pkA,seval,bk0 (Y.len _)];exact next _ _ (by simp[ah]) (by simp[ah]) (by simp[ah]) (by simp[ah]) (by simp[hw]) (skip hT).1 (skip hT).2
  .have hT:pY p o flag D i=[]:=by simp[pY,hh]
   simp only[pkA,seval,bk0 (Y.len _)];exact next _ _ (by simp[ah]) (by simp[ah]) (by simp[ah]) (by simp[ah]) (by simp[hw]) (skip hT).1 (skip hT).2
 .have:i=p.types.length:=by simp at fH;omega
  subst this;rw[FA] at vZ;simp only[pkA,bk0 (Y.len _)];refine bO _ _ ?_;simp only[pkA,seval,bk0 (Y.len _)];exact ig (vZ _ _ (.nil s')) rfl hm dU (by simp[])
def cd (n:Nat) (D:Nat->List In) (v:Nat):List In:=(List.range' v (n+1 - v)).flatMap D
theorem fA {n:Nat} {D:Nat->List In} {v:Nat} (h:v<=n):cd n D v=D v++cd n D (v+1):=by
 unfold cd;have:n+1 - v=(n+1 - (v+1))+1:=by omega
 rw[this,iu,fZ]
theorem gB {n:Nat} {D:Nat->List In} {v:Nat} (h:n<v):cd n D v=[]:=by
 have:n+1 - v=0:=by omega
 simp[cd,this]
theorem jz {τ:Type} (Y:Ys τ) (p:Pol) (hp:p.types.length<=9223372036854775806) (o:Option Fa) (first:Nat) (hfi:first<=1) (more:List (List V)) (Ax:ltL (kx Y.k (eng p o::more).length) more) (f:V) (D:Nat->List In) (hD:Do1 G Y (eng p o::more) f (λt=>first<=t/\t<=p.types.length) D) (s:τ)
 (hF:Fut G Y s (cd p.types.length D first)) :
 FnR G Y 147 [.bp (kx Y.k 0) 0,i64 (first:Int),f] s (cd p.types.length D first) (eng p o::more):=by
 obtain⟨g,caps,rfl,j4,Iz,eH⟩:=hD;generalize hm:(eng p o::more).length=m at Ax j4;have ON:0<m:=by rw[<- hm];simp
 have dU:ltL (kx Y.k m) (eng p o::more):=λb hb x hx=>by
  rcases aP.1 hb with rfl | hb
  .exact(wN Y.pos x hx).mono (by simp[kx])
  .exact Ax b hb x hx
 have D8:(V.clo (.func g) [] caps).lt (kx Y.k m):=⟨λx hx=>(by cases hx),j4⟩;have tj:(V.bp (kx Y.k 0) 0).lt (kx Y.k m):=by simp only[V.lt,l0];exact ON
 refine dw (m:=m) (rs:=[.tmp 6]) [1500019] mixed Tryz.func147 rfl rfl rfl rfl (by kernel_rfl) (by simp) hm dU (λx hx=>?_) ?_
 .simp only[aP,aZ,cR] at hx
  rcases hx with rfl | rfl | rfl
  .exact tj
  .trivial
  .exact D8
 have cj:∀ s,(Y.yb s++(eng p o::more)).length=kx Y.k m:=λs=>by rw[Bh,hm]
 have h0:(0<m)=True:=by simp[ON]
 simp only[pkA,seval,bk0 (Y.len _)];refine bw (λx:Nat×τ=>hdS [(0,.bp (kx Y.k 0) 0),(2,.clo (.func g) [] caps),(7,i64 x.1)] (Y.yb x.2++(eng p o::more))) (λx=>p.types.length+1 - x.1)
  (λx=>(first<=x.1/\x.1<=p.types.length+1)/\Fut G Y x.2 (cd p.types.length D x.1)/\∀ u b,Y.run x.2 (cd p.types.length D x.1) u b->Y.run s (cd p.types.length D first) u b) (first,s) ⟨⟨ab _,by omega⟩,hF,λ_ _ h=>h⟩ ?_ ?_
 .exact Kz hm dU (eR tj (eR D8 (eR trivial uk))) (by simp[FL,ah])
 rintro⟨i,s'⟩ ⟨⟨lu,hi⟩,A1,vZ⟩ R bL bO c8;simp only at hi A1 vZ lu;simp only[yh,seval,bk0 (Y.len _),h0,cj];refine aD (λbE=>?_) (λfH=>?_)
 .have bE:i<=p.types.length:=by simp at bE;omega
  rw[fA bE] at vZ A1;have hw:=bn (n:=(i:Int)+1) (k:=i+1) (by omega) (by omega);simp only[pkA,seval,bk0 (Y.len _)];refine dz rfl (eH s' i ⟨lu,bE⟩ A1.app.1) (by simp[V.fz,Iz]) hm λt b hR=>?_;cases b with
  |false=>simp only[pkA,seval,bk0 (Y.len _)];refine c8 _ ?_;simp only[pkA,bk0 (Y.len _)];exact ig (vZ _ _ (Bg hR)) rfl hm dU (by simp[])
  |true=>simp only[pkA,seval,bk0 (Y.len _)];exact bL (i+1,_) _ ⟨⟨by omega,by omega⟩,A1.app.2 _ hR,λu b h=>vZ u b (Bf hR h)⟩ (by simp only;omega) (Kz hm dU (eR tj (eR D8 (eR trivial uk))) (by simp[FL,ah,hw]))
 .have:p.types.length<i:=by simp at fH;omega
  rw[gB this] at vZ;simp only[pkA,bk0 (Y.len _)];refine bO _ _ ?_;simp only[pkA,seval,bk0 (Y.len _)];exact ig (vZ _ _ (.nil s')) rfl hm dU (by simp[])
theorem NV {τ:Type} {Y:Ys τ} {s:τ} {p:Pol} {o:Option Fa} {l:List Int} {rest:List (List V)} {f:V} {args all:List V} {n:Nat} {fr:Nat->V} {K:S->V->Prop} (hc:gz f args=some (183,all))
 (eF:all.map V.fz=[.bp (kx Y.k 0) 0,.c (.sl (l.map λy=>[cI y]))]) (hm:l.length<=9223372036854775807) (hn:rest.length+1=n) (hK:K ⟨fr,bxs (Y.yb s++eng p o::rest),kx Y.k n⟩ (bo (nU o l))):vcallB Tryz.prog G ⟨fr,bxs (Y.yb s++eng p o::rest),kx Y.k n⟩ f args K:=
 E8 (ls:=[eng p o]) (rest:=rest) hc (Kx Y s p o l hm) eF (Y.len _) (Y.len _) (Y.lt _) hn (λ_=>rfl) hK
theorem NW {τ:Type} {Y:Ys τ} {s:τ} {L:List In} {g:FuncId} {E c:List V} {more:List (List V)} {f:V} {args all cargs:List V} {m:Nat} {fr:Nat->V} {K:S->V->Prop} (hc:gz f args=some (g,all)) (hf:FnR G Y g cargs s L (E::more)) (eF:all.map V.fz=cargs)
 (hn:(E::more).length=m) (hK:∀ t b,Y.run s L t b->K ⟨fr,bxs (Y.yb t++E::(more++[c])),kx Y.k (m+1)⟩ (bo b)):lj Tryz.prog G ⟨fr,bxs (Y.yb s++E::(more++[c])),kx Y.k (m+1)⟩ f args K:=
 nW (ls:=E::more) (rest:=[c]) hc hf eF (by rw[ae,hn];rfl) hK
structure Do2 (G:Gl) {τ:Type} (Y:Ys τ) (ls:List (List V)) (f:V) (R:Nat->Nat->Prop) (D:Nat->Nat->List In) where
 g:FuncId
 caps:List V
 eq:f=.clo (.func g) [] caps
 lt:∀ x∈caps,x.ltP (kx Y.k ls.length)
 fz:caps.map V.fz=caps
 ok:∀ s a b,R a b->Fut G Y s (D a b)->FnR G Y g (i64 (a:Int)::i64 (b:Int)::caps) s (D a b) ls
theorem acr {a b:Int} {K:V->Prop}:Br false [i64 a,i64 b] K=K (i64 (min a b)):=by
 have:(if b<a then b else a)=min a b:=by split<;>omega
 rw[<- this];rfl
theorem acs {a b:Int} {K:V->Prop}:Br true [i64 a,i64 b] K=K (i64 (max a b)):=by
 have:(if a<b then b else a)=max a b:=by split<;>omega
 rw[<- this];rfl
def AN (p:Pol) (kind:Int) (r:Ru):Bool:=decide (r.kind=kind)&&(decide (0<=min r.a r.b)&&decide (max r.a r.b<p.types.length))
def qL (p:Pol) (o:Option Fa) (kind:Int) (D:Nat->Nat->List In) (r:Ru):List In:=if(AN p kind r&&nU o [r.a,r.b])=true then D r.a.toNat r.b.toNat else[]
def jH (p:Pol) (o:Option Fa) (kind:Int) (D:Nat->Nat->List In) (i:Nat):List In:=(p.rules.drop i).flatMap (qL p o kind D)
theorem NY {p:Pol} {o:Option Fa} {kind:Int} {D:Nat->Nat->List In} {i:Nat} (h:i<p.rules.length):jH p o kind D i=qL p o kind D p.rules[i]++jH p o kind D (i+1):=by unfold jH;rw[dj h,fZ]
theorem To {p:Pol} {o:Option Fa} {kind:Int} {D:Nat->Nat->List In}:jH p o kind D p.rules.length=[]:=by simp[jH]
section
variable {r:Ru} {n k j:Nat} {K:V->Prop}
theorem sru {a b c:C}:eP [V.c a,.c b,.c c] 0 ((ruC r).map .c)=(ruC r).map .c:=rfl
def pkR:=@sru
end
theorem pZ {τ:Type} (Y:Ys τ) (p:Pol) (hp:p.types.length<=9223372036854775806) (hr:p.rules.length<=9223372036854775806) (o:Option Fa) (kind:Int) (more:List (List V)) (Ax:ltL (kx Y.k (eng p o::more).length) more) (f:V) (D:Nat->Nat->List In) (hD:Do2 G Y (eng p o::more) f (λa b=>a<p.types.length/\b<p.types.length) D) (s:τ)
 (hF:Fut G Y s (jH p o kind D 0)) :
 FnR G Y 145 [.bp (kx Y.k 0) 0,i64 kind,f] s (jH p o kind D 0) (eng p o::more):=by
 obtain⟨g,caps,rfl,j4,Iz,eH⟩:=hD;generalize hm:(eng p o::more).length=m at Ax j4;have ON:0<m:=by rw[<- hm];simp
 have dU:ltL (kx Y.k m) (eng p o::more):=λb hb x hx=>by
  rcases aP.1 hb with rfl | hb
  .exact(wN Y.pos x hx).mono (by simp[kx])
  .exact Ax b hb x hx
 have D8:(V.clo (.func g) [] caps).lt (kx Y.k m):=⟨λx hx=>(by cases hx),j4⟩;have tj:(V.bp (kx Y.k 0) 0).lt (kx Y.k m):=by simp only[V.lt,l0];exact ON
 refine dw (m:=m) (rs:=[.tmp 6]) [1000052,1500060] mixed Tryz.func145 rfl rfl rfl rfl (by kernel_rfl) (by simp) hm dU (λx hx=>?_) ?_
 .simp only[aP,aZ,cR] at hx
  rcases hx with rfl | rfl | rfl
  .exact tj
  .trivial
  .exact D8
 have cj:∀ s,(Y.yb s++(eng p o::more)).length=kx Y.k m:=λs=>by rw[Bh,hm]
 have h0:(0<m)=True:=by simp[ON]
 have h1:(0<m+1)=True:=by simp
 have h2:(m<m+1)=True:=by simp
 have n1:∀ (s:τ) (x:List V),up (bxs (Y.yb s++(eng p o::more))) (kx Y.k m) x=bxs (Y.yb s++(eng p o::(more++[x]))):=λs x=>afJ (Y.len s) hm;have n2:∀ (s:τ) (x:List V),bxs (Y.yb s++(eng p o::(more++[x]))) (kx Y.k m)=x:=λs x=>afK (Y.len s) hm;have n3:∀ (s:τ) (c x:List V),up (bxs (Y.yb s++(eng p o::(more++[c])))) (kx Y.k m) x=bxs (Y.yb s++(eng p o::(more++[x]))):=λs c x=>afL (Y.len s) hm;simp only[yh,seval,bk0 (Y.len _),h0];refine bw (λx:Nat×τ=>hdS [(0,.bp (kx Y.k 0) 0),(1,i64 kind),(2,.clo (.func g) [] caps),(14,.c (.sl (p.rules.map ruC))),(15,i64 p.rules.length),(16,i64 x.1)] (Y.yb x.2++(eng p o::more))) (λx=>p.rules.length - x.1)
  (λx=>x.1<=p.rules.length/\Fut G Y x.2 (jH p o kind D x.1)/\∀ u b,Y.run x.2 (jH p o kind D x.1) u b->Y.run s (jH p o kind D 0) u b) (0,s) ⟨ar _,hF,λ_ _ h=>h⟩ ?_ ?_
 .exact Kz hm dU (eR tj (eR trivial (eR D8 (eR trivial (eR trivial (eR trivial uk)))))) (by simp[FL,ah])
 rintro⟨i,s'⟩ ⟨hi,A1,vZ⟩ R bL bO c8;simp only at hi A1 vZ;simp only[pkA,seval,bk0 (Y.len _),cj];refine aD (λbE=>?_) (λfH=>?_)
 .have bE:i<p.rules.length:=by simpa using bE
  rw[NY bE] at A1 vZ;have hw:=bn (n:=(i:Int)+1) (k:=i+1) (by omega) (by omega);have next:∀ (fr:Nat->V) (s2:τ) (c:List V),fr 0=.bp (kx Y.k 0) 0->fr 1=i64 kind->fr 2=.clo (.func g) [] caps->fr 14=.c (.sl (p.rules.map ruC))->fr 15=i64 p.rules.length->fr 16=i64 ((i+1:Nat):Int)->Fut G Y s2 (jH p o kind D (i+1))->(∀ u b,Y.run s2 (jH p o kind D (i+1)) u b->Y.run s (jH p o kind D 0) u b)->
   R .normal ⟨fr,bxs (Y.yb s2++(eng p o::(more++[c]))),kx Y.k (m+1)⟩:=λfr s2 c h1 h2 h3 h4 h5 h6 h7 h8=>
   bL (i+1,s2) _ ⟨bE,h7,h8⟩ (by simp only;omega) (ahd (rest:=[c]) hm (by rw[ae,hm];rfl) dU (eR tj (eR trivial (eR D8 (eR trivial (eR trivial (eR trivial uk)))))) (by simp[FL,h1,h2,h3,h4,h5,h6]))
  have skip:qL p o kind D p.rules[i]=[]->Fut G Y s' (jH p o kind D (i+1))/\∀ u b,Y.run s' (jH p o kind D (i+1)) u b->Y.run s (jH p o kind D 0) u b:=λh=>by rw[h] at A1 vZ;exact⟨A1,vZ⟩
  simp only[pkA,seval,bk0 (Y.len _)];refine dQ mq rfl fU (by decide) (ay i) (c:=ruC p.rules[i]) (by simp[bE]) rfl ?_;generalize p.rules[i]=r at *;have hl3:∀ a b c:C,[V.c a,.c b,.c c].length=3:=λ_ _ _=>rfl;simp only[hl3,pkA,ptA,pkE,pkR,seval,bk0 (Y.len _),amA (Y.len _),h2,n1,n2,n3,l0,fw];have no:AN p kind r=false->qL p o kind D r=[]:=λh=>by simp[qL,h]
  refine eT (λhk=>?_) (λhk=>?_)
  .simp only[acr,yh,seval,bk0 (Y.len _),h2,n2,l0]
   refine eT (λad1=>?_) (λad1=>?_)
   .simp only[acs,yh,seval,bk0 (Y.len _),h1,h2,n2,l0]
    have his:AN p kind r=decide (max r.a r.b<(p.types.length:Int)):=(by simp[AN,hk,ad1]);refine eT (λDZ=>?_) (λDZ=>?_)
    .have his:AN p kind r=true:=by rw[his];exact DZ
     simp only[yh,seval,bk0 (Y.len _),h2,n2,l0];refine NV (l:=[r.a,r.b]) rfl rfl (by simp) (by simp at hm ⊢;omega) ?_;simp only[pkA,seval,bk0 (Y.len _)];refine eT (λha=>?_) (λha=>?_)
     .have hT:qL p o kind D r=D r.a.toNat r.b.toNat:=by simp[qL,his,ha]
      rw[hT] at A1 vZ;have hlo:0<=min r.a r.b:=(by simpa using ad1);have UI:max r.a r.b<(p.types.length:Int):=(by simpa using DZ);have ea:((r.a.toNat:Nat):Int)=r.a:=(by omega);have eb:((r.b.toNat:Nat):Int)=r.b:=(by omega);have hc:=eH s' r.a.toNat r.b.toNat ⟨by omega,by omega⟩ A1.app.1;rw[ea,eb] at hc;simp only[yh,seval,bk0 (Y.len _),h2,n2,l0];refine NW rfl hc (by simp[V.fz,Iz]) hm λt b hR=>?_;cases b with
      |false=>simp only[pkA,seval,bk0 (Y.len _)];refine c8 _ ?_;simp only[pkA,bk0 (Y.len _)];exact fE (rest:=[(ruC r).map .c]) (vZ _ _ (Bg hR)) rfl hm (by rw[ae,hm];rfl) dU (by simp[])
      |true=>
       simp only[pkA,seval,bk0 (Y.len _)];exact next _ _ _ (by simp[ah]) (by simp[ah]) (by simp[ah]) (by simp[ah]) (by simp[ah]) (by simp[hw]) (A1.app.2 _ hR) (λu b h=>vZ u b (Bf hR h))
     .have hT:qL p o kind D r=[]:=by simp[qL,ha]
      simp only[pkA,seval,bk0 (Y.len _)];exact next _ _ _ (by simp[ah]) (by simp[ah]) (by simp[ah]) (by simp[ah]) (by simp[ah]) (by simp[hw]) (skip hT).1 (skip hT).2
    .have hT:=no (by rw[his];exact DZ)
     simp only[pkA,seval,bk0 (Y.len _)];exact next _ _ _ (by simp[ah]) (by simp[ah]) (by simp[ah]) (by simp[ah]) (by simp[ah]) (by simp[hw]) (skip hT).1 (skip hT).2
   .have hT:=no (by simp[AN,ad1])
    simp only[pkA,seval,bk0 (Y.len _)];exact next _ _ _ (by simp[ah]) (by simp[ah]) (by simp[ah]) (by simp[ah]) (by simp[ah]) (by simp[hw]) (skip hT).1 (skip hT).2
  .have hT:=no (by simp[AN];simp at hk;intro h;exact absurd h hk)
   simp only[pkA,seval,bk0 (Y.len _)];exact next _ _ _ (by simp[ah]) (by simp[ah]) (by simp[ah]) (by simp[ah]) (by simp[ah]) (by simp[hw]) (skip hT).1 (skip hT).2
 .have:i=p.rules.length:=by simp at fH;omega
  subst this;rw[To] at vZ;simp only[pkA,bk0 (Y.len _)];refine bO _ _ ?_;simp only[pkA,seval,bk0 (Y.len _)];exact ig (vZ _ _ (.nil s')) rfl hm dU (by simp[])
