/- The engine of layer 17: what it asks of the caller's 'yield', its box, 'about', 'emit'. -/
import Derived.Test.YtjfjdomfldolcaaGreatVlA1
import Derived.Test.YtjfjdomfldolcaaGreatVlTree
set_option linter.all false
namespace Go.Proofs.YtjfjdomfldolcaaGreat
open Go Go.Vl
variable {G:Gl}
set_option maxRecDepth 4000
structure Ys (τ:Type) where
 yb:τ→List (List V)
 k:Nat
 pos:0<k
 len:∀ s,(yb s).length=k
 lt:∀ s,ltL k (yb s)
 step:τ→In→τ→Bool→Prop
def Ys.ok (G:Gl) {τ:Type} (Y:Ys τ) (s:τ) (x:In):Prop:=YE Tryz.prog G [.agg (inC x)] (Y.yb s) (fun r b1=>∃ t b,Y.step s x t b∧r=bo b∧b1=Y.yb t)
inductive Ys.run {τ:Type} (Y:Ys τ):τ→List In→τ→Bool→Prop
 |nil (s:τ):Y.run s [] s true
 |stop {s t:τ} {x:In} (l:List In):Y.step s x t false→Y.run s (x::l) t false
 |go {s t u:τ} {x:In} {l:List In} {b:Bool}:Y.step s x t true→Y.run t l u b→Y.run s (x::l) u b
def Fut (G:Gl) {τ:Type} (Y:Ys τ):τ→List In→Prop
 |_,[]=>True
 |s,x::l=>Y.ok G s x∧∀ t,Y.step s x t true→Fut G Y t l
theorem AS {τ:Type} {Y:Ys τ} {s t u:τ} {a b:List In} {c:Bool} (h:Y.run s a t true) (h2:Y.run t b u c):Y.run s (a++b) u c:=by
 generalize hb:true=b0 at h
 induction h with
 |nil=>exact h2
 |stop _ _=>cases hb
 |go h1 _ ih=>exact .go h1 (ih h2 hb)
theorem AU {τ:Type} {Y:Ys τ} {s t:τ} {a b:List In} (h:Y.run s a t false):Y.run s (a++b) t false:=by
 generalize hb:false=b0 at h
 induction h with
 |nil=>cases hb
 |stop _ h=>exact .stop _ h
 |go h1 _ ih=>exact .go h1 (ih hb)
theorem ZA {τ:Type} {Y:Ys τ} {s t:τ} {x:In} {b:Bool} (h:Y.step s x t b):Y.run s [x] t b:=by
 cases b
 ·exact .stop _ h
 ·exact .go h (.nil _)
theorem Fut.app {τ:Type} {Y:Ys τ}:∀ {a b:List In} {s:τ},Fut G Y s (a++b)→Fut G Y s a∧∀ t,Y.run s a t true→Fut G Y t b
 |[],_,s,h=>⟨trivial,fun t ht=>by cases ht;exact h⟩
 |x::a,b,s,h=>by
  have h1:∀ t,Y.step s x t true→Fut G Y t (a++b):=h.2
  refine⟨⟨h.1,fun t ht=>(h1 t ht).app.1⟩,fun t ht=>?_⟩
  cases ht with
  |go h2 h3=>exact(h1 _ h2).app.2 t h3
def Ys.out {τ:Type} (Y:Ys τ) (s:τ) (L:List In) (ls:List (List V)) (r:V) (b1:List (List V)):Prop:=∃ t b,Y.run s L t b∧r=bo b∧b1=Y.yb t++ls
abbrev FnR (G:Gl) {τ:Type} (Y:Ys τ) (f:FuncId) (args:List V) (s:τ) (L:List In) (ls:List (List V)):Prop:=FnE Tryz.prog G f args (Y.yb s++ls) (Y.out s L ls)
def BW:Option Fa→C
 |none=>.lit (.pointer none)
 |some f=>.rp (faC f) 0
def eng (p:Pol) (o:Option Fa):List V:=[.c (cS p.name),.c (.sl (p.types.map tyC)),.c (.sl (p.rules.map ruC)),.c (.sl (p.quorums.map quC)),i64 p.types.length,.c (BW o),.yl 0]
section
variable {p:Pol} {o:Option Fa} {n k:Nat} {K:V→Prop}
theorem ah7:ldA (kx k n) (kx k 0) (eng p o) 0 4 K=(0<n∧K (.agg (poC p))):=by
 unfold ldA;rw[kz]
 exact propext ⟨fun h=>⟨h.1,h.2.2⟩,fun h=>⟨h.1,⟨rfl,rfl⟩,h.2⟩⟩
theorem ah8:ldB (kx k n) (kx k 0) (eng p o) 2 K=(0<n∧K (.c (.sl (p.rules.map ruC)))):=by unfold ldB;rw[kz];rfl
theorem ah9:ldB (kx k n) (kx k 0) (eng p o) 4 K=(0<n∧K (i64 p.types.length)):=by unfold ldB;rw[kz];rfl
theorem aia:ldB (kx k n) (kx k 0) (eng p o) 5 K=(0<n∧K (.c (BW o))):=by unfold ldB;rw[kz];rfl
theorem aib:ldB (kx k n) (kx k 0) (eng p o) 6 K=(0<n∧K (.yl 0)):=by unfold ldB;rw[kz];rfl
theorem aeN:cy (eng p o)=false:=rfl
theorem wI (hk:0<k):∀ x∈eng p o,x.lt k:=by
 intro x hx
 simp only[eng,aK,bn,dc] at hx
 rcases hx with rfl | rfl | rfl | rfl | rfl | rfl | rfl<;>first | trivial | exact hk
end
def pkE:=jj @pkF (jj @ah7 (jj @ah8 (jj @ah9 (jj @aia (jj @aib @aeN)))))
theorem Lo {k:Nat} {b:List V} (h:∀ x∈b,x.lt k) {m:Nat}:ltL (kx k m) [b]:=fun c hc x hx=>by
 simp only[a7] at hc;subst hc
 exact(h x hx).mono (by simp[kx])
theorem aic {K:V→Prop}:rF Tryz.prog .eql 96 false (.c (.lit (.pointer none))) K=K (bo true):=HG (b:=true) rfl (by kernel_rfl)
theorem aeO {K:V→Prop}:rF Tryz.prog .neq 96 false (.c (.lit (.pointer none))) K=K (bo false):=HH (b:=true) rfl (by kernel_rfl)
theorem aid {f:Fa} {K:V→Prop}:rF Tryz.prog .eql 96 false (.c (.rp (faC f) 0)) K=K (bo false):=HG (b:=false) rfl (by kernel_rfl)
theorem aeP {f:Fa} {K:V→Prop}:rF Tryz.prog .neq 96 false (.c (.rp (faC f) 0)) K=K (bo true):=HH (b:=false) rfl (by kernel_rfl)
def pkN:=jj @aic (jj @aeO (jj @aid @aeP))
def nC (o:Option Fa) (l:List Int):Bool:=match o with
 |none=>true
 |some f=>!decide (f.kind=1)||l.any fun y=>decide (f.b=y)
def M3:=jj @pkA (jj @ptA (jj @pkE @pkN))
def M4:=jj @pkA (jj @ptA @pkE)
theorem Ip {τ:Type} (Y:Ys τ) (s:τ) (p:Pol) (o:Option Fa) (l:List Int) (hm:l.length≤9223372036854775807) :
 FnB Tryz.prog G 155 [.bp (kx Y.k 0) 0,.c (.sl (l.map fun y=>[cI y]))] (Y.yb s++[eng p o]) (bo (nC o l)) (Y.yb s++[eng p o]):=by
 refine Yu (k:=Y.k) (m:=1) (rs:=[.tmp 4]) [] mixed Tryz.func155 rfl rfl rfl rfl (by kernel_rfl) (by simp) rfl (Y.len s) (Y.len s) (Y.lt s) rfl (Lo (wI Y.pos)) (fun x hx=>?_) ?_
 ·simp only[aK,bn,dc] at hx
  rcases hx with rfl | rfl
  ·simp[V.lt,kx]
  ·trivial
 have fin:∀ (e:VE) (fr:Nat→V),ux e=true→fr 4=bo (nC o l)→Ap Tryz.prog (kx Y.k 1) (bo (nC o l)) (Y.yb s++[eng p o]) [.tmp 4] e ⟨fr,bxs (Y.yb s++[eng p o]),kx Y.k 1⟩:=fun e fr he h=>
  S2 (rest:=[]) [(4,bo (nC o l))] he (Y.len s) (Y.lt s) rfl rfl (Lo (wI Y.pos)) (by simp[V.lt]) (by simp[FL,h]) (by simp[hdS,frs,uw,up])
 cases o with
 |none=>
  simp only[M3,seval,bk0 (Y.len _),BW]
  exact fin _ _ rfl (by simp[];rfl)
 |some f=>
  simp only[M3,seval,bk0 (Y.len _),BW]
  refine fY (fun h=>?_) (fun h=>?_)
  ·simp only[M4,seval,bk0 (Y.len _),BW]
   refine aB rfl (Gc l f.b hm) (fun _=>rfl) ?_
   simp only[pkA,seval,bk0 (Y.len _)]
   exact fin _ _ rfl (by simp[nC,h])
  ·simp only[pkA,seval,bk0 (Y.len _)]
   exact fin _ _ rfl (by simp[nC,h])
def vT (o:Option Fa) (x:In):Bool:=match o with
 |none=>true
 |some f=>x.pre.any fun y=>decide (f=y)
def emL (o:Option Fa) (x:In):List In:=if vT o x=true then[x] else[]
theorem aeQ {o:Option Fa} {x:In} (h:vT o x=false):emL o x=[]:=by simp[emL,h]
theorem ZB {o:Option Fa} {x:In} (h:vT o x=true):emL o x=[x]:=by simp[emL,h]
theorem dt {τ:Type} {Y:Ys τ} {s:τ} {L:List In} {ls:List (List V)} {f:FuncId} {fn:Func} {c:Code} {args:List V} (tr:List Nat) (hm:Tryz.prog.follows .mixedOrders=true) (hf:Tryz.prog.funcs[f]?=some fn) (hb:fn.body=some c) (mY:(fn.name== "runtime.NumGoroutine")=false)
 {rs:List ResultVar} (Mn:fn.results.toList=rs) {nt:Nat} (hn:fn.ntmps=nt) (vK:cok nt tr c=true) (cg:args.length≤nt) {m:Nat} (dV:ls.length=m) (hl:ltL (kx Y.k m) ls) (ha:∀ x∈args,x.lt (kx Y.k m))
 (h:iI Tryz.prog G tr (kx Y.k m) c (Pu Tryz.prog (kx Y.k m) (Y.out s L ls) rs) ⟨frm 0 args,bxs (Y.yb s++ls),kx Y.k m⟩):FnR G Y f args s L ls:=
 F4 (k:=Y.k) tr hm hf hb mY Mn hn vK cg (fun r b1 h=>by
  obtain⟨t,b,_,rfl,rfl⟩:=h
  exact⟨rfl,by rw[ai,ai,Y.len,Y.len]⟩) (Y.len s) (Y.lt s) dV hl ha h
theorem fD {τ:Type} {Y:Ys τ} {s s':τ} {L:List In} {b:Bool} (hR:Y.run s L s' b) {ls rest:List (List V)} {m n:Nat} {fr:Nat→V} {e:VE} {t:Nat} (he:ux e=true) (hm:ls.length=m) (hn:(ls++rest).length=n) (dV:ltL (kx Y.k m) ls) (h:fr t=bo b) :
 Pu Tryz.prog (kx Y.k m) (Y.out s L ls) [.tmp t] e ⟨fr,bxs (Y.yb s'++(ls++rest)),kx Y.k n⟩:=
 ⟨_,_,⟨s',b,hR,rfl,rfl⟩,S2 [(t,bo b)] he (Y.len s') (Y.lt s') hm hn dV (by simp[V.lt]) (by simp[FL,h]) (by simp[hdS,frs,uw,up])⟩
theorem iq {τ:Type} {Y:Ys τ} {s s':τ} {L:List In} {b:Bool} (hR:Y.run s L s' b) {ls:List (List V)} {m:Nat} {fr:Nat→V} {e:VE} {t:Nat} (he:ux e=true) (hm:ls.length=m) (dV:ltL (kx Y.k m) ls) (h:fr t=bo b) :
 Pu Tryz.prog (kx Y.k m) (Y.out s L ls) [.tmp t] e ⟨fr,bxs (Y.yb s'++ls),kx Y.k m⟩:=by
 have:=fD hR (rest:=[]) (n:=m) (fr:=fr) (e:=e) he hm (by simpa using hm) dV h
 simpa using this
theorem nD {τ:Type} {Y:Ys τ} {s:τ} {L:List In} {g:FuncId} {ls rest:List (List V)} {f:V} {args all cargs:List V} {n:Nat} {fr:Nat→V} {K:S→V→Prop} (hc:gv f args=some (g,all)) (hf:FnR G Y g cargs s L ls) (eF:all.map V.fz=cargs) (hn:(ls++rest).length=n)
 (hK:∀ t b,Y.run s L t b→K ⟨fr,bxs (Y.yb t++(ls++rest)),kx Y.k n⟩ (bo b)):kJ Tryz.prog G ⟨fr,bxs (Y.yb s++(ls++rest)),kx Y.k n⟩ f args K:=
 D1 hc hf eF (Y.len s) hn fun r b1 h=>by
  obtain⟨t,b,hR,rfl,rfl⟩:=h
  exact⟨Y.yb t,rfl,Y.len t,Y.lt t,fun _=>rfl,hK t b hR⟩
theorem dy {τ:Type} {Y:Ys τ} {s:τ} {L:List In} {g:FuncId} {ls:List (List V)} {f:V} {args all cargs:List V} {n:Nat} {fr:Nat→V} {K:S→V→Prop} (hc:gv f args=some (g,all)) (hf:FnR G Y g cargs s L ls) (eF:all.map V.fz=cargs) (hn:ls.length=n)
 (hK:∀ t b,Y.run s L t b→K ⟨fr,bxs (Y.yb t++ls),kx Y.k n⟩ (bo b)):kJ Tryz.prog G ⟨fr,bxs (Y.yb s++ls),kx Y.k n⟩ f args K:=by
 have:=nD (rest:=[]) (n:=n) (fr:=fr) (K:=K) hc hf eF (by simpa using hn) (fun t b h=>by simpa using hK t b h)
 simpa using this
theorem Iq {τ:Type} (Y:Ys τ) (s:τ) (p:Pol) (o:Option Fa) (x:In) (hm:x.pre.length≤9223372036854775807) (hF:Fut G Y s (emL o x)) :
 FnR G Y 111 [.bp (kx Y.k 0) 0,i64 x.rule,.c (fsC x.pre),.c (fsC x.con)] s (emL o x) [eng p o]:=by
 have dV:ltL (kx Y.k 1) [eng p o]:=Lo (wI Y.pos)
 refine dt (m:=1) (rs:=[.tmp 8]) [1100033] mixed Tryz.func111 rfl rfl rfl rfl (by kernel_rfl) (by simp) rfl dV (fun x hx=>?_) ?_
 ·simp only[aK,bn,dc] at hx
  rcases hx with rfl | rfl | rfl | rfl<;>first | trivial | simp[V.lt,kx]
 have yes:vT o x=true→∀ (K:S→V→Prop) (fr:Nat→V),(∀ t b,Y.run s (emL o x) t b→K ⟨fr,bxs (Y.yb t++[eng p o]),kx Y.k 1⟩ (bo b))→we Tryz.prog G ⟨fr,bxs (Y.yb s++[eng p o]),kx Y.k 1⟩ (.yl 0) [.agg (inC x)] K:=fun hw K fr hK=>by
  rw[ZB hw] at hF hK
  refine Lj hF.1 rfl Y.pos (Y.len _) fun r Y' h=>?_
  obtain⟨t,b,hs,rfl,rfl⟩:=h
  exact⟨Y.len t,Y.lt t,fun _=>rfl,hK t b (ZA hs)⟩
 have e1:∀ K,xP [(0,1,false),(1,1,false),(2,1,false)] [.lit (.int .i64 0),.sl [],.sl []] [(0,i64 x.rule),(1,.c (fsC x.pre)),(2,.c (fsC x.con))] K (some [cI x.rule,fsC x.pre,fsC x.con])=K (.agg (inC x)):=fun _=>rfl
 cases o with
 |none=>
  simp only[M3,seval,bk0 (Y.len _),BW]
  refine yes rfl _ _ fun t b hR=>?_
  simp only[pkA,seval,bk0 (Y.len _)]
  exact iq hR rfl rfl dV (by simp[])
 |some f=>
  simp only[M3,seval,bk0 (Y.len _),BW]
  refine aB rfl (Gb x.pre f hm) (fun _=>rfl) ?_
  simp only[pkA,seval,bk0 (Y.len _)]
  refine aT (fun h=>?_) (fun h=>?_)
  ·have hw:vT (some f) x=false:=by simpa[vT] using h
   simp only[pkA,seval,bk0 (Y.len _)]
   exact iq (by rw[aeQ hw];exact .nil s) rfl rfl dV (by simp[])
  ·have hw:vT (some f) x=true:=by simpa[vT] using h
   simp only[M4,seval,bk0 (Y.len _)]
   refine yes hw _ _ fun t b hR=>?_
   simp only[pkA,seval,bk0 (Y.len _)]
   exact iq hR rfl rfl dV (by simp[])
structure Do1 (G:Gl) {τ:Type} (Y:Ys τ) (ls:List (List V)) (f:V) (R:Nat→Prop) (D:Nat→List In) where
 g:FuncId
 caps:List V
 eq:f=.clo (.func g) [] caps
 lt:∀ x∈caps,x.ltP (kx Y.k ls.length)
 fz:caps.map V.fz=caps
 ok:∀ s t,R t→Fut G Y s (D t)→FnR G Y g (i64 (t:Int)::caps) s (D t) ls
theorem AV {τ:Type} {Y:Ys τ} {s:τ} {ls:List (List V)}:(Y.yb s++ls).length=kx Y.k ls.length:=by rw[ai,Y.len];rfl
section
variable {τ:Type} {Y:Ys τ} {s:τ} {ls rest:List (List V)} {m n:Nat} {l:List (Nat×V)} {fr:Nat→V}
theorem Ir (hm:ls.length=m) (dV:ltL (kx Y.k m) ls) (hl:∀ q∈l,q.2.lt (kx Y.k m)) (h1:FL l fr):S.Le (kx Y.k m) (hdS l (Y.yb s++ls)) ⟨fr,bxs (Y.yb s++ls),kx Y.k m⟩:=by
 have:=Yt (rest:=[]) (Y:=Y.yb s) (ls:=ls) (n:=m) (j:=m) (Y.len s) (Y.lt s) hm (by simpa using hm) dV hl h1 (ab _)
 simpa using this
theorem aeR (hm:ls.length=m) (hn:(ls++rest).length=n) (dV:ltL (kx Y.k m) ls) (hl:∀ q∈l,q.2.lt (kx Y.k m)) (h1:FL l fr):S.Le (kx Y.k m) (hdS l (Y.yb s++ls)) ⟨fr,bxs (Y.yb s++(ls++rest)),kx Y.k n⟩:=
 Yt (Y:=Y.yb s) (j:=m) (Y.len s) (Y.lt s) hm hn dV hl h1 (ab _)
end
theorem uD {P:Nat×V→Prop}:∀ q∈([]:List (Nat×V)),P q:=fun _ h=>by cases h
theorem eR {P:Nat×V→Prop} {a:Nat×V} {l:List (Nat×V)} (h:P a) (h2:∀ q∈l,P q):∀ q∈a::l,P q:=fun q hq=>by
 rcases aK.1 hq with rfl | hq
 ·exact h
 ·exact h2 q hq
def pU (p:Pol) (o:Option Fa) (flag:Int) (D:Nat→List In) (t:Nat):List In:=if(pT p t flag&&nC o [(t:Int)])=true then D t else[]
def jb (p:Pol) (o:Option Fa) (flag:Int) (D:Nat→List In) (i:Nat):List In:=(List.range' i (p.types.length - i)).flatMap (pU p o flag D)
theorem BX {p:Pol} {o:Option Fa} {flag:Int} {D:Nat→List In} {i:Nat} (h:i<p.types.length):jb p o flag D i=pU p o flag D i++jb p o flag D (i+1):=by
 unfold jb
 have:p.types.length - i=(p.types.length - (i+1))+1:=by omega
 rw[this,iA,fE]
theorem D9 {p:Pol} {o:Option Fa} {flag:Int} {D:Nat→List In}:jb p o flag D p.types.length=[]:=by simp[jb]
set_option maxHeartbeats 1000000 in
theorem nE {τ:Type} (Y:Ys τ) (p:Pol) (hp:p.types.length≤9223372036854775806) (o:Option Fa) (flag:Int) (more:List (List V)) (Ad:ltL (kx Y.k (eng p o::more).length) more) (f:V) (D:Nat→List In) (hD:Do1 G Y (eng p o::more) f (fun t=>t<p.types.length) D) (s:τ)
 (hF:Fut G Y s (jb p o flag D 0)) :
 FnR G Y 109 [.bp (kx Y.k 0) 0,i64 flag,f] s (jb p o flag D 0) (eng p o::more):=by
 obtain⟨g,caps,rfl,jI,JP,eH⟩:=hD
 generalize hm:(eng p o::more).length=m at Ad jI
 have Mf:0<m:=by rw[← hm];simp
 have dV:ltL (kx Y.k m) (eng p o::more):=fun b hb x hx=>by
  rcases aK.1 hb with rfl | hb
  ·exact(wI Y.pos x hx).mono (by simp[kx])
  ·exact Ad b hb x hx
 have GG:(V.clo (.func g) [] caps).lt (kx Y.k m):=⟨fun x hx=>(by cases hx),jI⟩
 have tO:(V.bp (kx Y.k 0) 0).lt (kx Y.k m):=by simp only[V.lt,kz];exact Mf
 refine dt (m:=m) (rs:=[.tmp 6]) [1000026,1500031] mixed Tryz.func109 rfl rfl rfl rfl (by kernel_rfl) (by simp) hm dV (fun x hx=>?_) ?_
 ·simp only[aK,bn,dc] at hx
  rcases hx with rfl | rfl | rfl
  ·exact tO
  ·trivial
  ·exact GG
 have cg:∀ s,(Y.yb s++(eng p o::more)).length=kx Y.k m:=fun s=>by rw[AV,hm]
 have h0:(0<m)=True:=by simp[Mf]
 simp only[M4,seval,bk0 (Y.len _),h0]
 refine bE (fun x:Nat×τ=>hdS [(0,.bp (kx Y.k 0) 0),(1,i64 flag),(2,.clo (.func g) [] caps),(11,i64 p.types.length),(12,i64 x.1)] (Y.yb x.2++(eng p o::more))) (fun x=>p.types.length - x.1)
  (fun x=>x.1≤p.types.length∧Fut G Y x.2 (jb p o flag D x.1)∧∀ u b,Y.run x.2 (jb p o flag D x.1) u b→Y.run s (jb p o flag D 0) u b) (0,s) ⟨ar _,hF,fun _ _ h=>h⟩ ?_ ?_
 ·exact Ir hm dV (eR tO (eR trivial (eR GG (eR trivial (eR trivial uD))))) (by simp[FL,ak])
 rintro⟨i,s'⟩ ⟨hi,AB,qz⟩ R cj cJ eP
 simp only at hi AB qz
 simp only[pkA,seval,bk0 (Y.len _),cg]
 refine aT (fun bK=>?_) (fun gr=>?_)
 ·have bK:i<p.types.length:=by simpa using bK
  rw[BX bK] at AB qz
  have hw:=bG (n:=(i:Int)+1) (k:=i+1) (by omega) (by omega)
  have next:∀ (fr:Nat→V) (s2:τ),fr 0=.bp (kx Y.k 0) 0→fr 1=i64 flag→fr 2=.clo (.func g) [] caps→fr 11=i64 p.types.length→fr 12=i64 ((i+1:Nat):Int)→Fut G Y s2 (jb p o flag D (i+1))→(∀ u b,Y.run s2 (jb p o flag D (i+1)) u b→Y.run s (jb p o flag D 0) u b)→
   R .normal ⟨fr,bxs (Y.yb s2++(eng p o::more)),kx Y.k m⟩:=fun fr s2 h1 h2 h3 h4 h5 h6 h7=>
   cj (i+1,s2) _ ⟨bK,h6,h7⟩ (by simp only;omega) (Ir hm dV (eR tO (eR trivial (eR GG (eR trivial (eR trivial uD))))) (by simp[FL,h1,h2,h3,h4,h5]))
  have skip:pU p o flag D i=[]→Fut G Y s' (jb p o flag D (i+1))∧∀ u b,Y.run s' (jb p o flag D (i+1)) u b→Y.run s (jb p o flag D 0) u b:=fun h=>by
   rw[h] at AB qz;exact⟨AB,qz⟩
  simp only[M4,seval,bk0 (Y.len _),h0]
  refine aB rfl (Ug p i flag (by omega)) (fun _=>rfl) ?_
  simp only[pkA,seval,bk0 (Y.len _)]
  refine fY (fun hh=>?_) (fun hh=>?_)
  ·simp only[pkA,ptA,seval,bk0 (Y.len _)]
   refine DY (ls:=[eng p o]) (rest:=more) rfl (Ip Y s' p o [(i:Int)] (by simp)) rfl (Y.len _) (Y.len _) (Y.lt _) hm (fun _=>rfl) ?_
   simp only[pkA,seval,bk0 (Y.len _)]
   refine fY (fun ha=>?_) (fun ha=>?_)
   ·have hT:pU p o flag D i=D i:=by simp[pU,hh,ha]
    rw[hT] at AB qz
    simp only[pkA,seval,bk0 (Y.len _)]
    refine dy rfl (eH s' i bK AB.app.1) (by simp[V.fz,JP]) hm fun t b hR=>?_
    cases b with
    |false=>
     simp only[pkA,seval,bk0 (Y.len _)]
     refine eP _ ?_
     simp only[pkA,bk0 (Y.len _)]
     exact iq (qz _ _ (AU hR)) rfl hm dV (by simp[])
    |true=>
     simp only[pkA,seval,bk0 (Y.len _)]
     exact next _ _ (by simp[ak]) (by simp[ak]) (by simp[ak]) (by simp[ak]) (by simp[hw]) (AB.app.2 _ hR) (fun u b h=>qz u b (AS hR h))
   ·have hT:pU p o flag D i=[]:=by simp[pU,ha]
    simp only[pkA,seval,bk0 (Y.len _)]
    exact next _ _ (by simp[ak]) (by simp[ak]) (by simp[ak]) (by simp[ak]) (by simp[hw]) (skip hT).1 (skip hT).2
  ·have hT:pU p o flag D i=[]:=by simp[pU,hh]
   simp only[pkA,seval,bk0 (Y.len _)]
   exact next _ _ (by simp[ak]) (by simp[ak]) (by simp[ak]) (by simp[ak]) (by simp[hw]) (skip hT).1 (skip hT).2
 ·have:i=p.types.length:=by simp at gr;omega
  subst this
  rw[D9] at qz
  simp only[pkA,bk0 (Y.len _)]
  refine cJ _ _ ?_
  simp only[pkA,seval,bk0 (Y.len _)]
  exact iq (qz _ _ (.nil s')) rfl hm dV (by simp[])
