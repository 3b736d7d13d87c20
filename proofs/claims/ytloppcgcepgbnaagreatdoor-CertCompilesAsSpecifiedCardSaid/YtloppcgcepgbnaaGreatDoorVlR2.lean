/- The engine of layer 17: run. -/
import Derived.Test.YtloppcgcepgbnaaGreatDoorVlE8
import Derived.Test.YtloppcgcepgbnaaGreatDoorVlE0
import Derived.Test.YtloppcgcepgbnaaGreatDoorVlLaw
set_option maxHeartbeats 8000000
set_option linter.all false
namespace Go.Proofs.YtloppcgcepgbnaaGreatDoor
open Go Go.Vl
variable {G:Gl}
set_option maxRecDepth 4000
def aeJ (p:Pol) (o:Option Fa) (i:Nat):List In:=(Oz p o).getD i []
def K4 (p:Pol) (o:Option Fa) (i:Nat):List In:=((Oz p o).drop i).flatten
theorem OA {p:Pol} {o:Option Fa} {i:Nat} (h:i<15):K4 p o i=aeJ p o i++K4 p o (i+1):=by unfold K4 aeJ;have hl:i<(Oz p o).length:=h;rw[dn hl,cE,aA,ah hl];rfl
theorem ajQ {τ:Type} (Y:Ys τ) (p:Pol) (o:Option Fa) (hp:p.types.length<=9223372036854775806) (hr:p.rules.length<=9223372036854775806) (i:Nat) (hi:i<15) (s:τ) (hF:Fut G Y s (aeJ p o i)) :
 FnR G Y (93+i) [.bp (kx Y.k 0) 0] s (aeJ p o i) [eng p o]:=by
 match i,hi with
 |0,_=>exact aeA Y p o hp hr s hF
 |1,_=>exact aeB Y p o hp hr s hF
 |2,_=>exact aeC Y p o hp hr s hF
 |3,_=>exact aeD Y p o hp hr s hF
 |4,_=>exact aeE Y p o hp hr s hF
 |5,_=>exact aeF Y p o hp hr s hF
 |6,_=>exact aeG Y p o hp hr s hF
 |7,_=>exact aeH Y p o hp hr s hF
 |8,_=>exact aeI Y p o hp hr s hF
 |9,_=>exact Zb Y p o hp hr s hF
 |10,_=>exact Zc Y p o hp hr s hF
 |11,_=>exact Zd Y p o hp hr s hF
 |12,_=>exact Ze Y p o hp hr s hF
 |13,_=>exact Y9 Y p o s hF
 |14,_=>exact Zf Y p o hp hr s hF
def ajR (k i:Nat):V:=.clo (.func (93+i)) [.bp (kx k 0) 0] []
def uG (k:Nat):List V:=(List.range 15).map (ajR k)
theorem Zg {k i:Nat} (h:i<15):(uG k)[i]?=some (ajR k i):=by unfold uG;rw[bj,jg h];rfl
def Ys.outT {τ:Type} (Y:Ys τ) (s:τ) (L:List In) (ls:List (List V)) (r:V) (b1:List (List V)):Prop:=∃ t b,Y.run s L t b/\r=.tup []/\b1=Y.yb t++ls
theorem H2 {τ:Type} {Y:Ys τ} {s0 s:τ} {L:List In} {b:Bool} (hR:Y.run s0 L s b) {ls rest:List (List V)} {m n:Nat} {fr:Nat->V} {e:VE} (he:rV e=true) (hm:ls.length=m) (hn:(ls++rest).length=n) (dU:ltL (kx Y.k m) ls) :
 N8 Tryz.prog (kx Y.k m) (Y.outT s0 L ls) [] e ⟨fr,bxs (Y.yb s++(ls++rest)),kx Y.k n⟩:=
 ⟨_,_,⟨s,b,hR,rfl,rfl⟩,XB [] he (Y.len s) (Y.lt s) hm hn dU (λ_ h=>by cases h) trivial nW⟩
theorem Qk {τ:Type} {Y:Ys τ} {s:τ} {L:List In} {ls:List (List V)}:∀ r b1,Y.outT s L ls r b1->r.compT=true/\b1.length=(Y.yb s++ls).length:=λr b1 h=>by obtain⟨t,b,_,rfl,rfl⟩:=h;exact⟨rfl,by rw[ae,ae,Y.len,Y.len]⟩
theorem Zh {τ:Type} {Y:Ys τ} {s:τ} {ls:List (List V)} {m j:Nat} {l:List (Nat×V)} {fr:Nat->V} (hj:j<=m) (hm:ls.length=m) (dU:ltL (kx Y.k m) ls) (hl:∀ q∈l,q.2.lt (kx Y.k m)) (h1:FL l fr):S.Le (kx Y.k j) (hdS l (Y.yb s++ls)) ⟨fr,bxs (Y.yb s++ls),kx Y.k m⟩:=by have:=acZ (rest:=[]) (Y:=Y.yb s) (ls:=ls) (n:=m) (j:=j) (Y.len s) (Y.lt s) hm (by simpa using hm) dU hl h1 hj;simpa using this
theorem ajS {P:Program} {T e:TypeId} {i j:TI} {z:List C} {len:Nat} {parts:List (Nat×V)} {L:List V} {fr:Nat->V} {bx:Nat->List V} {nb d:Nat} {K:S->Prop} (hT:ti P T=some i) (hk:i.kd=.slice e) (hE:ti P e=some j) (hs:j.size=1) (hz:j.zero=some z) (tX:z.length=1)
 (hp:parts.map (·.1)=List.range len) (ho:(parts.all λp=>p.2.fz.one)=true) (h0:0<len) (hl:len<=16777216) (hL:parts.map (λp=>p.2.fz)=L) (hK:K ⟨up fr d (.ms nb 0 len len 1),up bx nb L,nb+1⟩):xC P T len parts ⟨fr,bx,nb⟩ (some d) K:=by
 obtain⟨kd,a,b,c,q,f,g⟩:=i;simp only at hk;subst hk;obtain⟨kd',a',b',c',q',f',g'⟩:=j;simp only at hs hz;subst hs;subst hz;unfold xC;simp only[hT,hE];rw[a8] at ho;exact⟨⟨trivial,tX,hp,ho,h0,hl⟩,by rw[hL];exact hK⟩
theorem Zi {k:Nat}:∀ x∈uG k,x.lt (kx k 2):=λx hx=>by obtain⟨i,_,rfl⟩:=bM.1 hx;refine⟨λq hq=>?_,λq hq=>by cases hq⟩;simp only[aX] at hq;subst hq;simp only[V.ltP,kU];decide
def sa:=jj @pkA @ptA
theorem ajT {τ:Type} (Y:Ys τ) (p:Pol) (o:Option Fa) (hp:p.types.length<=9223372036854775806) (hr:p.rules.length<=9223372036854775806) (s:τ) (hF:Fut G Y s (fN p o)) :
 FnE Tryz.prog G 71 [.bp (kx Y.k 0) 0] (Y.yb s++[eng p o]) (Y.outT s (fN p o) [eng p o]):=by
 have dU:ltL (kx Y.k 1) [eng p o]:=aI (cL Y.pos) cJ;refine HK (k:=Y.k) (m:=1) (rs:=[]) [1400034,1500041] mixed Tryz.func71 rfl rfl rfl rfl (by kernel_rfl) (by simp) Qk (Y.len s) (Y.lt s) rfl dU (bu (dZ (by decide)) eC) ?_;simp only[pkA,seval,pkB Y _];refine .inl (ajS CV rfl Qc rfl rfl rfl rfl rfl (by decide) (by decide) (L:=uG Y.k) rfl ?_);have hms:(V.ms (kx Y.k 1) 0 15 15 1).lt (kx Y.k 2):=by simp only[V.lt,kU];decide
 have aoJ:ltL (kx Y.k 2) [eng p o,uG Y.k]:=aI (cL Y.pos) (aI Zi cJ);simp only[sa,seval,pkB Y _,fp];refine bz (λx:Nat×τ=>hdS [(34,.ms (kx Y.k 1) 0 15 15 1),(35,i64 15),(36,i64 x.1)] (Y.yb x.2++[eng p o,uG Y.k])) (λx=>15 - x.1)
  (λx=>x.1<=15/\Fut G Y x.2 (K4 p o x.1)/\∀ t b,Y.run x.2 (K4 p o x.1) t b->Y.run s (fN p o) t b) (0,s) ⟨ar _,hF,λ_ _ h=>h⟩ ?_ ?_
 .exact Zh (by decide) rfl aoJ (eP hms (eP trivial (eP trivial uE))) (by simp[FL,aj])
 rintro⟨i,s'⟩ ⟨hi,A3,wm⟩ R bL bQ dq;simp only at hi A3 wm;simp only[pkA,seval,pkB Y _,Bj];refine aD (λbF=>?_) (λfO=>?_)
 .have bF:i<15:=by simp at bF;omega
  rw[OA bF] at A3 wm;have hw:=br (n:=(i:Int)+1) (k:=i+1) (by omega) (by omega);simp only[pkA,seval,pkB Y _];refine Xd CV rfl Qc rfl (by decide) (ay i) (by omega) ?_;have hld:∀ K,ldB (kx Y.k 2) (kx Y.k 1) (uG Y.k) (0+((i:Int)).toNat*1) K=K (.clo (.func (93+i)) [.bp (kx Y.k 0) 0] []):=λK=>by unfold ldB;rw[kU,show 0+((i:Int)).toNat*1=i by simp,Zg bF];simp only[ajR,PZ];exact propext ⟨λh=>h.2,λh=>⟨by decide,h⟩⟩
  have hml:ck (uG Y.k)=false:=rfl;simp only[sa,seval,pkB Y _,hld,hml];refine oa (ls:=[eng p o]) (rest:=[uG Y.k]) rfl (ajQ Y p o hp hr i bF s' A3.app.1) rfl rfl λt' b' hR=>?_;simp only[pkA,seval,pkB Y _];refine aD (λhn=>?_) (λhn=>?_)
  .have hn:b'=false:=by simpa using hn
   subst hn;simp only[pkA,pkB Y _];refine dq _ ?_;simp only[pkA,pkB Y _];exact H2 (wm _ _ (Bi hR)) (rest:=[uG Y.k]) rfl rfl rfl dU
  .have hn:b'=true:=by simpa using hn
   subst hn;simp only[pkA,seval,pkB Y _];exact bL (i+1,t') _ ⟨by simp only;omega,A3.app.2 _ hR,λt b h=>wm t b (Bh hR h)⟩ (by simp only;omega) (Zh (by decide) rfl aoJ (eP hms (eP trivial (eP trivial uE))) (by simp[FL,aj,hw]))
 .have:i=15:=by simp at fO;omega
  subst this;simp only[pkA,pkB Y _];refine bQ _ _ ?_;simp only[pkA,seval,pkB Y _];exact H2 (wm _ _ (.nil s')) (rest:=[uG Y.k]) rfl rfl rfl dU
theorem K5 {o:Option (List V)} {l:List V} {K:V->Prop} (h:o=some l) (hK:K (.mag l)):qQ K o:=by subst h;exact hK
theorem OB {τ:Type} {Y:Ys τ} {s:τ} {L:List In} {g:FuncId} {ls:List (List V)} {f:V} {args all cargs:List V} {n:Nat} {fr:Nat->V} {K:S->V->Prop} (hc:gx f args=some (g,all)) (hf:FnE Tryz.prog G g cargs (Y.yb s++ls) (Y.outT s L ls)) (eE:all.map V.fz=cargs)
 (hn:ls.length=n) (hK:∀ t b,Y.run s L t b->K ⟨fr,bxs (Y.yb t++ls),kx Y.k n⟩ (.tup [])):ll Tryz.prog G ⟨fr,bxs (Y.yb s++ls),kx Y.k n⟩ f args K:=by
 have:=Ff (rest:=[]) (n:=n) (fr:=fr) (K:=K) hc hf eE (Y.len s) (by simpa using hn) λr b1 h=>by obtain⟨t,b,hR,rfl,rfl⟩:=h;exact⟨Y.yb t,rfl,Y.len t,Y.lt t,λ_=>rfl,by simpa using hK t b hR⟩
 simpa using this
theorem aeK {τ:Type} {Y:Ys τ} {s0 s:τ} {L:List In} {b:Bool} (hR:Y.run s0 L s b) {rest:List (List V)} {n:Nat} {fr:Nat->V} {e:VE} (he:rV e=true) (hn:rest.length=n):N8 Tryz.prog (kx Y.k 0) (Y.outT s0 L []) [] e ⟨fr,bxs (Y.yb s++rest),kx Y.k n⟩:=by have:=H2 hR (ls:=[]) (rest:=rest) (m:=0) (n:=n) (fr:=fr) (e:=e) he rfl (by simpa using hn) cJ;simpa using this
theorem Ql {τ:Type} (Y:Ys τ) (p:Pol) (hp:p.types.length<=9223372036854775806) (hr:p.rules.length<=9223372036854775806) (s:τ) (hF:Fut G Y s (fN p none)) :
 FnE Tryz.prog G 70 [.yl 0,.c (.rp (poC p) 0)] (Y.yb s) (λr b1=>∃ t b,Y.run s (fN p none) t b/\r=.tup []/\b1=Y.yb t):=by
 have h:FnE Tryz.prog G 70 [.yl 0,.c (.rp (poC p) 0)] (Y.yb s++[]) (Y.outT s (fN p none) []):=by refine HK (k:=Y.k) (m:=0) (rs:=[]) [1500010,2500008] mixed Tryz.func70 rfl rfl rfl rfl (by kernel_rfl) (by simp) Qk (Y.len s) (Y.lt s) rfl cJ (bu (by simpa[V.lt,kx] using Y.pos) (bu trivial eC)) ?_;simp only[pkA,ptA,pkE,seval,pkB Y _,bq];refine K5 (l:=eng p none) (by rw[show(p.types.map tyC).length=p.types.length from au ..];rfl) ?_;simp only[pkA,seval,pkB Y _,fp];refine OB (ls:=[eng p none]) rfl (ajT Y p none hp hr s hF) rfl rfl λt' b' hR=>?_;simp only[pkA,pkB Y _];exact aeK hR rfl rfl
 have e:Y.outT s (fN p none) []=(λr b1=>∃ t b,Y.run s (fN p none) t b/\r=.tup []/\b1=Y.yb t):=by funext r b1;simp[Ys.outT]
 rw[e,bq] at h;exact h
def Zj (p:Pol):V:=.c (.fn (.func 70) [] [.rp (poC p) 0])
theorem yu (p:Pol):FnOK Tryz.prog G 51 [.agg (poC p)] (Zj p):=by refine bJ (rs:=[.tmp 2]) true [] mixed Tryz.func51 rfl rfl rfl rfl (by kernel_rfl) (by simp) rfl rfl ?_;simp only[pkA,seval,Ba];rfl
theorem fR (v t:Int):FnOK Tryz.prog G 111 [i64 v,i64 t] (.agg (faC (bE v t))):=by refine bJ (rs:=[.cell 4 54]) false [] mixed Tryz.func111 rfl rfl rfl rfl (by kernel_rfl) (by simp) rfl rfl ?_;simp only[sa,seval];exact⟨rfl,by decide,⟨rfl,rfl⟩,rfl⟩
theorem iK (v t:Int):FnOK Tryz.prog G 113 [i64 v,i64 t] (.agg (faC (iI v t))):=by refine bJ (rs:=[.cell 4 54]) false [] mixed Tryz.func113 rfl rfl rfl rfl (by kernel_rfl) (by simp) rfl rfl ?_;simp only[sa,seval];exact⟨rfl,by decide,⟨rfl,rfl⟩,rfl⟩
theorem iL (s:Int):FnOK Tryz.prog G 81 [i64 s] (.agg (faC (iJ s))):=by refine bJ (rs:=[.cell 2 54]) false [] mixed Tryz.func81 rfl rfl rfl rfl (by kernel_rfl) (by simp) rfl rfl ?_;simp only[sa,seval];exact⟨rfl,by decide,⟨rfl,rfl⟩,rfl⟩
theorem jD (s:Int):FnOK Tryz.prog G 82 [i64 s] (.agg (faC (wT s))):=by refine bJ (rs:=[.cell 2 54]) false [] mixed Tryz.func82 rfl rfl rfl rfl (by kernel_rfl) (by simp) rfl rfl ?_;simp only[sa,seval];exact⟨rfl,by decide,⟨rfl,rfl⟩,rfl⟩
theorem OC (a b:Int) (ha:I64 a):FnOK Tryz.prog G 117 [i64 a,i64 b] (bo (KL a b)):=by refine bJ (rs:=[.tmp 4]) false [] mixed Tryz.func117 rfl rfl rfl rfl (by kernel_rfl) (by simp) rfl rfl ?_;have hN:∀ K,nF .and .i64 a b K=K (i64 (bits .and .i64 a b)):=λ_=>rfl;simp only[pkA,seval,hN];unfold KL;rw[jt.2 (Of (b:=b) ha)]
def FI:=jj @pkA (jj @ptA @pkF)
theorem ajU (p:Pol) (t:Int):FnOK Tryz.prog G 116 [.agg (poC p),i64 t] (bo (decide (0<=t)&&decide (t<p.types.length))):=by
 refine bJ (rs:=[.tmp 4]) false [] mixed Tryz.func116 rfl rfl rfl rfl (by kernel_rfl) (by simp) rfl rfl ?_
 repeat' first
  |(simp only[FI,seval])
  |refine fy (λh=>?_) (λh=>?_)
 all_goals (simp_all<;>omega)
theorem Qm (p:Pol) (t:Nat) (flags:Int) (hf:I64 flags) (hm:p.types.length<=9223372036854775807):FnOK Tryz.prog G 80 [.agg (poC p),i64 t,i64 flags] (bo (sV p t flags)):=by
 refine bJ (rs:=[.tmp 6]) false [] mixed Tryz.func80 rfl rfl rfl rfl (by kernel_rfl) (by simp) rfl rfl ?_;simp only[FI,seval];refine aC rfl (ajU p t) (λ_=>rfl) ?_;simp only[pkA,seval];refine fy (λh=>?_) (λh=>?_)
 .have ht:t<p.types.length:=by simpa using h
  simp only[FI,seval];refine dP pf rfl kC (by decide) (ay t) (c:=tyC p.types[t]) (by simp[ht]) rfl ?_;simp only[FI,seval];refine aC rfl (OC _ _ hf) (λ_=>rfl) ?_;simp only[pkA,seval];unfold sV;rw[ah ht]
 .have ht:¬ t<p.types.length:=by simpa using h
  simp only[pkA,seval];unfold sV;rw[bG (by omega)]
theorem sZ {P:Program} {G:Gl} {s:S} {t d y:Nat} {v:Value} {E:Option (TypeId×Nat)} {es:List (List C)} {ts:List TypeId} {K:V->Prop} (h1:s.fr t=.c (.ex v)) (h2:s.fr d=.gh v E es) (h0:t≠d/\y≠t/\y≠d) (h:eX P .append ts [.ow E es,vw s (s.fr y)] K) :
 jv P G s (some d) ts [.tmp t,.tmp y] K:=by
 unfold jv;simp only[h1,h2];exact⟨⟨h0.1,trivial,λe=>h0.2.1 (by cases e;rfl),λe=>h0.2.2 (by cases e;rfl)⟩,h⟩
theorem OD {nb q:Nat} {f:Fa} {K:V->Prop}  : ldA nb q ((faC f).map .c) 0 3 K=(q<nb/\K (.agg (faC f))):=by unfold ldA;exact propext ⟨λh=>⟨h.1,h.2.2⟩,λh=>⟨h.1,⟨rfl,rfl⟩,h.2⟩⟩
theorem H3 {f:Fa}:ck ((faC f).map V.c)=false:=rfl
def pkT:=jj @pkF (jj @OD @H3)
section
variable {f:Fa} {nb q:Nat} {K:V->Prop}
theorem apw:ldB nb q ((faC f).map .c) 0 K=(q<nb/\K (i64 f.kind)):=rfl
theorem apx:ldB nb q ((faC f).map .c) 1 K=(q<nb/\K (i64 f.a)):=rfl
theorem apy:ldB nb q ((faC f).map .c) 2 K=(q<nb/\K (i64 f.b)):=rfl
end
def pkQ:=jj @pkT (jj @apw (jj @apx @apy))
def Qn:=jj @pkA (jj @ptA @pkQ)
theorem K6 (a b:Fa):FnOK Tryz.prog G 32 [.agg (faC a),.agg (faC b)] (i64 (wU a b)):=by
 refine bJ (rs:=[.tmp 4]) false [] mixed Tryz.func32 rfl rfl rfl rfl (by kernel_rfl) (by simp) rfl rfl ?_;have e0:∀ x K,cQ false 1 0 [cI x] K=K (i64 x):=λ_ _=>rfl;have low:∀ x y z:Int,V.ow (some (3,1)) [[cI x],[cI y],[cI z]]=.ow (some (3,1)) ([x,y,z].map λy=>[cI y]):=λ_ _ _=>rfl;simp only[Qn,seval];unfold wU;obtain⟨xs,tW⟩:∃ xs,xs=[a.kind,a.a,a.b]:=⟨_,rfl⟩;obtain⟨ys,uZ⟩:∃ ys,ys=[b.kind,b.a,b.b]:=⟨_,rfl⟩;obtain⟨cs,js⟩:∃ cs,cs=[qF a.kind b.kind,qF a.a b.a,qF a.b b.b]:=⟨_,rfl⟩;have hxl:xs.length=3:=by rw[tW];rfl
 have hyl:ys.length=3:=by rw[uZ];rfl
 have j8:cs.length=3:=by rw[js];rfl
 have hc:∀ i (h:i<3),cs[i]'(by omega)=qF (xs[i]'(by omega)) (ys[i]'(by omega)):=λi h=>by
  subst tW uZ js
  match i,h with
  |0,_=>rfl
  |1,_=>rfl
  |2,_=>rfl
 have hxm:[[cI a.kind],[cI a.a],[cI a.b]]=xs.map λy=>[cI y]:=by rw[tW];rfl
 have hym:[[cI b.kind],[cI b.a],[cI b.b]]=ys.map λy=>[cI y]:=by rw[uZ];rfl
 rw[<- js];refine bz (λi:Nat=>hdS [(5,.ow (some (3,1)) (xs.map λy=>[cI y])),(6,.ow (some (3,1)) (ys.map λy=>[cI y])),(7,i64 i)] []) (λi=>3 - i) (λi=>i<=3/\orL cs=orL (cs.drop i)) 0 ⟨by omega,rfl⟩ ?_ ?_
 .refine cg rfl (ar _) (ar _) ?_ trivial
  rw[<- hxm,<- hym];simp[FL,aj,cI]
 rintro i ⟨hi,gw⟩ R bL bQ dq;simp only[pkA,seval];refine aD (λbF=>?_) (λfO=>?_)
 .have bF:i<3:=by simp at bF;omega
  have hw:=br (n:=(i:Int)+1) (k:=i+1) (by omega) (by omega);rw[dn (by omega)] at gw;have EH:i<xs.length:=by omega
  have Gp:i<ys.length:=by omega
  simp only[pkA,seval];refine dP oJ rfl nH (by decide) (ay i) (c:=[cI xs[i]]) (by simp[EH]) rfl ?_;simp only[sa,seval,e0];refine dP oJ rfl nH (by decide) (ay i) (c:=[cI ys[i]]) (by simp[Gp]) rfl ?_;simp only[sa,seval,e0];refine aD (λh1=>?_) (λh1=>?_)
  .have h1:xs[i]<ys[i]:=by simpa using h1
   simp only[pkA,seval];refine dq _ ?_;simp only[pkA,seval];rw[gw];simp only[orL,hc i bF,qF,h1,cZ];rfl
  .have h1:¬ xs[i]<ys[i]:=by simpa using h1
   simp only[pkA,seval];refine dP oJ rfl nH (by decide) (ay i) (c:=[cI xs[i]]) (by simp[EH]) rfl ?_;simp only[sa,seval,e0];refine dP oJ rfl nH (by decide) (ay i) (c:=[cI ys[i]]) (by simp[Gp]) rfl ?_;simp only[sa,seval,e0];refine aD (λh2=>?_) (λh2=>?_)
   .have h2:ys[i]<xs[i]:=by simpa using h2
    simp only[pkA,seval];refine dq _ ?_;simp only[pkA,seval];rw[gw];simp only[orL,hc i bF,qF,h1,h2,cZ,dp];rfl
   .have h2:¬ ys[i]<xs[i]:=by simpa using h2
    simp only[pkA,seval];refine bL (i+1) _ ⟨bF,?_⟩ (by omega) (cg rfl (ar _) (ar _) ?_ trivial)
    .rw[gw]
     simp only[orL,hc i bF,qF,h1,h2,cZ,dp]
    .simp[FL,aj,hw]
 .have:i=3:=by simp at fO;omega
  subst this;simp only[pkA];refine bQ _ _ ?_;simp only[pkA,seval];rw[gw,List.drop_eq_nil_of_le (by omega)];rfl
def jn (p:Pol) (f:Fa):Bool:=
 if f.kind=1 then decide (0<=f.a)&&decide (f.a<=p.types.length)&&decide (0<=f.b)&&decide (f.b<p.types.length)
 else if f.kind=2 then decide (0<=f.a)&&decide (f.a<=p.types.length)&&decide (0<=f.b)&&decide (f.b<=p.types.length)
 else if f.kind=3∨f.kind=4 then decide (1<=f.a)&&decide (f.a<=p.types.length)&&decide (f.b=0)
 else false
theorem C4 (p:Pol) (f:Fa):FnOK Tryz.prog G 49 [.agg (poC p),.agg (faC f)] (bo (jn p f)):=by
 refine bJ (rs:=[.tmp 4]) false [] mixed Tryz.func49 rfl rfl rfl rfl (by kernel_rfl) (by simp) rfl rfl ?_;have hb:∀ b:Bool,(b=true∨b=false):=λb=>by cases b<;>simp
 unfold jn
 repeat' first
  |(simp only[Qn,seval])
  |refine fy (λh=>?_) (λh=>?_)
  |refine aD (λh=>?_) (λh=>?_)
 all_goals (simp only[au,bI,lh,dI] at *)
 all_goals (simp_all<;>omega)
theorem H4 (a b:List Fa) (hm:a.length<=1000000000):FnOK Tryz.prog G 14 [.c (fsC a),.c (fsC b)] (bo (decide (a=b))):=by
 refine bJ (rs:=[.tmp 4]) false [] mixed Tryz.func14 rfl rfl rfl rfl (by kernel_rfl) (by simp) rfl rfl ?_;simp only[sa,seval,fsC,au];refine aD (λgZ=>?_) (λyQ=>?_)
 .have gZ:a≠b:=by rintro rfl;simp at gZ
  simp only[pkA,seval];rw[fj gZ]
 .have cm:a.length=b.length:=by simp at yQ;omega
  simp only[pkA,seval];refine bz (λi:Nat=>hdS [(0,.c (.sl (a.map faC))),(1,.c (.sl (b.map faC))),(5,i64 i)] []) (λi=>a.length - i) (λi=>i<=a.length/\a.take i=b.take i) 0 ⟨ar _,rfl⟩ ?_ ?_
  .exact cg rfl (ar _) (ar _) (by simp[FL,aj]) trivial
  rintro i ⟨hi,ht⟩ R bL bQ dq;simp only[sa,seval,au];refine aD (λbF=>?_) (λfO=>?_)
  .have bF:i<a.length:=by simpa using bF
   have hlb:i<b.length:=(by omega);have hw:=br (n:=(i:Int)+1) (k:=i+1) (by omega) (by omega);simp only[pkA,seval];refine dP dY rfl eK (by decide) (ay i) (c:=faC a[i]) (by simp[bF]) rfl ?_;simp only[FI,seval];refine dP dY rfl eK (by decide) (ay i) (c:=faC b[i]) (by simp[hlb]) rfl ?_;simp only[FI,seval];refine aD (λhn=>?_) (λhy=>?_)
   .have hn:a≠b:=by rintro rfl;simp at hn
    simp only[pkA,seval];refine dq _ ?_;simp only[pkA,seval];rw[fj hn]
   .have hy:a[i]=b[i]:=by simpa using hy
    simp only[pkA,seval];refine bL (i+1) _ ⟨bF,?_⟩ (by omega) (cg rfl (ar _) (ar _) (by simp[FL,aj,hw]) trivial);rw[aT bF,aT hlb,ht,hy]
  .have:i=a.length:=by simp at fO;omega
   subst this;simp only[pkA];refine bQ _ _ ?_;simp only[pkA,seval];rw[bW,cm,bW] at ht;rw[dD ht]
theorem C5 (l:List Fa) (f:Fa) (hm:l.length<=1000000000):FnOK Tryz.prog G 24 [.c (fsC l),.agg (faC f)] (bo (decide (f∈l))):=by
 refine bJ (rs:=[.tmp 4]) false [] mixed Tryz.func24 rfl rfl rfl rfl (by kernel_rfl) (by simp) rfl rfl ?_;simp only[pkA,seval,fsC];refine bz (λi:Nat=>hdS [(0,.c (.sl (l.map faC))),(3,.bp 0 0),(5,i64 i)] [(faC f).map .c]) (λi=>l.length - i) (λi=>i<=l.length/\f∉l.take i) 0 ⟨ar _,by simp⟩ ?_ ?_
 .exact cg rfl (ar _) (ab _) (by simp[FL,aj]) (by simp[BL])
 rintro i ⟨hi,ht⟩ R bL bQ dq;simp only[sa,seval,au];refine aD (λbF=>?_) (λfO=>?_)
 .have bF:i<l.length:=by simpa using bF
  have hw:=br (n:=(i:Int)+1) (k:=i+1) (by omega) (by omega);simp only[pkA,seval];refine dP dY rfl eK (by decide) (ay i) (c:=faC l[i]) (by simp[bF]) rfl ?_;simp only[Qn,seval];refine aD (λhy=>?_) (λhn=>?_)
  .have hy:l[i]=f:=by simpa using hy
   simp only[pkA,seval];refine dq _ ?_;simp only[pkA,seval];rw[dD (hy▸bT bF)]
  .have hn:¬ l[i]=f:=by simpa using hn
   simp only[pkA,seval];refine bL (i+1) _ ⟨bF,?_⟩ (by omega) (cg rfl (ar _) (ab _) (by simp[FL,aj,hw]) (by simp[BL,bxs]));rw[aT bF,ba,aX];rintro(h | h)
   .exact ht h
   .exact hn h.symm
 .have:i=l.length:=by simp at fO;omega
  subst this;simp only[pkA];refine bQ _ _ ?_;simp only[pkA,seval];rw[bW] at ht;rw[fj ht]
theorem ajV (l m:List Fa) (hl:l.length<=1000000000) (hm:m.length<=1000000000):FnOK Tryz.prog G 55 [.c (fsC l),.c (fsC m)] (bo (m.all λf=>decide (f∈l))):=by
 refine bJ (rs:=[.tmp 4]) false [] mixed Tryz.func55 rfl rfl rfl rfl (by kernel_rfl) (by simp) rfl rfl ?_;simp only[pkA,seval];refine bz (λi:Nat=>hdS [(0,.c (fsC l)),(1,.c (fsC m)),(5,i64 i)] []) (λi=>m.length - i) (λi=>i<=m.length/\∀ f∈m.take i,f∈l) 0 ⟨ar _,by simp⟩ ?_ ?_
 .exact cg rfl (ar _) (ab _) (by simp[FL,aj]) trivial
 rintro i ⟨hi,ht⟩ R bL bQ dq;have hml:∀ K,fq Tryz.prog 28 (.c (fsC m)) K=K (i64 m.length):=λK=>by unfold fsC;rw[HT,au]
 simp only[pkA,seval,hml];refine aD (λbF=>?_) (λfO=>?_)
 .have bF:i<m.length:=by simpa using bF
  have hw:=br (n:=(i:Int)+1) (k:=i+1) (by omega) (by omega);simp only[pkA,seval];refine dP dY rfl eK (by decide) (ay i) (c:=faC m[i]) (by simp[bF]) rfl ?_;simp only[Qn,seval];refine aC rfl (C5 l m[i] hl) (λ_=>rfl) ?_;simp only[pkA,seval];refine aD (λhy=>?_) (λhn=>?_)
  .have hy:m[i]∉l:=by simpa using hy
   simp only[pkA,seval];refine dq _ ?_;simp only[pkA,seval];have:(m.all λf=>decide (f∈l))=false:=(by rw[List.all_eq_false];exact⟨m[i],bT bF,by simpa using hy⟩);rw[this]
  .have hn:m[i]∈l:=by simpa using hn
   simp only[pkA,seval];refine bL (i+1) _ ⟨bF,λf hf=>?_⟩ (by omega) (cg rfl (ar _) (ab _) (by simp[FL,aj,hw]) trivial);rw[aT bF,ba,aX] at hf;rcases hf with hf | rfl
   .exact ht f hf
   .exact hn
 .have:i=m.length:=by simp at fO;omega
  subst this;simp only[pkA];refine bQ _ _ ?_;simp only[pkA,seval];rw[bW] at ht;have:(m.all λf=>decide (f∈l))=true:=by rw[a8];exact λf hf=>by simpa using ht f hf
  rw[this]
