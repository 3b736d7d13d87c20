/- The engine of layer 17: run. -/
import Derived.Test.YtloppcgcepgbnaaGreatDoorVlE8
import Derived.Test.YtloppcgcepgbnaaGreatDoorVlE0
import Derived.Test.YtloppcgcepgbnaaGreatDoorVlLaw
set_option maxHeartbeats 8000000
set_option linter.all false
namespace Go.Proofs.YtloppcgcepgbnaaGreatDoor
open Go Go.Vl
variable {G:Gl}
set_option maxRecDepth 4000
def acE (p:Pol) (o:Option Fa) (i:Nat):List In:=(N1 p o).getD i []
def KF (p:Pol) (o:Option Fa) (i:Nat):List In:=((N1 p o).drop i).flatten
theorem N2 {p:Pol} {o:Option Fa} {i:Nat} (h:i<15):KF p o i=acE p o i++KF p o (i+1):=by unfold KF acE;have hl:i<(N1 p o).length:=h;rw[dj hl,cF,aB,ai hl];rfl
theorem ahl {τ:Type} (Y:Ys τ) (p:Pol) (o:Option Fa) (hp:p.types.length<=9223372036854775806) (hr:p.rules.length<=9223372036854775806) (i:Nat) (hi:i<15) (s:τ) (hF:Fut G Y s (acE p o i)) :
 FnR G Y (93+i) [.bp (kx Y.k 0) 0] s (acE p o i) [eng p o]:=by
 match i,hi with
 |0,_=>exact acv Y p o hp hr s hF
 |1,_=>exact acw Y p o hp hr s hF
 |2,_=>exact acx Y p o hp hr s hF
 |3,_=>exact acy Y p o hp hr s hF
 |4,_=>exact acz Y p o hp hr s hF
 |5,_=>exact acA Y p o hp hr s hF
 |6,_=>exact acB Y p o hp hr s hF
 |7,_=>exact acC Y p o hp hr s hF
 |8,_=>exact acD Y p o hp hr s hF
 |9,_=>exact XY Y p o hp hr s hF
 |10,_=>exact XZ Y p o hp hr s hF
 |11,_=>exact X0 Y p o hp hr s hF
 |12,_=>exact X1 Y p o hp hr s hF
 |13,_=>exact XW Y p o s hF
 |14,_=>exact X2 Y p o hp hr s hF
def ahm (k i:Nat):V:=.clo (.func (93+i)) [.bp (kx k 0) 0] []
def uo (k:Nat):List V:=(List.range 15).map (ahm k)
theorem X3 {k i:Nat} (h:i<15):(uo k)[i]?=some (ahm k i):=by unfold uo;rw[bj,ji h];rfl
def Ys.outT {τ:Type} (Y:Ys τ) (s:τ) (L:List In) (ls:List (List V)) (r:V) (b1:List (List V)):Prop:=∃ t b,Y.run s L t b/\r=.tup []/\b1=Y.yb t++ls
theorem HQ {τ:Type} {Y:Ys τ} {s0 s:τ} {L:List In} {b:Bool} (hR:Y.run s0 L s b) {ls rest:List (List V)} {m n:Nat} {fr:Nat->V} {e:VE} (he:rF e=true) (hm:ls.length=m) (hn:(ls++rest).length=n) (dU:ltL (kx Y.k m) ls) :
 wH Tryz.prog (kx Y.k m) (Y.outT s0 L ls) [] e ⟨fr,bxs (Y.yb s++(ls++rest)),kx Y.k n⟩:=
 ⟨_,_,⟨s,b,hR,rfl,rfl⟩,WL [] he (Y.len s) (Y.lt s) hm hn dU (λ_ h=>by cases h) trivial nQ⟩
theorem PQ {τ:Type} {Y:Ys τ} {s:τ} {L:List In} {ls:List (List V)}:∀ r b1,Y.outT s L ls r b1->r.compT=true/\b1.length=(Y.yb s++ls).length:=λr b1 h=>by obtain⟨t,b,_,rfl,rfl⟩:=h;exact⟨rfl,by rw[ae,ae,Y.len,Y.len]⟩
theorem X4 {τ:Type} {Y:Ys τ} {s:τ} {ls:List (List V)} {m j:Nat} {l:List (Nat×V)} {fr:Nat->V} (hj:j<=m) (hm:ls.length=m) (dU:ltL (kx Y.k m) ls) (hl:∀ q∈l,q.2.lt (kx Y.k m)) (h1:FL l fr):S.Le (kx Y.k j) (hdS l (Y.yb s++ls)) ⟨fr,bxs (Y.yb s++ls),kx Y.k m⟩:=by have:=abw (rest:=[]) (Y:=Y.yb s) (ls:=ls) (n:=m) (j:=j) (Y.len s) (Y.lt s) hm (by simpa using hm) dU hl h1 hj;simpa using this
theorem ahn {P:Program} {T e:TypeId} {i j:TI} {z:List C} {len:Nat} {parts:List (Nat×V)} {L:List V} {fr:Nat->V} {bx:Nat->List V} {nb d:Nat} {K:S->Prop} (hT:ti P T=some i) (hk:i.kd=.slice e) (hE:ti P e=some j) (hs:j.size=1) (hz:j.zero=some z) (tH:z.length=1)
 (hp:parts.map (·.1)=List.range len) (ho:(parts.all λp=>p.2.fz.one)=true) (h0:0<len) (hl:len<=16777216) (hL:parts.map (λp=>p.2.fz)=L) (hK:K ⟨up fr d (.ms nb 0 len len 1),up bx nb L,nb+1⟩):xo P T len parts ⟨fr,bx,nb⟩ (some d) K:=by
 obtain⟨kd,a,b,c,q,f,g⟩:=i;simp only at hk;subst hk;obtain⟨kd',a',b',c',q',f',g'⟩:=j;simp only at hs hz;subst hs;subst hz;unfold xo;simp only[hT,hE];rw[aY] at ho;exact⟨⟨trivial,tH,hp,ho,h0,hl⟩,by rw[hL];exact hK⟩
theorem X5 {k:Nat}:∀ x∈uo k,x.lt (kx k 2):=λx hx=>by obtain⟨i,_,rfl⟩:=bU.1 hx;refine⟨λq hq=>?_,λq hq=>by cases hq⟩;simp only[aX] at hq;subst hq;simp only[V.ltP,l0];decide
def rN:=jj @pkA @ptA
theorem aho {τ:Type} (Y:Ys τ) (p:Pol) (o:Option Fa) (hp:p.types.length<=9223372036854775806) (hr:p.rules.length<=9223372036854775806) (s:τ) (hF:Fut G Y s (fR p o)) :
 FnE Tryz.prog G 71 [.bp (kx Y.k 0) 0] (Y.yb s++[eng p o]) (Y.outT s (fR p o) [eng p o]):=by
 have dU:ltL (kx Y.k 1) [eng p o]:=aJ (cM Y.pos) cJ;refine HC (k:=Y.k) (m:=1) (rs:=[]) [1400034,1500041] mixed Tryz.func71 rfl rfl rfl rfl (by kernel_rfl) (by simp) PQ (Y.len s) (Y.lt s) rfl dU (bu (dZ (by decide)) eD) ?_;simp only[pkA,seval,pkB Y _];refine .inl (ahn NR rfl Xf rfl rfl rfl rfl rfl (by decide) (by decide) (L:=uo Y.k) rfl ?_);have hms:(V.ms (kx Y.k 1) 0 15 15 1).lt (kx Y.k 2):=by simp only[V.lt,l0];decide
 have alW:ltL (kx Y.k 2) [eng p o,uo Y.k]:=aJ (cM Y.pos) (aJ X5 cJ);simp only[rN,seval,pkB Y _,fw];refine bw (λx:Nat×τ=>hdS [(34,.ms (kx Y.k 1) 0 15 15 1),(35,i64 15),(36,i64 x.1)] (Y.yb x.2++[eng p o,uo Y.k])) (λx=>15 - x.1)
  (λx=>x.1<=15/\Fut G Y x.2 (KF p o x.1)/\∀ t b,Y.run x.2 (KF p o x.1) t b->Y.run s (fR p o) t b) (0,s) ⟨ar _,hF,λ_ _ h=>h⟩ ?_ ?_
 .exact X4 (by decide) rfl alW (eR hms (eR trivial (eR trivial uk))) (by simp[FL,ah])
 rintro⟨i,s'⟩ ⟨hi,A1,vZ⟩ R bL bO c8;simp only at hi A1 vZ;simp only[pkA,seval,pkB Y _,Bh];refine aD (λbE=>?_) (λfH=>?_)
 .have bE:i<15:=by simp at bE;omega
  rw[N2 bE] at A1 vZ;have hw:=bn (n:=(i:Int)+1) (k:=i+1) (by omega) (by omega);simp only[pkA,seval,pkB Y _];refine Wl NR rfl Xf rfl (by decide) (ay i) (by omega) ?_;have hld:∀ K,ldB (kx Y.k 2) (kx Y.k 1) (uo Y.k) (0+((i:Int)).toNat*1) K=K (.clo (.func (93+i)) [.bp (kx Y.k 0) 0] []):=λK=>by unfold ldB;rw[l0,show 0+((i:Int)).toNat*1=i by simp,X3 bE];simp only[ahm,Pl];exact propext ⟨λh=>h.2,λh=>⟨by decide,h⟩⟩
  have hml:cL (uo Y.k)=false:=rfl;simp only[rN,seval,pkB Y _,hld,hml];refine nW (ls:=[eng p o]) (rest:=[uo Y.k]) rfl (ahl Y p o hp hr i bE s' A1.app.1) rfl rfl λt' b' hR=>?_;simp only[pkA,seval,pkB Y _];refine aD (λhn=>?_) (λhn=>?_)
  .have hn:b'=false:=by simpa using hn
   subst hn;simp only[pkA,pkB Y _];refine c8 _ ?_;simp only[pkA,pkB Y _];exact HQ (vZ _ _ (Bg hR)) (rest:=[uo Y.k]) rfl rfl rfl dU
  .have hn:b'=true:=by simpa using hn
   subst hn;simp only[pkA,seval,pkB Y _];exact bL (i+1,t') _ ⟨by simp only;omega,A1.app.2 _ hR,λt b h=>vZ t b (Bf hR h)⟩ (by simp only;omega) (X4 (by decide) rfl alW (eR hms (eR trivial (eR trivial uk))) (by simp[FL,ah,hw]))
 .have:i=15:=by simp at fH;omega
  subst this;simp only[pkA,pkB Y _];refine bO _ _ ?_;simp only[pkA,seval,pkB Y _];exact HQ (vZ _ _ (.nil s')) (rest:=[uo Y.k]) rfl rfl rfl dU
theorem KG {o:Option (List V)} {l:List V} {K:V->Prop} (h:o=some l) (hK:K (.mag l)):E7 K o:=by subst h;exact hK
theorem N3 {τ:Type} {Y:Ys τ} {s:τ} {L:List In} {g:FuncId} {ls:List (List V)} {f:V} {args all cargs:List V} {n:Nat} {fr:Nat->V} {K:S->V->Prop} (hc:gz f args=some (g,all)) (hf:FnE Tryz.prog G g cargs (Y.yb s++ls) (Y.outT s L ls)) (eF:all.map V.fz=cargs)
 (hn:ls.length=n) (hK:∀ t b,Y.run s L t b->K ⟨fr,bxs (Y.yb t++ls),kx Y.k n⟩ (.tup [])):lj Tryz.prog G ⟨fr,bxs (Y.yb s++ls),kx Y.k n⟩ f args K:=by
 have:=Fe (rest:=[]) (n:=n) (fr:=fr) (K:=K) hc hf eF (Y.len s) (by simpa using hn) λr b1 h=>by obtain⟨t,b,hR,rfl,rfl⟩:=h;exact⟨Y.yb t,rfl,Y.len t,Y.lt t,λ_=>rfl,by simpa using hK t b hR⟩
 simpa using this
theorem acF {τ:Type} {Y:Ys τ} {s0 s:τ} {L:List In} {b:Bool} (hR:Y.run s0 L s b) {rest:List (List V)} {n:Nat} {fr:Nat->V} {e:VE} (he:rF e=true) (hn:rest.length=n):wH Tryz.prog (kx Y.k 0) (Y.outT s0 L []) [] e ⟨fr,bxs (Y.yb s++rest),kx Y.k n⟩:=by have:=HQ hR (ls:=[]) (rest:=rest) (m:=0) (n:=n) (fr:=fr) (e:=e) he rfl (by simpa using hn) cJ;simpa using this
theorem PS {τ:Type} (Y:Ys τ) (p:Pol) (hp:p.types.length<=9223372036854775806) (hr:p.rules.length<=9223372036854775806) (s:τ) (hF:Fut G Y s (fR p none)) :
 FnE Tryz.prog G 70 [.yl 0,.c (.rp (poC p) 0)] (Y.yb s) (λr b1=>∃ t b,Y.run s (fR p none) t b/\r=.tup []/\b1=Y.yb t):=by
 have h:FnE Tryz.prog G 70 [.yl 0,.c (.rp (poC p) 0)] (Y.yb s++[]) (Y.outT s (fR p none) []):=by refine HC (k:=Y.k) (m:=0) (rs:=[]) [1500010,2500008] mixed Tryz.func70 rfl rfl rfl rfl (by kernel_rfl) (by simp) PQ (Y.len s) (Y.lt s) rfl cJ (bu (by simpa[V.lt,kx] using Y.pos) (bu trivial eD)) ?_;simp only[pkA,ptA,pkE,seval,pkB Y _,br];refine KG (l:=eng p none) (by rw[show(p.types.map tyC).length=p.types.length from au ..];rfl) ?_;simp only[pkA,seval,pkB Y _,fw];refine N3 (ls:=[eng p none]) rfl (aho Y p none hp hr s hF) rfl rfl λt' b' hR=>?_;simp only[pkA,pkB Y _];exact acF hR rfl rfl
 have e:Y.outT s (fR p none) []=(λr b1=>∃ t b,Y.run s (fR p none) t b/\r=.tup []/\b1=Y.yb t):=by funext r b1;simp[Ys.outT]
 rw[e,br] at h;exact h
def X6 (p:Pol):V:=.c (.fn (.func 70) [] [.rp (poC p) 0])
theorem yi (p:Pol):FnOK Tryz.prog G 51 [.agg (poC p)] (X6 p):=by refine bI (rs:=[.tmp 2]) true [] mixed Tryz.func51 rfl rfl rfl rfl (by kernel_rfl) (by simp) rfl rfl ?_;simp only[pkA,seval,A8];rfl
theorem fV (v t:Int):FnOK Tryz.prog G 111 [i64 v,i64 t] (.agg (faC (bD v t))):=by refine bI (rs:=[.cell 4 54]) false [] mixed Tryz.func111 rfl rfl rfl rfl (by kernel_rfl) (by simp) rfl rfl ?_;simp only[rN,seval];exact⟨rfl,by decide,⟨rfl,rfl⟩,rfl⟩
theorem iK (v t:Int):FnOK Tryz.prog G 113 [i64 v,i64 t] (.agg (faC (iI v t))):=by refine bI (rs:=[.cell 4 54]) false [] mixed Tryz.func113 rfl rfl rfl rfl (by kernel_rfl) (by simp) rfl rfl ?_;simp only[rN,seval];exact⟨rfl,by decide,⟨rfl,rfl⟩,rfl⟩
theorem iL (s:Int):FnOK Tryz.prog G 81 [i64 s] (.agg (faC (iJ s))):=by refine bI (rs:=[.cell 2 54]) false [] mixed Tryz.func81 rfl rfl rfl rfl (by kernel_rfl) (by simp) rfl rfl ?_;simp only[rN,seval];exact⟨rfl,by decide,⟨rfl,rfl⟩,rfl⟩
theorem jE (s:Int):FnOK Tryz.prog G 82 [i64 s] (.agg (faC (wK s))):=by refine bI (rs:=[.cell 2 54]) false [] mixed Tryz.func82 rfl rfl rfl rfl (by kernel_rfl) (by simp) rfl rfl ?_;simp only[rN,seval];exact⟨rfl,by decide,⟨rfl,rfl⟩,rfl⟩
theorem N4 (a b:Int) (ha:I64 a):FnOK Tryz.prog G 117 [i64 a,i64 b] (bo (Ks a b)):=by refine bI (rs:=[.tmp 4]) false [] mixed Tryz.func117 rfl rfl rfl rfl (by kernel_rfl) (by simp) rfl rfl ?_;have hN:∀ K,nD .and .i64 a b K=K (i64 (bits .and .i64 a b)):=λ_=>rfl;simp only[pkA,seval,hN];unfold Ks;rw[ir.2 (NP (b:=b) ha)]
def FC:=jj @pkA (jj @ptA @pkF)
theorem ahp (p:Pol) (t:Int):FnOK Tryz.prog G 116 [.agg (poC p),i64 t] (bo (decide (0<=t)&&decide (t<p.types.length))):=by
 refine bI (rs:=[.tmp 4]) false [] mixed Tryz.func116 rfl rfl rfl rfl (by kernel_rfl) (by simp) rfl rfl ?_
 repeat' first
  |(simp only[FC,seval])
  |refine eT (λh=>?_) (λh=>?_)
 all_goals (simp_all<;>omega)
theorem PT (p:Pol) (t:Nat) (flags:Int) (hf:I64 flags) (hm:p.types.length<=9223372036854775807):FnOK Tryz.prog G 80 [.agg (poC p),i64 t,i64 flags] (bo (sy p t flags)):=by
 refine bI (rs:=[.tmp 6]) false [] mixed Tryz.func80 rfl rfl rfl rfl (by kernel_rfl) (by simp) rfl rfl ?_;simp only[FC,seval];refine az rfl (ahp p t) (λ_=>rfl) ?_;simp only[pkA,seval];refine eT (λh=>?_) (λh=>?_)
 .have ht:t<p.types.length:=by simpa using h
  simp only[FC,seval];refine dQ rJ rfl lE (by decide) (ay t) (c:=tyC p.types[t]) (by simp[ht]) rfl ?_;simp only[FC,seval];refine az rfl (N4 _ _ hf) (λ_=>rfl) ?_;simp only[pkA,seval];unfold sy;rw[ai ht]
 .have ht:¬ t<p.types.length:=by simpa using h
  simp only[pkA,seval];unfold sy;rw[bG (by omega)]
theorem sD {P:Program} {G:Gl} {s:S} {t d y:Nat} {v:Value} {E:Option (TypeId×Nat)} {es:List (List C)} {ts:List TypeId} {K:V->Prop} (h1:s.fr t=.c (.ex v)) (h2:s.fr d=.gh v E es) (h0:t≠d/\y≠t/\y≠d) (h:e9 P .append ts [.ow E es,vw s (s.fr y)] K) :
 ju P G s (some d) ts [.tmp t,.tmp y] K:=by
 unfold ju;simp only[h1,h2];exact⟨⟨h0.1,trivial,λe=>h0.2.1 (by cases e;rfl),λe=>h0.2.2 (by cases e;rfl)⟩,h⟩
def pkT:=@pkF
section
variable {f:Fa} {nb q:Nat} {K:V->Prop}
end
def pkQ:=@pkT
def KH:=jj @pkA (jj @ptA @pkQ)
theorem Ah (a b:Fa):FnOK Tryz.prog G 32 [.agg (faC a),.agg (faC b)] (i64 (vC a b)):=by
 refine bI (rs:=[.tmp 4]) false [] mixed Tryz.func32 rfl rfl rfl rfl (by kernel_rfl) (by simp) rfl rfl ?_;have e0:∀ x K,dI false 1 0 [cI x] K=K (i64 x):=λ_ _=>rfl;have low:∀ x y z:Int,V.ow (some (3,1)) [[cI x],[cI y],[cI z]]=.ow (some (3,1)) ([x,y,z].map λy=>[cI y]):=λ_ _ _=>rfl;simp only[KH,seval];unfold vC;obtain⟨xs,tG⟩:∃ xs,xs=[a.kind,a.a,a.b]:=⟨_,rfl⟩;obtain⟨ys,uG⟩:∃ ys,ys=[b.kind,b.a,b.b]:=⟨_,rfl⟩;obtain⟨cs,jf⟩:∃ cs,cs=[qw a.kind b.kind,qw a.a b.a,qw a.b b.b]:=⟨_,rfl⟩;have hxl:xs.length=3:=by rw[tG];rfl
 have hyl:ys.length=3:=by rw[uG];rfl
 have j4:cs.length=3:=by rw[jf];rfl
 have hc:∀ i (h:i<3),cs[i]'(by omega)=qw (xs[i]'(by omega)) (ys[i]'(by omega)):=λi h=>by
  subst tG uG jf
  match i,h with
  |0,_=>rfl
  |1,_=>rfl
  |2,_=>rfl
 have ZR:[[cI a.kind],[cI a.a],[cI a.b]]=xs.map λy=>[cI y]:=by rw[tG];rfl
 have hym:[[cI b.kind],[cI b.a],[cI b.b]]=ys.map λy=>[cI y]:=by rw[uG];rfl
 rw[<- jf];refine bw (λi:Nat=>hdS [(5,.ow (some (3,1)) (xs.map λy=>[cI y])),(6,.ow (some (3,1)) (ys.map λy=>[cI y])),(7,i64 i)] []) (λi=>3 - i) (λi=>i<=3/\orL cs=orL (cs.drop i)) 0 ⟨by omega,rfl⟩ ?_ ?_
 .refine cm rfl (ar _) (ar _) ?_ trivial
  rw[<- ZR,<- hym];simp[FL,ah,cI]
 rintro i ⟨hi,gy⟩ R bL bO c8;simp only[pkA,seval];refine aD (λbE=>?_) (λfH=>?_)
 .have bE:i<3:=by simp at bE;omega
  have hw:=bn (n:=(i:Int)+1) (k:=i+1) (by omega) (by omega);rw[dj (by omega)] at gy;have EF:i<xs.length:=by omega
  have Gf:i<ys.length:=by omega
  simp only[pkA,seval];refine dQ pX rfl mo (by decide) (ay i) (c:=[cI xs[i]]) (by simp[EF]) rfl ?_;simp only[rN,seval,e0];refine dQ pX rfl mo (by decide) (ay i) (c:=[cI ys[i]]) (by simp[Gf]) rfl ?_;simp only[rN,seval,e0];refine aD (λh1=>?_) (λh1=>?_)
  .have h1:xs[i]<ys[i]:=by simpa using h1
   simp only[pkA,seval];refine c8 _ ?_;simp only[pkA,seval];rw[gy];simp only[orL,hc i bE,qw,h1,cZ];rfl
  .have h1:¬ xs[i]<ys[i]:=by simpa using h1
   simp only[pkA,seval];refine dQ pX rfl mo (by decide) (ay i) (c:=[cI xs[i]]) (by simp[EF]) rfl ?_;simp only[rN,seval,e0];refine dQ pX rfl mo (by decide) (ay i) (c:=[cI ys[i]]) (by simp[Gf]) rfl ?_;simp only[rN,seval,e0];refine aD (λh2=>?_) (λh2=>?_)
   .have h2:ys[i]<xs[i]:=by simpa using h2
    simp only[pkA,seval];refine c8 _ ?_;simp only[pkA,seval];rw[gy];simp only[orL,hc i bE,qw,h1,h2,cZ,df];rfl
   .have h2:¬ ys[i]<xs[i]:=by simpa using h2
    simp only[pkA,seval];refine bL (i+1) _ ⟨bE,?_⟩ (by omega) (cm rfl (ar _) (ar _) ?_ trivial)
    .rw[gy]
     simp only[orL,hc i bE,qw,h1,h2,cZ,df]
    .simp[FL,ah,hw]
 .have:i=3:=by simp at fH;omega
  subst this;simp only[pkA];refine bO _ _ ?_;simp only[pkA,seval];rw[gy,List.drop_eq_nil_of_le (by omega)];rfl
def gj (p:Pol) (f:Fa):Bool:=
 if f.kind=1 then decide (0<=f.a)&&decide (f.a<=p.types.length)&&decide (0<=f.b)&&decide (f.b<p.types.length)
 else if f.kind=2 then decide (0<=f.a)&&decide (f.a<=p.types.length)&&decide (0<=f.b)&&decide (f.b<=p.types.length)
 else if f.kind=3∨f.kind=4 then decide (1<=f.a)&&decide (f.a<=p.types.length)&&decide (f.b=0)
 else false
theorem C3 (p:Pol) (f:Fa):FnOK Tryz.prog G 49 [.agg (poC p),.agg (faC f)] (bo (gj p f)):=by
 refine bI (rs:=[.tmp 4]) false [] mixed Tryz.func49 rfl rfl rfl rfl (by kernel_rfl) (by simp) rfl rfl ?_;have hb:∀ b:Bool,(b=true∨b=false):=λb=>by cases b<;>simp
 unfold gj
 repeat' first
  |(simp only[KH,seval])
  |refine eT (λh=>?_) (λh=>?_)
  |refine aD (λh=>?_) (λh=>?_)
 all_goals (simp only[au,bF,kf,dq] at *)
 all_goals (simp_all<;>omega)
theorem Tq (p:Pol) (f:Fa):FnOK Tryz.prog G 53 [.agg (poC p),.agg (faC f)] (bo (gj p f)):=by
 refine bI (rs:=[.tmp 4]) false [] mixed Tryz.func53 rfl rfl rfl rfl (by kernel_rfl) (by simp) rfl rfl ?_;have hb:∀ b:Bool,(b=true∨b=false):=λb=>by cases b<;>simp
 unfold gj
 repeat' first
  |(simp only[KH,seval])
  |refine eT (λh=>?_) (λh=>?_)
  |refine aD (λh=>?_) (λh=>?_)
 all_goals (simp only[au,bF,kf,dq] at *)
 all_goals (simp_all<;>omega)
theorem yj (a b:List Fa) (hm:a.length<=1000000000):FnOK Tryz.prog G 14 [.c (fsC a),.c (fsC b)] (bo (decide (a=b))):=by
 refine bI (rs:=[.tmp 4]) false [] mixed Tryz.func14 rfl rfl rfl rfl (by kernel_rfl) (by simp) rfl rfl ?_;simp only[rN,seval,fsC,au];refine aD (λgY=>?_) (λyJ=>?_)
 .have gY:a≠b:=by rintro rfl;simp at gY
  simp only[pkA,seval];rw[eK gY]
 .have cj:a.length=b.length:=by simp at yJ;omega
  simp only[pkA,seval];refine bw (λi:Nat=>hdS [(0,.c (.sl (a.map faC))),(1,.c (.sl (b.map faC))),(5,i64 i)] []) (λi=>a.length - i) (λi=>i<=a.length/\a.take i=b.take i) 0 ⟨ar _,rfl⟩ ?_ ?_
  .exact cm rfl (ar _) (ar _) (by simp[FL,ah]) trivial
  rintro i ⟨hi,ht⟩ R bL bO c8;simp only[rN,seval,au];refine aD (λbE=>?_) (λfH=>?_)
  .have bE:i<a.length:=by simpa using bE
   have hlb:i<b.length:=(by omega);have hw:=bn (n:=(i:Int)+1) (k:=i+1) (by omega) (by omega);simp only[pkA,seval];refine dQ eC rfl eS (by decide) (ay i) (c:=faC a[i]) (by simp[bE]) rfl ?_;simp only[FC,seval];refine dQ eC rfl eS (by decide) (ay i) (c:=faC b[i]) (by simp[hlb]) rfl ?_;simp only[FC,seval];refine aD (λhn=>?_) (λhy=>?_)
   .have hn:a≠b:=by rintro rfl;simp at hn
    simp only[pkA,seval];refine c8 _ ?_;simp only[pkA,seval];rw[eK hn]
   .have hy:a[i]=b[i]:=by simpa using hy
    simp only[pkA,seval];refine bL (i+1) _ ⟨bE,?_⟩ (by omega) (cm rfl (ar _) (ar _) (by simp[FL,ah,hw]) trivial);rw[aU bE,aU hlb,ht,hy]
  .have:i=a.length:=by simp at fH;omega
   subst this;simp only[pkA];refine bO _ _ ?_;simp only[pkA,seval];rw[bZ,cj,bZ] at ht;rw[dn ht]
theorem KI (l:List Fa) (f:Fa) (hm:l.length<=1000000000):FnOK Tryz.prog G 24 [.c (fsC l),.agg (faC f)] (bo (decide (f∈l))):=by
 refine bI (rs:=[.tmp 4]) false [] mixed Tryz.func24 rfl rfl rfl rfl (by kernel_rfl) (by simp) rfl rfl ?_;simp only[pkA,seval,fsC];refine bw (λi:Nat=>hdS [(0,.c (.sl (l.map faC))),(3,.bp 0 0),(5,i64 i)] [(faC f).map .c]) (λi=>l.length - i) (λi=>i<=l.length/\f∉l.take i) 0 ⟨ar _,by simp⟩ ?_ ?_
 .exact cm rfl (ar _) (ab _) (by simp[FL,ah]) (by simp[BL])
 rintro i ⟨hi,ht⟩ R bL bO c8;simp only[rN,seval,au];refine aD (λbE=>?_) (λfH=>?_)
 .have bE:i<l.length:=by simpa using bE
  have hw:=bn (n:=(i:Int)+1) (k:=i+1) (by omega) (by omega);simp only[pkA,seval];refine dQ eC rfl eS (by decide) (ay i) (c:=faC l[i]) (by simp[bE]) rfl ?_;simp only[KH,seval];refine aD (λhy=>?_) (λhn=>?_)
  .have hy:l[i]=f:=by simpa using hy
   simp only[pkA,seval];refine c8 _ ?_;simp only[pkA,seval];rw[dn (hy▸bR bE)]
  .have hn:¬ l[i]=f:=by simpa using hn
   simp only[pkA,seval];refine bL (i+1) _ ⟨bE,?_⟩ (by omega) (cm rfl (ar _) (ab _) (by simp[FL,ah,hw]) (by simp[BL,bxs]));rw[aU bE,ba,aX];rintro(h | h)
   .exact ht h
   .exact hn h.symm
 .have:i=l.length:=by simp at fH;omega
  subst this;simp only[pkA];refine bO _ _ ?_;simp only[pkA,seval];rw[bZ] at ht;rw[eK ht]
theorem X7 (l m:List Fa) (hl:l.length<=1000000000) (hm:m.length<=1000000000):FnOK Tryz.prog G 55 [.c (fsC l),.c (fsC m)] (bo (m.all λf=>decide (f∈l))):=by
 refine bI (rs:=[.tmp 4]) false [] mixed Tryz.func55 rfl rfl rfl rfl (by kernel_rfl) (by simp) rfl rfl ?_;simp only[pkA,seval];refine bw (λi:Nat=>hdS [(0,.c (fsC l)),(1,.c (fsC m)),(5,i64 i)] []) (λi=>m.length - i) (λi=>i<=m.length/\∀ f∈m.take i,f∈l) 0 ⟨ar _,by simp⟩ ?_ ?_
 .exact cm rfl (ar _) (ab _) (by simp[FL,ah]) trivial
 rintro i ⟨hi,ht⟩ R bL bO c8;have hml:∀ K,iR Tryz.prog 28 (.c (fsC m)) K=K (i64 m.length):=λK=>by unfold fsC;rw[NQ,au]
 simp only[pkA,seval,hml];refine aD (λbE=>?_) (λfH=>?_)
 .have bE:i<m.length:=by simpa using bE
  have hw:=bn (n:=(i:Int)+1) (k:=i+1) (by omega) (by omega);simp only[pkA,seval];refine dQ eC rfl eS (by decide) (ay i) (c:=faC m[i]) (by simp[bE]) rfl ?_;simp only[KH,seval];refine az rfl (KI l m[i] hl) (λ_=>rfl) ?_;simp only[pkA,seval];refine aD (λhy=>?_) (λhn=>?_)
  .have hy:m[i]∉l:=by simpa using hy
   simp only[pkA,seval];refine c8 _ ?_;simp only[pkA,seval];have:(m.all λf=>decide (f∈l))=false:=(by rw[List.all_eq_false];exact⟨m[i],bR bE,by simpa using hy⟩);rw[this]
  .have hn:m[i]∈l:=by simpa using hn
   simp only[pkA,seval];refine bL (i+1) _ ⟨bE,λf hf=>?_⟩ (by omega) (cm rfl (ar _) (ab _) (by simp[FL,ah,hw]) trivial);rw[aU bE,ba,aX] at hf;rcases hf with hf | rfl
   .exact ht f hf
   .exact hn
 .have:i=m.length:=by simp at fH;omega
  subst this;simp only[pkA];refine bO _ _ ?_;simp only[pkA,seval];rw[bZ] at ht;have:(m.all λf=>decide (f∈l))=true:=by rw[aY];exact λf hf=>by simpa using ht f hf
  rw[this]
