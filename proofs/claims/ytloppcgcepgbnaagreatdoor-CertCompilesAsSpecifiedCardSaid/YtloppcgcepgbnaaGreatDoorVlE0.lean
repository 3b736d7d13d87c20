/- Layer 17: slices.Compact at facts; Sorted. -/
import Derived.Test.YtloppcgcepgbnaaGreatDoorVlH2
import Derived.Test.YtloppcgcepgbnaaGreatDoorVlFlb
import Derived.Test.YtloppcgcepgbnaaGreatDoorVlTree
set_option maxHeartbeats 4000000
set_option linter.all false
namespace Go.Proofs.YtloppcgcepgbnaaGreatDoor
open Go Go.Vl
variable {G:Gl}
set_option maxRecDepth 4000
section
variable {α:Type} [DecidableEq α]
def cpk (l:List α):Nat->List α
 |0=>[]
 |m+1=>match l[m]? with
  |none=>cpk l m
  |some x=>if 0<m/\l[m - 1]?=some x then cpk l m else cpk l m++[x]
def jf (l:List α):List α:=cpk l l.length
theorem r0 {l:List α} {m:Nat} (hm:m<l.length) (h0:0<m) (h:l[m]=l[m - 1]'(by omega)):cpk l (m+1)=cpk l m:=by simp only[cpk,ah hm];rw[if_pos ⟨h0,by rw[ah (by omega),h]⟩]
theorem sX {l:List α} {m:Nat} (hm:m<l.length) (h:∀ h0:0<m,l[m]≠l[m - 1]'(by omega)):cpk l (m+1)=cpk l m++[l[m]]:=by simp only[cpk,ah hm];rw[if_neg];rintro⟨h0,h1⟩;rw[ah (by omega)] at h1;exact h h0 (by simpa using h1.symm)
theorem Y6 (l:List α):∀ m,(cpk l m).length<=m
 |0=>ab _
 |m+1=>by
  have:=Y6 l m;simp only[cpk];split
  .omega
  .split
   .omega
   .simp;omega
theorem KO {l:List α} (h:l.length<2):jf l=l:=by
 unfold jf
 match l,h with
 |[],_=>rfl
 |[x],_=>simp[cpk]
end
def zf:Fa:=⟨0,0,0⟩
def v7:=jj @pkA @ptA
def agn:=jj @pkA @pkF
theorem Oq (l:List Fa) (cap:Nat) (hc:l.length<=cap) (hm:l.length<=1000000000) :
 FnB Tryz.prog G 60 [.ms 0 0 l.length cap 3] [flb faC l] (.ms 0 0 (jf l).length cap 3) [flb faC (jf l++List.replicate (l.length - (jf l).length) zf)]:=by
 refine jL (rs:=[.tmp 2]) (k:=1) [3000001] mixed Tryz.func60 rfl rfl rfl rfl (by kernel_rfl) (by simp) rfl rfl rfl (XI rfl) (by simp) ?_;have fin:∀ (e:VE) (fr:Nat->V) (L:List Fa),rV e=true->L=jf l++List.replicate (l.length - (jf l).length) zf->fr 2=.ms 0 0 (jf l).length cap 3->∀ (k:Nat) (bx:Nat->List V),k<=1->bx 0=flb faC L->x7 Tryz.prog k (.ms 0 0 (jf l).length cap 3) [flb faC (jf l++List.replicate (l.length - (jf l).length) zf)] [.tmp 2] e ⟨fr,bx,1⟩:=λe fr L he hL h k bx hk hb=>
  nO [(2,.ms 0 0 (jf l).length cap 3)] he (by simp only[gz,aY,bn,flb,gQ];rfl) hk (ab _) ⟨h,trivial⟩ ⟨hL▸hb,trivial⟩ rfl
 simp only[v7,seval];refine aD (λbF=>?_) (λfO=>?_)
 .have hl2:l.length<2:=by simp at bF;omega
  have hcp:=KO hl2;simp only[pkA,seval];exact fin _ _ l rfl (by rw[hcp];simp) (by simp[hcp]) _ _ (ab _) rfl
 .have hl2:2<=l.length:=by simp at fO;omega
  simp only[pkA,seval];refine bz (λk:Nat=>hdS [(0,.ms 0 0 l.length cap 3),(3,i64 k)] [flb faC l]) (λk=>l.length - k) (λk=>1<=k/\k<=l.length/\cpk l k=l.take k) 1 ⟨ab _,by omega,by rw[sX (by omega) (λh=>absurd h (Nat.lt_irrefl _))];simp[cpk,List.take_one,List.head?_eq_getElem?,ah (show 0<l.length by omega)]⟩ ?_ ?_
  .exact CC rfl (ab _) (ab _) (by simp[FL,aj]) rfl
  rintro k ⟨h1k,hkn,htk⟩ R bL bQ dq;simp only[v7,seval];refine aD (λbF=>?_) (λfO=>?_)
  .have bF:k<l.length:=by simpa using bF
   have w1:=br (n:=(k:Int) - 1) (k:=k - 1) (by omega) (by omega);simp only[pkA,seval];refine HI dY rfl eK rfl (by decide) rfl bF ?_;simp only[v7,seval,jc,jc];refine CB kf rfl (cd 0) (ah bF) ?_;simp only[pkA,seval,w1];refine HI dY rfl eK rfl (by decide) rfl (show k - 1<l.length by omega) ?_;simp only[v7,seval,jc,jc];refine CB kf rfl (cd 0) (ah (show k - 1<l.length by omega)) ?_;simp only[agn,seval];refine aD (λhy=>?_) (λhn=>?_)
   .have hy:l[k]=l[k - 1]'(by omega):=by simpa using hy
    simp only[pkA,seval];refine XK dY rfl eK rfl (l:=k) (h:=l.length) (m:=cap) rfl rfl rfl (by omega) hc (ab _) (λh=>by cases h) ?_;simp only[pkA,seval,aJ];refine bz (λx:Nat×List Fa=>hdS [(0,.ms 0 0 l.length cap 3),(3,i64 (cpk l (k+x.1)).length),(4,.ms 0 (k*3) (l.length - k) (cap - k) 3),(5,i64 x.1)] [flb faC x.2]) (λx=>l.length - x.1)
     (λx=>1<=x.1/\k+x.1<=l.length/\x.2.length=l.length/\x.2.take (cpk l (k+x.1)).length=cpk l (k+x.1)/\(cpk l (k+x.1)).length<k+x.1/\∀ j,k+x.1 - 1<=j->x.2[j]?=l[j]?) (1,l)
     ⟨ab _,by simp only;omega,rfl,by simp only[r0 bF h1k hy,htk];rw[aQ,bR (by omega)],by simp only[r0 bF h1k hy,htk];rw[aQ,bR (by omega)];omega,λ_ _=>rfl⟩ ?_ ?_
    .refine CC rfl (ab _) (ab _) ?_ rfl
     have e1:((cpk l (k+1)).length:Int)=k:=(by rw[r0 bF h1k hy,htk,aQ,bR (by omega)]);simp[FL,aj,e1]
    rintro⟨q,L⟩ ⟨hq1,U9,hLl,hLt,hkk,hLj⟩ R2 xp zP agZ;simp only at hq1 U9 hLl hLt hkk hLj;simp only[v7,seval];refine aD (λyM=>?_) (λaqU=>?_)
    .have yM:q<l.length - k:=by simp at yM;omega
     have hqk:k+q<l.length:=(by omega);have w2:=br (n:=(q:Int) - 1) (k:=q - 1) (by omega) (by omega);have g1:L[k+q]?=some l[k+q]:=(by rw[hLj _ (by omega),ah hqk]);have g2:L[k+(q - 1)]?=some (l[k+q - 1]'(by omega)):=(by rw[hLj _ (by omega),ah (by omega)];simp only[show k+(q - 1)=k+q - 1 by omega]);simp only[pkA,seval];refine XL dY rfl eK rfl (by decide) rfl rfl yM ?_;simp only[v7,seval,jc,jc];refine CB kf rfl (cd 0) g1 ?_;simp only[pkA,seval,w2];refine XL dY rfl eK rfl (by decide) rfl rfl (show q - 1<l.length - k by omega) ?_;simp only[v7,seval,jc,jc];refine CB kf rfl (cd 0) g2 ?_;have wq:=br (n:=(q:Int)+1) (k:=q+1) (by omega) (by omega);simp only[agn,seval];refine aD (λgZ=>?_) (λyQ=>?_)
     .have gZ:l[k+q]≠l[k+q - 1]'(by omega):=by simpa using gZ
      have hcn:=sX (l:=l) hqk λ_=>gZ;have wk:=br (n:=((cpk l (k+q)).length:Int)+1) (k:=(cpk l (k+q)).length+1) (by omega) (by omega);simp only[pkA,seval];refine XL dY rfl eK rfl (by decide) rfl rfl yM ?_;simp only[v7,seval,jc,jc];refine CB kf rfl (cd 0) g1 ?_;simp only[pkA,seval];refine HI dY rfl eK rfl (by decide) rfl (show(cpk l (k+q)).length<l.length by omega) ?_;obtain⟨s1,s2⟩:=stq (sz:=3) (c:=faC) kf (l:=L) (i:=(cpk l (k+q)).length) (y:=l[k+q]) (by omega) rfl;simp only[v7,seval,jc,jc,s1,s2,kf,wk,wq];refine xp (q+1,L.set (cpk l (k+q)).length l[k+q]) _ ⟨by simp only;omega,by simp only;omega,by simpa using hLl,?_,?_,λj hj=>?_⟩ (by simp only;omega) (CC rfl (ab _) (ab _) ?_ ?_)
      .simp only[<- dN,hcn,ae,bA]
       rw[J9 (by omega),hLt]
      .simp only[<- dN,hcn,ae,bA];omega
      .simp only at hj ⊢
       rw[da (by omega)];exact hLj _ (by omega)
      .have e1:((cpk l (k+(q+1))).length:Int)=(cpk l (k+q)).length+1:=by rw[<- dN,hcn];simp
       simp[FL,aj,e1]
      .simp[]
     .have yQ:l[k+q]=l[k+q - 1]'(by omega):=by simpa using yQ
      have hcn:=r0 (l:=l) hqk (by omega) yQ;simp only[pkA,seval,wq];refine xp (q+1,L) _ ⟨by simp only;omega,by simp only;omega,hLl,?_,?_,λj hj=>?_⟩ (by simp only;omega) (CC rfl (ab _) (ab _) ?_ rfl)
      .simp only[<- dN,hcn];exact hLt
      .simp only[<- dN,hcn];omega
      .simp only at hj ⊢;exact hLj _ (by omega)
      .have e1:((cpk l (k+(q+1))).length:Int)=(cpk l (k+q)).length:=by rw[<- dN,hcn]
       simp[FL,aj,e1]
    .have hqe:k+q=l.length:=by simp at aqU;omega
     have j8:cpk l (k+q)=jf l:=(by rw[hqe];rfl);rw[j8] at hLt hkk ⊢
     have as7:(jf l).length<=l.length:=(by omega);simp only[pkA];refine zP _ _ ?_;simp only[pkA,seval];refine XK dY rfl eK rfl (l:=(jf l).length) (h:=l.length) (m:=cap) rfl rfl rfl (by omega) hc (ab _) (λh=>by cases h) ?_;simp only[pkA,seval,aJ];have hz:eQ (flb faC L) ((jf l).length*3) ((List.replicate (l.length - (jf l).length) (faC zf)).flatten.map .c)=flb faC (jf l++List.replicate (l.length - (jf l).length) zf):=(by have h1:(List.replicate (l.length - (jf l).length) (faC zf)).flatten.map V.c=flb faC (List.replicate (l.length - (jf l).length) zf):=(by unfold flb;rw[List.map_replicate]);rw[h1,ac4 kf (by simp;omega),hLt];congr 1;rw[List.drop_eq_nil_of_le (by simp;omega),bq]);refine Xc dY rfl eK rfl (z:=faC zf) rfl (by decide) rfl (cd 0) jc (by show(jf l).length*3+(l.length - (jf l).length)*3<=(flb faC L).length;rw[lX kf,hLl];omega) ?_;rw[show bxs [flb faC L] 0=flb faC L from rfl,hz];simp only[pkA,seval];refine XK dY rfl eK rfl (l:=0) (h:=(jf l).length) (m:=cap) rfl rfl rfl (by omega) (by omega) (ab _) (λh=>by cases h) ?_;simp only[pkA,seval,aJ,Nat.sub_zero,Nat.zero_mul];refine dq _ ?_;simp only[pkA];exact fin _ _ _ rfl rfl (by simp[]) _ _ (ab _) (by simp[])
   .have hn:l[k]≠l[k - 1]'(by omega):=by simpa using hn
    have wk:=br (n:=(k:Int)+1) (k:=k+1) (by omega) (by omega);simp only[pkA,seval,wk];refine bL (k+1) _ ⟨by omega,bF,?_⟩ (by omega) (CC rfl (ab _) (ab _) ?_ rfl)
    .rw[sX bF λ_=>hn,htk,aT bF]
    .simp[FL,aj]
  .have:k=l.length:=by simp at fO;omega
   subst this;have j8:jf l=l:=(by unfold jf;rw[htk,bW]);simp only[pkA];refine bQ _ _ ?_;simp only[pkA,seval];exact fin _ _ l rfl (by rw[j8];simp) (by simp[j8]) _ _ (ab _) rfl
theorem KP:FnOK Tryz.prog G 60 [.c (.sl [])] (.c (.sl [])):=by
 refine bJ (rs:=[.tmp 2]) false [] mixed Tryz.func60 rfl rfl rfl rfl (by kernel_rfl) (by simp) rfl rfl ?_;simp only[v7,seval];refine aD (λbF=>?_) (λfO=>?_)
 .simp only[pkA,seval]
 .simp at fO
def eS (l:List Fa):List Fa:=jf (qU l)
theorem oL (l:List Fa):(eS l).length<=l.length:=by have:=Y6 (qU l) (qU l).length;rw[rZ] at this;unfold eS jf;rw[rZ];exact this
theorem FD (l:List Fa) (hm:l.length<1000000000):FnOK Tryz.prog G 39 [.c (fsC l)] (.c (fsC (eS l))):=by
 by_cases gZ:l=[]
 .subst gZ
  refine bJ (rs:=[.tmp 2]) false [] mixed Tryz.func39 rfl rfl rfl rfl (by kernel_rfl) (by simp) rfl rfl ?_;have hc:=FC (G:=G) [] (by simp) (by decide);simp only[pkA,seval,fsC];refine aC rfl hc (λh=>by cases h) ?_;simp only[pkA,seval];refine aC rfl Y5 (λh=>by cases h) ?_;simp only[pkA,seval];refine aC rfl KP (λh=>by cases h) ?_;simp only[pkA,seval];have h0:eS []=[]:=by simp[eS,qU,jf,cpk]
  rw[h0];rfl
 .have ale:l.map faC≠[]:=by simpa using gZ
  refine bJ (rs:=[.tmp 2]) true [1000005,1000007,1000009] mixed Tryz.func39 rfl rfl rfl rfl (by kernel_rfl) (by simp) rfl rfl ?_;have hc:=Uf (G:=G) (l.map faC) ale (by intro e he;obtain⟨x,_,rfl⟩:=bM.1 he;rfl) (by simpa using hm);simp only[pkA,seval,fsC];refine vj rfl hc rfl ?_;have lG:(l.map faC).flatten.map V.c=flb faC l:=rfl;simp only[pkA,seval,lG,V.ren,vo,fM,aJ,au];refine eJ rfl (aeu KN l (by omega) l.length (ab _)) rfl rfl rfl ?_;simp only[pkA,seval];have hC:=Oq (G:=G) (qU l) l.length (by rw[rZ];exact ab _) (by rw[rZ];omega);rw[rZ] at hC;refine eJ rfl hC rfl rfl (by simp[]) ?_;simp only[pkA,seval,Ba];have hv:=λfr=>Fb (fr:=fr) (bx:=up (up (up (λ_=>[]) 0 (flb faC l)) 0 (flb faC (qU l))) 0 (flb faC (jf (qU l)++List.replicate (l.length - (jf (qU l)).length) zf))) (nb:=1) (b:=0) (a:=0) (n:=(jf (qU l)).length) (o:=0) kf (cd 0) (b9 _ _ _) rfl (by simp);simp only[cx,List.take_left] at hv;simp only[imm,hv];rfl
theorem sY {α:Type} {c:α->List C} {sz:Nat} (hc:∀ x,(c x).length=sz) (l:List α):∀ e∈l.map c,e.length=sz:=by intro e he;obtain⟨x,_,rfl⟩:=bM.1 he;exact hc x
def owF (l:List Fa):V:=.ow (if l.isEmpty then none else some (54,3)) (l.map faC)
theorem uD {l:List Fa}:(owF l).fz=.c (.sl (l.map faC)):=rfl
theorem kG {l:List Fa}:(owF l).isOw=true:=rfl
theorem Ug {l m:List Fa} {K:V->Prop} (h:l.length+m.length<=1000000000) (hK:K (owF (l++m))):dS Tryz.prog 28 (owF l) (.c (.sl (m.map faC))) K:=by
 unfold owF;rw[zj];refine⟨⟨by cases l<;>simp,sY kf _⟩,⟨by simp only[au];omega,by simp only[au];omega,sY kf _⟩,?_⟩;have e:(if(m.map faC).isEmpty=true then(if l.isEmpty=true then none else some (54,3)) else some (54,3))=if(l++m).isEmpty=true then none else some (54,3):=by cases l<;>cases m<;>simp
 rw[e,<- dh];exact hK
theorem tJ {l:List Fa} {x:Fa} {K:V->Prop} (h:l.length+1<=1000000000) (hK:K (owF (l++[x]))):dS Tryz.prog 28 (owF l) (.c (.sl [faC x])) K:=Ug (m:=[x]) h hK
def Uh (p:Pol) (n:Nat):List Fa:=if sV p n 64=true then[iJ ((n:Int)+1),wT ((n:Int)+1)] else[]
def yq (p:Pol):Nat->List Fa
 |0=>[]
 |n+1=>yq p n++Uh p n
theorem yr (p:Pol):∀ n,(yq p n).length<=2*n
 |0=>ab _
 |n+1=>by
  have:=yr p n;simp only[yq,ae];have:(Uh p n).length<=2:=by unfold Uh;split<;>simp
  omega
def qG (p:Pol):List Fa:=eS (yq p p.types.length)
def Y7:=jj @pkA (jj @ptA @pkF)
theorem ajD (p:Pol) (hm:p.types.length<=1000000):FnOK Tryz.prog G 56 [.agg (poC p)] (.c (fsC (qG p))):=by
 refine bJ (rs:=[.tmp 2]) false [14] mixed Tryz.func56 rfl rfl rfl rfl (by kernel_rfl) (by simp) rfl rfl ?_;simp only[Y7,seval];refine bz (λi:Nat=>hdS [(1,.bp 0 0),(3,owF (yq p i)),(7,i64 p.types.length),(8,i64 i)] [(poC p).map .c]) (λi=>p.types.length - i) (λi=>i<=p.types.length) 0 (ar _) ?_ ?_
 .refine cg rfl (ar _) (ab _) ?_ (by simp[BL])
  simp[FL,aj,yq,owF]
 rintro i hi R bL bQ dq;simp only[pkA,seval];refine aD (λbF=>?_) (λfO=>?_)
 .have bF:i<p.types.length:=by simpa using bF
  simp only[Y7,seval];refine aC rfl (Y4 p i 64 (by omega)) (λ_=>rfl) ?_;have wi:=br (n:=(i:Int)+1) (k:=i+1) (by omega) (by omega);have e1:((i+1:Nat):Int)=(i:Int)+1:=by omega
  have Pv:=yr p i;simp only[pkA,seval];refine aD (λhy=>?_) (λhn=>?_)
  .simp only[pkA,seval,kG,wi]
   refine aC rfl (qS ((i+1:Nat):Int)) (λ_=>rfl) ?_;simp only[pkA,seval,wi];refine aC rfl (Y3 ((i+1:Nat):Int)) (λ_=>rfl) ?_;simp only[Y7,seval,dx];refine Ug (m:=[iJ ((i+1:Nat):Int),wT ((i+1:Nat):Int)]) (by simp;omega) ?_;simp only[pkA,seval,kG,wi];refine bL (i+1) _ bF (by omega) (cg rfl (ar _) (ab _) ?_ (by simp[BL,bxs]));have hb:yq p (i+1)=yq p i++[iJ ((i:Int)+1),wT ((i:Int)+1)]:=(by simp only[yq,Uh,hy];simp);simp[FL,aj,hb,e1]
  .simp only[pkA,seval,wi]
   refine bL (i+1) _ bF (by omega) (cg rfl (ar _) (ab _) ?_ (by simp[BL,bxs]));have hb:yq p (i+1)=yq p i:=(by simp only[yq,Uh,hn];simp);simp[FL,aj,hb,e1]
 .have:i=p.types.length:=by simp at fO;omega
  subst this;have Pv:=yr p p.types.length;simp only[pkA];refine bQ _ _ ?_;simp only[pkA,seval,uD];refine aC rfl (FD _ (by omega)) (λh=>by cases h) ?_;simp only[pkA,seval];rfl
structure Ys (τ:Type) where
 yb:τ->List (List V)
 k:Nat
 pos:0<k
 len:∀ s,(yb s).length=k
 lt:∀ s,ltL k (yb s)
 step:τ->In->τ->Bool->Prop
def Ys.ok (G:Gl) {τ:Type} (Y:Ys τ) (s:τ) (x:In):Prop:=YE Tryz.prog G [.agg (inC x)] (Y.yb s) (λr b1=>∃ t b,Y.step s x t b/\r=bo b/\b1=Y.yb t)
inductive Ys.run {τ:Type} (Y:Ys τ):τ->List In->τ->Bool->Prop
 |nil (s:τ):Y.run s [] s true
 |stop {s t:τ} {x:In} (l:List In):Y.step s x t false->Y.run s (x::l) t false
 |go {s t u:τ} {x:In} {l:List In} {b:Bool}:Y.step s x t true->Y.run t l u b->Y.run s (x::l) u b
def Fut (G:Gl) {τ:Type} (Y:Ys τ):τ->List In->Prop
 |_,[]=>True
 |s,x::l=>Y.ok G s x/\∀ t,Y.step s x t true->Fut G Y t l
theorem Bh {τ:Type} {Y:Ys τ} {s t u:τ} {a b:List In} {c:Bool} (h:Y.run s a t true) (h2:Y.run t b u c):Y.run s (a++b) u c:=by
 generalize hb:true=b0 at h;induction h with
 |nil=>exact h2
 |stop _ _=>cases hb
 |go h1 _ ih=>exact .go h1 (ih h2 hb)
theorem Bi {τ:Type} {Y:Ys τ} {s t:τ} {a b:List In} (h:Y.run s a t false):Y.run s (a++b) t false:=by
 generalize hb:false=b0 at h;induction h with
 |nil=>cases hb
 |stop _ h=>exact .stop _ h
 |go h1 _ ih=>exact .go h1 (ih hb)
theorem aev {τ:Type} {Y:Ys τ} {s t:τ} {x:In} {b:Bool} (h:Y.step s x t b):Y.run s [x] t b:=by
 cases b
 .exact .stop _ h
 .exact .go h (.nil _)
theorem Fut.app {τ:Type} {Y:Ys τ}:∀ {a b:List In} {s:τ},Fut G Y s (a++b)->Fut G Y s a/\∀ t,Y.run s a t true->Fut G Y t b
 |[],_,s,h=>⟨trivial,λt ht=>by cases ht;exact h⟩
 |x::a,b,s,h=>by
  have h1:∀ t,Y.step s x t true->Fut G Y t (a++b):=h.2;refine⟨⟨h.1,λt ht=>(h1 t ht).app.1⟩,λt ht=>?_⟩;cases ht with
  |go h2 h3=>exact(h1 _ h2).app.2 t h3
def Ys.out {τ:Type} (Y:Ys τ) (s:τ) (L:List In) (ls:List (List V)) (r:V) (b1:List (List V)):Prop:=∃ t b,Y.run s L t b/\r=bo b/\b1=Y.yb t++ls
abbrev FnR (G:Gl) {τ:Type} (Y:Ys τ) (f:FuncId) (args:List V) (s:τ) (L:List In) (ls:List (List V)):Prop:=FnE Tryz.prog G f args (Y.yb s++ls) (Y.out s L ls)
def C0:Option Fa->C
 |none=>.lit (.pointer none)
 |some f=>.rp (faC f) 0
def eng (p:Pol) (o:Option Fa):List V:=[.c (cS p.name),.c (.sl (p.types.map tyC)),.c (.sl (p.rules.map ruC)),.c (.sl (p.quorums.map quC)),i64 p.types.length,.c (C0 o),.yl 0]
section
variable {p:Pol} {o:Option Fa} {n k:Nat} {K:V->Prop}
theorem amP:ldA (kx k n) (kx k 0) (eng p o) 0 4 K=(0<n/\K (.agg (poC p))):=by unfold ldA;rw[kU];exact propext ⟨λh=>⟨h.1,h.2.2⟩,λh=>⟨h.1,⟨rfl,rfl⟩,h.2⟩⟩
theorem amQ:ldB (kx k n) (kx k 0) (eng p o) 2 K=(0<n/\K (.c (.sl (p.rules.map ruC)))):=by unfold ldB;rw[kU];rfl
theorem amR:ldB (kx k n) (kx k 0) (eng p o) 4 K=(0<n/\K (i64 p.types.length)):=by unfold ldB;rw[kU];rfl
theorem amS:ldB (kx k n) (kx k 0) (eng p o) 5 K=(0<n/\K (.c (C0 o))):=by unfold ldB;rw[kU];rfl
theorem amT:ldB (kx k n) (kx k 0) (eng p o) 6 K=(0<n/\K (.yl 0)):=by unfold ldB;rw[kU];rfl
theorem ajE:ck (eng p o)=false:=rfl
theorem wW (hk:0<k):∀ x∈eng p o,x.lt k:=by
 intro x hx;simp only[eng,aN,bf,cR] at hx;rcases hx with rfl | rfl | rfl | rfl | rfl | rfl | rfl<;>first | trivial | exact hk
end
def pkE:=jj @pkF (jj @amP (jj @amQ (jj @amR (jj @amS (jj @amT @ajE)))))
theorem Ot {k:Nat} {b:List V} (h:∀ x∈b,x.lt k) {m:Nat}:ltL (kx k m) [b]:=λc hc x hx=>by simp only[aX] at hc;subst hc;exact(h x hx).mono (by simp[kx])
theorem amU {K:V->Prop}:rO Tryz.prog .eql 104 false (.c (.lit (.pointer none))) K=K (bo true):=JK (b:=true) rfl (by kernel_rfl)
theorem ajF {K:V->Prop}:rO Tryz.prog .neq 104 false (.c (.lit (.pointer none))) K=K (bo false):=JL (b:=true) rfl (by kernel_rfl)
theorem amV {f:Fa} {K:V->Prop}:rO Tryz.prog .eql 104 false (.c (.rp (faC f) 0)) K=K (bo false):=JK (b:=false) rfl (by kernel_rfl)
theorem ajG {f:Fa} {K:V->Prop}:rO Tryz.prog .neq 104 false (.c (.rp (faC f) 0)) K=K (bo true):=JL (b:=false) rfl (by kernel_rfl)
def pkN:=jj @amU (jj @ajF (jj @amV @ajG))
def n0 (o:Option Fa) (l:List Int):Bool:=match o with
 |none=>true
 |some f=>!decide (f.kind=1)||l.any λy=>decide (f.b=y)
def ago:=jj @pkA (jj @ptA (jj @pkE @pkN))
theorem KQ {τ:Type} (Y:Ys τ) (s:τ) (p:Pol) (o:Option Fa) (l:List Int) (hm:l.length<=9223372036854775807) :
 FnB Tryz.prog G 183 [.bp (kx Y.k 0) 0,.c (.sl (l.map λy=>[cI y]))] (Y.yb s++[eng p o]) (bo (n0 o l)) (Y.yb s++[eng p o]):=by
 refine ac0 (k:=Y.k) (m:=1) (rs:=[.tmp 4]) [] mixed Tryz.func183 rfl rfl rfl rfl (by kernel_rfl) (by simp) rfl (Y.len s) (Y.len s) (Y.lt s) rfl (Ot (wW Y.pos)) (λx hx=>?_) ?_
 .simp only[aN,bf,cR] at hx
  rcases hx with rfl | rfl
  .simp[V.lt,kx]
  .trivial
 have fin:∀ (e:VE) (fr:Nat->V),rV e=true->fr 4=bo (n0 o l)->x7 Tryz.prog (kx Y.k 1) (bo (n0 o l)) (Y.yb s++[eng p o]) [.tmp 4] e ⟨fr,bxs (Y.yb s++[eng p o]),kx Y.k 1⟩:=λe fr he h=>
  XB (rest:=[]) [(4,bo (n0 o l))] he (Y.len s) (Y.lt s) rfl rfl (Ot (wW Y.pos)) (by simp[V.lt]) (by simp[FL,h]) (by simp[hdS,frs,pZ,up])
 cases o with
 |none=>simp only[ago,seval,bk0 (Y.len _),C0];exact fin _ _ rfl (by simp[];rfl)
 |some f=>
  simp only[ago,seval,bk0 (Y.len _),C0];refine fy (λh=>?_) (λh=>?_)
  .simp only[pkA,ptA,pkE,seval,bk0 (Y.len _),C0]
   refine aC rfl (HZ l f.b hm) (λ_=>rfl) ?_;simp only[pkA,seval,bk0 (Y.len _)];exact fin _ _ rfl (by simp[n0,h])
  .simp only[pkA,seval,bk0 (Y.len _)]
   exact fin _ _ rfl (by simp[n0,h])
