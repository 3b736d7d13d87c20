/- Layer 17: slices.Compact at facts; Sorted. -/
import Derived.Test.YtloppcgcepgbnaaGreatDoorVlH2
import Derived.Test.YtloppcgcepgbnaaGreatDoorVlFlb
import Derived.Test.YtloppcgcepgbnaaGreatDoorVlTree
set_option maxHeartbeats 4000000
set_option linter.all false
namespace Go.Proofs.YtloppcgcepgbnaaGreatDoor
open Go Go.Vl
variable {G:Gl}
set_option maxRecDepth 4000
section
variable {α:Type} [DecidableEq α]
def cpk (l:List α):Nat->List α
 |0=>[]
 |m+1=>match l[m]? with
  |none=>cpk l m
  |some x=>if 0<m/\l[m - 1]?=some x then cpk l m else cpk l m++[x]
def jd (l:List α):List α:=cpk l l.length
theorem rL {l:List α} {m:Nat} (hm:m<l.length) (h0:0<m) (h:l[m]=l[m - 1]'(by omega)):cpk l (m+1)=cpk l m:=by simp only[cpk,ai hm];rw[if_pos ⟨h0,by rw[ai (by omega),h]⟩]
theorem sB {l:List α} {m:Nat} (hm:m<l.length) (h:∀ h0:0<m,l[m]≠l[m - 1]'(by omega)):cpk l (m+1)=cpk l m++[l[m]]:=by simp only[cpk,ai hm];rw[if_neg];rintro⟨h0,h1⟩;rw[ai (by omega)] at h1;exact h h0 (by simpa using h1.symm)
theorem XT (l:List α):∀ m,(cpk l m).length<=m
 |0=>ab _
 |m+1=>by
  have:=XT l m;simp only[cpk];split
  .omega
  .split
   .omega
   .simp;omega
theorem Ku {l:List α} (h:l.length<2):jd l=l:=by
 unfold jd
 match l,h with
 |[],_=>rfl
 |[x],_=>simp[cpk]
end
def zf:Fa:=⟨0,0,0⟩
def vS:=jj @pkA @ptA
def aei:=jj @pkA @pkF
theorem NT (l:List Fa) (cap:Nat) (hc:l.length<=cap) (hm:l.length<=1000000000) :
 FnB Tryz.prog G 60 [.ms 0 0 l.length cap 3] [flb faC l] (.ms 0 0 (jd l).length cap 3) [flb faC (jd l++List.replicate (l.length - (jd l).length) zf)]:=by
 refine jM (rs:=[.tmp 2]) (k:=1) [3000001] mixed Tryz.func60 rfl rfl rfl rfl (by kernel_rfl) (by simp) rfl rfl rfl (WS rfl) (by simp) ?_;have fin:∀ (e:VE) (fr:Nat->V) (L:List Fa),rF e=true->L=jd l++List.replicate (l.length - (jd l).length) zf->fr 2=.ms 0 0 (jd l).length cap 3->∀ (k:Nat) (bx:Nat->List V),k<=1->bx 0=flb faC L->xN Tryz.prog k (.ms 0 0 (jd l).length cap 3) [flb faC (jd l++List.replicate (l.length - (jd l).length) zf)] [.tmp 2] e ⟨fr,bx,1⟩:=λe fr L he hL h k bx hk hb=>
  nK [(2,.ms 0 0 (jd l).length cap 3)] he (by simp only[iV,bh,bB,flb,gP];rfl) hk (ab _) ⟨h,trivial⟩ ⟨hL▸hb,trivial⟩ rfl
 simp only[vS,seval];refine aD (λbE=>?_) (λfH=>?_)
 .have hl2:l.length<2:=by simp at bE;omega
  have hcp:=Ku hl2;simp only[pkA,seval];exact fin _ _ l rfl (by rw[hcp];simp) (by simp[hcp]) _ _ (ab _) rfl
 .have hl2:2<=l.length:=by simp at fH;omega
  simp only[pkA,seval];refine bw (λk:Nat=>hdS [(0,.ms 0 0 l.length cap 3),(3,i64 k)] [flb faC l]) (λk=>l.length - k) (λk=>1<=k/\k<=l.length/\cpk l k=l.take k) 1 ⟨ab _,by omega,by rw[sB (by omega) (λh=>absurd h (Nat.lt_irrefl _))];simp[cpk,List.take_one,List.head?_eq_getElem?,ai (show 0<l.length by omega)]⟩ ?_ ?_
  .exact CC rfl (ab _) (ab _) (by simp[FL,ah]) rfl
  rintro k ⟨h1k,hkn,htk⟩ R bL bO c8;simp only[vS,seval];refine aD (λbE=>?_) (λfH=>?_)
  .have bE:k<l.length:=by simpa using bE
   have w1:=bn (n:=(k:Int) - 1) (k:=k - 1) (by omega) (by omega);simp only[pkA,seval];refine Hz eC rfl eS rfl (by decide) rfl bE ?_;simp only[vS,seval,jb,jb];refine CB kj rfl (ck 0) (ai bE) ?_;simp only[pkA,seval,w1];refine Hz eC rfl eS rfl (by decide) rfl (show k - 1<l.length by omega) ?_;simp only[vS,seval,jb,jb];refine CB kj rfl (ck 0) (ai (show k - 1<l.length by omega)) ?_;simp only[aei,seval];refine aD (λhy=>?_) (λhn=>?_)
   .have hy:l[k]=l[k - 1]'(by omega):=by simpa using hy
    simp only[pkA,seval];refine WU eC rfl eS rfl (l:=k) (h:=l.length) (m:=cap) rfl rfl rfl (by omega) hc (ab _) (λh=>by cases h) ?_;simp only[pkA,seval,aF];refine bw (λx:Nat×List Fa=>hdS [(0,.ms 0 0 l.length cap 3),(3,i64 (cpk l (k+x.1)).length),(4,.ms 0 (k*3) (l.length - k) (cap - k) 3),(5,i64 x.1)] [flb faC x.2]) (λx=>l.length - x.1)
     (λx=>1<=x.1/\k+x.1<=l.length/\x.2.length=l.length/\x.2.take (cpk l (k+x.1)).length=cpk l (k+x.1)/\(cpk l (k+x.1)).length<k+x.1/\∀ j,k+x.1 - 1<=j->x.2[j]?=l[j]?) (1,l)
     ⟨ab _,by simp only;omega,rfl,by simp only[rL bE h1k hy,htk];rw[aN,bS (by omega)],by simp only[rL bE h1k hy,htk];rw[aN,bS (by omega)];omega,λ_ _=>rfl⟩ ?_ ?_
    .refine CC rfl (ab _) (ab _) ?_ rfl
     have e1:((cpk l (k+1)).length:Int)=k:=(by rw[rL bE h1k hy,htk,aN,bS (by omega)]);simp[FL,ah,e1]
    rintro⟨q,L⟩ ⟨hq1,UB,hLl,hLt,ZT,hLj⟩ R2 Z3 aiF aoI;simp only at hq1 UB hLl hLt ZT hLj;simp only[vS,seval];refine aD (λyG=>?_) (λanR=>?_)
    .have yG:q<l.length - k:=by simp at yG;omega
     have hqk:k+q<l.length:=(by omega);have w2:=bn (n:=(q:Int) - 1) (k:=q - 1) (by omega) (by omega);have g1:L[k+q]?=some l[k+q]:=(by rw[hLj _ (by omega),ai hqk]);have g2:L[k+(q - 1)]?=some (l[k+q - 1]'(by omega)):=(by rw[hLj _ (by omega),ai (by omega)];simp only[show k+(q - 1)=k+q - 1 by omega]);simp only[pkA,seval];refine WV eC rfl eS rfl (by decide) rfl rfl yG ?_;simp only[vS,seval,jb,jb];refine CB kj rfl (ck 0) g1 ?_;simp only[pkA,seval,w2];refine WV eC rfl eS rfl (by decide) rfl rfl (show q - 1<l.length - k by omega) ?_;simp only[vS,seval,jb,jb];refine CB kj rfl (ck 0) g2 ?_;have wq:=bn (n:=(q:Int)+1) (k:=q+1) (by omega) (by omega);simp only[aei,seval];refine aD (λgY=>?_) (λyJ=>?_)
     .have gY:l[k+q]≠l[k+q - 1]'(by omega):=by simpa using gY
      have hcn:=sB (l:=l) hqk λ_=>gY;have wk:=bn (n:=((cpk l (k+q)).length:Int)+1) (k:=(cpk l (k+q)).length+1) (by omega) (by omega);simp only[pkA,seval];refine WV eC rfl eS rfl (by decide) rfl rfl yG ?_;simp only[vS,seval,jb,jb];refine CB kj rfl (ck 0) g1 ?_;simp only[pkA,seval];refine Hz eC rfl eS rfl (by decide) rfl (show(cpk l (k+q)).length<l.length by omega) ?_;obtain⟨s1,s2⟩:=stq (sz:=3) (c:=faC) kj (l:=L) (i:=(cpk l (k+q)).length) (y:=l[k+q]) (by omega) rfl;simp only[vS,seval,jb,jb,s1,s2,kj,wk,wq];refine Z3 (q+1,L.set (cpk l (k+q)).length l[k+q]) _ ⟨by simp only;omega,by simp only;omega,by simpa using hLl,?_,?_,λj hj=>?_⟩ (by simp only;omega) (CC rfl (ab _) (ab _) ?_ ?_)
      .simp only[<- dM,hcn,ae,bz]
       rw[JS (by omega),hLt]
      .simp only[<- dM,hcn,ae,bz];omega
      .simp only at hj ⊢
       rw[cX (by omega)];exact hLj _ (by omega)
      .have e1:((cpk l (k+(q+1))).length:Int)=(cpk l (k+q)).length+1:=by rw[<- dM,hcn];simp
       simp[FL,ah,e1]
      .simp[]
     .have yJ:l[k+q]=l[k+q - 1]'(by omega):=by simpa using yJ
      have hcn:=rL (l:=l) hqk (by omega) yJ;simp only[pkA,seval,wq];refine Z3 (q+1,L) _ ⟨by simp only;omega,by simp only;omega,hLl,?_,?_,λj hj=>?_⟩ (by simp only;omega) (CC rfl (ab _) (ab _) ?_ rfl)
      .simp only[<- dM,hcn];exact hLt
      .simp only[<- dM,hcn];omega
      .simp only at hj ⊢;exact hLj _ (by omega)
      .have e1:((cpk l (k+(q+1))).length:Int)=(cpk l (k+q)).length:=by rw[<- dM,hcn]
       simp[FL,ah,e1]
    .have hqe:k+q=l.length:=by simp at anR;omega
     have j4:cpk l (k+q)=jd l:=(by rw[hqe];rfl);rw[j4] at hLt ZT ⊢
     have ap5:(jd l).length<=l.length:=(by omega);simp only[pkA];refine aiF _ _ ?_;simp only[pkA,seval];refine WU eC rfl eS rfl (l:=(jd l).length) (h:=l.length) (m:=cap) rfl rfl rfl (by omega) hc (ab _) (λh=>by cases h) ?_;simp only[pkA,seval,aF];have hz:eP (flb faC L) ((jd l).length*3) ((List.replicate (l.length - (jd l).length) (faC zf)).flatten.map .c)=flb faC (jd l++List.replicate (l.length - (jd l).length) zf):=(by have h1:(List.replicate (l.length - (jd l).length) (faC zf)).flatten.map V.c=flb faC (List.replicate (l.length - (jd l).length) zf):=(by unfold flb;rw[List.map_replicate]);rw[h1,abB kj (by simp;omega),hLt];congr 1;rw[List.drop_eq_nil_of_le (by simp;omega),br]);refine Wj eC rfl eS rfl (z:=faC zf) rfl (by decide) rfl (ck 0) jb (by show(jd l).length*3+(l.length - (jd l).length)*3<=(flb faC L).length;rw[lV kj,hLl];omega) ?_;rw[show bxs [flb faC L] 0=flb faC L from rfl,hz];simp only[pkA,seval];refine WU eC rfl eS rfl (l:=0) (h:=(jd l).length) (m:=cap) rfl rfl rfl (by omega) (by omega) (ab _) (λh=>by cases h) ?_;simp only[pkA,seval,aF,Nat.sub_zero,Nat.zero_mul];refine c8 _ ?_;simp only[pkA];exact fin _ _ _ rfl rfl (by simp[]) _ _ (ab _) (by simp[])
   .have hn:l[k]≠l[k - 1]'(by omega):=by simpa using hn
    have wk:=bn (n:=(k:Int)+1) (k:=k+1) (by omega) (by omega);simp only[pkA,seval,wk];refine bL (k+1) _ ⟨by omega,bE,?_⟩ (by omega) (CC rfl (ab _) (ab _) ?_ rfl)
    .rw[sB bE λ_=>hn,htk,aU bE]
    .simp[FL,ah]
  .have:k=l.length:=by simp at fH;omega
   subst this;have j4:jd l=l:=(by unfold jd;rw[htk,bZ]);simp only[pkA];refine bO _ _ ?_;simp only[pkA,seval];exact fin _ _ l rfl (by rw[j4];simp) (by simp[j4]) _ _ (ab _) rfl
theorem Kv:FnOK Tryz.prog G 60 [.c (.sl [])] (.c (.sl [])):=by
 refine bI (rs:=[.tmp 2]) false [] mixed Tryz.func60 rfl rfl rfl rfl (by kernel_rfl) (by simp) rfl rfl ?_;simp only[vS,seval];refine aD (λbE=>?_) (λfH=>?_)
 .simp only[pkA,seval]
 .simp at fH
def eV (l:List Fa):List Fa:=jd (qK l)
theorem oC (l:List Fa):(eV l).length<=l.length:=by have:=XT (qK l) (qK l).length;rw[rK] at this;unfold eV jd;rw[rK];exact this
theorem Fv (l:List Fa) (hm:l.length<1000000000):FnOK Tryz.prog G 39 [.c (fsC l)] (.c (fsC (eV l))):=by
 by_cases gY:l=[]
 .subst gY
  refine bI (rs:=[.tmp 2]) false [] mixed Tryz.func39 rfl rfl rfl rfl (by kernel_rfl) (by simp) rfl rfl ?_;have hc:=Fq (G:=G) [] (by simp) (by decide);simp only[pkA,seval,fsC];refine az rfl hc (λh=>by cases h) ?_;simp only[pkA,seval];refine az rfl XR (λh=>by cases h) ?_;simp only[pkA,seval];refine az rfl Kv (λh=>by cases h) ?_;simp only[pkA,seval];have h0:eV []=[]:=by simp[eV,qK,jd,cpk]
  rw[h0];rfl
 .have aiE:l.map faC≠[]:=by simpa using gY
  refine bI (rs:=[.tmp 2]) true [1000005,1000007,1000009] mixed Tryz.func39 rfl rfl rfl rfl (by kernel_rfl) (by simp) rfl rfl ?_;have hc:=Tj (G:=G) (l.map faC) aiE (by intro e he;obtain⟨x,_,rfl⟩:=bU.1 he;rfl) (by simpa using hm);simp only[pkA,seval,fsC];refine uW rfl hc rfl ?_;have lu:(l.map faC).flatten.map V.c=flb faC l:=rfl;simp only[pkA,seval,lu,V.ren,u3,fQ,aF,au];refine eL rfl (aco Kt l (by omega) l.length (ab _)) rfl rfl rfl ?_;simp only[pkA,seval];have hC:=NT (G:=G) (qK l) l.length (by rw[rK];exact ab _) (by rw[rK];omega);rw[rK] at hC;refine eL rfl hC rfl rfl (by simp[]) ?_;simp only[pkA,seval,A8];have hv:=λfr=>E9 (fr:=fr) (bx:=up (up (up (λ_=>[]) 0 (flb faC l)) 0 (flb faC (qK l))) 0 (flb faC (jd (qK l)++List.replicate (l.length - (jd (qK l)).length) zf))) (nb:=1) (b:=0) (a:=0) (n:=(jd (qK l)).length) (o:=0) kj (ck 0) (cg _ _ _) rfl (by simp);simp only[ct,List.take_left] at hv;simp only[imm,hv];rfl
theorem sC {α:Type} {c:α->List C} {sz:Nat} (hc:∀ x,(c x).length=sz) (l:List α):∀ e∈l.map c,e.length=sz:=by intro e he;obtain⟨x,_,rfl⟩:=bU.1 he;exact hc x
def owF (l:List Fa):V:=.ow (if l.isEmpty then none else some (54,3)) (l.map faC)
theorem rf {l:List Fa}:(owF l).fz=.c (.sl (l.map faC)):=rfl
theorem ka {l:List Fa}:(owF l).isOw=true:=rfl
theorem Tm {l m:List Fa} {K:V->Prop} (h:l.length+m.length<=1000000000) (hK:K (owF (l++m))):dR Tryz.prog 28 (owF l) (.c (.sl (m.map faC))) K:=by
 unfold owF;rw[zd];refine⟨⟨by cases l<;>simp,sC kj _⟩,⟨by simp only[au];omega,by simp only[au];omega,sC kj _⟩,?_⟩;have e:(if(m.map faC).isEmpty=true then(if l.isEmpty=true then none else some (54,3)) else some (54,3))=if(l++m).isEmpty=true then none else some (54,3):=by cases l<;>cases m<;>simp
 rw[e,<- db];exact hK
theorem rM {l:List Fa} {x:Fa} {K:V->Prop} (h:l.length+1<=1000000000) (hK:K (owF (l++[x]))):dR Tryz.prog 28 (owF l) (.c (.sl [faC x])) K:=Tm (m:=[x]) h hK
def Tn (p:Pol) (n:Nat):List Fa:=if sy p n 64=true then[iJ ((n:Int)+1),wK ((n:Int)+1)] else[]
def yf (p:Pol):Nat->List Fa
 |0=>[]
 |n+1=>yf p n++Tn p n
theorem yg (p:Pol):∀ n,(yf p n).length<=2*n
 |0=>ab _
 |n+1=>by
  have:=yg p n;simp only[yf,ae];have:(Tn p n).length<=2:=by unfold Tn;split<;>simp
  omega
def rh (p:Pol):List Fa:=eV (yf p p.types.length)
def XU:=jj @pkA (jj @ptA @pkF)
theorem ag8 (p:Pol) (hm:p.types.length<=1000000):FnOK Tryz.prog G 56 [.agg (poC p)] (.c (fsC (rh p))):=by
 refine bI (rs:=[.tmp 2]) false [14] mixed Tryz.func56 rfl rfl rfl rfl (by kernel_rfl) (by simp) rfl rfl ?_;simp only[XU,seval];refine bw (λi:Nat=>hdS [(1,.bp 0 0),(3,owF (yf p i)),(7,i64 p.types.length),(8,i64 i)] [(poC p).map .c]) (λi=>p.types.length - i) (λi=>i<=p.types.length) 0 (ar _) ?_ ?_
 .refine cm rfl (ar _) (ab _) ?_ (by simp[BL])
  simp[FL,ah,yf,owF]
 rintro i hi R bL bO c8;simp only[pkA,seval];refine aD (λbE=>?_) (λfH=>?_)
 .have bE:i<p.types.length:=by simpa using bE
  simp only[XU,seval];refine az rfl (XQ p i 64 (by omega)) (λ_=>rfl) ?_;have wi:=bn (n:=(i:Int)+1) (k:=i+1) (by omega) (by omega);have e1:((i+1:Nat):Int)=(i:Int)+1:=by omega
  have OP:=yg p i;simp only[pkA,seval];refine aD (λhy=>?_) (λhn=>?_)
  .simp only[pkA,seval,ka,wi]
   refine az rfl (qI ((i+1:Nat):Int)) (λ_=>rfl) ?_;simp only[pkA,seval,wi];refine az rfl (XO ((i+1:Nat):Int)) (λ_=>rfl) ?_;simp only[XU,seval,dm];refine Tm (m:=[iJ ((i+1:Nat):Int),wK ((i+1:Nat):Int)]) (by simp;omega) ?_;simp only[pkA,seval,ka,wi];refine bL (i+1) _ bE (by omega) (cm rfl (ar _) (ab _) ?_ (by simp[BL,bxs]));have hb:yf p (i+1)=yf p i++[iJ ((i:Int)+1),wK ((i:Int)+1)]:=(by simp only[yf,Tn,hy];simp);simp[FL,ah,hb,e1]
  .simp only[pkA,seval,wi]
   refine bL (i+1) _ bE (by omega) (cm rfl (ar _) (ab _) ?_ (by simp[BL,bxs]));have hb:yf p (i+1)=yf p i:=(by simp only[yf,Tn,hn];simp);simp[FL,ah,hb,e1]
 .have:i=p.types.length:=by simp at fH;omega
  subst this;have OP:=yg p p.types.length;simp only[pkA];refine bO _ _ ?_;simp only[pkA,seval,rf];refine az rfl (Fv _ (by omega)) (λh=>by cases h) ?_;simp only[pkA,seval];rfl
structure Ys (τ:Type) where
 yb:τ->List (List V)
 k:Nat
 pos:0<k
 len:∀ s,(yb s).length=k
 lt:∀ s,ltL k (yb s)
 step:τ->In->τ->Bool->Prop
def Ys.ok (G:Gl) {τ:Type} (Y:Ys τ) (s:τ) (x:In):Prop:=YE Tryz.prog G [.agg (inC x)] (Y.yb s) (λr b1=>∃ t b,Y.step s x t b/\r=bo b/\b1=Y.yb t)
inductive Ys.run {τ:Type} (Y:Ys τ):τ->List In->τ->Bool->Prop
 |nil (s:τ):Y.run s [] s true
 |stop {s t:τ} {x:In} (l:List In):Y.step s x t false->Y.run s (x::l) t false
 |go {s t u:τ} {x:In} {l:List In} {b:Bool}:Y.step s x t true->Y.run t l u b->Y.run s (x::l) u b
def Fut (G:Gl) {τ:Type} (Y:Ys τ):τ->List In->Prop
 |_,[]=>True
 |s,x::l=>Y.ok G s x/\∀ t,Y.step s x t true->Fut G Y t l
theorem Bf {τ:Type} {Y:Ys τ} {s t u:τ} {a b:List In} {c:Bool} (h:Y.run s a t true) (h2:Y.run t b u c):Y.run s (a++b) u c:=by
 generalize hb:true=b0 at h;induction h with
 |nil=>exact h2
 |stop _ _=>cases hb
 |go h1 _ ih=>exact .go h1 (ih h2 hb)
theorem Bg {τ:Type} {Y:Ys τ} {s t:τ} {a b:List In} (h:Y.run s a t false):Y.run s (a++b) t false:=by
 generalize hb:false=b0 at h;induction h with
 |nil=>cases hb
 |stop _ h=>exact .stop _ h
 |go h1 _ ih=>exact .go h1 (ih hb)
theorem acp {τ:Type} {Y:Ys τ} {s t:τ} {x:In} {b:Bool} (h:Y.step s x t b):Y.run s [x] t b:=by
 cases b
 .exact .stop _ h
 .exact .go h (.nil _)
theorem Fut.app {τ:Type} {Y:Ys τ}:∀ {a b:List In} {s:τ},Fut G Y s (a++b)->Fut G Y s a/\∀ t,Y.run s a t true->Fut G Y t b
 |[],_,s,h=>⟨trivial,λt ht=>by cases ht;exact h⟩
 |x::a,b,s,h=>by
  have h1:∀ t,Y.step s x t true->Fut G Y t (a++b):=h.2;refine⟨⟨h.1,λt ht=>(h1 t ht).app.1⟩,λt ht=>?_⟩;cases ht with
  |go h2 h3=>exact(h1 _ h2).app.2 t h3
def Ys.out {τ:Type} (Y:Ys τ) (s:τ) (L:List In) (ls:List (List V)) (r:V) (b1:List (List V)):Prop:=∃ t b,Y.run s L t b/\r=bo b/\b1=Y.yb t++ls
abbrev FnR (G:Gl) {τ:Type} (Y:Ys τ) (f:FuncId) (args:List V) (s:τ) (L:List In) (ls:List (List V)):Prop:=FnE Tryz.prog G f args (Y.yb s++ls) (Y.out s L ls)
def CZ:Option Fa->C
 |none=>.lit (.pointer none)
 |some f=>.rp (faC f) 0
def eng (p:Pol) (o:Option Fa):List V:=[.c (cS p.name),.c (.sl (p.types.map tyC)),.c (.sl (p.rules.map ruC)),.c (.sl (p.quorums.map quC)),i64 p.types.length,.c (CZ o),.yl 0]
section
variable {p:Pol} {o:Option Fa} {n k:Nat} {K:V->Prop}
theorem aj3:ldA (kx k n) (kx k 0) (eng p o) 0 4 K=(0<n/\K (.agg (poC p))):=by unfold ldA;rw[l0];exact propext ⟨λh=>⟨h.1,h.2.2⟩,λh=>⟨h.1,⟨rfl,rfl⟩,h.2⟩⟩
theorem aj6:ldB (kx k n) (kx k 0) (eng p o) 2 K=(0<n/\K (.c (.sl (p.rules.map ruC)))):=by unfold ldB;rw[l0];rfl
theorem aj7:ldB (kx k n) (kx k 0) (eng p o) 4 K=(0<n/\K (i64 p.types.length)):=by unfold ldB;rw[l0];rfl
theorem aj8:ldB (kx k n) (kx k 0) (eng p o) 5 K=(0<n/\K (.c (CZ o))):=by unfold ldB;rw[l0];rfl
theorem aj9:ldB (kx k n) (kx k 0) (eng p o) 6 K=(0<n/\K (.yl 0)):=by unfold ldB;rw[l0];rfl
theorem ag9:cL (eng p o)=false:=rfl
theorem wN (hk:0<k):∀ x∈eng p o,x.lt k:=by
 intro x hx;simp only[eng,aP,aZ,cR] at hx;rcases hx with rfl | rfl | rfl | rfl | rfl | rfl | rfl<;>first | trivial | exact hk
end
def pkE:=jj @pkF (jj @aj3 (jj @aj6 (jj @aj7 (jj @aj8 (jj @aj9 @ag9)))))
theorem NU {k:Nat} {b:List V} (h:∀ x∈b,x.lt k) {m:Nat}:ltL (kx k m) [b]:=λc hc x hx=>by simp only[aX] at hc;subst hc;exact(h x hx).mono (by simp[kx])
theorem aka {K:V->Prop}:sX Tryz.prog .eql 104 false (.c (.lit (.pointer none))) K=K (bo true):=JC (b:=true) rfl (by kernel_rfl)
theorem aha {K:V->Prop}:sX Tryz.prog .neq 104 false (.c (.lit (.pointer none))) K=K (bo false):=JD (b:=true) rfl (by kernel_rfl)
theorem akb {f:Fa} {K:V->Prop}:sX Tryz.prog .eql 104 false (.c (.rp (faC f) 0)) K=K (bo false):=JC (b:=false) rfl (by kernel_rfl)
theorem ahb {f:Fa} {K:V->Prop}:sX Tryz.prog .neq 104 false (.c (.rp (faC f) 0)) K=K (bo true):=JD (b:=false) rfl (by kernel_rfl)
def pkN:=jj @aka (jj @aha (jj @akb @ahb))
def nU (o:Option Fa) (l:List Int):Bool:=match o with
 |none=>true
 |some f=>!decide (f.kind=1)||l.any λy=>decide (f.b=y)
def aej:=jj @pkA (jj @ptA (jj @pkE @pkN))
theorem Kx {τ:Type} (Y:Ys τ) (s:τ) (p:Pol) (o:Option Fa) (l:List Int) (hm:l.length<=9223372036854775807) :
 FnB Tryz.prog G 183 [.bp (kx Y.k 0) 0,.c (.sl (l.map λy=>[cI y]))] (Y.yb s++[eng p o]) (bo (nU o l)) (Y.yb s++[eng p o]):=by
 refine abx (k:=Y.k) (m:=1) (rs:=[.tmp 4]) [] mixed Tryz.func183 rfl rfl rfl rfl (by kernel_rfl) (by simp) rfl (Y.len s) (Y.len s) (Y.lt s) rfl (NU (wN Y.pos)) (λx hx=>?_) ?_
 .simp only[aP,aZ,cR] at hx
  rcases hx with rfl | rfl
  .simp[V.lt,kx]
  .trivial
 have fin:∀ (e:VE) (fr:Nat->V),rF e=true->fr 4=bo (nU o l)->xN Tryz.prog (kx Y.k 1) (bo (nU o l)) (Y.yb s++[eng p o]) [.tmp 4] e ⟨fr,bxs (Y.yb s++[eng p o]),kx Y.k 1⟩:=λe fr he h=>
  WL (rest:=[]) [(4,bo (nU o l))] he (Y.len s) (Y.lt s) rfl rfl (NU (wN Y.pos)) (by simp[V.lt]) (by simp[FL,h]) (by simp[hdS,frs,pR,up])
 cases o with
 |none=>simp only[aej,seval,bk0 (Y.len _),CZ];exact fin _ _ rfl (by simp[];rfl)
 |some f=>
  simp only[aej,seval,bk0 (Y.len _),CZ];refine eT (λh=>?_) (λh=>?_)
  .simp only[pkA,ptA,pkE,seval,bk0 (Y.len _),CZ]
   refine az rfl (HO l f.b hm) (λ_=>rfl) ?_;simp only[pkA,seval,bk0 (Y.len _)];exact fin _ _ rfl (by simp[nU,h])
  .simp only[pkA,seval,bk0 (Y.len _)]
   exact fin _ _ rfl (by simp[nU,h])
