/- Layer 17: slices.Compact at facts; Sorted. -/
import Derived.Test.YtloppcgcepgbnaaGreatDoorVlH2
import Derived.Test.YtloppcgcepgbnaaGreatDoorVlFlb
import Derived.Test.YtloppcgcepgbnaaGreatDoorVlTree
set_option maxHeartbeats 4000000
set_option linter.all false
namespace Go.Proofs.YtloppcgcepgbnaaGreatDoor
open Go Go.Vl
variable {G:Gl}
set_option maxRecDepth 4000
section
variable {α:Type} [DecidableEq α]
def cpk (l:List α):Nat→List α
 |0=>[]
 |m+1=>match l[m]? with
  |none=>cpk l m
  |some x=>if 0<m∧l[m - 1]?=some x then cpk l m else cpk l m++[x]
def jc (l:List α):List α:=cpk l l.length
theorem rD {l:List α} {m:Nat} (hm:m<l.length) (h0:0<m) (h:l[m]=l[m - 1]'(by omega)):cpk l (m+1)=cpk l m:=by
 simp only[cpk,ab hm]
 rw[if_pos ⟨h0,by rw[ab (by omega),h]⟩]
theorem su {l:List α} {m:Nat} (hm:m<l.length) (h:∀ h0:0<m,l[m]≠l[m - 1]'(by omega)):cpk l (m+1)=cpk l m++[l[m]]:=by
 simp only[cpk,ab hm]
 rw[if_neg]
 rintro⟨h0,h1⟩
 rw[ab (by omega)] at h1
 exact h h0 (by simpa using h1.symm)
theorem Yg (l:List α):∀ m,(cpk l m).length≤m
 |0=>ar _
 |m+1=>by
  have:=Yg l m
  simp only[cpk]
  split
  ·omega
  ·split
   ·omega
   ·simp;omega
theorem J0 {l:List α} (h:l.length<2):jc l=l:=by
 unfold jc
 match l,h with
 |[],_=>rfl
 |[x],_=>simp[cpk]
end
def zf:Fa:=⟨0,0,0⟩
def vQ:=jj @pkA @ptA
def afO:=jj @pkA @pkF
theorem NT (l:List Fa) (cap:Nat) (hc:l.length≤cap) (hm:l.length≤1000000000) :
 FnB Tryz.prog G 60 [.ms 0 0 l.length cap 3] [flb faC l] (.ms 0 0 (jc l).length cap 3) [flb faC (jc l++List.replicate (l.length - (jc l).length) zf)]:=by
 refine mc (rs:=[.tmp 2]) (k:=1) [3000001] mixed Tryz.func60 rfl rfl rfl rfl (by kernel_rfl) (by simp) rfl rfl rfl (WX rfl) (by simp) ?_
 have fin:∀ (e:VE) (fr:Nat→V) (L:List Fa),tR e=true→L=jc l++List.replicate (l.length - (jc l).length) zf→fr 2=.ms 0 0 (jc l).length cap 3→∀ (k:Nat) (bx:Nat→List V),k≤1→bx 0=flb faC L→Ar Tryz.prog k (.ms 0 0 (jc l).length cap 3) [flb faC (jc l++List.replicate (l.length - (jc l).length) zf)] [.tmp 2] e ⟨fr,bx,1⟩:=fun e fr L he hL h k bx hk hb=>
  pL [(2,.ms 0 0 (jc l).length cap 3)] he (by simp only[jq,bh,bG,flb,fR];rfl) hk (ar _) ⟨h,trivial⟩ ⟨hL▸hb,trivial⟩ rfl
 simp only[vQ,seval]
 refine aS (fun bV=>?_) (fun jA=>?_)
 ·have hl2:l.length<2:=by simp at bV;omega
  have hcp:=J0 hl2
  simp only[pkA,seval]
  exact fin _ _ l rfl (by rw[hcp];simp) (by simp[hcp]) _ _ (ar _) rfl
 ·have hl2:2≤l.length:=by simp at jA;omega
  simp only[pkA,seval]
  refine cx (fun k:Nat=>hdS [(0,.ms 0 0 l.length cap 3),(3,i64 k)] [flb faC l]) (fun k=>l.length - k) (fun k=>1≤k∧k≤l.length∧cpk l k=l.take k) 1 ⟨ar _,by omega,by rw[su (by omega) (fun h=>absurd h (Nat.lt_irrefl _))];simp[cpk,List.take_one,List.head?_eq_getElem?,ab (show 0<l.length by omega)]⟩ ?_ ?_
  ·exact BU rfl (ar _) (ar _) (by simp[FL,ao]) rfl
  rintro k ⟨h1k,hkn,htk⟩ R cE cC dV
  simp only[vQ,seval]
  refine aS (fun bV=>?_) (fun jA=>?_)
  ·have bV:k<l.length:=by simpa using bV
   have w1:=cd (n:=(k:Int) - 1) (k:=k - 1) (by omega) (by omega)
   simp only[pkA,seval]
   refine yV eO rfl eV rfl (by decide) rfl bV ?_
   simp only[vQ,seval,gw,gw]
   refine BS jQ rfl (dN 0) (ab bV) ?_
   simp only[pkA,seval,w1]
   refine yV eO rfl eV rfl (by decide) rfl (show k - 1<l.length by omega) ?_
   simp only[vQ,seval,gw,gw]
   refine BS jQ rfl (dN 0) (ab (show k - 1<l.length by omega)) ?_
   simp only[afO,seval]
   refine aS (fun hy=>?_) (fun hn=>?_)
   ·have hy:l[k]=l[k - 1]'(by omega):=by simpa using hy
    simp only[pkA,seval]
    refine WZ eO rfl eV rfl (l:=k) (h:=l.length) (m:=cap) rfl rfl rfl (by omega) hc (ar _) (fun h=>by cases h) ?_
    simp only[pkA,seval,aK]
    refine cx (fun x:Nat×List Fa=>hdS [(0,.ms 0 0 l.length cap 3),(3,i64 (cpk l (k+x.1)).length),(4,.ms 0 (k*3) (l.length - k) (cap - k) 3),(5,i64 x.1)] [flb faC x.2]) (fun x=>l.length - x.1)
     (fun x=>1≤x.1∧k+x.1≤l.length∧x.2.length=l.length∧x.2.take (cpk l (k+x.1)).length=cpk l (k+x.1)∧(cpk l (k+x.1)).length<k+x.1∧∀ j,k+x.1 - 1≤j→x.2[j]?=l[j]?) (1,l)
     ⟨ar _,by simp only;omega,rfl,by simp only[rD bV h1k hy,htk];rw[aG,bI (by omega)],by simp only[rD bV h1k hy,htk];rw[aG,bI (by omega)];omega,fun _ _=>rfl⟩ ?_ ?_
    ·refine BU rfl (ar _) (ar _) ?_ rfl
     have e1:((cpk l (k+1)).length:Int)=k:=by rw[rD bV h1k hy,htk,aG,bI (by omega)]
     simp[FL,ao,e1]
    rintro⟨q,L⟩ ⟨hq1,Un,hLl,hLt,hkk,hLj⟩ R2 aar akq aqI
    simp only at hq1 Un hLl hLt hkk hLj
    simp only[vQ,seval]
    refine aS (fun yz=>?_) (fun ap0=>?_)
    ·have yz:q<l.length - k:=by simp at yz;omega
     have hqk:k+q<l.length:=by omega
     have w2:=cd (n:=(q:Int) - 1) (k:=q - 1) (by omega) (by omega)
     have g1:L[k+q]?=some l[k+q]:=by rw[hLj _ (by omega),ab hqk]
     have g2:L[k+(q - 1)]?=some (l[k+q - 1]'(by omega)):=by rw[hLj _ (by omega),ab (by omega)];simp only[show k+(q - 1)=k+q - 1 by omega]
     simp only[pkA,seval]
     refine W1 eO rfl eV rfl (by decide) rfl rfl yz ?_
     simp only[vQ,seval,gw,gw]
     refine BS jQ rfl (dN 0) g1 ?_
     simp only[pkA,seval,w2]
     refine W1 eO rfl eV rfl (by decide) rfl rfl (show q - 1<l.length - k by omega) ?_
     simp only[vQ,seval,gw,gw]
     refine BS jQ rfl (dN 0) g2 ?_
     have wq:=cd (n:=(q:Int)+1) (k:=q+1) (by omega) (by omega)
     simp only[afO,seval]
     refine aS (fun gK=>?_) (fun yC=>?_)
     ·have gK:l[k+q]≠l[k+q - 1]'(by omega):=by simpa using gK
      have hcn:=su (l:=l) hqk fun _=>gK
      have wk:=cd (n:=((cpk l (k+q)).length:Int)+1) (k:=(cpk l (k+q)).length+1) (by omega) (by omega)
      simp only[pkA,seval]
      refine W1 eO rfl eV rfl (by decide) rfl rfl yz ?_
      simp only[vQ,seval,gw,gw]
      refine BS jQ rfl (dN 0) g1 ?_
      simp only[pkA,seval]
      refine yV eO rfl eV rfl (by decide) rfl (show(cpk l (k+q)).length<l.length by omega) ?_
      obtain⟨s1,s2⟩:=stq (sz:=3) (c:=faC) jQ (l:=L) (i:=(cpk l (k+q)).length) (y:=l[k+q]) (by omega) rfl
      simp only[vQ,seval,gw,gw,s1,s2,jQ,wk,wq]
      refine aar (q+1,L.set (cpk l (k+q)).length l[k+q]) _ ⟨by simp only;omega,by simp only;omega,by simpa using hLl,?_,?_,fun j hj=>?_⟩ (by simp only;omega) (BU rfl (ar _) (ar _) ?_ ?_)
      ·simp only[← dI,hcn,aj,bN]
       rw[JC (by omega),hLt]
      ·simp only[← dI,hcn,aj,bN];omega
      ·simp only at hj ⊢
       rw[cV (by omega)];exact hLj _ (by omega)
      ·have e1:((cpk l (k+(q+1))).length:Int)=(cpk l (k+q)).length+1:=by rw[← dI,hcn];simp
       simp[FL,ao,e1]
      ·simp[]
     ·have yC:l[k+q]=l[k+q - 1]'(by omega):=by simpa using yC
      have hcn:=rD (l:=l) hqk (by omega) yC
      simp only[pkA,seval,wq]
      refine aar (q+1,L) _ ⟨by simp only;omega,by simp only;omega,hLl,?_,?_,fun j hj=>?_⟩ (by simp only;omega) (BU rfl (ar _) (ar _) ?_ rfl)
      ·simp only[← dI,hcn];exact hLt
      ·simp only[← dI,hcn];omega
      ·simp only at hj ⊢;exact hLj _ (by omega)
      ·have e1:((cpk l (k+(q+1))).length:Int)=(cpk l (k+q)).length:=by rw[← dI,hcn]
       simp[FL,ao,e1]
    ·have hqe:k+q=l.length:=by simp at ap0;omega
     have kf:cpk l (k+q)=jc l:=by rw[hqe];rfl
     rw[kf] at hLt hkk ⊢
     have ar9:(jc l).length≤l.length:=by omega
     simp only[pkA]
     refine akq _ _ ?_
     simp only[pkA,seval]
     refine WZ eO rfl eV rfl (l:=(jc l).length) (h:=l.length) (m:=cap) rfl rfl rfl (by omega) hc (ar _) (fun h=>by cases h) ?_
     simp only[pkA,seval,aK]
     have hz:eS (flb faC L) ((jc l).length*3) ((List.replicate (l.length - (jc l).length) (faC zf)).flatten.map .c)=flb faC (jc l++List.replicate (l.length - (jc l).length) zf):=by
      have h1:(List.replicate (l.length - (jc l).length) (faC zf)).flatten.map V.c=flb faC (List.replicate (l.length - (jc l).length) zf):=by unfold flb;rw[List.map_replicate]
      rw[h1,ach jQ (by simp;omega),hLt]
      congr 1
      rw[List.drop_eq_nil_of_le (by simp;omega),ee]
     refine Wh eO rfl eV rfl (z:=faC zf) rfl (by decide) rfl (dN 0) gw (by show(jc l).length*3+(l.length - (jc l).length)*3≤(flb faC L).length;rw[kg jQ,hLl];omega) ?_
     rw[show bxs [flb faC L] 0=flb faC L from rfl,hz]
     simp only[pkA,seval]
     refine WZ eO rfl eV rfl (l:=0) (h:=(jc l).length) (m:=cap) rfl rfl rfl (by omega) (by omega) (ar _) (fun h=>by cases h) ?_
     simp only[pkA,seval,aK,Nat.sub_zero,Nat.zero_mul]
     refine dV _ ?_
     simp only[pkA]
     exact fin _ _ _ rfl rfl (by simp[]) _ _ (ar _) (by simp[])
   ·have hn:l[k]≠l[k - 1]'(by omega):=by simpa using hn
    have wk:=cd (n:=(k:Int)+1) (k:=k+1) (by omega) (by omega)
    simp only[pkA,seval,wk]
    refine cE (k+1) _ ⟨by omega,bV,?_⟩ (by omega) (BU rfl (ar _) (ar _) ?_ rfl)
    ·rw[su bV fun _=>hn,htk,bg bV]
    ·simp[FL,ao]
  ·have:k=l.length:=by simp at jA;omega
   subst this
   have kf:jc l=l:=by unfold jc;rw[htk,cH]
   simp only[pkA]
   refine cC _ _ ?_
   simp only[pkA,seval]
   exact fin _ _ l rfl (by rw[kf];simp) (by simp[kf]) _ _ (ar _) rfl
theorem J1:FnOK Tryz.prog G 60 [.c (.sl [])] (.c (.sl [])):=by
 refine bR (rs:=[.tmp 2]) false [] mixed Tryz.func60 rfl rfl rfl rfl (by kernel_rfl) (by simp) rfl rfl ?_
 simp only[vQ,seval]
 refine aS (fun bV=>?_) (fun jA=>?_)
 ·simp only[pkA,seval]
 ·simp at jA
def fb (l:List Fa):List Fa:=jc (qz l)
theorem oh (l:List Fa):(fb l).length≤l.length:=by
 have:=Yg (qz l) (qz l).length
 rw[rC] at this
 unfold fb jc
 rw[rC];exact this
theorem EU (l:List Fa) (hm:l.length<1000000000):FnOK Tryz.prog G 39 [.c (fsC l)] (.c (fsC (fb l))):=by
 by_cases gK:l=[]
 ·subst gK
  refine bR (rs:=[.tmp 2]) false [] mixed Tryz.func39 rfl rfl rfl rfl (by kernel_rfl) (by simp) rfl rfl ?_
  have hc:=ET (G:=G) [] (by simp) (by decide)
  simp only[pkA,seval,fsC]
  refine aN rfl hc (fun h=>by cases h) ?_
  simp only[pkA,seval]
  refine aN rfl Yf (fun h=>by cases h) ?_
  simp only[pkA,seval]
  refine aN rfl J1 (fun h=>by cases h) ?_
  simp only[pkA,seval]
  have h0:fb []=[]:=by simp[fb,qz,jc,cpk]
  rw[h0];rfl
 ·have akp:l.map faC≠[]:=by simpa using gK
  refine bR (rs:=[.tmp 2]) true [1000005,1000007,1000009] mixed Tryz.func39 rfl rfl rfl rfl (by kernel_rfl) (by simp) rfl rfl ?_
  have hc:=Tm (G:=G) (l.map faC) akp (by intro e he;obtain⟨x,_,rfl⟩:=bA.1 he;rfl) (by simpa using hm)
  simp only[pkA,seval,fsC]
  refine uU rfl hc rfl ?_
  have kU:(l.map faC).flatten.map V.c=flb faC l:=rfl
  simp only[pkA,seval,kU,V.ren,uY,fM,aK,ak]
  refine JA rfl (adJ JZ l (by omega) l.length (ar _)) rfl rfl rfl ?_
  simp only[pkA,seval]
  have hC:=NT (G:=G) (qz l) l.length (by rw[rC];exact ar _) (by rw[rC];omega)
  rw[rC] at hC
  refine JA rfl hC rfl rfl (by simp[]) ?_
  simp only[pkA,seval,AS]
  have hv:=fun fr=>EG (fr:=fr) (bx:=up (up (up (fun _=>[]) 0 (flb faC l)) 0 (flb faC (qz l))) 0 (flb faC (jc (qz l)++List.replicate (l.length - (jc (qz l)).length) zf))) (nb:=1) (b:=0) (a:=0) (n:=(jc (qz l)).length) (o:=0) jQ (dN 0) (bT _ _ _) rfl (by simp)
  simp only[dE,List.take_left] at hv
  simp only[imm,hv]
  rfl
theorem nR {α:Type} {c:α→List C} {sz:Nat} (hc:∀ x,(c x).length=sz) (l:List α):∀ e∈l.map c,e.length=sz:=by
 intro e he;obtain⟨x,_,rfl⟩:=bA.1 he;exact hc x
def owF (l:List Fa):V:=.ow (if l.isEmpty then none else some (54,3)) (l.map faC)
theorem wL {l:List Fa}:(owF l).fz=.c (.sl (l.map faC)):=rfl
theorem lj {l:List Fa}:(owF l).isOw=true:=rfl
theorem J2 {l m:List Fa} {K:V→Prop} (h:l.length+m.length≤1000000000) (hK:K (owF (l++m))):eR Tryz.prog 28 (owF l) (.c (.sl (m.map faC))) K:=by
 unfold owF
 rw[Cc]
 refine⟨⟨by cases l<;>simp,nR jQ _⟩,⟨by simp only[ak];omega,by simp only[ak];omega,nR jQ _⟩,?_⟩
 have e:(if(m.map faC).isEmpty=true then(if l.isEmpty=true then none else some (54,3)) else some (54,3))=if(l++m).isEmpty=true then none else some (54,3):=by
  cases l<;>cases m<;>simp
 rw[e,← dA];exact hK
theorem EV {l:List Fa} {x:Fa} {K:V→Prop} (h:l.length+1≤1000000000) (hK:K (owF (l++[x]))):eR Tryz.prog 28 (owF l) (.c (.sl [faC x])) K:=J2 (m:=[x]) h hK
def Cf (p:Pol) (n:Nat):List Fa:=if uf p n 64=true then[qw ((n:Int)+1),Hh ((n:Int)+1)] else[]
def sw (p:Pol):Nat→List Fa
 |0=>[]
 |n+1=>sw p n++Cf p n
theorem x7 (p:Pol):∀ n,(sw p n).length≤2*n
 |0=>ar _
 |n+1=>by
  have:=x7 p n
  simp only[sw,aj]
  have:(Cf p n).length≤2:=by unfold Cf;split<;>simp
  omega
def pf (p:Pol):List Fa:=fb (sw p p.types.length)
def Yh:=jj @pkA (jj @ptA @pkF)
theorem aiX (p:Pol) (hm:p.types.length≤1000000):FnOK Tryz.prog G 56 [.agg (poC p)] (.c (fsC (pf p))):=by
 refine bR (rs:=[.tmp 2]) false [14] mixed Tryz.func56 rfl rfl rfl rfl (by kernel_rfl) (by simp) rfl rfl ?_
 simp only[Yh,seval]
 refine cx (fun i:Nat=>hdS [(1,.bp 0 0),(3,owF (sw p i)),(7,i64 p.types.length),(8,i64 i)] [(poC p).map .c]) (fun i=>p.types.length - i) (fun i=>i≤p.types.length) 0 (au _) ?_ ?_
 ·refine cL rfl (au _) (ar _) ?_ (by simp[BL])
  simp[FL,ao,sw,owF]
 rintro i hi R cE cC dV
 simp only[pkA,seval]
 refine aS (fun bV=>?_) (fun jA=>?_)
 ·have bV:i<p.types.length:=by simpa using bV
  simp only[Yh,seval]
  refine aN rfl (Ye p i 64 (by omega)) (fun _=>rfl) ?_
  have wi:=cd (n:=(i:Int)+1) (k:=i+1) (by omega) (by omega)
  have e1:((i+1:Nat):Int)=(i:Int)+1:=by omega
  have Ux:=x7 p i
  simp only[pkA,seval]
  refine aS (fun hy=>?_) (fun hn=>?_)
  ·simp only[pkA,seval,lj,wi]
   refine aN rfl (qx ((i+1:Nat):Int)) (fun _=>rfl) ?_
   simp only[pkA,seval,wi]
   refine aN rfl (Yd ((i+1:Nat):Int)) (fun _=>rfl) ?_
   simp only[Yh,seval,fh]
   refine J2 (m:=[qw ((i+1:Nat):Int),Hh ((i+1:Nat):Int)]) (by simp;omega) ?_
   simp only[pkA,seval,lj,wi]
   refine cE (i+1) _ bV (by omega) (cL rfl (au _) (ar _) ?_ (by simp[BL,bxs]))
   have hb:sw p (i+1)=sw p i++[qw ((i:Int)+1),Hh ((i:Int)+1)]:=by simp only[sw,Cf,hy];simp
   simp[FL,ao,hb,e1]
  ·simp only[pkA,seval,wi]
   refine cE (i+1) _ bV (by omega) (cL rfl (au _) (ar _) ?_ (by simp[BL,bxs]))
   have hb:sw p (i+1)=sw p i:=by simp only[sw,Cf,hn];simp
   simp[FL,ao,hb,e1]
 ·have:i=p.types.length:=by simp at jA;omega
  subst this
  have Ux:=x7 p p.types.length
  simp only[pkA]
  refine cC _ _ ?_
  simp only[pkA,seval,wL]
  refine aN rfl (EU _ (by omega)) (fun h=>by cases h) ?_
  simp only[pkA,seval]
  rfl
structure Ys (τ:Type) where
 yb:τ→List (List V)
 k:Nat
 pos:0<k
 len:∀ s,(yb s).length=k
 lt:∀ s,ltL k (yb s)
 step:τ→In→τ→Bool→Prop
def Ys.ok (G:Gl) {τ:Type} (Y:Ys τ) (s:τ) (x:In):Prop:=YE Tryz.prog G [.agg (inC x)] (Y.yb s) (fun r b1=>∃ t b,Y.step s x t b∧r=bo b∧b1=Y.yb t)
inductive Ys.run {τ:Type} (Y:Ys τ):τ→List In→τ→Bool→Prop
 |nil (s:τ):Y.run s [] s true
 |stop {s t:τ} {x:In} (l:List In):Y.step s x t false→Y.run s (x::l) t false
 |go {s t u:τ} {x:In} {l:List In} {b:Bool}:Y.step s x t true→Y.run t l u b→Y.run s (x::l) u b
def Fut (G:Gl) {τ:Type} (Y:Ys τ):τ→List In→Prop
 |_,[]=>True
 |s,x::l=>Y.ok G s x∧∀ t,Y.step s x t true→Fut G Y t l
theorem AW {τ:Type} {Y:Ys τ} {s t u:τ} {a b:List In} {c:Bool} (h:Y.run s a t true) (h2:Y.run t b u c):Y.run s (a++b) u c:=by
 generalize hb:true=b0 at h
 induction h with
 |nil=>exact h2
 |stop _ _=>cases hb
 |go h1 _ ih=>exact .go h1 (ih h2 hb)
theorem AX {τ:Type} {Y:Ys τ} {s t:τ} {a b:List In} (h:Y.run s a t false):Y.run s (a++b) t false:=by
 generalize hb:false=b0 at h
 induction h with
 |nil=>cases hb
 |stop _ h=>exact .stop _ h
 |go h1 _ ih=>exact .go h1 (ih hb)
theorem adK {τ:Type} {Y:Ys τ} {s t:τ} {x:In} {b:Bool} (h:Y.step s x t b):Y.run s [x] t b:=by
 cases b
 ·exact .stop _ h
 ·exact .go h (.nil _)
theorem Fut.app {τ:Type} {Y:Ys τ}:∀ {a b:List In} {s:τ},Fut G Y s (a++b)→Fut G Y s a∧∀ t,Y.run s a t true→Fut G Y t b
 |[],_,s,h=>⟨trivial,fun t ht=>by cases ht;exact h⟩
 |x::a,b,s,h=>by
  have h1:∀ t,Y.step s x t true→Fut G Y t (a++b):=h.2
  refine⟨⟨h.1,fun t ht=>(h1 t ht).app.1⟩,fun t ht=>?_⟩
  cases ht with
  |go h2 h3=>exact(h1 _ h2).app.2 t h3
def Ys.out {τ:Type} (Y:Ys τ) (s:τ) (L:List In) (ls:List (List V)) (r:V) (b1:List (List V)):Prop:=∃ t b,Y.run s L t b∧r=bo b∧b1=Y.yb t++ls
abbrev FnR (G:Gl) {τ:Type} (Y:Ys τ) (f:FuncId) (args:List V) (s:τ) (L:List In) (ls:List (List V)):Prop:=FnE Tryz.prog G f args (Y.yb s++ls) (Y.out s L ls)
def Ci:Option Fa→C
 |none=>.lit (.pointer none)
 |some f=>.rp (faC f) 0
def eng (p:Pol) (o:Option Fa):List V:=[.c (cS p.name),.c (.sl (p.types.map tyC)),.c (.sl (p.rules.map ruC)),.c (.sl (p.quorums.map quC)),i64 p.types.length,.c (Ci o),.yl 0]
section
variable {p:Pol} {o:Option Fa} {n k:Nat} {K:V→Prop}
theorem alW:ldA (kx k n) (kx k 0) (eng p o) 0 4 K=(0<n∧K (.agg (poC p))):=by
 unfold ldA;rw[kM]
 exact propext ⟨fun h=>⟨h.1,h.2.2⟩,fun h=>⟨h.1,⟨rfl,rfl⟩,h.2⟩⟩
theorem alX:ldB (kx k n) (kx k 0) (eng p o) 2 K=(0<n∧K (.c (.sl (p.rules.map ruC)))):=by unfold ldB;rw[kM];rfl
theorem alY:ldB (kx k n) (kx k 0) (eng p o) 4 K=(0<n∧K (i64 p.types.length)):=by unfold ldB;rw[kM];rfl
theorem alZ:ldB (kx k n) (kx k 0) (eng p o) 5 K=(0<n∧K (.c (Ci o))):=by unfold ldB;rw[kM];rfl
theorem al0:ldB (kx k n) (kx k 0) (eng p o) 6 K=(0<n∧K (.yl 0)):=by unfold ldB;rw[kM];rfl
theorem aiY:bY (eng p o)=false:=rfl
theorem wN (hk:0<k):∀ x∈eng p o,x.lt k:=by
 intro x hx
 simp only[eng,aQ,aY,cN] at hx
 rcases hx with rfl | rfl | rfl | rfl | rfl | rfl | rfl<;>first | trivial | exact hk
end
def pkE:=jj @pkF (jj @alW (jj @alX (jj @alY (jj @alZ (jj @al0 @aiY)))))
theorem NU {k:Nat} {b:List V} (h:∀ x∈b,x.lt k) {m:Nat}:ltL (kx k m) [b]:=fun c hc x hx=>by
 simp only[aW] at hc;subst hc
 exact(h x hx).mono (by simp[kx])
theorem al1 {K:V→Prop}:rf Tryz.prog .eql 104 false (.c (.lit (.pointer none))) K=K (bo true):=Jd (b:=true) rfl (by kernel_rfl)
theorem aiZ {K:V→Prop}:rf Tryz.prog .neq 104 false (.c (.lit (.pointer none))) K=K (bo false):=Je (b:=true) rfl (by kernel_rfl)
theorem al2 {f:Fa} {K:V→Prop}:rf Tryz.prog .eql 104 false (.c (.rp (faC f) 0)) K=K (bo false):=Jd (b:=false) rfl (by kernel_rfl)
theorem ai0 {f:Fa} {K:V→Prop}:rf Tryz.prog .neq 104 false (.c (.rp (faC f) 0)) K=K (bo true):=Je (b:=false) rfl (by kernel_rfl)
def pkN:=jj @al1 (jj @aiZ (jj @al2 @ai0))
def pP (o:Option Fa) (l:List Int):Bool:=match o with
 |none=>true
 |some f=>!decide (f.kind=1)||l.any fun y=>decide (f.b=y)
def afP:=jj @pkA (jj @ptA (jj @pkE @pkN))
theorem J3 {τ:Type} (Y:Ys τ) (s:τ) (p:Pol) (o:Option Fa) (l:List Int) (hm:l.length≤9223372036854775807) :
 FnB Tryz.prog G 183 [.bp (kx Y.k 0) 0,.c (.sl (l.map fun y=>[cI y]))] (Y.yb s++[eng p o]) (bo (pP o l)) (Y.yb s++[eng p o]):=by
 refine ace (k:=Y.k) (m:=1) (rs:=[.tmp 4]) [] mixed Tryz.func183 rfl rfl rfl rfl (by kernel_rfl) (by simp) rfl (Y.len s) (Y.len s) (Y.lt s) rfl (NU (wN Y.pos)) (fun x hx=>?_) ?_
 ·simp only[aQ,aY,cN] at hx
  rcases hx with rfl | rfl
  ·simp[V.lt,kx]
  ·trivial
 have fin:∀ (e:VE) (fr:Nat→V),tR e=true→fr 4=bo (pP o l)→Ar Tryz.prog (kx Y.k 1) (bo (pP o l)) (Y.yb s++[eng p o]) [.tmp 4] e ⟨fr,bxs (Y.yb s++[eng p o]),kx Y.k 1⟩:=fun e fr he h=>
  WR (rest:=[]) [(4,bo (pP o l))] he (Y.len s) (Y.lt s) rfl rfl (NU (wN Y.pos)) (by simp[V.lt]) (by simp[FL,h]) (by simp[hdS,frs,rm,up])
 cases o with
 |none=>
  simp only[afP,seval,bk0 (Y.len _),Ci]
  exact fin _ _ rfl (by simp[];rfl)
 |some f=>
  simp only[afP,seval,bk0 (Y.len _),Ci]
  refine fA (fun h=>?_) (fun h=>?_)
  ·simp only[pkA,ptA,pkE,seval,bk0 (Y.len _),Ci]
   refine aN rfl (Hj l f.b hm) (fun _=>rfl) ?_
   simp only[pkA,seval,bk0 (Y.len _)]
   exact fin _ _ rfl (by simp[pP,h])
  ·simp only[pkA,seval,bk0 (Y.len _)]
   exact fin _ _ rfl (by simp[pP,h])
