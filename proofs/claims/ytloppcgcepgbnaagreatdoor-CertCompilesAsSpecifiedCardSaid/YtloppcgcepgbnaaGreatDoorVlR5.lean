/- Layer 17, the specification: Insert, Sorted, Bad; instances compared. -/
import Derived.Test.YtloppcgcepgbnaaGreatDoorVlR2
set_option maxHeartbeats 2000000
set_option linter.all false
namespace Go.Proofs.YtloppcgcepgbnaaGreatDoor
open Go Go.Vl
variable {G:Gl}
set_option maxRecDepth 4000
section
variable {x:In} {nb q:Nat} {K:V->Prop}
theorem apz:ldB nb q ((inC x).map .c) 0 K=(q<nb/\K (i64 x.rule)):=rfl
theorem apA:ldB nb q ((inC x).map .c) 1 K=(q<nb/\K (.c (fsC x.pre))):=rfl
theorem apC:ldB nb q ((inC x).map .c) 2 K=(q<nb/\K (.c (fsC x.con))):=rfl
theorem Qo:ck ((inC x).map V.c)=false:=rfl
theorem Zk:ldA nb q ((inC x).map .c) 0 3 K=(q<nb/\K (.agg (inC x))):=by unfold ldA;exact propext ⟨λh=>⟨h.1,h.2.2⟩,λh=>⟨h.1,⟨rfl,rfl⟩,h.2⟩⟩
end
def pkI:=jj @pkQ (jj @apz (jj @apA (jj @apC (jj @Qo @Zk))))
def OE (l:List In):C:=.sl (l.map inC)
def wY (l:List Fa) (f:Fa):Nat:=l.findIdx λy=>!ltF y f
def o8 (l:List Fa) (f:Fa):List Fa:=if l[wY l f]?=some f then l else l.take (wY l f)++f::l.drop (wY l f)
theorem aeL {l:List Fa} {f:Fa}:wY l f<=l.length:=List.findIdx_le_length
theorem aeM {l:List Fa} {f:Fa} {i:Nat} (hi:i<=l.length) (h1:∀ j (h:j<l.length),j<i->ltF l[j] f=true) (h2:∀ h:i<l.length,ltF l[i] f=false):wY l f=i:=by
 unfold wY;rcases bZ i l.length with h | h
 .rw[List.findIdx_eq h]
  exact⟨by simp[h2 h],λj hj=>by simp[h1 j (by omega) hj]⟩
 .have:i=l.length:=by omega
  subst this;rw[List.findIdx_eq_length];intro x hx;obtain⟨j,hj,rfl⟩:=gR hx;simp[h1 j hj hj]
theorem uH {l:List Fa} {f:Fa}:(o8 l f).length<=l.length+1:=by
 unfold o8;split
 .omega
 .simp only[ae,aQ,aB,cG];omega
theorem H5 {P:Program} {T e:TypeId} {i j:TI} {es:List (List C)} {lo hi:Option V} {l h:Nat} {K:V->Prop} (hT:ti P T=some i) (hk:i.kd=.slice e) (hE:ti P e=some j) (h1:iW 0 lo=some (l:Nat)) (h2:iW es.length hi=some (h:Nat)) (hlh:l<=h) (hhe:h<=es.length) (hx:∀ x∈es,x.length=j.size)
 (hK:K (.c (.sl ((es.take h).drop l)))):jl P T (.c (.sl es)) lo hi none K:=by
 obtain⟨kd,a,b,c,d,f,g⟩:=i;simp only at hk;subst hk;simp only[jl,hT,hE,h1,h2];exact⟨⟨by omega,by omega,by omega,hx⟩,hK⟩
def agq:=jj @pkA @ptA
def C6:=jj @pkA (jj @ptA @pkQ)
theorem sb (l:List Fa) (f:Fa) (hm:l.length<=1000000):FnOK Tryz.prog G 45 [.c (fsC l),.agg (faC f)] (.c (fsC (o8 l f))):=by
 refine bJ (rs:=[.tmp 4]) false [35,40,44] mixed Tryz.func45 rfl rfl rfl rfl (by kernel_rfl) (by simp) rfl rfl ?_;simp only[pkA,seval,fsC];refine bz (λi:Nat=>hdS [(0,.c (.sl (l.map faC))),(3,.bp 0 0),(5,i64 i)] [(faC f).map .c]) (λi=>l.length - i) (λi=>i<=l.length/\∀ j (h:j<l.length),j<i->ltF l[j] f=true) 0 ⟨ar _,λj h h'=>absurd h' (gW _)⟩ ?_ ?_
 .exact cg rfl (ar _) (ab _) (by simp[FL,aj]) (by simp[BL])
 rintro i ⟨hi,gw⟩ R bL bQ dq;have arK:∀ es:List (List C),(V.c (.sl es)).fz=.c (.sl es):=λ_=>rfl;have tl:∀ m:List Fa,∀ x∈m.map faC,x.length=3:=λm=>sY kf m;have post:(∀ h:i<l.length,ltF l[i] f=false)->∀ fr:Nat->V,fr 0=.c (.sl (l.map faC))->fr 3=.bp 0 0->fr 5=i64 i->R (.exit 0) ⟨fr,bxs [(faC f).map .c],1⟩:=λh2 fr f0 f3 f5=>by
  have hp:=aeM hi gw h2;have new:l[i]?≠some f->o8 l f=l.take i++f::l.drop i:=λh=>by unfold o8;rw[hp,if_neg h]
  have ht:((l.map faC).take i).drop 0=(l.take i).map faC:=by rw[cx,List.map_take]
  have hd:((l.map faC).take l.length).drop i=(l.drop i).map faC:=by rw[fh (by simp),List.map_drop]
  refine bQ _ _ ?_;simp only[agq,seval,au,f0,f5];refine fy (λbF=>?_) (λfO=>?_)
  .have bF:i<l.length:=by simpa using bF
   simp only[pkA,seval,f0,f5];refine dP dY rfl eK (by decide) (ay i) (c:=faC l[i]) (by simp[bF]) rfl ?_;simp only[C6,seval,f3];refine aD (λhy=>?_) (λhn=>?_)
   .have hy:l[i]=f:=by simpa using hy
    simp only[pkA,seval,f0];unfold o8;rw[hp,if_pos (by rw[ah bF,hy])]
   .have hn:¬ l[i]=f:=by simpa using hn
    rw[new (by rw[ah bF];simpa using hn)];simp only[pkA,seval,f0,f5];refine H5 (l:=0) (h:=i) dY rfl eK rfl rfl (ar _) (by simp;omega) (tl l) ?_;rw[ht];simp only[pkA,seval,dx];refine Ug (l:=[]) (m:=l.take i) (by simp;omega) ?_;rw[eu];simp only[C6,seval,f3,dx,kG];refine tJ (l:=l.take i) (x:=f) (by simp;omega) ?_;simp only[pkA,seval,f0,f5,kG];refine H5 (l:=i) (h:=l.length) dY rfl eK rfl (by rw[au];rfl) hi (by simp) (tl l) ?_;rw[hd];simp only[pkA,seval,dx];refine Ug (l:=l.take i++[f]) (m:=l.drop i) (by simp;omega) ?_;simp only[pkA,seval,uD,kG];rw[aH];rfl
  .have fO:¬ i<l.length:=by simpa using fO
   rw[new (by rw[bG (by omega)];simp)];simp only[pkA,seval,f0,f5];refine H5 (l:=0) (h:=i) dY rfl eK rfl rfl (ar _) (by simp;omega) (tl l) ?_;rw[ht];simp only[pkA,seval,dx];refine Ug (l:=[]) (m:=l.take i) (by simp;omega) ?_;rw[eu];simp only[C6,seval,f3,dx,kG];refine tJ (l:=l.take i) (x:=f) (by simp;omega) ?_;simp only[pkA,seval,f0,f5,kG];refine H5 (l:=i) (h:=l.length) dY rfl eK rfl (by rw[au];rfl) hi (by simp) (tl l) ?_;rw[hd];simp only[pkA,seval,dx];refine Ug (l:=l.take i++[f]) (m:=l.drop i) (by simp;omega) ?_;simp only[pkA,seval,uD,kG];rw[aH];rfl
 simp only[agq,seval,au];refine fy (λbF=>?_) (λfO=>?_)
 .have bF:i<l.length:=by simpa using bF
  have hw:=br (n:=(i:Int)+1) (k:=i+1) (by omega) (by omega);simp only[pkA,seval];refine dP dY rfl eK (by decide) (ay i) (c:=faC l[i]) (by simp[bF]) rfl ?_;simp only[C6,seval];refine aC rfl (K6 l[i] f) (λ_=>rfl) ?_;have yM:decide (wU l[i] f<0)=ltF l[i] f:=mU _ _;simp only[pkA,seval,yM];refine aD (λhy=>?_) (λhn=>?_)
  .simp only[pkA,seval]
   refine bL (i+1) _ ⟨bF,λj h hj=>?_⟩ (by omega) (cg rfl (ar _) (ab _) (by simp[FL,aj,hw]) (by simp[BL,bxs]));rcases bZ j i with h1 | h1
   .exact gw j h h1
   .have:j=i:=by omega
    subst this;exact hy
  .simp only[pkA]
   exact post (λ_=>hn) _ rfl rfl rfl
 .have fO:¬ i<l.length:=by simpa using fO
  simp only[pkA,seval];exact post (λh=>absurd h fO) _ rfl rfl rfl
def nV (b:Bool) (l:List Fa):V:=if b then .ow none [] else .c (fsC l)
theorem FK {b:Bool} {l:List Fa} (h:b=true->l=[]):(nV b l).fz=.c (fsC l):=by
 cases b
 .rfl
 .rw[h rfl];rfl
theorem oe {b:Bool} {l:List Fa} {m:Nat}:(nV b l).ltB m=true:=by cases b<;>rfl
theorem apD {l:List Fa}:nV false l=.c (fsC l):=rfl
theorem apE:nV true []=.ow none []:=rfl
def zk (l:List Fa):List Fa:=l.foldl o8 []
theorem Uj {l:List Fa} {i:Nat} (h:i<l.length):zk (l.take (i+1))=o8 (zk (l.take i)) l[i]:=by unfold zk;rw[aT h,gJ];rfl
theorem Zl (l:List Fa):(zk l).length<=l.length:=by
 have:∀ (l m:List Fa),(l.foldl o8 m).length<=l.length+m.length:=λl=>by
  induction l with
  |nil=>intro m;simp
  |cons x l ih=>intro m;rw[di,aB];have:=ih (o8 m x);have:=@uH m x;omega
 have:=this l [];simpa[zk] using this
theorem OF (l:List Fa) (hm:l.length<=1000000):FnOK Tryz.prog G 23 [.c (fsC l)] (.c (fsC (zk l))):=by
 refine bJ (rs:=[.tmp 2]) false [] mixed Tryz.func23 rfl rfl rfl rfl (by kernel_rfl) (by simp) rfl rfl ?_;have hml:∀ K,fq Tryz.prog 28 (.c (fsC l)) K=K (i64 l.length):=λK=>by unfold fsC;rw[HT,au]
 simp only[pkA,seval];refine bz (λi:Nat=>hdS [(0,.c (fsC l)),(3,nV (decide (i=0)) (zk (l.take i))),(4,i64 i)] []) (λi=>l.length - i) (λi=>i<=l.length) 0 (ar _) ?_ ?_
 .exact cg (by simp only[gz,aY,bn,oe];rfl) (ar _) (ab _) (by simp[FL,aj,nV]) trivial
 rintro i hi R bL bQ dq;have hz:(nV (decide (i=0)) (zk (l.take i))).fz=.c (fsC (zk (l.take i))):=FK λh=>by
  have:i=0:=by simpa using h
  subst this;rfl
 simp only[pkA,seval,hml];refine aD (λbF=>?_) (λfO=>?_)
 .have bF:i<l.length:=by simpa using bF
  have hw:=br (n:=(i:Int)+1) (k:=i+1) (by omega) (by omega);simp only[pkA,seval,hz];refine dP dY rfl eK (by decide) (ay i) (c:=faC l[i]) (by simp[bF]) rfl ?_;simp only[C6,seval];have Av:=Zl (l.take i);rw[aQ] at Av;refine aC rfl (sb _ l[i] (by omega)) (λh=>by cases h) ?_;simp only[pkA,seval];refine bL (i+1) _ bF (by omega) (cg (by simp only[gz,aY,bn,oe];rfl) (ar _) (ab _) ?_ trivial);simp[FL,aj,hw,nV,Uj bF]
 .have:i=l.length:=by simp at fO;omega
  subst this;simp only[pkA];refine bQ _ _ ?_;simp only[pkA,seval,hz];rw[bW]
def C7 (p:Pol) (l:List Fa) (n:Nat):List Fa:=if sV p n 64=true then o8 (o8 l (iJ ((n:Int)+1))) (wT ((n:Int)+1)) else l
def nv (p:Pol):Nat->List Fa
 |0=>[]
 |n+1=>C7 p (nv p n) n
theorem FM (p:Pol):∀ n,(nv p n).length<=2*n
 |0=>ab _
 |n+1=>by
  have:=FM p n;simp only[nv,C7];split
  .have h1:=@uH (o8 (nv p n) (iJ ((n:Int)+1))) (wT ((n:Int)+1))
   have h2:=@uH (nv p n) (iJ ((n:Int)+1));omega
  .omega
theorem aeN (p:Pol) (hm:p.types.length<=100000):FnOK Tryz.prog G 57 [.agg (poC p)] (.c (fsC (nv p p.types.length))):=by
 refine bJ (rs:=[.tmp 2]) false [] mixed Tryz.func57 rfl rfl rfl rfl (by kernel_rfl) (by simp) rfl rfl ?_;simp only[pkA,seval];refine bz (λx:Nat×Bool=>hdS [(1,.bp 0 0),(3,nV x.2 (nv p x.1)),(4,i64 x.1)] [(poC p).map .c]) (λx=>p.types.length - x.1) (λx=>x.1<=p.types.length/\(x.2=true->nv p x.1=[])) (0,true) ⟨ar _,λ_=>rfl⟩ ?_ ?_
 .exact cg (by simp only[gz,aY,bn,oe];rfl) (ar _) (ab _) (by simp[FL,aj,nV]) (by simp[BL])
 rintro⟨i,b⟩ ⟨hi,hb⟩ R bL bQ dq;simp only at hi hb;have hz:=FK hb;have Pv:=FM p i;simp only[C6,seval];refine aD (λbF=>?_) (λfO=>?_)
 .have bF:i<p.types.length:=by simpa using bF
  have hw:=br (n:=(i:Int)+1) (k:=i+1) (by omega) (by omega);have e1:((i+1:Nat):Int)=(i:Int)+1:=by omega
  simp only[C6,seval];refine aC rfl (Qm p i 64 (by unfold I64;omega) (by omega)) (λ_=>rfl) ?_;simp only[pkA,seval];refine aD (λhy=>?_) (λhn=>?_)
  .simp only[pkA,seval,hz,hw]
   refine aC rfl (iL ((i+1:Nat):Int)) (λ_=>rfl) ?_;simp only[pkA,seval];refine aC rfl (sb _ _ (by omega)) (λh=>by cases h) ?_;simp only[pkA,seval,hw];refine aC rfl (jD ((i+1:Nat):Int)) (λ_=>rfl) ?_;simp only[pkA,seval];refine aC rfl (sb _ _ (by have:=@uH (nv p i) (iJ ((i+1:Nat):Int));omega)) (λh=>by cases h) ?_;simp only[pkA,seval,hw];refine bL (i+1,false) _ ⟨bF,λh=>by cases h⟩ (by simp only;omega) (cg (by simp only[gz,aY,bn,oe];rfl) (ar _) (ab _) ?_ (by simp[BL,bxs]));have hr:nv p (i+1)=o8 (o8 (nv p i) (iJ ((i:Int)+1))) (wT ((i:Int)+1)):=(by simp only[nv,C7,hy,cZ]);simp[FL,aj,hr,e1,nV]
  .simp only[pkA,seval,hw]
   have hr:nv p (i+1)=nv p i:=(by simp only[nv,C7,hn];simp);refine bL (i+1,b) _ ⟨bF,λh=>by simp only[hr];exact hb h⟩ (by simp only;omega) (cg (by simp only[gz,aY,bn,oe];rfl) (ar _) (ab _) ?_ (by simp[BL,bxs]));simp[FL,aj,hr,e1]
 .have:i=p.types.length:=by simp at fO;omega
  subst this;simp only[pkA];refine bQ _ _ ?_;simp only[pkA,seval,hz]
def owI (l:List In):V:=.ow (if l.isEmpty then none else some (35,3)) (l.map inC)
theorem Qp {l:List In} {x:In} {K:V->Prop} (h:l.length+1<=1000000000) (hK:K (owI (l++[x]))):dS Tryz.prog 86 (owI l) (.c (.sl [inC x])) K:=by
 unfold owI;rw[aji];refine⟨⟨by cases l<;>simp,sY Bg _⟩,⟨by simp only[au,bA];omega,by simp only[au,bA];omega,by simp[inC]⟩,?_⟩;have e:(if[inC x].isEmpty=true then(if l.isEmpty=true then none else some (35,3)) else some (35,3))=if(l++[x]).isEmpty=true then none else some (35,3):=by cases l<;>simp
 have e2:l.map inC++[inC x]=(l++[x]).map inC:=by simp
 rw[e,e2];exact hK
def owN (l:List Nat):V:=.ow (if l.isEmpty then none else some (3,1)) (l.map λ(t:Nat)=>[cI t])
theorem ajW {l:List Nat}:(owN l).fz=.c (.sl (l.map λ(t:Nat)=>[cI t])):=rfl
theorem ajX {l:List Nat}:(owN l).isOw=true:=rfl
theorem anb {l:List Nat} {x:Nat} {K:V->Prop} (h:l.length+1<=1000000000) (hK:K (owN (l++[x]))):dS Tryz.prog 79 (owN l) (.c (.sl [[cI x]])) K:=by
 unfold owN;rw[ajg];refine⟨⟨by cases l<;>simp,λe he=>by obtain⟨x,_,rfl⟩:=bM.1 he;rfl⟩,⟨by simp only[au,bA];omega,by simp only[au,bA];omega,by simp⟩,?_⟩;have e:(if[[cI (x:Int)]].isEmpty=true then(if l.isEmpty=true then none else some (3,1)) else some (3,1))=if(l++[x]).isEmpty=true then none else some (3,1):=by cases l<;>simp
 have e2:(l.map λ(t:Nat)=>[cI t])++[[cI (x:Int)]]=(l++[x]).map λ(t:Nat)=>[cI t]:=by simp
 rw[e,e2];exact hK
def lbx (p:Pol) (es:List In):List V:=[.c (cS p.name),.c (.sl (p.types.map tyC)),.c (.sl (p.rules.map ruC)),.c (.sl (p.quorums.map quC)),i64 p.types.length,owI es]
section
variable {p:Pol} {es:List In} {nb q:Nat} {K:V->Prop}
theorem anc:ldA nb q (lbx p es) 0 4 K=(q<nb/\K (.agg (poC p))):=by unfold ldA;exact propext ⟨λh=>⟨h.1,h.2.2⟩,λh=>⟨h.1,⟨rfl,rfl⟩,h.2⟩⟩
theorem ane:ldB nb q (lbx p es) 2 K=(q<nb/\K (.c (.sl (p.rules.map ruC)))):=rfl
theorem anf:ldB nb q (lbx p es) 4 K=(q<nb/\K (i64 p.types.length)):=rfl
theorem ajY:ck (lbx p es)=false:=rfl
theorem Bl {m:Nat}:(lbx p es).all (λx=>x.ltB m)=true:=rfl
end
def ajZ:=jj @pkI (jj @anc (jj @ane (jj @anf (jj @ajY (jj @ajW @ajX)))))
theorem wZ {p:Pol} {es:List In} {xs:List V} (h:xs.all (λx=>x.ltB 1)=true):lD xs [lbx p es]=true:=by simp only[lD,aY,bn,Bl,aB,aF,h];rfl
theorem le1 {p:Pol} {es:List In} {k nb:Nat} {fl:List (Nat×V)} {fr:Nat->V} {bx:Nat->List V} (eG:fl.all (λp=>p.2.ltB 1)=true) (hk:k<=1) (hn:1<=nb) (h:FL fl fr) (h0:bx 0=lbx p es):S.Le k (hdS fl [lbx p es]) ⟨fr,bx,nb⟩:=
 cg (by simp only[gz,aY,bn,Bl,aB,aF,eG];rfl) hk hn h ⟨h0,trivial⟩
theorem ang {p:Pol} {es:List In} {r:V} {t:Tmp} {e:VE} {fr:Nat->V} {bx:Nat->List V} {nb:Nat} (he:rV e=true) (hn:1<=nb) (h0:bx 0=lbx p es) (ht:fr t=r) (hr:r.ltB 1=true):x7 Tryz.prog 1 r [lbx p es] [.tmp t] e ⟨fr,bx,nb⟩:=
 nO [(t,r)] he (by simp only[gz,aY,bn,Bl,hr,aB,aF];rfl) (ab _) hn ⟨ht,trivial⟩ ⟨h0,trivial⟩ (by simp[hdS,frs,pZ,up])
theorem C9 {p:Pol} {es:List In} {e:VE} {fr:Nat->V} {bx:Nat->List V} {nb:Nat} (he:rV e=true) (hn:1<=nb) (h0:bx 0=lbx p es):x7 Tryz.prog 1 (.tup []) [lbx p es] [] e ⟨fr,bx,nb⟩:=
 nO [] he (by simp only[gz,aY,bn,Bl,aB,aF];rfl) (ab _) hn trivial ⟨h0,trivial⟩ nW
def fgN (p:Pol) (flag:Int) (n:Nat):List Nat:=(List.range n).filter λt=>sV p t flag
theorem K7 {p:Pol} {flag:Int} {n:Nat}:fgN p flag (n+1)=if sV p n flag=true then fgN p flag n++[n] else fgN p flag n:=by unfold fgN;rw[List.range_succ,ir];by_cases h:sV p n flag=true<;>simp[h]
theorem vq {p:Pol} {flag:Int} {n:Nat}:(fgN p flag n).length<=n:=by unfold fgN;exact bY (du _ _) (by simp)
def Zm:=jj @pkA (jj @ptA @ajZ)
def agr:=jj @pkA @ajZ
theorem K8 (p:Pol) (es:List In) (flag:Int) (hf:I64 flag) (hm:p.types.length<=1000000) :
 FnB Tryz.prog G 109 [.bp 0 0,i64 flag] [lbx p es] (.c (.sl ((fgN p flag p.types.length).map λ(t:Nat)=>[cI t]))) [lbx p es]:=by
 refine jL (rs:=[.tmp 4]) (k:=1) [24,3000001] mixed Tryz.func109 rfl rfl rfl rfl (by kernel_rfl) (by simp) rfl rfl rfl (wZ rfl) (ab _) ?_;simp only[pkA,seval];refine bz (λi:Nat=>hdS [(0,.bp 0 0),(1,i64 flag),(5,owN (fgN p flag i)),(6,i64 i)] [lbx p es]) (λi=>p.types.length - i) (λi=>i<=p.types.length) 0 (ar _) ?_ ?_
 .exact le1 rfl (ab _) (ab _) (by simp[FL,aj,fgN,owN]) rfl
 rintro i hi R bL bQ dq;simp only[Zm,seval];refine aD (λbF=>?_) (λfO=>?_)
 .have bF:i<p.types.length:=by simpa using bF
  have hw:=br (n:=(i:Int)+1) (k:=i+1) (by omega) (by omega);have hl:=@vq p flag i;simp only[Zm,seval];refine aC rfl (Qm p i flag hf (by omega)) (λ_=>rfl) ?_;simp only[pkA,seval];refine aD (λhy=>?_) (λhn=>?_)
  .simp only[Zm,seval,dx]
   refine anb (l:=fgN p flag i) (x:=i) (by omega) ?_;simp only[agr,seval,hw];exact bL (i+1) _ bF (by omega) (le1 rfl (ab _) (ab _) (by simp[FL,aj,K7,hy]) rfl)
  .simp only[pkA,seval,hw]
   exact bL (i+1) _ bF (by omega) (le1 rfl (ab _) (ab _) (by simp[FL,aj,K7,hn]) rfl)
 .have:i=p.types.length:=by simp at fO;omega
  subst this;simp only[pkA];refine bQ _ _ ?_;simp only[agr,seval];exact ang rfl (ab _) rfl (by simp[]) rfl
