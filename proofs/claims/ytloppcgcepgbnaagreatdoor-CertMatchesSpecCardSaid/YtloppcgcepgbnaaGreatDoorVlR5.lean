/- Layer 17, the specification: Insert, Sorted, Bad; instances compared. -/
import Derived.Test.YtloppcgcepgbnaaGreatDoorVlR2
set_option maxHeartbeats 2000000
set_option linter.all false
namespace Go.Proofs.YtloppcgcepgbnaaGreatDoor
open Go Go.Vl
variable {G:Gl}
set_option maxRecDepth 4000
def N5 (x:In):Prop:=x.pre.length<=1000000000/\x.con.length<=1000000000
section
variable {x:In} {nb q:Nat} {K:V->Prop}
theorem PU:cL ((inC x).map V.c)=false:=rfl
theorem X8:ldA nb q ((inC x).map .c) 0 3 K=(q<nb/\K (.agg (inC x))):=by unfold ldA;exact propext ⟨λh=>⟨h.1,h.2.2⟩,λh=>⟨h.1,⟨rfl,rfl⟩,h.2⟩⟩
end
def pkI:=@pkQ
def X9:=jj @pkA (jj @ptA @pkI)
theorem Tt (x y:In) (hx:N5 x) (hy:N5 y):FnOK Tryz.prog G 15 [.agg (inC x),.agg (inC y)] (bo (decide (x=y))):=by
 refine bI (rs:=[.tmp 4]) false [] mixed Tryz.func15 rfl rfl rfl rfl (by kernel_rfl) (by simp) rfl rfl ?_;simp only[X9,seval];refine az rfl (yj x.pre y.pre hx.1) (λ_=>rfl) ?_;simp only[X9,seval];refine az rfl (yj x.con y.con hx.2) (λ_=>rfl) ?_;have key:(decide (x=y))=(decide (x.pre=y.pre)&&(decide (x.con=y.con)&&decide (x.rule=y.rule))):=by
  rw[jO];simp only[bF,aW];constructor
  .rintro rfl;exact⟨rfl,rfl,rfl⟩
  .rintro⟨h1,h2,h3⟩
   cases x;cases y;simp only at h1 h2 h3;rw[h1,h2,h3]
 rw[key]
 repeat' first
  |(simp only[X9,seval])
  |refine eT (λh=>?_) (λh=>?_)
 all_goals simp_all
def acG (l:List In):C:=.sl (l.map inC)
def wP (l:List Fa) (f:Fa):Nat:=l.findIdx λy=>!ltF y f
def qx (l:List Fa) (f:Fa):List Fa:=if l[wP l f]?=some f then l else l.take (wP l f)++f::l.drop (wP l f)
theorem acH {l:List Fa} {f:Fa}:wP l f<=l.length:=List.findIdx_le_length
theorem acI {l:List Fa} {f:Fa} {i:Nat} (hi:i<=l.length) (h1:∀ j (h:j<l.length),j<i->ltF l[j] f=true) (h2:∀ h:i<l.length,ltF l[i] f=false):wP l f=i:=by
 unfold wP;rcases bX i l.length with h | h
 .rw[List.findIdx_eq h]
  exact⟨by simp[h2 h],λj hj=>by simp[h1 j (by omega) hj]⟩
 .have:i=l.length:=by omega
  subst this;rw[List.findIdx_eq_length];intro x hx;obtain⟨j,hj,rfl⟩:=gQ hx;simp[h1 j hj hj]
theorem ym {l:List Fa} {f:Fa}:(qx l f).length<=l.length+1:=by
 unfold qx;split
 .omega
 .simp only[ae,aN,aC,cw];omega
theorem HS {P:Program} {T e:TypeId} {i j:TI} {es:List (List C)} {lo hi:Option V} {l h:Nat} {K:V->Prop} (hT:ti P T=some i) (hk:i.kd=.slice e) (hE:ti P e=some j) (h1:iU 0 lo=some (l:Nat)) (h2:iU es.length hi=some (h:Nat)) (hlh:l<=h) (hhe:h<=es.length) (hx:∀ x∈es,x.length=j.size)
 (hK:K (.c (.sl ((es.take h).drop l)))):jl P T (.c (.sl es)) lo hi none K:=by
 obtain⟨kd,a,b,c,d,f,g⟩:=i;simp only at hk;subst hk;simp only[jl,hT,hE,h1,h2];exact⟨⟨by omega,by omega,by omega,hx⟩,hK⟩
def ael:=jj @pkA @ptA
def C4:=jj @pkA (jj @ptA @pkQ)
theorem ze (l:List Fa) (f:Fa) (hm:l.length<=1000000):FnOK Tryz.prog G 45 [.c (fsC l),.agg (faC f)] (.c (fsC (qx l f))):=by
 refine bI (rs:=[.tmp 4]) false [35,40,44] mixed Tryz.func45 rfl rfl rfl rfl (by kernel_rfl) (by simp) rfl rfl ?_;simp only[pkA,seval,fsC];refine bw (λi:Nat=>hdS [(0,.c (.sl (l.map faC))),(3,.bp 0 0),(5,i64 i)] [(faC f).map .c]) (λi=>l.length - i) (λi=>i<=l.length/\∀ j (h:j<l.length),j<i->ltF l[j] f=true) 0 ⟨ar _,λj h h'=>absurd h' (gf _)⟩ ?_ ?_
 .exact cm rfl (ar _) (ab _) (by simp[FL,ah]) (by simp[BL])
 rintro i ⟨hi,gy⟩ R bL bO c8;have aoL:∀ es:List (List C),(V.c (.sl es)).fz=.c (.sl es):=λ_=>rfl;have tl:∀ m:List Fa,∀ x∈m.map faC,x.length=3:=λm=>sC kj m;have post:(∀ h:i<l.length,ltF l[i] f=false)->∀ fr:Nat->V,fr 0=.c (.sl (l.map faC))->fr 3=.bp 0 0->fr 5=i64 i->R (.exit 0) ⟨fr,bxs [(faC f).map .c],1⟩:=λh2 fr f0 f3 f5=>by
  have hp:=acI hi gy h2;have new:l[i]?≠some f->qx l f=l.take i++f::l.drop i:=λh=>by unfold qx;rw[hp,if_neg h]
  have ht:((l.map faC).take i).drop 0=(l.take i).map faC:=by rw[ct,List.map_take]
  have hd:((l.map faC).take l.length).drop i=(l.drop i).map faC:=by rw[dY (by simp),List.map_drop]
  refine bO _ _ ?_;simp only[ael,seval,au,f0,f5];refine eT (λbE=>?_) (λfH=>?_)
  .have bE:i<l.length:=by simpa using bE
   simp only[pkA,seval,f0,f5];refine dQ eC rfl eS (by decide) (ay i) (c:=faC l[i]) (by simp[bE]) rfl ?_;simp only[C4,seval,f3];refine aD (λhy=>?_) (λhn=>?_)
   .have hy:l[i]=f:=by simpa using hy
    simp only[pkA,seval,f0];unfold qx;rw[hp,if_pos (by rw[ai bE,hy])]
   .have hn:¬ l[i]=f:=by simpa using hn
    rw[new (by rw[ai bE];simpa using hn)];simp only[pkA,seval,f0,f5];refine HS (l:=0) (h:=i) eC rfl eS rfl rfl (ar _) (by simp;omega) (tl l) ?_;rw[ht];simp only[pkA,seval,dm];refine Tm (l:=[]) (m:=l.take i) (by simp;omega) ?_;rw[eu];simp only[C4,seval,f3,dm,ka];refine rM (l:=l.take i) (x:=f) (by simp;omega) ?_;simp only[pkA,seval,f0,f5,ka];refine HS (l:=i) (h:=l.length) eC rfl eS rfl (by rw[au];rfl) hi (by simp) (tl l) ?_;rw[hd];simp only[pkA,seval,dm];refine Tm (l:=l.take i++[f]) (m:=l.drop i) (by simp;omega) ?_;simp only[pkA,seval,rf,ka];rw[aI];rfl
  .have fH:¬ i<l.length:=by simpa using fH
   rw[new (by rw[bG (by omega)];simp)];simp only[pkA,seval,f0,f5];refine HS (l:=0) (h:=i) eC rfl eS rfl rfl (ar _) (by simp;omega) (tl l) ?_;rw[ht];simp only[pkA,seval,dm];refine Tm (l:=[]) (m:=l.take i) (by simp;omega) ?_;rw[eu];simp only[C4,seval,f3,dm,ka];refine rM (l:=l.take i) (x:=f) (by simp;omega) ?_;simp only[pkA,seval,f0,f5,ka];refine HS (l:=i) (h:=l.length) eC rfl eS rfl (by rw[au];rfl) hi (by simp) (tl l) ?_;rw[hd];simp only[pkA,seval,dm];refine Tm (l:=l.take i++[f]) (m:=l.drop i) (by simp;omega) ?_;simp only[pkA,seval,rf,ka];rw[aI];rfl
 simp only[ael,seval,au];refine eT (λbE=>?_) (λfH=>?_)
 .have bE:i<l.length:=by simpa using bE
  have hw:=bn (n:=(i:Int)+1) (k:=i+1) (by omega) (by omega);simp only[pkA,seval];refine dQ eC rfl eS (by decide) (ay i) (c:=faC l[i]) (by simp[bE]) rfl ?_;simp only[C4,seval];refine az rfl (Ah l[i] f) (λ_=>rfl) ?_;have yG:decide (vC l[i] f<0)=ltF l[i] f:=mW _ _;simp only[pkA,seval,yG];refine aD (λhy=>?_) (λhn=>?_)
  .simp only[pkA,seval]
   refine bL (i+1) _ ⟨bE,λj h hj=>?_⟩ (by omega) (cm rfl (ar _) (ab _) (by simp[FL,ah,hw]) (by simp[BL,bxs]));rcases bX j i with h1 | h1
   .exact gy j h h1
   .have:j=i:=by omega
    subst this;exact hy
  .simp only[pkA]
   exact post (λ_=>hn) _ rfl rfl rfl
 .have fH:¬ i<l.length:=by simpa using fH
  simp only[pkA,seval];exact post (λh=>absurd h fH) _ rfl rfl rfl
def nV (b:Bool) (l:List Fa):V:=if b then .ow none [] else .c (fsC l)
theorem aem {b:Bool} {l:List Fa} (h:b=true->l=[]):(nV b l).fz=.c (fsC l):=by
 cases b
 .rfl
 .rw[h rfl];rfl
theorem C5 {b:Bool} {l:List Fa} {m:Nat}:(nV b l).ltB m=true:=by cases b<;>rfl
def zg (l:List Fa):List Fa:=l.foldl qx []
theorem Tu {l:List Fa} {i:Nat} (h:i<l.length):zg (l.take (i+1))=qx (zg (l.take i)) l[i]:=by unfold zg;rw[aU h,jZ];rfl
theorem Ya (l:List Fa):(zg l).length<=l.length:=by
 have:∀ (l m:List Fa),(l.foldl qx m).length<=l.length+m.length:=λl=>by
  induction l with
  |nil=>intro m;simp
  |cons x l ih=>intro m;rw[dT,aC];have:=ih (qx m x);have:=@ym m x;omega
 have:=this l [];simpa[zg] using this
theorem N6 (l:List Fa) (hm:l.length<=1000000):FnOK Tryz.prog G 23 [.c (fsC l)] (.c (fsC (zg l))):=by
 refine bI (rs:=[.tmp 2]) false [] mixed Tryz.func23 rfl rfl rfl rfl (by kernel_rfl) (by simp) rfl rfl ?_;have hml:∀ K,iR Tryz.prog 28 (.c (fsC l)) K=K (i64 l.length):=λK=>by unfold fsC;rw[NQ,au]
 simp only[pkA,seval];refine bw (λi:Nat=>hdS [(0,.c (fsC l)),(3,nV (decide (i=0)) (zg (l.take i))),(4,i64 i)] []) (λi=>l.length - i) (λi=>i<=l.length) 0 (ar _) ?_ ?_
 .exact cm (by simp only[iV,bh,bB,C5];rfl) (ar _) (ab _) (by simp[FL,ah,nV]) trivial
 rintro i hi R bL bO c8;have hz:(nV (decide (i=0)) (zg (l.take i))).fz=.c (fsC (zg (l.take i))):=aem λh=>by
  have:i=0:=by simpa using h
  subst this;rfl
 simp only[pkA,seval,hml];refine aD (λbE=>?_) (λfH=>?_)
 .have bE:i<l.length:=by simpa using bE
  have hw:=bn (n:=(i:Int)+1) (k:=i+1) (by omega) (by omega);simp only[pkA,seval,hz];refine dQ eC rfl eS (by decide) (ay i) (c:=faC l[i]) (by simp[bE]) rfl ?_;simp only[C4,seval];have As:=Ya (l.take i);rw[aN] at As;refine az rfl (ze _ l[i] (by omega)) (λh=>by cases h) ?_;simp only[pkA,seval];refine bL (i+1) _ bE (by omega) (cm (by simp only[iV,bh,bB,C5];rfl) (ar _) (ab _) ?_ trivial);simp[FL,ah,hw,nV,Tu bE]
 .have:i=l.length:=by simp at fH;omega
  subst this;simp only[pkA];refine bO _ _ ?_;simp only[pkA,seval,hz];rw[bZ]
def C6 (p:Pol) (l:List Fa) (n:Nat):List Fa:=if sy p n 64=true then qx (qx l (iJ ((n:Int)+1))) (wK ((n:Int)+1)) else l
def nr (p:Pol):Nat->List Fa
 |0=>[]
 |n+1=>C6 p (nr p n) n
theorem FD (p:Pol):∀ n,(nr p n).length<=2*n
 |0=>ab _
 |n+1=>by
  have:=FD p n;simp only[nr,C6];split
  .have h1:=@ym (qx (nr p n) (iJ ((n:Int)+1))) (wK ((n:Int)+1))
   have h2:=@ym (nr p n) (iJ ((n:Int)+1));omega
  .omega
theorem acJ (p:Pol) (hm:p.types.length<=100000):FnOK Tryz.prog G 57 [.agg (poC p)] (.c (fsC (nr p p.types.length))):=by
 refine bI (rs:=[.tmp 2]) false [] mixed Tryz.func57 rfl rfl rfl rfl (by kernel_rfl) (by simp) rfl rfl ?_;simp only[pkA,seval];refine bw (λx:Nat×Bool=>hdS [(1,.bp 0 0),(3,nV x.2 (nr p x.1)),(4,i64 x.1)] [(poC p).map .c]) (λx=>p.types.length - x.1) (λx=>x.1<=p.types.length/\(x.2=true->nr p x.1=[])) (0,true) ⟨ar _,λ_=>rfl⟩ ?_ ?_
 .exact cm (by simp only[iV,bh,bB,C5];rfl) (ar _) (ab _) (by simp[FL,ah,nV]) (by simp[BL])
 rintro⟨i,b⟩ ⟨hi,hb⟩ R bL bO c8;simp only at hi hb;have hz:=aem hb;have OP:=FD p i;simp only[C4,seval];refine aD (λbE=>?_) (λfH=>?_)
 .have bE:i<p.types.length:=by simpa using bE
  have hw:=bn (n:=(i:Int)+1) (k:=i+1) (by omega) (by omega);have e1:((i+1:Nat):Int)=(i:Int)+1:=by omega
  simp only[C4,seval];refine az rfl (PT p i 64 (by unfold I64;omega) (by omega)) (λ_=>rfl) ?_;simp only[pkA,seval];refine aD (λhy=>?_) (λhn=>?_)
  .simp only[pkA,seval,hz,hw]
   refine az rfl (iL ((i+1:Nat):Int)) (λ_=>rfl) ?_;simp only[pkA,seval];refine az rfl (ze _ _ (by omega)) (λh=>by cases h) ?_;simp only[pkA,seval,hw];refine az rfl (jE ((i+1:Nat):Int)) (λ_=>rfl) ?_;simp only[pkA,seval];refine az rfl (ze _ _ (by have:=@ym (nr p i) (iJ ((i+1:Nat):Int));omega)) (λh=>by cases h) ?_;simp only[pkA,seval,hw];refine bL (i+1,false) _ ⟨bE,λh=>by cases h⟩ (by simp only;omega) (cm (by simp only[iV,bh,bB,C5];rfl) (ar _) (ab _) ?_ (by simp[BL,bxs]));have hr:nr p (i+1)=qx (qx (nr p i) (iJ ((i:Int)+1))) (wK ((i:Int)+1)):=(by simp only[nr,C6,hy,cZ]);simp[FL,ah,hr,e1,nV]
  .simp only[pkA,seval,hw]
   have hr:nr p (i+1)=nr p i:=(by simp only[nr,C6,hn];simp);refine bL (i+1,b) _ ⟨bE,λh=>by simp only[hr];exact hb h⟩ (by simp only;omega) (cm (by simp only[iV,bh,bB,C5];rfl) (ar _) (ab _) ?_ (by simp[BL,bxs]));simp[FL,ah,hr,e1]
 .have:i=p.types.length:=by simp at fH;omega
  subst this;simp only[pkA];refine bO _ _ ?_;simp only[pkA,seval,hz]
def owI (l:List In):V:=.ow (if l.isEmpty then none else some (35,3)) (l.map inC)
theorem PV {l:List In} {x:In} {K:V->Prop} (h:l.length+1<=1000000000) (hK:K (owI (l++[x]))):dR Tryz.prog 86 (owI l) (.c (.sl [inC x])) K:=by
 unfold owI;rw[agV];refine⟨⟨by cases l<;>simp,sC Be _⟩,⟨by simp only[au,bz];omega,by simp only[au,bz];omega,by simp[inC]⟩,?_⟩;have e:(if[inC x].isEmpty=true then(if l.isEmpty=true then none else some (35,3)) else some (35,3))=if(l++[x]).isEmpty=true then none else some (35,3):=by cases l<;>simp
 have e2:l.map inC++[inC x]=(l++[x]).map inC:=by simp
 rw[e,e2];exact hK
def owN (l:List Nat):V:=.ow (if l.isEmpty then none else some (3,1)) (l.map λ(t:Nat)=>[cI t])
theorem ahq {l:List Nat}:(owN l).fz=.c (.sl (l.map λ(t:Nat)=>[cI t])):=rfl
theorem ahr {l:List Nat}:(owN l).isOw=true:=rfl
theorem akr {l:List Nat} {x:Nat} {K:V->Prop} (h:l.length+1<=1000000000) (hK:K (owN (l++[x]))):dR Tryz.prog 79 (owN l) (.c (.sl [[cI x]])) K:=by
 unfold owN;rw[agT];refine⟨⟨by cases l<;>simp,λe he=>by obtain⟨x,_,rfl⟩:=bU.1 he;rfl⟩,⟨by simp only[au,bz];omega,by simp only[au,bz];omega,by simp⟩,?_⟩;have e:(if[[cI (x:Int)]].isEmpty=true then(if l.isEmpty=true then none else some (3,1)) else some (3,1))=if(l++[x]).isEmpty=true then none else some (3,1):=by cases l<;>simp
 have e2:(l.map λ(t:Nat)=>[cI t])++[[cI (x:Int)]]=(l++[x]).map λ(t:Nat)=>[cI t]:=by simp
 rw[e,e2];exact hK
def lbx (p:Pol) (es:List In):List V:=[.c (cS p.name),.c (.sl (p.types.map tyC)),.c (.sl (p.rules.map ruC)),.c (.sl (p.quorums.map quC)),i64 p.types.length,owI es]
section
variable {p:Pol} {es:List In} {nb q:Nat} {K:V->Prop}
theorem aks:ldA nb q (lbx p es) 0 4 K=(q<nb/\K (.agg (poC p))):=by unfold ldA;exact propext ⟨λh=>⟨h.1,h.2.2⟩,λh=>⟨h.1,⟨rfl,rfl⟩,h.2⟩⟩
theorem akt:ldB nb q (lbx p es) 2 K=(q<nb/\K (.c (.sl (p.rules.map ruC)))):=rfl
theorem aku:ldB nb q (lbx p es) 4 K=(q<nb/\K (i64 p.types.length)):=rfl
theorem ahs:cL (lbx p es)=false:=rfl
theorem Bi {m:Nat}:(lbx p es).all (λx=>x.ltB m)=true:=rfl
end
def aht:=jj @pkI (jj @aks (jj @akt (jj @aku (jj @ahs (jj @ahq @ahr)))))
theorem wQ {p:Pol} {es:List In} {xs:List V} (h:xs.all (λx=>x.ltB 1)=true):lC xs [lbx p es]=true:=by simp only[lC,bh,bB,Bi,aC,aG,h];rfl
theorem le1 {p:Pol} {es:List In} {k nb:Nat} {fl:List (Nat×V)} {fr:Nat->V} {bx:Nat->List V} (eH:fl.all (λp=>p.2.ltB 1)=true) (hk:k<=1) (hn:1<=nb) (h:FL fl fr) (h0:bx 0=lbx p es):S.Le k (hdS fl [lbx p es]) ⟨fr,bx,nb⟩:=
 cm (by simp only[iV,bh,bB,Bi,aC,aG,eH];rfl) hk hn h ⟨h0,trivial⟩
theorem akv {p:Pol} {es:List In} {r:V} {t:Tmp} {e:VE} {fr:Nat->V} {bx:Nat->List V} {nb:Nat} (he:rF e=true) (hn:1<=nb) (h0:bx 0=lbx p es) (ht:fr t=r) (hr:r.ltB 1=true):xN Tryz.prog 1 r [lbx p es] [.tmp t] e ⟨fr,bx,nb⟩:=
 nK [(t,r)] he (by simp only[iV,bh,bB,Bi,hr,aC,aG];rfl) (ab _) hn ⟨ht,trivial⟩ ⟨h0,trivial⟩ (by simp[hdS,frs,pR,up])
theorem C7 {p:Pol} {es:List In} {e:VE} {fr:Nat->V} {bx:Nat->List V} {nb:Nat} (he:rF e=true) (hn:1<=nb) (h0:bx 0=lbx p es):xN Tryz.prog 1 (.tup []) [lbx p es] [] e ⟨fr,bx,nb⟩:=
 nK [] he (by simp only[iV,bh,bB,Bi,aC,aG];rfl) (ab _) hn trivial ⟨h0,trivial⟩ nQ
def fgN (p:Pol) (flag:Int) (n:Nat):List Nat:=(List.range n).filter λt=>sy p t flag
theorem KJ {p:Pol} {flag:Int} {n:Nat}:fgN p flag (n+1)=if sy p n flag=true then fgN p flag n++[n] else fgN p flag n:=by unfold fgN;rw[List.range_succ,iq];by_cases h:sy p n flag=true<;>simp[h]
theorem u5 {p:Pol} {flag:Int} {n:Nat}:(fgN p flag n).length<=n:=by unfold fgN;exact b9 (dK _ _) (by simp)
def Yb:=jj @pkA (jj @ptA @aht)
def aen:=jj @pkA @aht
theorem KL (p:Pol) (es:List In) (flag:Int) (hf:I64 flag) (hm:p.types.length<=1000000) :
 FnB Tryz.prog G 109 [.bp 0 0,i64 flag] [lbx p es] (.c (.sl ((fgN p flag p.types.length).map λ(t:Nat)=>[cI t]))) [lbx p es]:=by
 refine jM (rs:=[.tmp 4]) (k:=1) [24,3000001] mixed Tryz.func109 rfl rfl rfl rfl (by kernel_rfl) (by simp) rfl rfl rfl (wQ rfl) (ab _) ?_;simp only[pkA,seval];refine bw (λi:Nat=>hdS [(0,.bp 0 0),(1,i64 flag),(5,owN (fgN p flag i)),(6,i64 i)] [lbx p es]) (λi=>p.types.length - i) (λi=>i<=p.types.length) 0 (ar _) ?_ ?_
 .exact le1 rfl (ab _) (ab _) (by simp[FL,ah,fgN,owN]) rfl
 rintro i hi R bL bO c8;simp only[Yb,seval];refine aD (λbE=>?_) (λfH=>?_)
 .have bE:i<p.types.length:=by simpa using bE
  have hw:=bn (n:=(i:Int)+1) (k:=i+1) (by omega) (by omega);have hl:=@u5 p flag i;simp only[Yb,seval];refine az rfl (PT p i flag hf (by omega)) (λ_=>rfl) ?_;simp only[pkA,seval];refine aD (λhy=>?_) (λhn=>?_)
  .simp only[Yb,seval,dm]
   refine akr (l:=fgN p flag i) (x:=i) (by omega) ?_;simp only[aen,seval,hw];exact bL (i+1) _ bE (by omega) (le1 rfl (ab _) (ab _) (by simp[FL,ah,KJ,hy]) rfl)
  .simp only[pkA,seval,hw]
   exact bL (i+1) _ bE (by omega) (le1 rfl (ab _) (ab _) (by simp[FL,ah,KJ,hn]) rfl)
 .have:i=p.types.length:=by simp at fH;omega
  subst this;simp only[pkA];refine bO _ _ ?_;simp only[aen,seval];exact akv rfl (ab _) rfl (by simp[]) rfl
