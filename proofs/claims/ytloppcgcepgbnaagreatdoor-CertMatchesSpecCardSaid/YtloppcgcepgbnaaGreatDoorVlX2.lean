/- Layer 18: the caller of the instances' iterator: what its boxes hold. -/
import Derived.Test.YtloppcgcepgbnaaGreatDoorVlX0
set_option linter.all false
namespace Go.Proofs.YtloppcgcepgbnaaGreatDoor
open Go Go.Vl
variable {G:Gl}
set_option maxRecDepth 4000
def prs (xs:List In):List (Fa×Nat):=xs.zipIdx.flatMap λq=>q.1.pre.map λf=>(f,q.2)
theorem KT {xs:List In} {x:In}:prs (xs++[x])=prs xs++x.pre.map λf=>(f,xs.length):=by unfold prs;rw[List.zipIdx_append,List.flatMap_append];simp
structure Sa where
 xs:List In
 m:Me
 wf:Mw m xs.length (mX (prs xs)) (uP (prs xs))
def obs (xs:List In) (i:Nat):Option Wt:=match xs[i]? with
 |some x=>if x.pre.isEmpty then none else some ⟨x,(i:Nat),(x.pre.length:Nat)⟩
 |none=>none
theorem KU {xs:List In} {x:In}:obs (xs++[x])=upO (obs xs) xs.length (if x.pre.isEmpty then none else some ⟨x,(xs.length:Nat),(x.pre.length:Nat)⟩):=by
 funext i;unfold obs upO;by_cases h:i=xs.length
 .subst h;simp
 .rw[if_neg h]
  by_cases h2:i<xs.length
  .rw[aA h2]
  .have h3:(xs++[x])[i]?=none:=bG (by simp;omega)
   have h4:xs[i]?=none:=bG (by omega);simp only[h3,h4]
def que (xs:List In):List Wt:=(xs.zipIdx.filter λq=>q.1.pre.isEmpty).map λq=>⟨q.1,(q.2:Nat),0⟩
theorem KX {xs:List In} {x:In}:que (xs++[x])=que xs++(if x.pre.isEmpty then[⟨x,(xs.length:Nat),0⟩] else[]):=by
 unfold que;rw[List.zipIdx_append,iq,db];congr 1;by_cases h:x.pre=[]
 .simp[h]
 .simp[h]
theorem P1 {xs:List In}:(que xs).length<=xs.length:=by unfold que;rw[au];exact b9 (dK _ _) (by simp)
def H2 (l:List Wt):Option (TypeId×Nat):=if l.isEmpty then none else some (156,1)
def vD (l:List Wt):V:=.gs none (H2 l) (l.map λw=>[wtP w])
theorem P2 {l:List Wt}:H2 l=none∨H2 l=some (156,1):=by unfold H2;split<;>simp
theorem FK {l:List Wt} {w:Wt}:vD (l++[w])=.gs none (some (156,1)) (l.map (λw=>[wtP w])++[[wtP w]]):=by simp[vD,H2]
def flS:List (Nat×V):=[(4,.bp 1 0),(5,.bp 3 0),(6,.bp 4 0)]
def ybS (n:Nat) (ps:Array Tmp) (ca cb:Code) (t:Sa):List (List V):=
 [.lp (lp0 n ps ca cb) flS::cells t.m (obs t.xs) (uP (prs t.xs)),[.mr 2],uM (hds (mX (prs t.xs)) t.m.hd),qB .un (vD (que t.xs)) 0,[i64 t.xs.length]]
theorem Dj {m:Me} {ob:Nat->Option Wt} {u:Fa->List Nat} {k:Nat}:∀ x∈cells m ob u,x.ltB k=true:=by
 intro x hx;unfold cells at hx;obtain⟨it,_,rfl⟩:=bU.1 hx;cases it with
 |ob i=>simp only[rS];split<;>rfl
 |us f=>rfl
theorem zj {m:Me} {ob:Nat->Option Wt} {u:Fa->List Nat} {k:Nat}:(cells m ob u).all (λx=>x.ltB k)=true:=aY.2 λx hx=>Dj x hx
theorem ahA:∀ (L:Loop),(V.lp L flS).lt 5:=by
 intro L p hp;simp only[flS,aP,aZ,cR] at hp;rcases hp with rfl | rfl | rfl<;>simp[V.ltP]
theorem ltS {L:Loop} {c:List V} {l:List (Fa×Value)} {q:List Wt} {z:Int} (hc:∀ x∈c,x.ltB 5=true):ltL 5 [V.lp L flS::c,[.mr 2],uM l,qB .un (vD q) 0,[i64 z]]:=by
 intro b hb x hx;simp only[aP,aZ,cR] at hb;rcases hb with rfl | rfl | rfl | rfl | rfl
 .rcases aP.1 hx with rfl | hx
  .exact ahA L
  .exact V.ltB_ok (hc x hx)
 .simp only[aX] at hx;subst hx;simp[V.lt]
 .exact V.ltB_ok (aY.1 (HY (k:=5)) x hx)
 .simp only[qB,aP,aZ,cR] at hx
  rcases hx with rfl | rfl | rfl<;>trivial
 .simp only[aX] at hx;subst hx;trivial
def Yw (n:Nat) (ps:Array Tmp) (ca cb:Code):Ys Sa where
 yb:=ybS n ps ca cb
 k:=5
 pos:=by decide
 len:=λ_=>rfl
 lt:=λs=>ltS Dj
 step:=λt x t' b=>b=true/\t'.xs=t.xs++[x]
def bxS (Lb:Loop) (c:List V) (l:List (Fa×Value)) (q:List Wt) (z:Nat):List (List V):=[V.lp Lb flS::c,[.mr 2],uM l,qB .un (vD q) 0,[i64 z]]
theorem Og {Lb:Loop} {m:Me} {ob:Nat->Option Wt} {u:Fa->List Nat} {l:List (Fa×Value)} {q:List Wt} {z:Nat} {fl:List (Nat×V)} (h:(fl.all λp=>p.2.ltB 5)=true):iV fl (bxS Lb (cells m ob u) l q z)=true:=by simp only[iV,bxS,aC,aG,h,bh,bB,zj,HY,Bool.and_true,ke];rfl
theorem Yu {b:Nat}:(obV b).isOw=false:=rfl
theorem ahB {b:Nat}:(obV b).fz=obV b:=rfl
theorem Yv {v:Value}:(exV v).isOw=false:=rfl
theorem ahC {v:Value}:(exV v).fz=exV v:=rfl
theorem ahD {v:Value}:V.c (.ex v)=exV v:=rfl
theorem acW:nilC=exV (.slice none 0 0):=rfl
theorem Yx {ps:List (Fa×Nat)} {f:Fa}:(uP ps f).length<=ps.length:=by unfold uP;rw[au];exact dK _ _
def Dk:=jj @Yu (jj @ahB (jj @Yv (jj @ahC (jj @ahD @aM))))
def obF (b o:Nat):V:=.c (.ex (.pointer (some ⟨b,o,none⟩)))
theorem u7 {b:Nat} {K:V->Prop}:A7 (obV b) K=K (obV b):=rfl
theorem H3 {b:Nat} {K:V->Prop} (hK:K (obF b 4)):bq Tryz.prog 158 (obV b) 2 K:=NC (k:=0) CW rfl (by decide) hK
theorem Oh {s:Vl.S} {b k blk:Nat} {w:Wt} {K:V->Prop} (hb:b<s.nb) (hk:(s.bx b)[k]?=some (obG blk w)) (hK:K (i64 w.missing)):wa Tryz.prog s 3 (obF blk 4) K:=by unfold wa;rw[mo];exact⟨b,k,1,1,_,_,_,⟨hb,hk⟩,hK⟩
theorem acX {β:Type} {ob:Nat->β} {i:Nat} {v w:β}:upO (upO ob i v) i w=upO ob i w:=by funext j;unfold upO;split<;>rfl
theorem Yy {E:Option (TypeId×Nat)} {es:List (List C)} {l:List Nat} {n:Nat} {bl:Nat->Nat} {v:Value} (he:es=((l++[n]).map bl).map λb=>[obP b]) (h:GsV E es v):∃ blk cap,v=.slice (some ⟨blk,0,none⟩) (l++[n]).length cap:=by
 have hl:es.length=(l++[n]).length:=by rw[he];simp
 rcases h with⟨blk,cap,h,_⟩ | ⟨h,_⟩
 .exact⟨blk,cap,by rw[<- hl];exact h⟩
 .rw[h] at hl;simp at hl
theorem ahE {P:Program} {n:Nat} {ps:Array Tmp} {ca cb:Code} {fl:List (Nat×V)} {gs:List V} {xs:List V} {bs:List (List V)} {R:V->List (List V)->Prop} (tr:List Nat) (hm:P.follows .mixedOrders=true) (vG:ps.toList.length=xs.length)
 (LJ:∀ p∈ps.toList,p<n) (ZY:cok n tr ca=true) (ZZ:cok n tr cb=true)
 (UP:(∀ x∈xs,x.lt (bs.length+1))/\(∀ b∈(V.lp (lp0 n ps ca cb) fl::gs)::bs,∀ x∈b,x.lt (bs.length+1))/\∀ r b1,R r b1->bs.length+1<=b1.length)
 (h:∀ (Lb Lc:Loop) (R':V->List (List V)->Prop),Cm Lb .normal=Lc->Lc=lp0 n ps ca cb->R'=R->hZ P G tr (bs.length+1) ca (λe s=>e=.normal/\(s.bx 0=.lp Lc fl::gs/\0<s.nb)/\hZ P G tr (bs.length+1) cb (Pv (bs.length+1) R') { s with bx:=up s.bx 0 (.lp Lb fl::gs) })
  ⟨frY fl ps.toList xs,bxs ((V.lp Lc fl::gs)::bs),bs.length+1⟩) (QB:Gp tr=false:=by rfl):YE P G xs ((V.lp (lp0 n ps ca cb) fl::gs)::bs) R:=
 aed (L:=lp0 n ps ca cb) tr hm rfl vG LJ ZY ZZ UP (h { lp0 n ps ca cb with state:=.busy } _ _ rfl rfl rfl) QB
theorem oS {f:List (Nat×Nat×Bool)} {z cs:List C} {p:List (Nat×V)} {K:V->Prop} {o:Option (List C)} (h:o=some cs) (hK:K (.agg cs)):vz f z p K o:=by subst h;exact hK
theorem acY {s:Vl.S} {d:Option Tmp} {w:Wt} {b k:Nat} {y:V} {K:Vl.S->Prop} (hb:b<s.nb) (hk:(s.bx b)[k]?=some y) (hy:y.isMk=false) (hK:∀ blk,K ({ s with bx:=up s.bx b ((s.bx b).set k (obG blk w)) }.put d (obV blk))) :
 xp Tryz.prog s d 158 (.agg (wtC w)) K:=by
 unfold xp;rw[CW];exact⟨b,k,y,⟨rfl,by decide,hb,hk,hy⟩,hK⟩
def TC:Code->Option (Code×Code)
 | .seq a b=>match TC a with
  |some r=>some r
  |none=>TC b
 | .block _ b=>TC b
 | .scope b=>TC b
 | .loop b=>TC b
 | .rangeFunc _ _ a b=>some (a,b)
 |_=>none
noncomputable def Oi:Option (Code×Code):=(Tryz.f90.body).bind TC
def aew:=jj @pkA (jj @ptA @pkF)
def aex:=jj @pkA (jj @ptA @Dk)
def o8:=jj @pkA @Dk
set_option maxHeartbeats 4000000 in
theorem TD (t:Sa) (x:In) (hx:x.pre.length<=1000000) (hp:(prs t.xs).length<=1000000) (hn:t.xs.length<1000000):∃ c,Oi=some c/\(Yw 141 #[26] c.1 c.2).ok G t x:=by
 refine⟨(_,_),rfl,?_⟩;unfold Ys.ok;show YE Tryz.prog G _ (ybS 141 #[26] _ _ t) _;refine ahE (fl:=flS) (gs:=cells t.m (obs t.xs) (uP (prs t.xs))) (bs:=[[.mr 2],uM (hds (mX (prs t.xs)) t.m.hd),qB .un (vD (que t.xs)) 0,[i64 t.xs.length]])
  [2850007,2890007,2350033,2380033,2850012,2890012,2350048,2380049,2400049,2380050,2850014,2890014,2350055,2300015,1000058] mixed rfl ?_ ?_ ?_ ?_ ?_
 .intro q hq;simp at hq;subst hq;decide
 .kernel_rfl
 .kernel_rfl
 .refine⟨λy hy=>?_,(Yw 141 #[26] _ _).lt t,λr b1 h=>?_⟩
  .simp only[aX] at hy;subst hy;trivial
  .obtain⟨t',b,_,_,rfl⟩:=h
   exact ab _
 intro Lb Lc R hLb hLc hR;have q1:∀ a b c:V,eP [a,b,c] 0 ((inC x).map .c)=(inC x).map .c:=λ_ _ _=>rfl;have q2:cL ((inC x).map V.c)=false:=rfl;have q3:∀ nb q (K:V->Prop),ldA nb q ((inC x).map V.c) 0 3 K=(q<nb/\K (.agg (inC x))):=λnb q K=>by unfold ldA;exact propext ⟨λh=>⟨h.1,h.2.2⟩,λh=>⟨h.1,⟨rfl,rfl⟩,h.2⟩⟩
 have q4:∀ nb q (K:V->Prop),ldB nb q ((inC x).map V.c) 1 K=(q<nb/\K (.c (fsC x.pre))):=λ_ _ _=>rfl;have q5:cL (qB .un (vD (que t.xs)) 0)=false:=rfl;have len_fs:∀ (l:List Fa) (K:V->Prop),iR Tryz.prog 28 (.c (fsC l)) K=K (i64 l.length):=λl K=>by rw[fsC,fN eC rfl,au]
 simp only[aew,seval,frY,flS,List.zip_cons_cons,List.zip_nil_right,dT,List.foldl_nil,q1];refine ue ?_;simp only[aew,seval,dW,dS,nN,nE,gv,q2,q3,q4,len_fs];refine oS (cs:=wtC ⟨x,(t.xs.length:Nat),(x.pre.length:Nat)⟩) rfl ?_;simp only[pkA,seval,dW,dS,nN,nE,gv];refine .more 0 (show 0<6 by decide) rfl (.done ?_);simp only[pkA,seval,vt];refine acY (b:=0) (k:=(cells t.m (obs t.xs) (uP (prs t.xs))).length+1) (y:=.un) (show 0<6 by decide) (by simp[]) rfl λbk=>?_;have e0:∀ (l:List V) (a:V),(V.lp Lb flS::(l++[V.un])).set (l.length+1) a=V.lp Lb flS::(l++[a]):=λl a=>by simp
 simp only[pkA,seval,dW,dS,nN,nE,gv];refine .done ?_;have len_nn:((t.xs.length:Nat):Int)+1=((t.xs.length+1:Nat):Int):=by omega
 have hw:=bn (n:=(t.xs.length:Int)+1) (k:=t.xs.length+1) (by omega) (by omega);simp only[aex,seval,q2,q4,len_fs,hw];have qm:∀ (l:List V) (a:V),(l++[V.un]).set l.length a=l++[a]:=λl a=>by simp
 obtain⟨ob1,kb⟩:∃ o,o=upO (obs t.xs) t.xs.length (some ⟨x,(t.xs.length:Nat),(x.pre.length:Nat)⟩):=⟨_,rfl⟩;refine bw (λs:Me×Nat=>hdS [(4,.bp 1 0),(5,.bp 3 0),(6,.bp 4 0),(8,obV bk),(37,.c (fsC x.pre)),(38,i64 x.pre.length),(39,i64 s.2)]
  (bxS Lb (cells s.1 (ob1) (uP (prs t.xs++(x.pre.take s.2).map λf=>(f,t.xs.length))))
   (hds (mX (prs t.xs++(x.pre.take s.2).map λf=>(f,t.xs.length))) s.1.hd) (que t.xs) (t.xs.length+1)))
  (λs=>x.pre.length - s.2) (λs=>(Mw s.1 (t.xs.length+1) (mX (prs t.xs++(x.pre.take s.2).map λf=>(f,t.xs.length))) (uP (prs t.xs++(x.pre.take s.2).map λf=>(f,t.xs.length)))/\s.1.bl t.xs.length=bk)/\s.2<=x.pre.length)
  (⟨t.m.its++[.ob t.xs.length],upO t.m.bl t.xs.length bk,t.m.hd⟩,0) ⟨⟨by simpa using t.wf.new bk,yq⟩,ar _⟩ ?_ ?_
 .refine cm (Og rfl) (show 5<=5 by decide) (show 5<=6 by decide) (by simp[FL,ah]) ?_
  simp only[jC,jY,br];rw[kb,TB t.wf];exact⟨by simp[ah,qm,flS],by simp[ah,bxs],by simp[ah,bxs],by simp[ah,bxs],by simp[],trivial⟩
 .rintro⟨m,j⟩ ⟨⟨hm,hbk⟩,hj⟩ Q bL bO c8
  simp only at hm hbk hj;simp only[o8,seval,bxS];refine aD (λbE=>?_) (λfH=>?_)
  .have bE:j<x.pre.length:=by simpa using bE
   simp only[o8,seval,fsC];refine dQ eC rfl eS (by decide) (ay j) (c:=faC x.pre[j]) (by simp[bE]) rfl ?_;have r1:∀ a b c:V,eP [a,b,c] 0 ((faC x.pre[j]).map .c)=(faC x.pre[j]).map .c:=λ_ _ _=>rfl;have r3:∀ nb q (K:V->Prop),ldA nb q ((faC x.pre[j]).map .c) 0 3 K=(q<nb/\K (faV x.pre[j])):=λnb q K=>by unfold ldA;exact propext ⟨λh=>⟨h.1,h.2.2⟩,λh=>⟨h.1,⟨rfl,rfl⟩,h.2⟩⟩
   have r2:cL ((faC x.pre[j]).map V.c)=false:=rfl;simp only[pkA,ptA,pkF,Dk,seval,r1];refine ue ?_;simp only[aex,seval,dW,dS,nN,nE,gv,r2,r3];have hP1:prs t.xs++(x.pre.take (j+1)).map (λf=>(f,t.xs.length))=(prs t.xs++(x.pre.take j).map λf=>(f,t.xs.length))++[(x.pre[j],t.xs.length)]:=(by rw[aU bE,db,gp,aI]);have hwj:=bn (n:=(j:Int)+1) (k:=j+1) (by omega) (by omega);have hj1:((j+1:Nat):Int)=(j:Int)+1:=(by omega);have hPl:∀ f,(uP (prs t.xs++(x.pre.take j).map λf=>(f,t.xs.length)) f).length<=2000000:=λf=>by have:=@Yx (prs t.xs++(x.pre.take j).map λf=>(f,t.xs.length)) f;rw[ae,au,aN] at this;omega
   have r4:ml 1 [(0,obV bk)] [[C.lit (.pointer none)]]=some [[obP bk]]:=rfl;simp only[pkA,seval,vt,r4];refine akz (l:=hds (mX (prs t.xs++(x.pre.take j).map λf=>(f,t.xs.length))) m.hd) rfl (show 2<6 by decide) (λjj v hjv=>?_) (λvL=>?_)
   .simp only[o8,seval,dW,dS,nN,nE,gv]
    have Gj:=P0 hjv;obtain⟨hkf,rfl⟩:=Gj;obtain⟨c,vo,hc2,hc3⟩:=yr (ob:=ob1) (u:=uP (prs t.xs++(x.pre.take j).map λf=>(f,t.xs.length))) ((hm.us _).2 hkf);refine .ggT 0 (c+1) 49 (show 0<6 by decide) hc3 rfl (.done ?_);simp only[o8,seval,dm,xl];refine NI (v:=m.hd x.pre[j]) (y1:=[obP bk]) (sz:=1) (by_:=8) nq rfl ui rfl rfl rfl (by decide) rfl rfl rfl ⟨by decide,by simp,by simp⟩ rfl (.inr rfl) (by simp) rfl ?_ ?_ ?_
    .have:=hPl x.pre[j]
     rw[au,au];omega
    .have:=hPl x.pre[j]
     rw[au,au];omega
    simp only[o8,seval,dW,dS,nN,nE,gv];refine .ggB 49 0 (c+1) (x:=.un) rfl (show 0<6 by decide) (by simp[FI,vo]) rfl λv' _ hgv=>.done ?_;simp only[o8,seval,dW,dS,nN,nE,gv];refine aev (l:=hds (mX (prs t.xs++(x.pre.take j).map λf=>(f,t.xs.length))) m.hd) (f:=x.pre[j]) (v0:=m.hd x.pre[j]) rfl (show 2<6 by decide) hjv ?_;simp only[pkA,dS];refine .done ?_;simp only[o8,seval,hwj];have px:((uP (prs t.xs++(x.pre.take j).map λf=>(f,t.xs.length)) x.pre[j]).map m.bl).map (λb=>[obP b])++[[obP bk]]=((uP (prs t.xs++(x.pre.take j).map λf=>(f,t.xs.length)) x.pre[j]++[t.xs.length]).map m.bl).map (λb=>[obP b]):=(by rw[db,db,gp,gp,hbk]);have hv':∃ blk cap,v'=.slice (some ⟨blk,0,none⟩) (uP (prs t.xs++(x.pre.take j).map λf=>(f,t.xs.length)) x.pre[j]++[t.xs.length]).length cap:=Yy px hgv;refine bL (⟨m.its,m.bl,upF m.hd x.pre[j] v'⟩,j+1) _ ⟨⟨?_,hbk⟩,bE⟩ (by simp only;omega) (cm (Og rfl) (show 5<=5 by decide) (show 5<=6 by decide) (by simp[FL,ah,hj1,fsC]) ?_)
    .simp only[hP1,sE,Bl,HZ hkf]
     exact hm.more hkf (ck _) hv'
    .simp only[hP1,sE,Bl,HZ hkf]
     refine⟨?_,by simp[ah,bxs],?_,by simp[ah,bxs],by simp[ah,bxs],trivial⟩
     .rw[<- Of hm hc2]
      simp[ah,usG,hbk]
     .simp only[ah,acU hm.kn hjv]
      rfl
   .simp only[o8,seval,dW,dS,nN,nE,gv,acW]
    rw[PZ] at vL;have hu0:=hm.ku _ vL;refine .more 0 (show 0<6 by decide) rfl (.gg0 49 rfl (.done ?_));simp only[o8,seval,dm,xl];refine NI (v:=.slice none 0 0) (E:=none) (es:=[]) (y1:=[obP bk]) (sz:=1) (by_:=8) nq rfl ui rfl rfl rfl (by decide) rfl rfl rfl ⟨by decide,by simp,by simp⟩ rfl (.inl rfl) (by simp) rfl (by decide) (by decide) ?_;simp only[o8,seval,dW,dS,nN,nE,gv];refine .ggB 49 0 ((cells m ob1 (uP (prs t.xs++(x.pre.take j).map λf=>(f,t.xs.length)))).length+1) (x:=.un) rfl (show 0<6 by decide) (by simp[]) rfl λv' _ hgv=>.done ?_;simp only[o8,seval,dW,dS,nN,nE,gv];refine aev (j:=(hds (mX (prs t.xs++(x.pre.take j).map λf=>(f,t.xs.length))) m.hd).length) (l:=hds (mX (prs t.xs++(x.pre.take j).map λf=>(f,t.xs.length))) m.hd++[(x.pre[j],.slice none 0 0)]) (f:=x.pre[j]) (v0:=.slice none 0 0) rfl (show 2<6 by decide) (by simp) ?_;simp only[pkA,dS];refine .done ?_;simp only[o8,seval,hwj];have px:([]:List (List C))++[[obP bk]]=((uP (prs t.xs++(x.pre.take j).map λf=>(f,t.xs.length)) x.pre[j]++[t.xs.length]).map m.bl).map (λb=>[obP b]):=(by rw[hu0,eu,eu,gp,gp,hbk]);have hv':∃ blk cap,v'=.slice (some ⟨blk,0,none⟩) (uP (prs t.xs++(x.pre.take j).map λf=>(f,t.xs.length)) x.pre[j]++[t.xs.length]).length cap:=Yy px hgv;refine bL (⟨m.its++[.us x.pre[j]],m.bl,upF m.hd x.pre[j] v'⟩,j+1) _ ⟨⟨?_,hbk⟩,bE⟩ (by simp only;omega) (cm (Og rfl) (show 5<=5 by decide) (show 5<=6 by decide) (by simp[FL,ah,hj1,fsC]) ?_)
    .simp only[hP1,sE,Bl,Di vL]
     exact hm.first vL (ck _) hv'
    .simp only[hP1,sE,Bl,Di vL]
     refine⟨?_,by simp[ah,bxs],?_,by simp[ah,bxs],by simp[ah,bxs],trivial⟩
     .rw[KQ hm vL,hu0]
      simp[ah,usG,hbk]
     .rw[<- acV (v0:=.slice none 0 0) vL]
      simp[]
  .have hj0:j=x.pre.length:=by simp at fH;omega
   subst hj0;have hP:prs t.xs++(x.pre.take x.pre.length).map (λf=>(f,t.xs.length))=prs (t.xs++[x]):=(by rw[bZ,KT]);simp only[hP] at hm;have hm':Mw m (t.xs++[x]).length (mX (prs (t.xs++[x]))) (uP (prs (t.xs++[x]))):=(by simpa using hm);simp only[pkA,hP];refine bO _ _ ?_;simp only[pkA,seval];refine ue ?_;obtain⟨c,vo,hc2,hc3⟩:=yr (ob:=ob1) (u:=uP (prs (t.xs++[x]))) ((hm.ob _).2 (ck t.xs.length));have xi:rS m ob1 (uP (prs (t.xs++[x]))) (.ob t.xs.length)=obG bk ⟨x,(t.xs.length:Nat),(x.pre.length:Nat)⟩:=(by simp only[rS,kb,yq,hbk]);rw[xi] at hc3;simp only[o8,seval,dW,dS,nN,nE,gv,u7];refine H3 ?_;simp only[o8,seval,vt,dW,dS,nN,nE,gv];refine Oh (b:=0) (k:=c+1) (show 0<5 by decide) hc3 ?_;simp only[pkA,dS];refine .done ?_;have qz:∀ (q:List Wt) (o:Nat->Option Wt) (bx:Nat->List V) (nb:Nat) (fr:Nat->V),q=que (t.xs++[x])->o=obs (t.xs++[x])->5<=nb->bx 0=V.lp Lb flS::cells m o (uP (prs (t.xs++[x])))->bx 1=[.mr 2]->bx 2=uM (hds (mX (prs (t.xs++[x]))) m.hd)->bx 3=qB .un (vD q) 0->bx 4=[i64 (t.xs.length+1:Nat)]->
    Pv 5 R .normal ⟨fr,bx,nb⟩:=by
    rintro q o bx nb fr rfl rfl h5 b0 b1 b2 b3 b4;refine⟨bo true,ybS 141 #[26] _ _ ⟨t.xs++[x],m,hm'⟩,by rw[hR];exact⟨⟨t.xs++[x],m,hm'⟩,true,⟨rfl,rfl⟩,rfl,rfl⟩,rfl,Lb,flS,_,⟨b0,show 0<nb by omega⟩,[],?_⟩;rw[hLb,hLc];refine Hy (λ_ h=>by cases h) (ltS Dj) (ab 5) h5 trivial ?_;intro i hi
    match i,hi with
    |0,_=>simp[up,bxs,ybS]
    |1,_=>simp[up,bxs,ybS,b1]
    |2,_=>simp[up,bxs,ybS,b2]
    |3,_=>simp[up,bxs,ybS,b3]
    |4,_=>simp[up,bxs,ybS,b4]
   have hoe:x.pre≠[]->ob1=obs (t.xs++[x]):=λh=>by rw[kb,KU,if_neg (by simpa using h)]
   refine aD (λhy=>?_) (λhy=>?_)
   .have h0:x.pre=[]:=by simpa using hy
    simp only[o8,seval];refine rb rfl (.frz 0 (c+1) 8 bk 1 1 (show 0<5 by decide) hc3 rfl (.done ?_));simp only[o8,seval];have hq:que (t.xs++[x])=que t.xs++[⟨x,(t.xs.length:Nat),(x.pre.length:Nat)⟩]:=(by rw[KX,if_pos (by simp[h0]),h0];rfl);have nC:=P1 (xs:=t.xs);refine jN [3,4] rfl (PY (wtP ⟨x,(t.xs.length:Nat),(x.pre.length:Nat)⟩) .un [i64 (t.xs.length+1:Nat)] 0 ((que t.xs).map λw=>[wtP w]) (H2 (que t.xs)) P2 (by simp) (by rw[au];omega) rfl rfl rfl) (by simp[V.fz,V.ren,rho,wtP]) rfl (by decide) rfl
     ⟨⟨show 3<5 by decide,rfl⟩,⟨show 4<5 by decide,rfl⟩,trivial⟩ ?_
    intro bx' iE oa;simp only[pkA];refine qz (que (t.xs++[x])) (upO ob1 t.xs.length none) _ _ _ rfl ?_ (ab 5) ?_ ?_ ?_ ?_ ?_
    .rw[kb,acX,KU,if_pos (by simp[h0])]
    .rw[iE 0 (by decide),<- Dh hm hc2 none];rfl
    .rw[iE 1 (by decide)];rfl
    .rw[iE 2 (by decide)];rfl
    .rw[hq,FK];exact oa 0 3 _ rfl rfl
    .exact oa 1 4 _ rfl rfl
   .have h0:x.pre≠[]:=by simpa using hy
    simp only[pkA];refine qz (que t.xs) ob1 _ _ _ (by rw[KX,if_neg (by simpa using h0),br]) (hoe h0) (ab 5) rfl rfl rfl rfl rfl
