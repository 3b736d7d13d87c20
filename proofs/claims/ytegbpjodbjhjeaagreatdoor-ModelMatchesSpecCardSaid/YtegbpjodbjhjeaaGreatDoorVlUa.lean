/- Layer 15: the specification's built, Subterms. -/
import Derived.Test.YtegbpjodbjhjeaaGreatDoorVlT7
import Derived.Test.YtegbpjodbjhjeaaGreatDoorVlFlb
set_option maxHeartbeats 16000000
set_option linter.all false
namespace Go.Proofs.YtegbpjodbjhjeaaGreatDoor
open Go Go.Vl
variable {G:Gl}
set_option maxRecDepth 4000
theorem IF {p:Tm->Bool} {l:List Tm} {i:Nat} (h:i<l.length):lN p (l.drop i)=(dH p l[i]&&lN p (l.drop (i+1))):=by rw[cw h];rfl
def sF:=jj @pkA (jj @ptA @pkT)
theorem yI (S:List Tm) (hS:cz S<=900000000):∀ t:Tm,bi t<=900000000->FnOK Tryz.prog G 64 [.c (tsC S),.agg (tmC t)] (bo (dH (inP S) t)):=by
 refine Tm.ind λk n l ih hs=>?_;have ej:cz l+1<=900000000:=by simp only[bi] at hs;omega
 have JU:=iG l;have hT:dH (inP S) (.mk k n l)=((decide (Tm.mk k n l∈S)||decide (k=1))||(!decide (k=2)&&lN (inP S) l)):=rfl;have hH:=Y9 (G:=G) S (.mk k n l) (by omega) (by omega);obtain⟨t0,N2⟩:∃ t0,t0=Tm.mk k n l:=⟨_,rfl⟩;have e0:t0.kind=k:=by rw[N2];rfl
 have e2:t0.l=l:=by rw[N2];rfl
 rw[<- N2] at hT hH ⊢
 clear N2;refine bD (rs:=[.tmp 4]) false [] mixed Tryz.func64 rfl rfl rfl rfl (by kernel_rfl) (by simp) rfl rfl ?_;simp only[sF,seval,tsC,e0];refine fQ (λh1=>?_) (λh1=>?_)
 .have h1:¬ k=1:=by simpa using h1
  simp only[sF,seval];refine ax rfl hH (λh=>by cases h) ?_;simp only[pkA,seval];refine aJ (λhm=>?_) (λhm=>?_)
  .simp only[pkA,seval]
   rw[hT,hm];rfl
  have hnm:decide (t0∈S)=false:=hm;simp only[sF,seval,e0];refine aJ (λh2=>?_) (λh2=>?_)
  .have h2:k=2:=by simpa using h2
   simp only[pkA,seval];rw[hT,hnm];simp[h2]
  have h2:¬ k=2:=by simpa using h2
  have hT':dH (inP S) t0=lN (inP S) l:=by rw[hT,hnm];simp[h1,h2]
  simp only[pkA,seval];refine cm (λi:Nat=>hdS [(0,.c (.sl (S.map tmC))),(3,.bp 0 0),(5,i64 i)] [(tmC t0).map .c]) (λi=>l.length - i) (λi=>i<=l.length/\lN (inP S) l=lN (inP S) (l.drop i)) 0 ⟨ar _,rfl⟩ ?_ ?_
  .exact bT (by simp only[eu,aK,aQ,iY];rfl) (ar _) (ai _) (by simp[FL,aw]) ⟨by simp[],trivial⟩
  rintro i ⟨hi,he⟩ R bN b8 db;simp only[sF,seval,tsC,e2];refine aJ (λbF=>?_) (λfu=>?_)
  .have bF:i<l.length:=by simpa using bF
   simp only[sF,seval,tsC,e2];refine cR dc rfl cV (by decide) (aC i) (c:=tmC l[i]) (by simp[bF]) (bG _) ?_;simp only[pkA,seval,jr (bG _)];refine ax rfl (ih l[i] (aH bF) (by have:=fE (aH bF);omega)) (λh=>by cases h) ?_;have e1:=IF (p:=inP S) bF;have sW:=dM (n:=(i:Int)+1) (k:=i+1) (by omega) (by omega);simp only[pkA,seval];refine aJ (λgu=>?_) (λkL=>?_)
   .have gu:dH (inP S) l[i]=false:=by simpa using gu
    simp only[pkA,seval];refine db _ ?_;simp only[pkA,seval];rw[hT',he,e1,gu];rfl
   .have kL:dH (inP S) l[i]=true:=by simpa using kL
    simp only[pkA,seval];refine bN (i+1) _ ⟨bF,?_⟩ (by omega) (bT (by simp only[eu,aK,aQ,iY];rfl) (ar _) (ai _) ?_ ⟨by simp[bxs],trivial⟩)
    .rw[he,e1,kL];rfl
    .simp[FL,aw,sW]
  .have:i=l.length:=by simp at fu;omega
   subst this;simp only[pkA];refine b8 _ _ ?_;simp only[pkA,seval];rw[hT',he,gd];rfl
 .have h1:k=1:=by simpa using h1
  simp only[pkA,seval];rw[hT];simp[h1]
theorem tU:∀ (l out:List Tm),pE out l=l.foldl (λo t=>jK o (rQ t)) out
 |[],_=>rfl
 |t::l,out=>by simp only[pE,fY];exact tU l _
theorem IG {l out:List Tm} {i:Nat} (h:i<l.length):pE out (l.take (i+1))=jK (pE out (l.take i)) (rQ l[i]):=by rw[tU,tU,aR h,jD];rfl
theorem IH {l out:List Tm} {i:Nat} (h:i<l.length):jK out (l.take (i+1))=tO (jK out (l.take i)) l[i]:=by unfold jK;rw[aR h,jD];rfl
theorem DJ:∀ t:Tm,∀ x∈j0 t,bi x<=bi t:=by
 refine Tm.ind λk n l ih=>?_;intro x hx;simp only[j0,bI] at hx;rcases hx with rfl | hx
 .exact ai _
 .obtain⟨t,ht,hx⟩:=mE.1 hx
  have h1:=ih t ht x hx;have h2:=fE ht;simp only[bi];omega
theorem II {l:List Tm} {m:Nat} (h:∀ x∈l,bi x<=m):cz l<=l.length*m:=by
 induction l with
 |nil=>simp[cz]
 |cons t l ih=>have h1:=h t (aX ..);have h2:=ih λx hx=>h x (aT _ hx);simp only[cz,aI,dX];omega
theorem Ln {k n:Int} {l:List Tm} {i:Nat} (h:i<l.length) {x:Tm} (hx:x∈j0 l[i]):x∈j0 (.mk k n l):=by simp only[j0,bI];exact .inr (mE.2 ⟨_,aH h,hx⟩)
structure PutS (t:Tm) (out:List Tm):Prop where
 st:StT out
 sub:∀ x∈out,x∈j0 t
theorem PutS.put {t u:Tm} {out:List Tm} (h:PutS t out) (hu:u∈j0 t):PutS t (tO out u):=
 ⟨tP h.st u,λx hx=>by rcases BI.1 hx with hx | rfl;exact h.sub x hx;exact hu⟩
theorem PutS.all {t:Tm}:∀ {us out:List Tm},PutS t out->(∀ u∈us,u∈j0 t)->PutS t (jK out us)
 |[],_,h,_=>h
 |u::us,out,h,hu=>by show PutS t (jK (tO out u) us);exact PutS.all (h.put (hu u (aX ..))) λv hv=>hu v (aT _ hv)
theorem PutS.start (t:Tm):PutS t [t]:=⟨List.pairwise_singleton _ _,λx hx=>by rw[bu] at hx;subst hx;exact yF x⟩
theorem PutS.rounds {k n:Int} {l:List Tm}:∀ i,i<=l.length->PutS (.mk k n l) (pE [.mk k n l] (l.take i))
 |0,_=>PutS.start _
 |i+1,h=>by rw[IG h];exact(PutS.rounds i (Nat.le_of_succ_le h)).all λu hu=>Ln h ((Uz l[i]).2 u |>.1 hu)
theorem UG {v:V} {l:List Tm} (h:v=owT l∨v=.c (tsC l)):v.fz=.c (.sl (l.map tmC)):=by rcases h with rfl | rfl<;>rfl
theorem rS {v:V} {l:List Tm} (h:v=owT l∨v=.c (tsC l)) {m:Nat}:v.ltB m=true:=by rcases h with rfl | rfl<;>rfl
def tV:Nat->List Tm->List Tm
 |0,o=>o
 |n+1,o=>if(lO o).length=o.length then o else tV n (lO o)
def c9 (I:List Tm):List Tm:=tV (cz I+1) (kE I)
theorem DK {I:List Tm} (hv:∀ t∈I,bW t=true):∀ (n:Nat) (o:List Tm),Aa I o->cz I<n+o.length->Aa I (tV n o)/\qh (tV n o)
 |0,o,h,hn=>by have:=UC h;omega
 |n+1,o,h,hn=>by
  unfold tV;split
  .rename_i he;exact⟨h,UB h he⟩
  .rename_i he
   have hr:=vT hv h;have fO:o.length<=(lO o).length:=mF h.st.nodup λx hx=>((qV h.st).2 x).2 (.inl hx);exact DK hv n _ hr (by omega)
theorem j4 {I:List Tm} (hv:∀ t∈I,bW t=true):Aa I (c9 I)/\qh (c9 I):=DK hv _ _ (BK I) (by omega)
theorem nF {I out:List Tm} (hv:∀ t∈I,bW t=true) (hs:StT out) (hk:∀ t∈out,Kn I false t):out.length<=cz I/\cz out<=cz I*cz I/\(∀ t∈out,bW t=true)/\∀ t∈out,bi t<=cz I:=by
 have eF:∀ x∈out,∃ u∈I,x∈j0 u:=λx hx=>(hk x hx).loc rfl;have h1:out.length<=cz I:=by
  have:=mF hs.nodup (m:=mD I) λx hx=>mE.2 (eF x hx);have e:(mD I).length=cz I:=by
   clear eF this hk hv;induction I with
   |nil=>rfl
   |cons t l ih=>simp only[mD,cz,aB,BH,ih]
  omega
 have h2:∀ x∈out,bi x<=cz I:=λx hx=>by obtain⟨u,hu,h⟩:=eF x hx;have:=DJ u x h;have:=fE hu;omega
 refine⟨h1,ci (II h2) (bf _ h1),λt ht=>?_,h2⟩;obtain⟨u,hu,h⟩:=eF t ht;exact pD u (hv u hu) t h
theorem FV {t:Tm} (hv:bW t=true) (hk:t.kind=3∨t.kind=4):∃ a b,t=.mk t.kind t.n [a,b]:=by
 obtain⟨k,n,l⟩:=t;have hk:k=3∨k=4:=hk;have:=(fe hv).2.2.1;have h2:l.length=2:=by rcases hk with rfl | rfl<;>simp[gR] at this<;>omega
 match l,h2 with
 |[a,b],_=>exact⟨a,b,rfl⟩
theorem DL {out next:List Tm} {k n:Int} {a b:Tm}:j3 out next (.mk k n [a,b])=if decide (k=3∨k=4)=true/\dH (inP out) a=true then tO next b else next:=rfl
theorem UH {out next:List Tm} {t:Tm} (hk:¬ (t.kind=3∨t.kind=4)):j3 out next t=next:=by
 obtain⟨k,n,l⟩:=t;have GQ:¬ (k=3∨k=4):=hk;clear hk
 match l with
 |[]=>rfl
 |[_]=>rfl
 |a::b::r=>exact if_neg λh=>GQ (fM h.1)
theorem UI {I out:List Tm} (hv:∀ t∈I,bW t=true) (h:Aa I out) (j:Nat):StT ((out.take j).foldl (j3 out) out)/\∀ t∈(out.take j).foldl (j3 out) out,Kn I false t:=by
 obtain⟨h1,h2⟩:=UA (out:=out) (out.take j) h.st;refine⟨h1,λt ht=>?_⟩;rcases(h2 t).1 ht with ht | ⟨u,hu,k,n,a,b,r,rfl,hk,hb,rfl⟩
 .exact h.kn t ht
 .refine (vT hv h).kn _ ((qV h.st).2 _ |>.2 (.inr ⟨_,cX hu,k,n,a,_,r,rfl,hk,hb,rfl⟩))
def xg:=jj @pkA @ptA
theorem DN (I:List Tm) (hv:∀ t∈I,bW t=true) (hs:cz I<=20000):FnOK Tryz.prog G 58 [.c (tsC I)] (.c (tsC (c9 I))):=by
 have JU:=iG I;have hq:cz I*cz I<=20000*20000:=Nat.mul_le_mul hs hs;refine bD (rs:=[.tmp 2]) true [] mixed Tryz.func58 rfl rfl rfl rfl (by kernel_rfl) (by simp) rfl rfl ?_;simp only[pkA,seval,tsC];refine cm (λq:Nat×V=>hdS [(0,.c (.sl (I.map tmC))),(3,q.2),(4,i64 q.1)] []) (λq=>I.length - q.1) (λq=>q.1<=I.length/\(q.2=owT (jK [] (I.take q.1))∨q.2=.c (tsC (jK [] (I.take q.1))))) (0,owT []) ⟨ar _,.inl rfl⟩ ?_ ?_
 .exact bT rfl (ar _) (ai _) (by simp[FL,aw,owT]) trivial
 rintro⟨i,v⟩ ⟨hi,sX⟩ R bN b8 db;simp only at hi sX bN;have Mf:=UG sX;simp only[xg,seval];refine aJ (λbF=>?_) (λfu=>?_)
 .have bF:i<I.length:=by simpa using bF
  have sW:=dM (n:=(i:Int)+1) (k:=i+1) (by omega) (by omega);have akC:cz (jK [] (I.take i))<=900000000:=by have hst:StT (jK [] (I.take i)):=jz (I.take i);have hk:∀ t∈jK [] (I.take i),Kn I false t:=λt ht=>.item (cX (jg.1 ht));have:=(nF hv hst hk).2.1;omega
  have hti:=fE (aH bF);have hpt:=IH (out:=[]) bF;simp only[pkA,seval,Mf];refine cR dc rfl cV (by decide) (aC i) (c:=tmC I[i]) (by simp[bF]) (bG _) ?_;simp only[pkA,seval,jr (bG _)];refine ax rfl (FU (jK [] (I.take i)) I[i] akC (by omega)) (λh=>by cases h) ?_;simp only[pkA,seval,tsC];refine bN (i+1,.c (tsC (jK [] (I.take (i+1))))) _ ⟨bF,.inr rfl⟩ (by simp only;omega) (bT rfl (ar _) (ar _) ?_ trivial);simp[FL,aw,sW,hpt,tsC]
 have:i=I.length:=by simp at fu;omega
 subst this;rw[ct] at sX;have GV:jK [] I=kE I:=rfl;rw[GV] at sX;clear Mf bN;simp only[pkA];refine b8 _ _ ?_;simp only[pkA,seval];refine cm (λq:List Tm×V×Nat=>hdS [(3,q.2.1)] []) (λq=>q.2.2) (λq=>Aa I q.1/\(q.2.1=owT q.1∨q.2.1=.c (tsC q.1))/\c9 I=tV q.2.2 q.1/\cz I<q.2.2+q.1.length) (kE I,v,cz I+1) ⟨BK I,sX,rfl,by simp only;omega⟩ ?_ ?_
 .exact bT (by simp only[eu,aK,aQ,rS sX];rfl) (ar _) (ai _) (by simp[FL,aw]) trivial
 clear sX b8 db;rintro⟨out,v,n⟩ ⟨hC,sX,nr,hn⟩ R2 bN b8 db;simp only at hC sX nr hn bN;have Mf:=UG sX;obtain⟨k1,k2,k3,k4⟩:=nF hv hC.st hC.kn;simp only[pkA,seval,Mf];refine cm (λj:Nat=>hdS [(3,v),(5,.c (.sl (((out.take j).foldl (j3 out) out).map tmC))),(6,i64 j)] []) (λj=>out.length - j) (λj=>j<=out.length) 0 (ar _) ?_ ?_
 .exact bT (by simp only[eu,aK,aQ,rS sX];rfl) (ar _) (ai _) (by simp[FL,aw]) trivial
 intro j hj R3 Cj aeQ alm;simp only[xg,seval,Mf];refine aJ (λbF=>?_) (λfu=>?_)
 .have bF:j<out.length:=by simpa using bF
  have sW:=dM (n:=(j:Int)+1) (k:=j+1) (by omega) (by omega);have hvj:=k3 _ (aH bF);have hsj:=k4 _ (aH bF);obtain⟨o1,o2⟩:=UI hv hC j;obtain⟨o3,o4,_,_⟩:=nF hv o1 o2;have sK:(out.take (j+1)).foldl (j3 out) out=j3 out ((out.take j).foldl (j3 out) out) out[j]:=by rw[aR bF,jD];rfl
  have ia:∀ K,K (.c (.rp (tmC out[j]) 0))->bK Tryz.prog 33 (.c (.sl (out.map tmC))) (i64 (j:Int)) K:=λK hK=>
   cR dc rfl cV (by decide) (aC j) (c:=tmC out[j]) (by simp[bF]) (bG _) hK
  simp only[pkA,seval,Mf];refine ia _ ?_;simp only[sF,seval];refine fQ (λh3=>?_) (λh3=>?_)
  .simp only[pkA,seval,Mf]
   refine ia _ ?_;simp only[sF,seval];refine aJ (λh4=>?_) (λh4=>?_)
   .have hk:out[j].kind=4:=by simpa using h4
    simp only[pkA,seval,Mf];obtain⟨a,b,mI⟩:=FV hvj (by simp[hk]);have eL:out[j].l=[a,b]:=(by rw[mI];rfl);have uo:j3 out ((out.take j).foldl (j3 out) out) out[j]=if dH (inP out) a=true then tO ((out.take j).foldl (j3 out) out) b else(out.take j).foldl (j3 out) out:=by rw[mI,DL];simp[hk]
    have Mj:bi a<=bi out[j]/\bi b<=bi out[j]:=(by rw[mI];simp only[bi,cz];omega);have ia0:∀ K,K (.c (.rp (tmC a) 0))->bK Tryz.prog 33 (.c (.sl (List.map tmC [a,b]))) (i64 0) K:=λK hK=>
     cR dc rfl cV (by decide) (by decide) (c:=tmC a) rfl (bG _) hK
    have ia1:∀ K,K (.c (.rp (tmC b) 0))->bK Tryz.prog 33 (.c (.sl (List.map tmC [a,b]))) (i64 1) K:=λK hK=>
     cR dc rfl cV (by decide) (by decide) (c:=tmC b) rfl (bG _) hK
    refine ia _ ?_;simp only[sF,seval,tsC,eL];refine ia0 _ ?_;simp only[pkA,seval,jr (bG _)];refine ax rfl (yI out (by omega) a (by omega)) (λh=>by cases h) ?_;simp only[pkA,seval];refine aJ (λhb=>?_) (λhb=>?_)
    .rw[if_pos hb] at uo
     simp only[pkA,seval,Mf];refine ia _ ?_;simp only[sF,seval,tsC,eL];refine ia1 _ ?_;simp only[pkA,seval,jr (bG _)];refine ax rfl (FU ((out.take j).foldl (j3 out) out) b (by omega) (by omega)) (λh=>by cases h) ?_;simp only[pkA,seval,tsC];refine Cj (j+1) _ bF (by omega) (bT (by simp only[eu,aK,aQ,rS sX];rfl) (ar _) (ar _) ?_ trivial);simp[FL,aw,sW,sK,uo]
    .rw[if_neg (by simp[hb])] at uo
     simp only[pkA,seval];refine Cj (j+1) _ bF (by omega) (bT (by simp only[eu,aK,aQ,rS sX];rfl) (ar _) (ar _) ?_ trivial);simp[FL,aw,sW,sK,uo]
   .have hk:¬ (out[j].kind=3∨out[j].kind=4):=by
     have h3:¬ out[j].kind=3:=(by simpa using h3);have h4:¬ out[j].kind=4:=(by simpa using h4);rintro(h | h)
     .exact h3 h
     .exact h4 h
    have uo:=UH (out:=out) (next:=(out.take j).foldl (j3 out) out) hk
    simp only[pkA,seval];refine Cj (j+1) _ bF (by omega) (bT (by simp only[eu,aK,aQ,rS sX];rfl) (ar _) (ar _) ?_ trivial);simp[FL,aw,sW,sK,uo]
  .by_cases hk:out[j].kind=3
   .simp only[pkA,seval,Mf]
    obtain⟨a,b,mI⟩:=FV hvj (by simp[hk]);have eL:out[j].l=[a,b]:=(by rw[mI];rfl);have uo:j3 out ((out.take j).foldl (j3 out) out) out[j]=if dH (inP out) a=true then tO ((out.take j).foldl (j3 out) out) b else(out.take j).foldl (j3 out) out:=by rw[mI,DL];simp[hk]
    have Mj:bi a<=bi out[j]/\bi b<=bi out[j]:=(by rw[mI];simp only[bi,cz];omega);have ia0:∀ K,K (.c (.rp (tmC a) 0))->bK Tryz.prog 33 (.c (.sl (List.map tmC [a,b]))) (i64 0) K:=λK hK=>
     cR dc rfl cV (by decide) (by decide) (c:=tmC a) rfl (bG _) hK
    have ia1:∀ K,K (.c (.rp (tmC b) 0))->bK Tryz.prog 33 (.c (.sl (List.map tmC [a,b]))) (i64 1) K:=λK hK=>
     cR dc rfl cV (by decide) (by decide) (c:=tmC b) rfl (bG _) hK
    refine ia _ ?_;simp only[sF,seval,tsC,eL];refine ia0 _ ?_;simp only[pkA,seval,jr (bG _)];refine ax rfl (yI out (by omega) a (by omega)) (λh=>by cases h) ?_;simp only[pkA,seval];refine aJ (λhb=>?_) (λhb=>?_)
    .rw[if_pos hb] at uo
     simp only[pkA,seval,Mf];refine ia _ ?_;simp only[sF,seval,tsC,eL];refine ia1 _ ?_;simp only[pkA,seval,jr (bG _)];refine ax rfl (FU ((out.take j).foldl (j3 out) out) b (by omega) (by omega)) (λh=>by cases h) ?_;simp only[pkA,seval,tsC];refine Cj (j+1) _ bF (by omega) (bT (by simp only[eu,aK,aQ,rS sX];rfl) (ar _) (ar _) ?_ trivial);simp[FL,aw,sW,sK,uo]
    .rw[if_neg (by simp[hb])] at uo
     simp only[pkA,seval];refine Cj (j+1) _ bF (by omega) (bT (by simp only[eu,aK,aQ,rS sX];rfl) (ar _) (ar _) ?_ trivial);simp[FL,aw,sW,sK,uo]
   .exact absurd (by simpa using h3) hk
 .have:j=out.length:=by simp at fu;omega
  subst this;simp only[pkA];refine aeQ _ _ ?_;rw[ct];have Mc:out.foldl (j3 out) out=lO out:=rfl;rw[Mc];simp only[xg,seval,Mf];refine aJ (λkL=>?_) (λgu=>?_)
  .have kL:(lO out).length=out.length:=by simp at kL;omega
   simp only[pkA,seval,Mf];refine db _ ?_;simp only[pkA];have Mb:c9 I=out:=by
    rw[nr];cases n with
    |zero=>rfl
    |succ n=>unfold tV;rw[if_pos kL]
   rw[Mb];rfl
  .have gu:¬ (lO out).length=out.length:=λh=>by rw[aj,aj,h] at gu;simp at gu
   have hr:=vT hv hC;have fO:out.length<=(lO out).length:=mF hC.st.nodup λx hx=>((qV hC.st).2 x).2 (.inl hx);obtain⟨m,rfl⟩:∃ m,n=m+1:=by
    cases n with
    |zero=>omega
    |succ m=>exact⟨m,rfl⟩
   have Mb:c9 I=tV m (lO out):=by rw[nr];show(if _ then _ else _)=_;rw[if_neg gu]
   simp only[pkA,seval];refine bN (lO out,.c (tsC (lO out)),m) _ ⟨hr,.inr rfl,Mb,by simp only;omega⟩ (by simp only;omega) (bT rfl (ar _) (ar _) ?_ trivial);simp[FL,tsC]
theorem P0 (I:List Tm) (t:Tm) (hv:∀ t∈I,bW t=true) (hs:cz I<=20000) (ht:bi t<=900000000):FnOK Tryz.prog G 27 [.c (tsC I),.agg (tmC t)] (bo (dH (inP (c9 I)) t)):=by have hq:cz I*cz I<=20000*20000:=Nat.mul_le_mul hs hs;obtain⟨hC,_⟩:=j4 hv;obtain⟨k1,k2,k3,k4⟩:=nF hv hC.st hC.kn;refine bD (rs:=[.tmp 4]) false [] mixed Tryz.func27 rfl rfl rfl rfl (by kernel_rfl) (by simp) rfl rfl ?_;simp only[pkA,seval];refine ax rfl (DN I hv hs) (λh=>by cases h) ?_;simp only[sF,seval];refine ax rfl (yI (c9 I) (by omega) t ht) (λh=>by cases h) ?_;simp only[pkA,seval]
theorem eqI (a b:Int):jF [.int] [cI a] [cI b]=some (decide (a=b)):=by show some (decide (a=b)&&true)=_;rw[cK]
def cS (b:By):C:=.lit (.string (bs8 b))
theorem eqS (a b:By):jF [.str] [cS a] [cS b]=some (decide (a=b)):=by show some (decide (bs8 a=bs8 b)&&true)=_;rw[cK,Yq]
def shC (k:Int):List C:=[cS (vh k),cI (max 0 (gR k)),.lit (.bool (qH k))]
def shV (k:Int):V:=.agg (shC k)
def shL:List (Int×Int):=[(1,1),(2,2),(3,3),(4,4),(5,5),(6,6)]
def shM:List V:=pB i64 shV shL
theorem yJ {l m:List (Int×Int)} {k:Int} {s:Vl.S} {i:Nat} {x:V} {K:Vl.S->Prop} (hb:s.bx i=pB i64 shV l) (hi:i<s.nb) (hx:x=shV k) (hm:Tu l k k=m) (hK:K { s with bx:=up s.bx i (pB i64 shV m) }):iC Tryz.prog 158 s (.mr i) (i64 k) x K:=by subst hx;subst hm;exact Ik (f:=i64) (h:=shV) (c:=λa=>[cI a]) Lc rfl FK rfl vQ rfl Ur (λ_=>rfl) (λ_=>rfl) eqI rfl rfl hb hi hK
def shZ:V:=.agg [cS [],cI 0,.lit (.bool false)]
theorem UJ {l:List (Int×Int)} {k:Int} {s:Vl.S} {i:Nat} {K:V->Prop} (hb:s.bx i=pB i64 shV l) (hi:i<s.nb) (hK:K (((wT l k).map shV).getD shZ)):fV Tryz.prog 158 s (.mr i) (i64 k) false K:=
 K4 (f:=i64) (h:=shV) (c:=λa=>[cI a]) Lc rfl FK rfl vQ rfl Ur (λ_=>rfl) (λ_=>rfl) eqI hb hi hK
def UK (k:Int):Bool:=decide (1<=k)&&decide (k<=6)
theorem ady {k:Int}:wT shL k=if UK k=true then some k else none:=by
 by_cases h:UK k=true
 .rw[if_pos h]
  simp only[UK,aA,br] at h;have:k=1∨k=2∨k=3∨k=4∨k=5∨k=6:=by omega
  rcases this with rfl | rfl | rfl | rfl | rfl | rfl<;>decide
 .rw[if_neg h]
  simp only[UK,aA,br] at h;have hn:k∉shL.map (·.1):=by simp[shL];omega
  have:=Tv (l:=shL) (a:=k);rw[eY hn] at this;cases hg:wT shL k with
  |none=>rfl
  |some x=>rw[hg] at this;cases this
theorem Zb {m:Nat}:shM.all (λx=>x.ltB m)=true:=Im (λ_=>rfl) (λ_=>rfl)
theorem Zc {ρ:Nat->Nat}:shM.map (V.ren ρ)=shM:=Il (λ_=>rfl) (λ_=>rfl)
theorem P1:FnB Tryz.prog G 148 [] [] (.mr 0) [shM]:=by refine nD (rs:=[.tmp 0]) (k:=0) [] mixed Tryz.func148 rfl rfl rfl rfl (by kernel_rfl) (by simp) rfl rfl rfl rfl (ar _) ?_;simp only[xg,seval,YV];refine yJ (l:=[]) (m:=[(1,1)]) rfl (show 0<1 by decide) rfl rfl ?_;simp only[xg,seval];refine yJ (l:=[(1,1)]) (m:=[(1,1),(2,2)]) (by simp[]) (show 0<1 by decide) rfl rfl ?_;simp only[xg,seval];refine yJ (l:=[(1,1),(2,2)]) (m:=[(1,1),(2,2),(3,3)]) (by simp[]) (show 0<1 by decide) rfl rfl ?_;simp only[xg,seval];refine yJ (l:=[(1,1),(2,2),(3,3)]) (m:=[(1,1),(2,2),(3,3),(4,4)]) (by simp[]) (show 0<1 by decide) rfl rfl ?_;simp only[xg,seval];refine yJ (l:=[(1,1),(2,2),(3,3),(4,4)]) (m:=[(1,1),(2,2),(3,3),(4,4),(5,5)]) (by simp[]) (show 0<1 by decide) rfl rfl ?_;simp only[xg,seval];refine yJ (l:=[(1,1),(2,2),(3,3),(4,4),(5,5)]) (m:=shL) (by simp[]) (show 0<1 by decide) rfl rfl ?_;simp only[pkA,seval];exact eO [(0,.mr 0)] rfl (by simp only[eu,aK,aQ,Zb,aI,aL];rfl) (ar _) (ai _) ⟨by simp[],trivial⟩ ⟨by simp[shM],trivial⟩ rfl
