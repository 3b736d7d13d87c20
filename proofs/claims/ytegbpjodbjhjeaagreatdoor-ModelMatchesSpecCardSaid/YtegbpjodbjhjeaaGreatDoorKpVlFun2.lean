/- Layer 15: the closure. -/
import Derived.Test.YtegbpjodbjhjeaaGreatDoorVlUr
import Derived.Test.YtegbpjodbjhjeaaGreatDoorVlTypes
import Derived.Test.YtegbpjodbjhjeaaGreatDoorVlRunB
import Derived.Eval
set_option maxHeartbeats 8000000
set_option linter.all false
namespace Go.Proofs.YtegbpjodbjhjeaaGreatDoor
open Go Go.Vl
set_option maxRecDepth 4000
theorem IU:∀ (t:Tm) (S L:List Tm),(kf t (S,L)).2.length<=L.length+1:=by
 refine Tm.ind λk n l ih S L=>?_;rw[F7];split
 .simp
 .split
  .match l,ih with
   |[],_=>simp
   |[a],_=>simp
   |[a,b],ih=>
    simp only;split
    .exact ih b (by simp) _ _
    .simp
   |a::b::c::r,_=>simp
  .simp
theorem tY:∀ (J S L:List Tm),(fm J (S,L)).2.length<=L.length+J.length
 |[],_,_=>by simp[fm]
 |t::J,S,L=>by have e:fm (t::J) (S,L)=fm J ((kf t (S,L)).1,(kf t (S,L)).2):=rfl;have h1:=IU t S L;have h2:=tY J (kf t (S,L)).1 (kf t (S,L)).2;rw[e,aI];omega
theorem U1 {f:Bool} {L L':List Tm} (h:L≠[]->f=true):L'≠[]->flC f L L'=true:=λh'=>by
 unfold flC;by_cases hl:L=[]
 .subst hl
  have:=jU.2 h';simp[this]
 .rw[h hl];rfl
theorem xo {I S L:List Tm} (hv:∀ t∈I,bW t=true) (h:xl I S L):xh S:=λt ht=>by obtain⟨w,hw,eF⟩:=(h.sub t ht).loc rfl;exact pD w (hv w hw) _ eF
theorem D1 {I S L:List Tm} (h:xl I S L):∀ t∈S,bi t<=cz I:=λt ht=>by obtain⟨w,hw,eF⟩:=(h.sub t ht).loc rfl;exact ci (DJ w t eF) (fE hw)
theorem U2 {I S L:List Tm} (hv:∀ t∈I,bW t=true) (h:xl I S L):∀ t∈L,∃ k n a b,t=.mk k n [a,b]/\bW a=true/\bW b=true/\bi a+bi b+1<=cz I:=λt ht=>by obtain⟨hS,hk⟩:=h.inl t ht;have we:=xo hv h t hS;have ej:=D1 h t hS;obtain⟨a,b,mI⟩:=FV we hk;rw[mI] at we ej;obtain⟨_,_,_,ui⟩:=fe we;refine⟨_,_,a,b,mI,ui a (by simp),ui b (by simp),?_⟩;simp only[bi,cz] at ej;omega
def IV:V:=.clo (.func 122) [] [.bp 1 0,.bp 2 0]
theorem adE {E:Option (TypeId×Nat)} {L:List Tm} {v:Value} (h:GsV E (L.map tmC) v):∃ a cap,v=.slice a L.length cap/\L.length<=cap/\(L≠[]->∃ blk,a=some ⟨blk,0,none⟩):=by
 rcases h with⟨blk,cap,rfl,hc⟩ | ⟨h0,_,a,rfl⟩
 .rw[aj] at hc ⊢
  exact⟨_,cap,rfl,hc,λ_=>⟨blk,rfl⟩⟩
 .have:L=[]:=by cases L with
   |nil=>rfl
   |cons=>cases h0
  subst this;exact⟨a,0,rfl,ai _,λh=>absurd rfl h⟩
theorem Ga {v:Value} {E:Option (TypeId×Nat)} {es:List (List C)}:(V.gs (some v) E es).ldv=.c (.ex v):=rfl
theorem Gb {g:Option Value} {E:Option (TypeId×Nat)} {es:List (List C)}:(V.gs g E es).isMk=false:=rfl
def rT:=jj @pkA @ptA
def As:=jj @pkA (jj @ptA @pkT)
theorem BV (I:List Tm) (hv:∀ t∈I,bW t=true) (ej:cz I<=100000000):FnB Tryz.prog glT 92 [.c (tsC I)] [] (.mr 0) [mS (xn I).1]:=by
 have hIl:=iG I;have GV:∀ j,xl I (fm (I.take j) ([],[])).1 (fm (I.take j) ([],[])).2:=λj=>(vW hv (I.take j) [] [] (λ_ h=>cX h) ⟨ir,by simp,by simp,λ_ _ _ _ h=>by cases h⟩).1;refine nD (rs:=[.tmp 2]) (k:=0) [2300003,1000020,2300009,1000024,2850013,2870013,1000039,1000042,3000000] mixed Tryz.func92 rfl rfl rfl rfl (by kernel_rfl) (by simp) rfl rfl rfl rfl (ar _) ?_;simp only[rT,seval,agb,aix,adz];refine uJ rfl (.warm 2 0 (show 2<3 by decide) rfl (.done ?_));simp only[rT,seval,Vl.S.cell,tsC];refine cm (λx:Nat×Bool=>hdS [(3,.bp 1 0),(4,.bp 2 0),(5,IV),(12,.c (.sl (I.map tmC))),(13,i64 I.length),(14,i64 x.1)] (cB (fm (I.take x.1) ([],[])).1 x.2 (fm (I.take x.1) ([],[])).2)) (λx=>I.length - x.1)
  (λx=>x.1<=I.length/\((fm (I.take x.1) ([],[])).2≠[]->x.2=true)) (0,false) ⟨ar _,λh=>absurd rfl h⟩ ?_ ?_
 .refine bT (by simp only[eu];exact cx.2 ⟨rfl,qj⟩) (ar _) (ai 3) (by simp[FL,aw,IV]) ⟨by simp[aw,fm],by simp[aw],by simp[gsV,fm],trivial⟩
 rintro⟨j,f⟩ ⟨hj,hf⟩ R bN b8 db;simp only at hj hf bN b8;have hC:=GV j;have cH:=tY (I.take j) [] [];simp only[aL,ao,bb] at cH;generalize hS:(fm (I.take j) ([],[])).1=S at *;generalize hL:(fm (I.take j) ([],[])).2=L at *;have hSL:fm (I.take j) ([],[])=(S,L):=by rw[<- hS,<- hL]
 simp only[pkA,seval,UX];refine aJ (λbF=>?_) (λfu=>?_)
 .have bF:j<I.length:=by simpa using bF
  have hw:=dM (n:=(j:Int)+1) (k:=j+1) (by omega) (by omega);have hm:=fE (aH bF);have sK:fm (I.take (j+1)) ([],[])=kf I[j] (S,L):=by rw[<- hSL];unfold fm;rw[aR bF,jD];rfl
  simp only[pkA,seval,IV];refine cR dc rfl cV (by decide) (aC j) (c:=tmC I[j]) (by simp[bF]) (bG _) ?_;simp only[As,seval,jr (bG _)];have QB:=UZ I[j] (hv _ (aH bF)) (by omega) S f L (xo hv hC) (by omega);rw[<- sK] at QB;refine yz rfl QB (by simp[V.fz]) rfl (Lo (UY (xs:=[]) rfl)) (show 3<=4 by decide) ⟨rfl,rfl,rfl,trivial⟩ (λ_ _=>rfl) (λbx' xQ hB=>?_);simp only[pkA,seval];exact bN (j+1,flC f L (fm (I.take (j+1)) ([],[])).2) _ ⟨bF,U1 hf⟩ (by simp only;omega) (bT (by simp only[eu];exact cx.2 ⟨rfl,qj⟩) (ar _) (show 3<=4 by decide) (by simp[FL,aw,hw,IV]) ⟨hB.1,hB.2.1,hB.2.2.1,trivial⟩)
 have:j=I.length:=by simp at fu;omega
 subst this;rw[ct] at hSL;clear GV hS hL cH bN db;simp only[pkA];refine b8 _ _ ?_;have hLI:L.length<=I.length:=by have:=tY I [] [];rw[hSL] at this;simpa using this
 have yV:xn I=sG (2*cz I+L.length+1) (S,L):=by unfold xn;rw[hSL]
 refine cm (λx:Nat×List Tm×List Tm×Bool=>hdS [(3,.bp 1 0),(4,.bp 2 0),(5,IV)] (cB x.2.1 x.2.2.2 x.2.2.1)) (λx=>x.1)
  (λx=>xl I x.2.1 x.2.2.1/\x.2.2.1.length<=I.length/\(x.2.2.1≠[]->x.2.2.2=true)/\xn I=sG x.1 (x.2.1,x.2.2.1)/\2*(cz I - x.2.1.length)+x.2.2.1.length<x.1) (2*cz I+L.length+1,S,L,f) ⟨hC,hLI,hf,yV,by simp only;omega⟩ ?_ ?_
 .refine bT (by simp only[eu];exact cx.2 ⟨rfl,qj⟩) (ar _) (ai 3) (by simp[FL,aw,IV]) ⟨by simp[bxs],by simp[bxs],by simp[bxs],trivial⟩
 clear hC hf hLI yV hSL fu hj S L f b8;rintro⟨n,S,L,f⟩ ⟨hC,hLI,hf,yV,hn⟩ R bN b8 db;simp only at hC hLI hf yV hn bN b8;obtain⟨n,rfl⟩:∃ m,n=m+1:=⟨n - 1,by omega⟩;have hS:=xo hv hC;simp only[pkA,seval,UX];refine uJ rfl (.name 2 0 (E:=if f then some (47,3) else none) (es:=L.map tmC) (show 2<3 by decide) rfl rfl λv hgv=>.done ?_)
 obtain⟨a,cap,rfl,lv,ha⟩:=adE hgv;simp only[rT,seval,Vl.S.cell,IV,Ga,Gb];have h2:=U2 hv hC;have hix:=P7 S hS L (λt ht=>by obtain⟨k,n,a,b,e,h1,h2,h3⟩:=h2 t ht;exact⟨k,n,a,b,e,h1,by omega⟩) (by omega) a (if f then some (47,3) else none) cap ha
 refine k7 rfl hix (by simp[V.fz,U0]) (show 3<=3 by decide) ⟨rfl,rfl,rfl,trivial⟩ (λ_ _=>rfl) ?_;simp only[pkA,seval];have ahP:sG (n+1) (S,L)=match L.findIdx? (P6 S) with
  |none=>(S,L)
  |some i=>sG n (kf (Ng (L.getD i gV)) (S,L.eraseIdx i)):=rfl
 rw[ahP] at yV;unfold CM;cases hfi:L.findIdx? (P6 S) with
 |none=>
  rw[hfi] at yV;simp only[];refine aJ (λ_=>?_) (λh=>?_)
  .simp only[rT,seval]
   refine db _ ?_;simp only[];rw[yV];exact eO [(2,.mr 0)] rfl (by simp only[eu,aK,aQ,gU,aI,aL];rfl) (ar _) (show 1<=3 by decide) ⟨by simp[],trivial⟩ ⟨rfl,trivial⟩ (by simp[hdS,frs,gK,up])
  .exfalso;simp at h
 |some i=>
  rw[hfi] at yV;simp only at yV;obtain⟨bF,hb,_⟩:=b9.1 hfi;obtain⟨k,m,x,y,mI,hvx,hvy,hxy⟩:=h2 L[i] (aH bF);have sq:Ng (L.getD i gV)=y:=by have eg:L.getD i gV=L[i]:=(by simp[bF]);rw[eg,mI];rfl
  rw[sq] at yV;obtain⟨blk,rfl⟩:=ha (by intro h;subst h;simp at bF);have hft:f=true:=hf (by intro h;subst h;simp at bF);subst hft;simp only[↓reduceIte];refine aJ (λh=>?_) (λ_=>?_)
  .exfalso;simp at h;omega
  simp only[rT,seval,Ga,Gb];refine Bo (k:=i) dc rfl cV rfl (by decide) rfl bF ?_;simp only[pkA,seval];refine ab8 cV rfl (by decide) ?_;simp only[pkA,seval];refine aci (b:=2) (k:=0) (q:=i) (r:=2) (x:=tmC L[i]) (c:=.sl ([x,y].map tmC)) (sz:=3) dc rfl (show 2<3 by decide) rfl rfl Ni (by simp[bF]) (by rw[mI];rfl) (by rw[ao]) ?_;simp only[pkA,seval];refine cR dc rfl cV (by decide) (by decide) (c:=tmC y) rfl (bG _) ?_;simp only[As,seval,jr (bG _)];have hw:=dM (n:=(i:Int)+1) (k:=i+1) (by omega) (by omega);refine Ym rfl ?_;refine wU ?_;simp only[jy,rT,seval,Ga,Gb];refine wU ?_;simp only[jy,pkA,seval];refine wU ?_;simp only[jy,pkA,seval];refine wU ?_;simp only[jy,pkA,seval,hw];refine wU ?_;simp only[jy,pkA,seval];refine uE [2] rfl (P8 L i bF (by omega) blk cap lv) (by simp[V.fz,V.ren]) rfl (by decide) rfl ⟨⟨show 2<4 by decide,by simp[aw,V.ren,rho]⟩,trivial⟩ ?_;intro bx' xQ hat;have h0:bx' 0=mS S:=by rw[xQ 0 (by decide)];simp[aw,bxs]
  have h1:bx' 1=[.mr 0]:=by rw[xQ 1 (by decide)];simp[aw,bxs]
  have h3:bx' 3=(tmC y).map .c:=by rw[xQ 3 (by decide)];simp[]
  have h2:bx' 2=[.gs (some (.slice (some ⟨blk,0,none⟩) L.length cap)) (some (47,3)) ((L.eraseIdx i).map tmC++[tmC (.mk 0 0 [])])]:=hat 0 2 _ rfl rfl;simp only[jy,pkA,UN,Pr];refine .split 2 0 35 (g:=some (.slice (some ⟨blk,0,none⟩) L.length cap)) (E:=some (47,3)) (es:=(L.eraseIdx i).map tmC++[tmC (.mk 0 0 [])]) (show 2<4 by decide) (by simp only[h2];rfl) (by simp only[h2];rfl) rfl λu hu _=>.done ?_;have hu:=hu _ rfl;subst hu;simp only[rT,seval,h2];have fO:(L.eraseIdx i).length=L.length - 1:=List.length_eraseIdx_of_lt bF;have WQ:((L.eraseIdx i).map tmC++[tmC (.mk 0 0 [])]).take (L.length - 1)=(L.eraseIdx i).map tmC:=gG (by rw[aj];exact fO);rw[TB];refine .joinT 2 0 35 blk L.length (L.length - 1) cap (e:=47) (sz:=3) (es:=(L.eraseIdx i).map tmC++[tmC (.mk 0 0 [])]) (show 2<4 by decide) ?_ ?_ ?_ (by rw[aB,aj,fO];omega) ?_
  .simp[];rfl
  .simp[]
  .simp[]
  rw[WQ];refine .unname 2 0 (g:=some (.slice (some ⟨blk,0,none⟩) (L.length - 1) cap)) (E:=some (47,3)) (es:=(L.eraseIdx i).map tmC) (show 2<4 by decide) ?_ (.done ?_)
  .simp[]
  simp only[As,seval,Vl.S.cell,h3];obtain⟨k2,hk2⟩:∃ k2,kf y (S,L.eraseIdx i)=k2:=⟨_,rfl⟩;have jL:=aH bF;have hL2:∀ z∈L.eraseIdx i,z∈L:=λz hz=>List.mem_of_mem_eraseIdx hz;have hSL:=hC.sub _ (hC.inl _ jL).1;have hkk:k=3∨k=4:=by have:=(hC.inl _ jL).2;rw[mI] at this;exact this
  have hKu:Kn I false (.mk k m [x,y]):=by rw[<- mI];exact hSL
  have pU:dH (inP S) x=true:=by have:P6 S L[i]=dH (inP S) x:=(by rw[mI];rfl);rw[<- this];exact hb
  obtain⟨q1,_,_,q4⟩:=F8 (I:=I) y S (L.eraseIdx i) hvy hC.nd hC.sub (λz hz=>hC.inl z (hL2 z hz)) (λk' n' a' b' g1 g2=>by
   rcases hC.opn k' n' a' b' g1 g2 with h | h
   .exact .inl h
   .obtain⟨j,hj,e⟩:=eo h
    by_cases pe:j=i
    .subst pe
     rw[mI] at e;injection e with _ _ e
     injection e with _ e
     injection e with e _
     exact .inr (.inr e.symm)
    .refine .inr (.inl ?_)
     rw[List.mem_eraseIdx_iff_getElem];exact⟨j,hj,pe,e⟩) (.opn hKu hkk (oe hC.sub x pU))
  have nr:=tX q1;have akJ:=tX hC;have QB:=UZ y hvy (by omega) S true (L.eraseIdx i) hS (by omega);refine yz rfl QB (by simp[V.fz]) rfl (Lo (UY (xs:=[]) rfl)) (show 3<=4 by decide) ⟨by simp[aw,h0],by simp[aw,h1],by simp[gsV],trivial⟩ (λ_ _=>rfl) (λbx' xQ hB=>?_);simp only[pkA];refine bN (n,(kf y (S,L.eraseIdx i)).1,(kf y (S,L.eraseIdx i)).2,flC true (L.eraseIdx i) (kf y (S,L.eraseIdx i)).2) _ ⟨q1,?_,U1 (L:=L.eraseIdx i) (λ_=>rfl),yV,?_⟩ (by simp only;omega) (bT (by simp only[eu];exact cx.2 ⟨rfl,qj⟩) (ar _) (show 3<=4 by decide) (by simp[FL,aw,IV]) ⟨hB.1,hB.2.1,hB.2.2.1,trivial⟩)
  .have:=IU y S (L.eraseIdx i)
   simp only;omega
  .simp only
   rcases q4 with h | ⟨g1,g2⟩
   .rw[h];simp only;omega
   .omega
theorem U3 {I S L:List Tm} (h:xl I S L) (hs:cz I<=100000000):S.length<=1000000000/\∀ t∈S,bi t<=1000000000:=by have h1:=tX h;exact⟨by omega,λt ht=>by have:=D1 h t ht;omega⟩
theorem U4 (I:List Tm) (hv:∀ t∈I,bW t=true) (ej:cz I<=100000000):FnOK Tryz.prog glT 47 [.c (tsC I)] (.c (tsC (c9 I))):=by obtain⟨hC,hso⟩:=IS hv;obtain⟨h1,h2⟩:=U3 hC ej;have abB:=Zi (G:=glT) (xn I).1 h1 h2 hC.nd;rw[hso] at abB;refine bD (rs:=[.tmp 2]) false [1000004,1000005] mixed Tryz.func47 rfl rfl rfl rfl (by kernel_rfl) (by simp) rfl rfl ?_;simp only[pkA,seval];refine BR rfl (BV I hv ej) rfl (λ_=>yK) ?_;simp only[pkA,seval];refine uE [0] rfl abB (by simp[V.fz,V.ren,rho]) rfl (by decide) rfl ⟨⟨show 0<1 by decide,by simp only[yK];rfl⟩,trivial⟩ ?_;intro bx2 ahQ akL;simp only[pkA,seval,UN]
theorem U5 (I:List Tm) (t:Tm) (hv:∀ t∈I,bW t=true) (ej:cz I<=100000000) (ht:bW t=true) (hst:bi t<=1000000000):FnOK Tryz.prog glT 49 [.c (tsC I),.agg (tmC t)] (bo (dH (inP (c9 I)) t)):=by
 obtain⟨hC,hso⟩:=IS hv;have hb:=xj (xn I).1 (xo hv hC) t ht hst;rw[<- IR,hso] at hb;refine bD (rs:=[.tmp 4]) false [2850001,2860001,1000006,1000008] mixed Tryz.func49 rfl rfl rfl rfl (by kernel_rfl) (by simp) rfl rfl ?_;simp only[pkA,seval];refine MS rfl rfl ?_
 repeat' first
  |(simp only[jy,As,seval,UN])
  |(refine k9 (by decide +kernel) (by decide +kernel) ?_;simp only[lb,mY,ao,Nat.reduceAdd];(repeat' (first | exact trivial | apply And.intro));(all_goals (first | exact Or.inl (by decide +kernel) | refine Or.inr ?_)))
  |(refine BR rfl (BV I hv ej) rfl (λ_=>yK) ?_)
  |(refine Dq (by decide +kernel) ?_)
  |(refine uE [1] rfl hb (by simp[V.fz,V.ren,rho]) rfl (by decide) rfl ⟨⟨show 1<2 by decide,by simp only[yK];rfl⟩,trivial⟩ ?_;intro bx2 ahQ akL)
set_option maxRecDepth 10000
def knT (I:List Tm) (t:Tm):Bool:=dH (inP (c9 I)) t
theorem Gc {I:List Tm} (hv:∀ t∈I,bW t=true) {t:Tm}:knT I t=true↔Kn I true t:=by obtain⟨hC,nr⟩:=j4 hv;exact PS hC.item hC.kn nr
theorem BW {I:List Tm} (hv:∀ t∈I,bW t=true) {t:Tm}:t∈c9 I↔Kn I false t:=by obtain⟨hC,nr⟩:=j4 hv;exact FS hC.item hC.kn nr
theorem P9 (I:List Tm) (t:Tm) (hv:∀ t∈I,bW t=true) (ej:cz I<=100000000) (ht:bW t=true) (hst:bi t<=1000000000):FnOK Tryz.prog glT 49 [.c (tsC I),.agg (tmC t)] (bo (knT I t)):=U5 I t hv ej ht hst
end Go.Proofs.YtegbpjodbjhjeaaGreatDoor
namespace Go.Proofs.YtegbpjodbjhjeaaGreatDoor.Kp
open Go Go.Vl
set_option maxRecDepth 10000
theorem mixed:Tryz.prog.follows .mixedOrders=true:=Tryz.checked.mixed
abbrev i64 (n:Int):V:=.c (.lit (.int .i64 n))
abbrev bo (b:Bool):V:=.c (.lit (.bool b))
variable {G:Gl}
theorem yL (a b c:Int):FnOK Tryz.prog G 139 [i64 a,i64 b,i64 c] (bo (decide (b<=a)&&decide (a<=c))):=by
 refine bD (rs:=[.tmp 6]) false [] mixed Tryz.func139 rfl rfl rfl rfl (by kernel_rfl) (by simp) rfl rfl ?_
 repeat' first
  |(simp only[pkA,seval])
  |refine fQ (λh=>?_) (λh=>?_)
  |refine aJ (λh=>?_) (λh=>?_)
 all_goals (simp_all<;>omega)
theorem tQ (a:Int):FnOK Tryz.prog G 98 [i64 a] (bo false):=by
 refine bD (rs:=[.tmp 2]) false [] mixed Tryz.func98 rfl rfl rfl rfl (by kernel_rfl) (by simp) rfl rfl ?_
 repeat' first
  |(simp only[pkA,seval])
  |refine fQ (λh=>?_) (λh=>?_)
  |refine aJ (λh=>?_) (λh=>?_)
 all_goals simp_all
def age (a b:Int):Int:=if a<b then -1 else if b<a then 1 else 0
theorem vU (a b:Int):FnOK Tryz.prog G 55 [i64 a,i64 b] (i64 (age a b)):=by
 refine bD (rs:=[.tmp 4]) false [] mixed Tryz.func55 rfl rfl rfl rfl (by kernel_rfl) (by simp) rfl rfl ?_;simp only[pkA,seval];refine ax rfl (tQ a) (by simp[V.boxy]) ?_;simp only[pkA,seval];refine ax rfl (tQ b) (by simp[V.boxy]) ?_
 repeat' first
  |(simp only[pkA,seval])
  |refine fQ (λh=>?_) (λh=>?_)
  |refine aJ (λh=>?_) (λh=>?_)
 all_goals (simp_all[age]<;>omega)
structure Ty where
 name:ByteArray
 flags:Int
 life:Int
 deriving DecidableEq
structure Ru where
 kind:Int
 a:Int
 b:Int
 deriving DecidableEq
structure Qu where
 cmd:Int
 count:Int
 delay:Int
 valid:Int
 uses:Int
 deriving DecidableEq
structure Pol where
 name:ByteArray
 types:List Ty
 rules:List Ru
 quorums:List Qu
 deriving DecidableEq
def cS (b:ByteArray):C:=.lit (.string b)
def cI (n:Int):C:=.lit (.int .i64 n)
def tyC (t:Ty):List C:=[cS t.name,cI t.flags,cI t.life]
def ruC (r:Ru):List C:=[cI r.kind,cI r.a,cI r.b]
def quC (q:Qu):List C:=[cI q.cmd,cI q.count,cI q.delay,cI q.valid,cI q.uses]
def poC (p:Pol):List C:=[cS p.name,.sl (p.types.map tyC),.sl (p.rules.map ruC),.sl (p.quorums.map quC)]
theorem Nj (t:Ty):(tyC t).length=3:=rfl
theorem Nk (t:Ru):(ruC t).length=3:=rfl
theorem Gd (t:Qu):(quC t).length=5:=rfl
theorem Nl (t:Pol):(poC t).length=4:=rfl
section
variable {K:V->Prop} {sz:Nat}
theorem aiz {t:Ty}:dZ false sz 0 (tyC t) K=K (.c (.lit (.string t.name))):=rfl
theorem aiA {t:Ty}:dZ false sz 1 (tyC t) K=K (i64 t.flags):=rfl
theorem aiB {t:Ty}:dZ false sz 2 (tyC t) K=K (i64 t.life):=rfl
theorem aiC {t:Ru}:dZ false sz 0 (ruC t) K=K (i64 t.kind):=rfl
theorem aiD {t:Ru}:dZ false sz 1 (ruC t) K=K (i64 t.a):=rfl
theorem aiE {t:Ru}:dZ false sz 2 (ruC t) K=K (i64 t.b):=rfl
theorem aiF {t:Qu}:dZ false sz 0 (quC t) K=K (i64 t.cmd):=rfl
theorem aiG {t:Qu}:dZ false sz 1 (quC t) K=K (i64 t.count):=rfl
theorem aiH {t:Qu}:dZ false sz 2 (quC t) K=K (i64 t.delay):=rfl
theorem aiI {t:Qu}:dZ false sz 3 (quC t) K=K (i64 t.valid):=rfl
theorem aiJ {t:Qu}:dZ false sz 4 (quC t) K=K (i64 t.uses):=rfl
theorem aiK {t:Pol}:dZ false sz 0 (poC t) K=K (.c (.lit (.string t.name))):=rfl
theorem aiL {t:Pol}:dZ false sz 1 (poC t) K=K (.c (.sl (t.types.map tyC))):=rfl
theorem aiM {t:Pol}:dZ false sz 2 (poC t) K=K (.c (.sl (t.rules.map ruC))):=rfl
theorem aiN {t:Pol}:dZ false sz 3 (poC t) K=K (.c (.sl (t.quorums.map quC))):=rfl
end
theorem agf (x y:Ru):jF [.int,.int,.int] (ruC x) (ruC y)=some (decide (x=y)):=by cases x;cases y;simp[jF,eqC,ruC,cI,Ru.mk.injEq,Bool.decide_and]
section
variable {K:V->Prop}
theorem U6 {x y:Ru}:nh Tryz.prog .eql 94 (.agg (ruC x)) (.agg (ruC y)) K=K (bo (decide (x=y))):=H2 mA rfl rfl (agf x y) rfl rfl
theorem U7 {x y:Bool}:nh Tryz.prog .neq 4 (.c (.lit (.bool x))) (.c (.lit (.bool y))) K=K (bo (!(x==y))):=OW afR rfl
end
def pkP:=jj @Nj (jj @Nk (jj @Gd (jj @Nl (jj @aiz (jj @aiA (jj @aiB (jj @aiC (jj @aiD (jj @aiE (jj @aiF (jj @aiG (jj @aiH (jj @aiI (jj @aiJ (jj @aiK (jj @aiL (jj @aiM (jj @aiN (jj @U6 @U7)))))))))))))))))))
