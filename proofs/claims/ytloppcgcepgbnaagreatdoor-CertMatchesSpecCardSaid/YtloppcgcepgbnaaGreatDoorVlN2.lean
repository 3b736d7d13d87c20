/- Layer 19: callers with one outcome; a call of all. -/
import Derived.Test.YtloppcgcepgbnaaGreatDoorVlX0
import Derived.Test.YtloppcgcepgbnaaGreatDoorVlX5
import Derived.Test.YtloppcgcepgbnaaGreatDoorVlR2
import Derived.Test.YtloppcgcepgbnaaGreatDoorVlX4
import Derived.Test.YtloppcgcepgbnaaGreatDoorVlI1
set_option maxHeartbeats 4000000
set_option linter.all false
namespace Go.Proofs.YtloppcgcepgbnaaGreatDoor
open Go Go.Vl
variable {G:Gl}
set_option maxRecDepth 4000
theorem ac5 {P:Program} {f:FuncId} {xs:List V} {b0 b1:List (List V)} {R:V->List (List V)->Prop} {r:V} (h:FnE P G f xs b0 R) (hR:∀ r' b',R r' b'->r'=r/\b'=b1) (ko:b0.length<=b1.length):FnB P G f xs b0 r b1:=
 ⟨h.1,⟨h.2.1.1,h.2.1.2.1,ko⟩,λI M w vs β ob q1 q2 q3 q4 q5=>(h.2.2 I M w vs β ob q1 q2 q3 q4 q5).mono λ_ _ q=>by obtain⟨r',b',hr,q⟩:=q;obtain⟨rfl,rfl⟩:=hR _ _ hr;exact q⟩
theorem K4 {P:Program} {fr:Nat->V} {bx:Nat->List V} {nb:Nat} {d e:V} {p q:Tmp} {T U:TypeId} (h1:dG P T ⟨fr,bx,nb⟩ (fr p) λv=>imm ⟨fr,bx,nb⟩ v=some d) (h2:dG P U ⟨fr,bx,nb⟩ (fr q) λv=>imm ⟨fr,bx,nb⟩ v=some e):rE P true ⟨fr,bx,nb⟩ (.tup [d,e]) [.cell p T,.cell q U]:=by
 refine⟨_,rfl,rfl,λi R x hR hx=>?_⟩
 match i with
 |0=>simp only[bQ,ao] at hR hx;subst hR;subst hx;simpa[Rf,E2] using h1
 |1=>simp only[cB,bQ,ao] at hR hx;subst hR;subst hx;simpa[Rf,E2] using h2
 |n+2=>simp at hR
theorem K5 {S fs:List Fa} {a b nb:Nat} {fr:Nat->V} {bx:Nat->List V} {K:Vl.S->V->Prop} (hm:fs.length<=1000000000) (ha:a<nb) (hb:b<nb) (Bo:a≠b) (h0:bx a=lk faC S) (h1:bx b=[.mr a])
 (hK:∀ bx':Nat->List V,(∀ j,j≠a->j≠b->bx' j=bx j)->bx' a=lk faC S->bx' b=[.mr a]->K ⟨fr,bx',nb⟩ (bo (fs.all λf=>decide (f∈S)))):vcallB Tryz.prog G ⟨fr,bx,nb⟩ (.c (.fn (.func 52) [] [])) [.bp b 0,.c (fsC fs)] K:=by
 have setren:∀ (ρ:Nat->Nat) (m:List Fa),(lk faC m).map (V.ren ρ)=lk faC m:=λρ m=>ud;refine jN [a,b] rfl (TA S fs hm) (by simp[V.fz,V.ren,rho]) rfl (by simp[Bo]) rfl ⟨⟨by simp[rho,ha],by simp[h0,setren,rho]⟩,⟨by simp[rho,hb],by simp[h1,rho,V.ren]⟩,trivial⟩ ?_;intro bx' iE oa;refine hK bx' (λj hj0 hj1=>iE j (by simp[hj0,hj1])) ?_ ?_
 .rw[<- setren];exact oa 0 a _ rfl rfl
 .have:=oa 1 b _ rfl rfl
  simpa[rho,V.ren] using this
def flC:List (Nat×V):=[(4,.bp 1 0),(5,.bp 2 0),(6,.bp 3 0)]
def H5:List (Nat×V):=[(4,.bp 1 0),(5,.bp 2 0),(6,.bp 5 0)]
def On (n:Nat) (ps:Array Tmp) (ca cb:Code) (st:Bool):Loop:=if st=true then { lp0 n ps ca cb with state:=.done,pending:=some .ret } else lp0 n ps ca cb
def rj (s:Option In):List V:=match s with
 |none=>[i64 0,.ow none [],.ow none []]
 |some x=>(inC x).map .c
def ybC (n:Nat) (ps:Array Tmp) (ca cb:Code) (S:List Fa) (s:Option In):List (List V):=[[.lp (On n ps ca cb s.isSome) flC],rj s,[bo false],[.bp 5 0],lk faC S,[.mr 4]]
def qc (S:List Fa) (x:In):Bool:=(x.pre.all λf=>decide (f∈S))&&!(x.con.all λf=>decide (f∈S))
def mB (S:List Fa) (s:Option In) (x:In):Option In×Bool:=if qc S x=true then(some x,false) else(s,true)
def Yc (n:Nat) (ps:Array Tmp) (ca cb:Code) (S:List Fa):Ys (Option In) where
 yb:=ybC n ps ca cb S
 k:=6
 pos:=by decide
 len:=λ_=>rfl
 lt:=λs b hb x hx=>by
  simp only[ybC,aP,aZ,cR] at hb;rcases hb with rfl | rfl | rfl | rfl | rfl | rfl
  .simp only[aX] at hx;subst hx
   intro p hp;simp only[flC,aP,aZ,cR] at hp;rcases hp with rfl | rfl | rfl<;>simp[V.ltP]
  .cases s with
   |none=>simp only[rj,aP,aZ,cR] at hx;rcases hx with rfl | rfl | rfl<;>trivial
   |some y=>obtain⟨z,_,rfl⟩:=bU.1 hx;trivial
  .simp only[aX] at hx;subst hx;trivial
  .simp only[aX] at hx;subst hx;simp[V.lt]
  .have h:=aY.1 (jc (c:=faC) (m:=6) (l:=S)) x hx
   exact V.ltB_ok h
  .simp only[aX] at hx;subst hx;simp[V.lt]
 step:=λs x t b=>mB S s x=(t,b)
theorem akI {n:Nat} {ps:Array Tmp} {ca cb:Code} {S:List Fa} (h:∀ x,x.pre.length<=2->x.con.length<=2->(Yc n ps ca cb S).ok G none x):∀ (m:List In),kq m->Fut G (Yc n ps ca cb S) none m
 |[],_=>trivial
 |x::m,h2=>by
  obtain⟨EF,Ur⟩:=h2 x (bJ ..);refine⟨h x EF Ur,λt hs=>?_⟩;change mB S none x=(t,true) at hs;unfold mB at hs;split at hs
  .cases hs
  .cases hs
   exact akI h m λy hy=>h2 y (aT _ hy)
def oV (S:List Fa) (m:List In):Option In:=m.find? (qc S)
theorem akJ {n:Nat} {ps:Array Tmp} {ca cb:Code} {S:List Fa}:∀ {m:List In} {s t:Option In} {b:Bool},(Yc n ps ca cb S).run s m t b->s=none->t=oV S m
 |_,_,_,_,.nil s,h=>h
 |_,_,_,_,.stop (x:=x) l h1,h=>by
  subst h;change mB S none x=(_,false) at h1;unfold mB at h1;split at h1
  .rename_i hg;cases h1;simp[oV,hg]
  .cases h1
 |_,_,_,_,.go (x:=x) h1 h2,h=>by
  subst h;change mB S none x=(_,true) at h1;unfold mB at h1;split at h1
  .cases h1
  .rename_i hg
   cases h1;have:=akJ h2 rfl;rw[this];simp[oV,hg]
theorem akK {p:Pol} {S:List Fa} (hp:p.types.length<=9223372036854775806) (hr:p.rules.length<=9223372036854775806) (h2:kq (fR p none)) {n:Nat} {ps:Array Tmp} {ca cb:Code} (eH:∀ x,x.pre.length<=2->x.con.length<=2->(Yc n ps ca cb S).ok G none x) :
 FnB Tryz.prog G 70 [.yl 0,.c (.rp (poC p) 0)] (ybC n ps ca cb S none) (.tup []) (ybC n ps ca cb S (oV S (fR p none))):=by
 refine ac5 (PS (G:=G) (Yc n ps ca cb S) p hp hr none (akI eH _ h2)) (λr' b' h=>?_) (ab _);obtain⟨t,b,bM,rfl,rfl⟩:=h;rw[akJ bM rfl];exact⟨rfl,rfl⟩
theorem amO {p:Pol} {S:List Fa} (hp:p.types.length<=9223372036854775806) (hr:p.rules.length<=9223372036854775806) (LU:kq (fR p none)) {tr:List Nat} {n t:Nat} {ps:Array Tmp} {ca cb:Code} {Q:VE->Vl.S->Prop} {fr:Nat->V} {bx:Nat->List V}
 (QB:Gp tr=true) (h1f:tr.contains 1200001=false) (hn:rgN tr=n) (hf:fr t=X6 p) (h4:fr 4=.bp 1 0) (h5:fr 5=.bp 2 0) (h6:fr 6=.bp 5 0) (b1:bx 1=rj none) (b2:bx 2=[bo false]) (b3:bx 3=lk faC S) (b4:bx 4=[.mr 3]) (b5:bx 5=[.bp 4 0])
 (eH:∀ x,x.pre.length<=2->x.con.length<=2->(Yc n ps ca cb S).ok G none x)
 (hQ:∀ bx':Nat->List V,bx' 1=rj (oV S (fR p none))->bx' 2=[bo false]->Q (match oV S (fR p none) with | none=>.normal | some _=>.ret) ⟨fr,bx',7⟩):vrg Tryz.prog G tr (.tmp t) ps ca cb Q ⟨fr,bx,6⟩:=by
 subst hn;have hI:=akK (G:=G) (S:=S) hp hr LU eH;have setren:∀ (ρ:Nat->Nat) (m:List Fa),(lk faC m).map (V.ren ρ)=lk faC m:=λρ m=>ud;have resren:∀ (ρ:Nat->Nat) (s:Option In),(rj s).map (V.ren ρ)=rj s:=λρ s=>by
  cases s with
  |none=>rfl
  |some x=>exact Vl.cells_ren
 generalize oV S (fR p none)=L at hI hQ;refine⟨QB,H5,λq hq=>?_,⟨_,_,by simp only[ev,hf];rfl⟩,?_⟩
 .simp only[H5,aP,aZ,cR] at hq
  rcases hq with rfl | rfl | rfl<;>simp[h4,h5,h6,V.fz,V.isKR]
 .rw[if_neg (by rw[h1f];decide)]
  unfold vcallB kF;simp only[ev,hf];refine⟨[6,1,2,5,3,4],_,_,_,_,hI,rfl,⟨rfl,by decide⟩,?_,?_⟩
  .refine⟨⟨by decide,?_⟩,⟨by decide,?_⟩,⟨by decide,?_⟩,⟨by decide,?_⟩,⟨by decide,?_⟩,⟨by decide,?_⟩,trivial⟩
   .simp[rho,up,On,flC,H5,V.ren,V.renP]
   .simp[rho,up,b1,resren]
   .simp[rho,up,b2,V.ren]
   .simp[rho,up,b5,V.ren]
   .simp[rho,up,b3,setren]
   .simp[rho,up,b4,V.ren]
  .have e6:fQ (rho [6,1,2,5,3,4] 7) 0 (ybC (rgN tr) ps ca cb S L) (up bx 6 [.lp (lp0 (rgN tr) ps ca cb) H5]) 6=[.lp (On (rgN tr) ps ca cb L.isSome) H5]:=by simp[ybC,fQ,rho,up,flC,H5,V.ren,V.renP]
   show IH Q 6 ⟨fr,fQ (rho [6,1,2,5,3,4] 7) 0 (ybC (rgN tr) ps ca cb S L) (up bx 6 [.lp (lp0 (rgN tr) ps ca cb) H5]),7⟩;unfold IH;simp only[e6];have g1:fQ (rho [6,1,2,5,3,4] 7) 0 (ybC (rgN tr) ps ca cb S L) (up bx 6 [.lp (lp0 (rgN tr) ps ca cb) H5]) 1=rj L:=(by simp[ybC,fQ,rho,up,resren]);have g2:fQ (rho [6,1,2,5,3,4] 7) 0 (ybC (rgN tr) ps ca cb S L) (up bx 6 [.lp (lp0 (rgN tr) ps ca cb) H5]) 2=[bo false]:=(by simp[ybC,fQ,rho,up,V.ren]);cases L with
   |none=>refine⟨by simp[On,lp0],by decide,?_⟩;show Q .normal ⟨fr,up _ 6 _,7⟩;exact hQ _ ((cP _ _ (by decide)).trans g1) ((cP _ _ (by decide)).trans g2)
   |some x=>refine⟨by simp[On,lp0],by decide,?_⟩;show Q .ret ⟨fr,up _ 6 _,7⟩;exact hQ _ ((cP _ _ (by decide)).trans g1) ((cP _ _ (by decide)).trans g2)
def in0:In:=⟨0,[],[]⟩
def gX (p:Pol) (l:List Fa):In×Bool:=match oV (mA l) (fR p none) with
 |none=>(in0,true)
 |some x=>(x,false)
theorem akL {n:Nat} {ps:Array Tmp} {ca cb:Code} {S:List Fa} {s:Option In} {x:In} (h:YB Tryz.prog G [.agg (inC x)] (ybC n ps ca cb S s) (bo (mB S s x).2) (ybC n ps ca cb S (mB S s x).1)):(Yc n ps ca cb S).ok G s x:=by
 have e:(λ(r:V) (b1:List (List V))=>∃ t b,mB S s x=(t,b)/\r=bo b/\b1=ybC n ps ca cb S t)=λr' b'=>r'=bo (mB S s x).2/\b'=ybC n ps ca cb S (mB S s x).1:=by
  funext r b1;apply propext;constructor
  .rintro⟨t,b,h1,h2,h3⟩;rw[h1];exact⟨h2,h3⟩
  .rintro⟨h2,h3⟩;exact⟨_,_,rfl,h2,h3⟩
 show YE Tryz.prog G [.agg (inC x)] (ybC n ps ca cb S s) (λr b1=>∃ t b,mB S s x=(t,b)/\r=bo b/\b1=ybC n ps ca cb S t);rw[e];exact h.toE
theorem ltC {n:Nat} {ps:Array Tmp} {ca cb:Code} {S:List Fa} {s:Option In}:ltL 6 (ybC n ps ca cb S s):=(Yc n ps ca cb S).lt s
theorem aeA {ca cb:Code} {S:List Fa} {x:In} {bx:Nat->List V} {fr:Nat->V} (k0:bx 0=[.lp { lp0 26 #[12] ca cb with state:=.busy } flC]) (k1:bx 1=rj none) (k2:bx 2=[bo false]) (k3:bx 3=[.bp 5 0]) (k4:bx 4=lk faC S) (k5:bx 5=[.mr 4]) (hg:qc S x=false) :
 WH 6 (bo (mB S none x).2) (ybC 26 #[12] ca cb S (mB S none x).1) .normal ⟨fr,bx,7⟩:=by
 have hs:mB S none x=(none,true):=by simp[mB,hg]
 rw[hs];refine⟨rfl,_,_,_,⟨k0,show 0<7 by decide⟩,[],?_⟩;refine Hy (λ_ h=>by cases h) ltC (ab _) (show 6<=7 by decide) trivial ?_;intro i hi
 match i,hi with
 |0,_=>simp[ybC,up,bxs,Cm,lp0,flC,On]
 |1,_=>simp[ybC,up,bxs,k1]
 |2,_=>simp[ybC,up,bxs,k2]
 |3,_=>simp[ybC,up,bxs,k3]
 |4,_=>simp[ybC,up,bxs,k4]
 |5,_=>simp[ybC,up,bxs,k5]
theorem akM {ca cb:Code} {S:List Fa} {x:In} {bx:Nat->List V} {fr:Nat->V} (k0:bx 0=[.lp { lp0 26 #[12] ca cb with state:=.busy } flC]) (k1:bx 1=rj (some x)) (k2:bx 2=[bo false]) (k3:bx 3=[.bp 5 0]) (k4:bx 4=lk faC S) (k5:bx 5=[.mr 4]) (hg:qc S x=true) :
 WH 6 (bo (mB S none x).2) (ybC 26 #[12] ca cb S (mB S none x).1) .ret ⟨fr,bx,7⟩:=by
 have hs:mB S none x=(some x,false):=by simp[mB,hg]
 rw[hs];refine⟨rfl,_,_,_,⟨k0,show 0<7 by decide⟩,[],?_⟩;refine Hy (λ_ h=>by cases h) ltC (ab _) (show 6<=7 by decide) trivial ?_;intro i hi
 match i,hi with
 |0,_=>simp[ybC,up,bxs,Cm,lp0,flC,On]
 |1,_=>simp[ybC,up,bxs,k1]
 |2,_=>simp[ybC,up,bxs,k2]
 |3,_=>simp[ybC,up,bxs,k3]
 |4,_=>simp[ybC,up,bxs,k4]
 |5,_=>simp[ybC,up,bxs,k5]
def K6:=jj @pkA @ptA
def YJ:=jj @pkA (jj @ptA @aky)
theorem FQ (p:Pol) (l:List Fa) (hp:p.types.length<=9223372036854775806) (hr:p.rules.length<=9223372036854775806) (LU:kq (fR p none)) (LW:l.length<=1000000) :
 FnOK Tryz.prog G 34 [.agg (poC p),.c (fsC l)] (.tup [.agg (inC (gX p l).1),bo (gX p l).2]):=by
 refine bI (rs:=[.cell 4 35,.cell 5 4]) true [1200000,1300026,1000009] mixed Tryz.func34 rfl rfl rfl rfl (by kernel_rfl) (by simp) rfl rfl ?_;have setren:∀ (ρ:Nat->Nat) (m:List Fa),(lk faC m).map (V.ren ρ)=lk faC m:=λρ m=>ud;simp only[K6,seval];refine uW rfl (acN l (by omega)) rfl ?_;simp only[YJ,seval,V.ren,yo,fQ,setren];refine az rfl (yi p) (λh=>by cases h) ?_;simp only[pkA,FP];refine amO (n:=26) (S:=mA l) hp hr LU rfl rfl rfl rfl rfl rfl rfl (by simp[ah,rj]) (by simp[ah]) (by simp[ah]) (by simp[ah]) (by simp[]) ?_ ?_
 .intro x EF Ur
  refine akL ?_;refine ajA (L:=lp0 26 #[12] _ _) (fl:=flC) (bs:=[rj none,[bo false],[.bp 5 0],lk faC (mA l),[.mr 4]]) [1000016,1000021] mixed rfl rfl ?_ ?_ ?_ ?_ ?_
  .intro q hq;simp[lp0] at hq;subst hq;decide
  .kernel_rfl
  .kernel_rfl
  .refine⟨λy hy=>?_,ltC (s:=none),ab _⟩
   simp only[aX] at hy;subst hy;trivial
  .simp only[YJ,seval,frY,flC,lp0,List.zip_cons_cons,List.zip_nil_right,dT,List.foldl_nil]
   have hx0:∀ a b c:V,eP [a,b,c] 0 ((inC x).map .c)=(inC x).map .c:=λ_ _ _=>rfl;have g1:∀ nb q (K:V->Prop),ldB nb q ((inC x).map .c) 1 K=(q<nb/\K (.c (fsC x.pre))):=λ_ _ _=>rfl;have g2:∀ nb q (K:V->Prop),ldB nb q ((inC x).map .c) 2 K=(q<nb/\K (.c (fsC x.con))):=λ_ _ _=>rfl;have gm:cL ((inC x).map V.c)=false:=rfl;simp only[pkA,seval,hx0,g1,gm];refine K5 (S:=mA l) (a:=4) (b:=5) (by omega) (show 4<7 by decide) (show 5<7 by decide) (by decide) (by simp[ah,bxs]) (by simp[ah,bxs]) (λbx1 iE h4 h5=>?_);have h1:bx1 1=rj none:=(by rw[iE 1 (by decide) (by decide)];simp[ah,bxs]);have h2:bx1 2=[bo false]:=(by rw[iE 2 (by decide) (by decide)];simp[ah,bxs]);have h3:bx1 3=[.bp 5 0]:=(by rw[iE 3 (by decide) (by decide)];simp[ah,bxs]);have h6:bx1 6=(inC x).map .c:=(by rw[iE 6 (by decide) (by decide)];simp[ah]);have h0:=iE 0 (by decide) (by decide);simp only[cg,cP _ _ (show(0:Nat)≠6 by decide)] at h0;simp only[pkA,seval];have gox:qc (mA l) x=((x.pre.all λf=>decide (f∈mA l))&&!(x.con.all λf=>decide (f∈mA l))):=rfl;refine eT (λhy=>?_) (λhn=>?_)
   .simp only[K6,seval,h3,h6,g2,gm]
    refine K5 (S:=mA l) (a:=4) (b:=5) (by omega) (show 4<7 by decide) (show 5<7 by decide) (by decide) h4 h5 (λbx2 LY k4 k5=>?_);have k0:=LY 0 (by decide) (by decide);have k1:bx2 1=rj none:=(by rw[LY 1 (by decide) (by decide),h1]);have k2:bx2 2=[bo false]:=(by rw[LY 2 (by decide) (by decide),h2]);have k3:bx2 3=[.bp 5 0]:=(by rw[LY 3 (by decide) (by decide),h3]);have k6:bx2 6=(inC x).map .c:=(by rw[LY 6 (by decide) (by decide),h6]);rw[hy,ke] at gox;simp only[pkA,seval];refine aD (λhz=>?_) (λhz=>?_)
    .have hg:qc (mA l) x=true:=by rw[gox];exact hz
     have gl:∀ nb q (K:V->Prop),ldA nb q ((inC x).map .c) 0 3 K=(q<nb/\K (.agg (inC x))):=λnb q K=>by unfold ldA;exact propext ⟨λh=>⟨h.1,h.2.2⟩,λh=>⟨h.1,⟨rfl,rfl⟩,h.2⟩⟩
     have m1:cL (rj none)=false:=rfl;have l1:(rj none).length=3:=rfl;have m2:cL [bo false]=false:=rfl;have s1:eP (rj none) 0 ((inC x).map .c)=(inC x).map .c:=rfl;simp only[YJ,seval,k1,k2,k6,gm,gl,m1,l1,m2,s1];refine akM ((cP _ _ (show(0:Nat)≠2 by decide)).trans ((cP _ _ (show(0:Nat)≠1 by decide)).trans (k0.trans h0))) ?_ ?_ ?_ ?_ ?_ hg<;>simp[ah,k3,k4,k5,rj]
    .have hg:qc (mA l) x=false:=by rw[gox];exact hz
     simp only[pkA];exact aeA (k0.trans h0) k1 k2 k3 k4 k5 hg
   .have hg:qc (mA l) x=false:=by rw[gox,hn];rfl
    simp only[pkA,seval];exact aeA h0 h1 h2 h3 h4 h5 hg
 .intro bx' e1 e2
  unfold gX;cases hL:oV (mA l) (fR p none) with
  |none=>
   rw[hL] at e1;have m1:cL (rj none)=false:=rfl;have l1:(rj none).length=3:=rfl;have m2:cL [bo false]=false:=rfl;simp only[K6,seval,e1,e2,m1,l1,m2];have gl:∀ nb q (K:V->Prop),ldA nb q ((inC in0).map .c) 0 3 K=(q<nb/\K (.agg (inC in0))):=λnb q K=>by unfold ldA;exact propext ⟨λh=>⟨h.1,h.2.2⟩,λh=>⟨h.1,⟨rfl,rfl⟩,h.2⟩⟩
   have s1:eP (rj none) 0 [i64 0,.c (.sl []),.c (.sl [])]=(inC in0).map .c:=rfl;have gm:cL ((inC in0).map V.c)=false:=rfl;rw[s1];refine K4 ?_ ?_<;>simp only[K6,seval,gl,gm]<;>rfl
  |some x=>
   rw[hL] at e1;simp only[pkA];have gl:∀ nb q (K:V->Prop),ldA nb q ((inC x).map .c) 0 3 K=(q<nb/\K (.agg (inC x))):=λnb q K=>by unfold ldA;exact propext ⟨λh=>⟨h.1,h.2.2⟩,λh=>⟨h.1,⟨rfl,rfl⟩,h.2⟩⟩
   have gm:cL ((inC x).map V.c)=false:=rfl;have er:rj (some x)=(inC x).map .c:=rfl;rw[er] at e1;refine K4 ?_ ?_<;>simp only[K6,seval,e1,e2,gl,gm]<;>rfl
theorem yu {α:Type} {f:α->List In} {b:Nat}:∀ (l:List α),(∀ x∈l,(f x).length<=b)->(l.flatMap f).length<=l.length*b
 |[],_=>by simp
 |x::l,h=>by rw[fZ,ae,aC,eB];have h1:=h x (bJ ..);have h2:=yu l λy hy=>h y (aT _ hy);omega
theorem mM {o:Option Fa} {x:In}:(emL o x).length<=1:=by unfold emL;split<;>simp
theorem YK {p:Pol} {o:Option Fa} {flag:Int} {D:Nat->List In} {b:Nat} (h:∀ t,(D t).length<=b):(jo p o flag D 0).length<=p.types.length*b:=by
 unfold jo;have:=yu (f:=pY p o flag D) (b:=b) (List.range' 0 (p.types.length - 0)) λt _=>by
  unfold pY;split
  .exact h t
  .simp
 simpa using this
theorem zn {n:Nat} {D:Nat->List In} {v b:Nat} (h:∀ t,(D t).length<=b):(cd n D v).length<=(n+1)*b:=by unfold cd;have:=yu (f:=D) (b:=b) (List.range' v (n+1 - v)) λt _=>h t;rw[List.length_range'] at this;exact b9 this (aO _ (by omega))
theorem YL {n first:Nat} {D:Nat->Nat->List In} {b:Nat} (h:∀ v w,(D v w).length<=b):(um n first D).length<=(n+1)*((n+1)*b):=zn λv=>zn λw=>h v w
theorem YM {p:Pol} {o:Option Fa} {kind:Int} {D:Nat->Nat->List In} {b:Nat} (h:∀ x y,(D x y).length<=b):(jH p o kind D 0).length<=p.rules.length*b:=by
 unfold jH;have:=yu (f:=qL p o kind D) (b:=b) (p.rules.drop 0) λt _=>by
  unfold qL;split
  .exact h _ _
  .simp
 simpa using this
theorem ac6 {o:Option Fa} {a b v w:Nat}:(r10 o a b v w).length<=1:=by
 unfold r10;split
 .simp
 .exact mM
theorem YN {p:Pol} {o:Option Fa} (hn:p.types.length<=7) (hr:p.rules.length<=15):(fR p o).length<=20000:=by
 have h8:p.types.length+1<=8:=by omega
 have h64:(p.types.length+1)*((p.types.length+1)*1)<=8*(8*1):=Nat.mul_le_mul h8 (Nat.mul_le_mul h8 (ab 1));have h81:(p.types.length+1)*1<=8*1:=Nat.mul_le_mul h8 (ab 1);have c1:∀ D:Nat->List In,(∀ t,(D t).length<=1)->∀ v,(cd p.types.length D v).length<=8:=λD h v=>by have:=zn (n:=p.types.length) (D:=D) (v:=v) (b:=1) h;omega
 have c2:∀ D:Nat->Nat->List In,(∀ v w,(D v w).length<=1)->∀ v,(um p.types.length v D).length<=64:=λD h v=>b9 (YL (n:=p.types.length) (first:=v) (D:=D) (b:=1) h) h64
 have f1:∀ (D:Nat->List In) (b:Nat),(∀ t,(D t).length<=b)->∀ flag,(jo p o flag D 0).length<=7*b:=λD b h flag=>b9 (YK h) (aO _ hn);have r1:∀ (D:Nat->Nat->List In) (b:Nat),(∀ x y,(D x y).length<=b)->∀ kind,(jH p o kind D 0).length<=15*b:=λD b h kind=>b9 (YM h) (aO _ hr);have l1:(t1 p o).length<=7:=f1 _ 1 (λ_=>mM) _;have l2:(t2 p o).length<=7:=f1 _ 1 (λ_=>mM) _;have l3:(t3 p o).length<=120:=r1 _ 8 (λ_ _=>c1 _ (λ_=>mM) _) _;have l4:(t4 p o).length<=15:=r1 _ 1 (λ_ _=>mM) _;have l5:(t5 p o).length<=120:=r1 _ 8 (λ_ _=>c1 _ (λ_=>mM) _) _;have l6:(t6 p o).length<=56:=f1 _ 8 (λ_=>c1 _ (λ_=>mM) _) _;have l7:(t7 p o).length<=56:=f1 _ 8 (λ_=>c1 _ (λ_=>mM) _) _;have l8:(t8 p o).length<=960:=r1 _ 64 (λ_ _=>c2 _ (λ_ _=>mM) _) _;have l9:(t9 p o).length<=448:=f1 _ 64 (λ_=>c2 _ (λ_ _=>mM) _) _;have l10:(t10 p o).length<=960:=r1 _ 64 (λ_ _=>c2 _ (λ_ _=>ac6) _) _;have l11:(t11 p o).length<=15:=r1 _ 1 (λ_ _=>mM) _;have l12:(t12 p o).length<=120:=r1 _ 8 (λ_ _=>c1 _ (λ_=>mM) _) _;have l13:(t13 p o).length<=56:=f1 _ 8 (λ_=>c1 _ (λ_=>mM) _) _;have l14:(t14 o).length<=1:=mM;have l15:(t15 p o).length<=8:=c1 _ (λ_=>mM) _;have e:(fR p o).length=(t1 p o).length+((t2 p o).length+((t3 p o).length+((t4 p o).length+((t5 p o).length+((t6 p o).length+((t7 p o).length+((t8 p o).length+((t9 p o).length+((t10 p o).length+((t11 p o).length+((t12 p o).length+((t13 p o).length+((t14 o).length+(t15 p o).length))))))))))))):=by unfold fR N1;simp only[cF,List.flatten_nil,ae,aG,eX]
 rw[e];omega
theorem mN {o:Option Fa} {x y:In}:x∈emL o y↔vT o y=true/\x=y:=by
 unfold emL;split
 .rename_i h;simp[h]
 .rename_i h;simp[h]
theorem rU {p:Pol} {o:Option Fa} {flag:Int} {D:Nat->List In} {x:In}:x∈jo p o flag D 0↔∃ t:Nat,t<p.types.length/\sy p t flag=true/\nU o [(t:Int)]=true/\x∈D t:=by
 unfold jo;rw[List.mem_flatMap];constructor
 .rintro⟨t,ht,hx⟩
  unfold pY at hx;split at hx
  .rename_i h
   rw[aW] at h;rw[lG] at ht;exact⟨t,by omega,h.1,h.2,hx⟩
  .cases hx
 .rintro⟨t,ht,h1,h2,hx⟩
  refine⟨t,by rw[lG];omega,?_⟩;unfold pY;rw[h1,h2];exact hx
theorem k9 {n v:Nat} {D:Nat->List In} {x:In}:x∈cd n D v↔∃ t,v<=t/\t<=n/\x∈D t:=by
 unfold cd;rw[List.mem_flatMap];constructor
 .rintro⟨t,ht,hx⟩
  rw[lG] at ht;exact⟨t,by omega,by omega,hx⟩
 .rintro⟨t,h1,h2,hx⟩
  exact⟨t,by rw[lG];omega,hx⟩
theorem Ds {n first:Nat} {D:Nat->Nat->List In} {x:In}:x∈um n first D↔∃ v w,v<=n/\first<=w/\w<=n/\x∈D v w:=by
 unfold um;rw[k9];constructor
 .rintro⟨v,_,h2,h⟩
  obtain⟨w,h3,h4,h5⟩:=k9.1 h;exact⟨v,w,h2,h3,h4,h5⟩
 .rintro⟨v,w,h1,h2,h3,h4⟩
  exact⟨v,ar _,h1,k9.2 ⟨w,h2,h3,h4⟩⟩
theorem qd {p:Pol} {o:Option Fa} {kind:Int} {D:Nat->Nat->List In} {x:In}:x∈jH p o kind D 0↔∃ a b:Nat,(⟨kind,a,b⟩:Ru)∈p.rules/\a<p.types.length/\b<p.types.length/\nU o [(a:Int),(b:Int)]=true/\x∈D a b:=by
 unfold jH;rw[ct,List.mem_flatMap];constructor
 .rintro⟨r,hr,hx⟩
  unfold qL at hx;split at hx
  .rename_i h
   simp only[AN,aW,bF] at h;obtain⟨⟨h1,h2,h3⟩,h4⟩:=h;have ha:((r.a.toNat:Nat):Int)=r.a:=gV (by omega);have hb:((r.b.toNat:Nat):Int)=r.b:=gV (by omega);refine⟨r.a.toNat,r.b.toNat,?_,by omega,by omega,by rw[ha,hb];exact h4,hx⟩;rw[ha,hb,<- h1];exact hr
  .cases hx
 .rintro⟨a,b,hr,ha,hb,h4,hx⟩
  refine⟨_,hr,?_⟩;unfold qL;have:AN p kind ⟨kind,a,b⟩=true:=by simp only[AN,aW,bF];exact⟨trivial,by omega,by omega⟩
  rw[this,h4];exact hx
theorem ac7 {o:Option Fa} {a b v w:Nat} {x:In}:x∈r10 o a b v w↔¬ (0<w/\v=0)/\vT o (i10 a b v w)=true/\x=i10 a b v w:=by
 unfold r10;split
 .rename_i h;simp[h]
 .rename_i h;simp only[h,not_false_eq_true,iM];exact mN
theorem ac8 {p:Pol} {o:Option Fa} {x:In}:x∈fR p o↔x∈t1 p o∨x∈t2 p o∨x∈t3 p o∨x∈t4 p o∨x∈t5 p o∨x∈t6 p o∨x∈t7 p o∨x∈t8 p o∨x∈t9 p o∨x∈t10 p o∨x∈t11 p o∨x∈t12 p o∨x∈t13 p o∨x∈t14 o∨x∈t15 p o:=by unfold fR N1;simp only[cF,List.flatten_nil,ba,aZ,cR]
theorem ma {p:Pol} {v t:Nat} (hv:v<=p.types.length) (ht:t<p.types.length):gj p (bD v t)=true:=by simp[gj,bD];omega
theorem Dt {p:Pol} {v w:Nat} (hv:v<=p.types.length) (hw:w<=p.types.length):gj p (iI v w)=true:=by simp[gj,iI];omega
theorem Du {p:Pol} {s:Nat} (h1:1<=s) (h2:s<=p.types.length):gj p (iJ s)=true:=by simp[gj,iJ];exact⟨dn (show(1:Int)<=(s:Int) by omega),h2⟩
theorem akN {p:Pol} {s:Nat} (h1:1<=s) (h2:s<=p.types.length):gj p (wK s)=true:=by simp[gj,wK];exact⟨dn (show(1:Int)<=(s:Int) by omega),h2⟩
structure vE (p:Pol) (k:Int) (x:In):Prop where
 rule:x.rule=k
 pre:x.pre.length<=2
 con:1<=x.con.length/\x.con.length<=2
 vp:∀ f∈x.pre,gj p f=true
 vc:∀ f∈x.con,gj p f=true
